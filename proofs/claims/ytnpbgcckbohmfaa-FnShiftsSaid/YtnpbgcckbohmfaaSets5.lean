/- Sets of days: NthDay on both sides; the laws of HasDay and NthDay. -/
import Derived.Test.YtnpbgcckbohmfaaSets4
namespace Go.Proofs.Ytnpbgcckbohmfaa
open Go.RowKit

/-- The k-th day of spans. -/
def nthL : List (Int × Int) → Int → Int
  | [], _ => 0
  | s :: xs, k => if k < s.2 - s.1 + 1 then s.1 + k else nthL xs (k - (s.2 - s.1 + 1))
theorem drop_gS {xs : List (Int × Int)} {i : Nat} (h : i < xs.length) : xs.drop i = gS xs i :: xs.drop (i + 1) := by
  rw [List.drop_eq_getElem_cons h]
  simp only [gS, List.getD_eq_getElem?_getD, List.getElem?_eq_getElem h, Option.getD_some]
theorem sumTo_up {xs : List (Int × Int)} (h : ∀ i, i < xs.length → okS (gS xs i) = true) {i : Nat} (hi : i < xs.length) : sumTo xs i + 1 ≤ sumTo xs (i + 1) := by
  have h1 := okS_iff.1 (h i hi)
  simp only [sumTo]; omega
theorem nth_drop {xs : List (Int × Int)} {k : Int} (h : ∀ i, i < xs.length → okS (gS xs i) = true) : ∀ i, i ≤ xs.length → sumTo xs i ≤ k → nthL xs k = nthL (xs.drop i) (k - sumTo xs i)
  | 0, _, _ => by simp [sumTo]
  | i + 1, hi, hk => by
    have h2 := sumTo_up h (i := i) (by omega)
    rw [nth_drop h i (by omega) (by omega), drop_gS (show i < xs.length by omega), nthL]
    simp only [sumTo] at hk h2 ⊢
    rw [if_neg (by omega)]
    congr 1; omega
theorem nth_at {xs : List (Int × Int)} {k : Int} (h : ∀ i, i < xs.length → okS (gS xs i) = true) {i : Nat} (hi : i < xs.length) (h1 : sumTo xs i ≤ k) (h2 : k - sumTo xs i < (gS xs i).2 - (gS xs i).1 + 1) : nthL xs k = (gS xs i).1 + (k - sumTo xs i) := by
  rw [nth_drop h i (by omega) h1, drop_gS hi, nthL, if_pos h2]
/-- What NthDay answers. -/
noncomputable def nthR (xs : List (Int × Int)) (k : Int) : Int × Int := if isSet xs = true then (if inR k 0 (sumTo xs xs.length - 1) = true then (nthL xs k, 0) else (0, 2)) else (0, 1)

set_option maxHeartbeats 1000000 in
theorem sNthDay_cells (b off cap : Nat) (xs : List (Int × Int)) (m : Int) (w : World) (hb : b < w.heap.size) (h : SpanAt w b off xs) (hl : xs.length ≤ 4000000) (hs : isSet xs = true) (hn : inR m 0 (sumTo xs xs.length - 1) = true) :
    Calls Try.prog 23 #[.slice (some ⟨b, off, none⟩) xs.length cap, .int .i64 m] w fun e w' => e = .returned (.tuple #[.int .i64 (nthL xs m), .int .i64 0]) ∧ Below w.heap.size w w' := by
  have rg := cell_rg; have l2 : ∀ n : Nat, n < n + 1 + 1 := (fun _ => by omega); have l3 : ∀ n : Nat, n < n + 1 + 1 + 1 := (fun _ => by omega); have l4 : ∀ n : Nat, n < n + 1 + 1 + 1 + 1 := (fun _ => by omega)
  have hB := Below.refl w.heap.size w
  have hok := isSet_ok hs
  obtain ⟨h300, hok⟩ := hok
  have hs' := Lib.hid hs
  have hn' := Lib.hid hn
  have hm1 := (inR_t hn).1
  have hm2 := (inR_t hn).2
  have hsb := sumTo_bd hok xs.length (Nat.le_refl _)
  obtain ⟨hsb1, hsb2⟩ := hsb
  have hRS : RS w (.slice (some ⟨b, off, none⟩) xs.length cap) xs := Or.inr ⟨b, off, cap, rfl, hb, h⟩
  generalize hS : sumTo xs xs.length = S at hn' hm2 hsb1 hsb2
  have hS' := Lib.hid hS
  clear hs hn hS
  go_enter Try.func23, Try.ntmps23
  go_wp2_with fail
  refine (sIsSet_any _ xs _ hRS hl).mono ?_
  rintro e w1 ⟨rfl, b1⟩
  rw [hs'.out]
  go_wp2_with fail
  refine (l02Count_any _ xs _ (hRS.below b1) hl hok).mono ?_
  rintro e w2 ⟨rfl, b2⟩
  rw [hS'.out]
  have B2 := below_tt b1 b2
  clear hRS
  have hpos : 0 < xs.length := by
    rcases Nat.eq_zero_or_pos xs.length with h0 | h0
    · have h1 := hS'.out
      rw [h0] at h1
      simp only [sumTo] at h1
      omega
    · exact h0
  go_wp2_with (go_at_call 55; refine (l01In_is hn'.out _).mono ?_; rintro e w' ⟨rfl, rfl⟩)
  go_loopw [1, 6] (fun s1 s6 wr => ∃ k : Nat, k ≤ xs.length ∧ s6 = .int .i64 k ∧ s1 = .int .i64 (m - sumTo xs k) ∧ sumTo xs k ≤ m ∧ Below w.heap.size w wr) (fun _ s6 _ => xs.length - (intOf s6).toNat)
  case atStart => exact ⟨0, by omega, rfl, by simp [sumTo], by simpa [sumTo] using hm1, B2⟩
  case round =>
    clear hB b1 b2 B2
    obtain ⟨k, hk, rfl, rfl, hle, hB⟩ := hrel
    have hlt : k < xs.length := by
      rcases Nat.lt_or_ge k xs.length with h0 | h0
      · exact h0
      · obtain rfl : k = xs.length := by omega
        rw [hS'.out] at hle
        omega
    have z1 := bsize hB b hb
    have z3 : b < wr.heap.size + 1 := by omega
    have hp := Below.refl wr.heap.size wr
    have e1 := h.of_cells fun o => hB.cell (p := ⟨b, o, none⟩) hb
    have e10 := (e1 k hlt).1
    have e11 := (e1 k hlt).2
    have hkk := okS_iff.1 (hok k hlt)
    have hbd := (sumTo_bd hok k hk).1
    have hs1 : Hid (sumTo xs (k + 1) = sumTo xs k + ((gS xs k).2 - (gS xs k).1 + 1)) := Lib.hid rfl
    have hat := fun hh => nth_at hok hlt hle (k := m) hh
    have hat' := Lib.hid hat
    clear hat
    generalize (gS xs k).1 = x at e10 hkk hs1 hat'
    generalize (gS xs k).2 = y at e11 hkk hs1 hat'
    generalize sumTo xs k = n at hbd hs1 hle hat' ⊢
    clear e1
    obtain ⟨hk1, hk2, hk3⟩ := hkk
    have hmm : m ≤ 219150000 := by omega
    by_cases hx : m - n < y - x + 1
    · have hx' : decide (y - x < m - n) = false := decide_eq_false (by omega)
      go_wp2
      (refine wp_region_quiet_below (by kernel_rfl) (by kernel_rfl) ?_; (repeat (go_big_quiet_step (fail))); refine wpQuiet_nil ?_; intro w9 hw9; have hb := below_of_regrown hw9; clear hw9; obtain ⟨hc, hf⟩ := bcell hb; have hz := bsize hb; (first | (have hB := below_tt hB hb) | (have hB := below_tt (below_al hB _) hb) | (have hB := below_tt (below_al (below_al hB _) _) hb) | (have hB := hb)); obtain ⟨hc0, hf0⟩ := bcell hB; have hz0 := bsize hB; (first | (have h2 := below_tt hp hb; obtain ⟨hc2, hf2⟩ := bcell h2; have hz2 := bsize h2) | (have h2 := below_tt (below_al hp _) hb; obtain ⟨hc2, hf2⟩ := bcell h2; have hz2 := bsize h2) | skip); have hp := hb)
      go_wp2
      go_ret2
      exact ⟨by rw [hat'.out hx]; rfl, by (repeat' (first | (with_reducible exact Below.refl _ _) | (with_reducible assumption) | (with_reducible refine below_al ?_ _) | (with_reducible refine Below.drew ?_) | (with_reducible refine Below.setCell ?_ (by first | exact Nat.le_refl _ | (dsimp only; omega) | (simp; omega)) _) | (with_reducible refine below_drewN ?_ _) | (with_reducible refine below_tt ?_ (by assumption))))⟩
    · have hx' : decide (y - x < m - n) = true := decide_eq_true (by omega)
      go_wp2
      (refine wp_region_quiet_below (by kernel_rfl) (by kernel_rfl) ?_; (repeat (go_big_quiet_step (fail))); refine wpQuiet_nil ?_; intro w9 hw9; have hb := below_of_regrown hw9; clear hw9; obtain ⟨hc, hf⟩ := bcell hb; have hz := bsize hb; (first | (have hB := below_tt hB hb) | (have hB := below_tt (below_al hB _) hb) | (have hB := below_tt (below_al (below_al hB _) _) hb) | (have hB := hb)); obtain ⟨hc0, hf0⟩ := bcell hB; have hz0 := bsize hB; (first | (have h2 := below_tt hp hb; obtain ⟨hc2, hf2⟩ := bcell h2; have hz2 := bsize h2) | (have h2 := below_tt (below_al hp _) hb; obtain ⟨hc2, hf2⟩ := bcell h2; have hz2 := bsize h2) | skip); have hp := hb)
      go_wp2
      (refine wp_region_quiet_below (by kernel_rfl) (by kernel_rfl) ?_; (repeat (go_big_quiet_step (fail))); refine wpQuiet_nil ?_; intro w9 hw9; have hb := below_of_regrown hw9; clear hw9; obtain ⟨hc, hf⟩ := bcell hb; have hz := bsize hb; (first | (have hB := below_tt hB hb) | (have hB := below_tt (below_al hB _) hb) | (have hB := below_tt (below_al (below_al hB _) _) hb) | (have hB := hb)); obtain ⟨hc0, hf0⟩ := bcell hB; have hz0 := bsize hB; (first | (have h2 := below_tt hp hb; obtain ⟨hc2, hf2⟩ := bcell h2; have hz2 := bsize h2) | (have h2 := below_tt (below_al hp _) hb; obtain ⟨hc2, hf2⟩ := bcell h2; have hz2 := bsize h2) | skip); have hp := hb)
      go_wp2
      go_roundw
      case rel => exact ⟨k + 1, by omega, by simp, by rw [hs1.out]; (try simp); try omega, by rw [hs1.out]; omega, by (repeat' (first | (with_reducible exact Below.refl _ _) | (with_reducible assumption) | (with_reducible refine below_al ?_ _) | (with_reducible refine Below.drew ?_) | (with_reducible refine Below.setCell ?_ (by first | exact Nat.le_refl _ | (dsimp only; omega) | (simp; omega)) _) | (with_reducible refine below_drewN ?_ _) | (with_reducible refine below_tt ?_ (by assumption))))⟩
      case measure => simp [intOf]; omega

set_option maxHeartbeats 1000000 in
theorem sNthDay_any (v : Value) (xs : List (Int × Int)) (m : Int) (w : World) (h : RS w v xs) (hl : xs.length ≤ 4000000) :
    Calls Try.prog 23 #[v, .int .i64 m] w fun e w' => e = .returned (.tuple #[.int .i64 (nthR xs m).1, .int .i64 (nthR xs m).2]) ∧ Below w.heap.size w w' := by
  cases hs : isSet xs
  · have hr : Hid (nthR xs m = (0, 1)) := Lib.hid (by simp [nthR, hs])
    have hs' := Lib.hid hs
    clear hs
    rw [hr.out]
    go_enter Try.func23, Try.ntmps23
    go_wp2_with fail
    refine (sIsSet_any v xs _ h hl).mono ?_
    rintro e w1 ⟨rfl, b1⟩
    rw [hs'.out]
    go_wp2
    go_ret2
    exact ⟨rfl, b1⟩
  · cases hn : inR m 0 (sumTo xs xs.length - 1)
    · have hr : Hid (nthR xs m = (0, 2)) := Lib.hid (by simp [nthR, hs, hn])
      have hok := isSet_ok hs
      obtain ⟨h300, hok⟩ := hok
      have hs' := Lib.hid hs
      have hn' := Lib.hid hn
      have hsb := sumTo_bd hok xs.length (Nat.le_refl _)
      obtain ⟨hsb1, hsb2⟩ := hsb
      generalize hS : sumTo xs xs.length = S at hn' hsb1 hsb2
      have hS' := Lib.hid hS
      clear hs hn hS
      rw [hr.out]
      go_enter Try.func23, Try.ntmps23
      go_wp2_with fail
      refine (sIsSet_any v xs _ h hl).mono ?_
      rintro e w1 ⟨rfl, b1⟩
      rw [hs'.out]
      go_wp2_with fail
      refine (l02Count_any v xs _ (h.below b1) hl hok).mono ?_
      rintro e w2 ⟨rfl, b2⟩
      rw [hS'.out]
      have B2 := below_tt b1 b2
      go_wp2_with (go_at_call 55; refine (l01In_is hn'.out _).mono ?_; rintro e w' ⟨rfl, rfl⟩)
      go_ret2
      exact ⟨rfl, B2⟩
    · have hr : nthR xs m = (nthL xs m, 0) := by simp [nthR, hs, hn]
      rw [hr]
      rcases h with ⟨rfl, a, cap, rfl⟩ | ⟨b, off, cap, rfl, hb, hs0⟩
      · have := inR_t hn
        simp only [List.length_nil, sumTo] at this
        omega
      · exact sNthDay_cells b off cap xs m w hb hs0 hl hs hn

set_option maxHeartbeats 1000000 in
theorem iNthDay_cells (b off cap : Nat) (xs : List (Int × Int)) (m : Int) (w : World) (hb : b < w.heap.size) (h : SpanAt w b off xs) (hl : xs.length ≤ 4000000) (hs : isSet xs = true) (hn : inR m 0 (sumTo xs xs.length - 1) = true) :
    Calls Try.prog 24 #[.slice (some ⟨b, off, none⟩) xs.length cap, .int .i64 m] w fun e w' => e = .returned (.tuple #[.int .i64 (nthL xs m), .int .i64 0]) ∧ Below w.heap.size w w' := by
  have rg := cell_rg; have l2 : ∀ n : Nat, n < n + 1 + 1 := (fun _ => by omega); have l3 : ∀ n : Nat, n < n + 1 + 1 + 1 := (fun _ => by omega); have l4 : ∀ n : Nat, n < n + 1 + 1 + 1 + 1 := (fun _ => by omega)
  have hB := Below.refl w.heap.size w
  have hok := isSet_ok hs
  obtain ⟨h300, hok⟩ := hok
  have hs' := Lib.hid hs
  have hn' := Lib.hid hn
  have hm1 := (inR_t hn).1
  have hm2 := (inR_t hn).2
  have hsb := sumTo_bd hok xs.length (Nat.le_refl _)
  obtain ⟨hsb1, hsb2⟩ := hsb
  have hRS : RS w (.slice (some ⟨b, off, none⟩) xs.length cap) xs := Or.inr ⟨b, off, cap, rfl, hb, h⟩
  generalize hS : sumTo xs xs.length = S at hn' hm2 hsb1 hsb2
  have hS' := Lib.hid hS
  clear hs hn hS
  go_enter Try.func24, Try.ntmps24
  go_wp2_with fail
  refine (iIsSet_any _ xs _ hRS hl).mono ?_
  rintro e w1 ⟨rfl, b1⟩
  rw [hs'.out]
  go_wp2_with fail
  refine (countDays_any _ xs _ (hRS.below b1) hl hok).mono ?_
  rintro e w2 ⟨rfl, b2⟩
  rw [hS'.out]
  have B2 := below_tt b1 b2
  clear hRS
  have hpos : 0 < xs.length := by
    rcases Nat.eq_zero_or_pos xs.length with h0 | h0
    · have h1 := hS'.out
      rw [h0] at h1
      simp only [sumTo] at h1
      omega
    · exact h0
  go_wp2_with (go_at_call 56; refine (within_is hn'.out _).mono ?_; rintro e w' ⟨rfl, rfl⟩)
  go_loopw [1, 22] (fun s1 s6 wr => ∃ k : Nat, k ≤ xs.length ∧ s6 = .int .i64 k ∧ s1 = .int .i64 (m - sumTo xs k) ∧ sumTo xs k ≤ m ∧ Below w.heap.size w wr) (fun _ s6 _ => xs.length - (intOf s6).toNat)
  case atStart => exact ⟨0, by omega, rfl, by simp [sumTo], by simpa [sumTo] using hm1, B2⟩
  case round =>
    clear hB b1 b2 B2
    obtain ⟨k, hk, rfl, rfl, hle, hB⟩ := hrel
    have hlt : k < xs.length := by
      rcases Nat.lt_or_ge k xs.length with h0 | h0
      · exact h0
      · obtain rfl : k = xs.length := by omega
        rw [hS'.out] at hle
        omega
    have z1 := bsize hB b hb
    have z3 : b < wr.heap.size + 1 := by omega
    have hp := Below.refl wr.heap.size wr
    have e1 := h.of_cells fun o => hB.cell (p := ⟨b, o, none⟩) hb
    have e10 := (e1 k hlt).1
    have e11 := (e1 k hlt).2
    have hkk := okS_iff.1 (hok k hlt)
    have hbd := (sumTo_bd hok k hk).1
    have hs1 : Hid (sumTo xs (k + 1) = sumTo xs k + ((gS xs k).2 - (gS xs k).1 + 1)) := Lib.hid rfl
    have hat := fun hh => nth_at hok hlt hle (k := m) hh
    have hat' := Lib.hid hat
    clear hat
    generalize (gS xs k).1 = x at e10 hkk hs1 hat'
    generalize (gS xs k).2 = y at e11 hkk hs1 hat'
    generalize sumTo xs k = n at hbd hs1 hle hat' ⊢
    clear e1
    obtain ⟨hk1, hk2, hk3⟩ := hkk
    have hmm : m ≤ 219150000 := by omega
    by_cases hx : m - n < y - x + 1
    · go_wp2
      go_ret2
      exact ⟨by rw [hat'.out hx]; rfl, by (repeat' (first | (with_reducible exact Below.refl _ _) | (with_reducible assumption) | (with_reducible refine below_al ?_ _) | (with_reducible refine Below.drew ?_) | (with_reducible refine Below.setCell ?_ (by first | exact Nat.le_refl _ | (dsimp only; omega) | (simp; omega)) _) | (with_reducible refine below_drewN ?_ _) | (with_reducible refine below_tt ?_ (by assumption))))⟩
    · go_wp2
      go_roundw
      case rel => exact ⟨k + 1, by omega, by simp, by rw [hs1.out]; (try simp); try omega, by rw [hs1.out]; omega, by (repeat' (first | (with_reducible exact Below.refl _ _) | (with_reducible assumption) | (with_reducible refine below_al ?_ _) | (with_reducible refine Below.drew ?_) | (with_reducible refine Below.setCell ?_ (by first | exact Nat.le_refl _ | (dsimp only; omega) | (simp; omega)) _) | (with_reducible refine below_drewN ?_ _) | (with_reducible refine below_tt ?_ (by assumption))))⟩
      case measure => simp [intOf]; omega

set_option maxHeartbeats 1000000 in
theorem iNthDay_any (v : Value) (xs : List (Int × Int)) (m : Int) (w : World) (h : RS w v xs) (hl : xs.length ≤ 4000000) :
    Calls Try.prog 24 #[v, .int .i64 m] w fun e w' => e = .returned (.tuple #[.int .i64 (nthR xs m).1, .int .i64 (nthR xs m).2]) ∧ Below w.heap.size w w' := by
  cases hs : isSet xs
  · have hr : Hid (nthR xs m = (0, 1)) := Lib.hid (by simp [nthR, hs])
    have hs' := Lib.hid hs
    clear hs
    rw [hr.out]
    go_enter Try.func24, Try.ntmps24
    go_wp2_with fail
    refine (iIsSet_any v xs _ h hl).mono ?_
    rintro e w1 ⟨rfl, b1⟩
    rw [hs'.out]
    go_wp2
    go_ret2
    exact ⟨rfl, b1⟩
  · cases hn : inR m 0 (sumTo xs xs.length - 1)
    · have hr : Hid (nthR xs m = (0, 2)) := Lib.hid (by simp [nthR, hs, hn])
      have hok := isSet_ok hs
      obtain ⟨h300, hok⟩ := hok
      have hs' := Lib.hid hs
      have hn' := Lib.hid hn
      have hsb := sumTo_bd hok xs.length (Nat.le_refl _)
      obtain ⟨hsb1, hsb2⟩ := hsb
      generalize hS : sumTo xs xs.length = S at hn' hsb1 hsb2
      have hS' := Lib.hid hS
      clear hs hn hS
      rw [hr.out]
      go_enter Try.func24, Try.ntmps24
      go_wp2_with fail
      refine (iIsSet_any v xs _ h hl).mono ?_
      rintro e w1 ⟨rfl, b1⟩
      rw [hs'.out]
      go_wp2_with fail
      refine (countDays_any v xs _ (h.below b1) hl hok).mono ?_
      rintro e w2 ⟨rfl, b2⟩
      rw [hS'.out]
      have B2 := below_tt b1 b2
      go_wp2_with (go_at_call 56; refine (within_is hn'.out _).mono ?_; rintro e w' ⟨rfl, rfl⟩)
      go_ret2
      exact ⟨rfl, B2⟩
    · have hr : nthR xs m = (nthL xs m, 0) := by simp [nthR, hs, hn]
      rw [hr]
      rcases h with ⟨rfl, a, cap, rfl⟩ | ⟨b, off, cap, rfl, hb, hs0⟩
      · have := inR_t hn
        simp only [List.length_nil, sumTo] at this
        omega
      · exact iNthDay_cells b off cap xs m w hb hs0 hl hs hn

set_option maxHeartbeats 1000000 in
theorem walk_FnExactHasDay (v : Value) (xs : List (Int × Int)) (n : Int) {w : World} (hR : RS w v xs ∧ (xs.length : Int) ≤ 9223372036854775807) (_ : I64 n) : Calls Try.prog 5 #[v, .int .i64 n] w (Yes w) := by
  have hB := Below.refl w.heap.size w
  obtain ⟨hR, hlen⟩ := hR
  obtain ⟨a, cap, hv⟩ := hR.val
  by_cases hbig : (xs.length : Int) > 1048576
  · subst hv
    go_enter Try.func5, Try.ntmps5
    go_wp2
    go_ret
    exact ⟨rfl, hB⟩
  · have hl2 : xs.length ≤ 2000000 := by omega
    have hl4 : xs.length ≤ 4000000000000 := by omega
    go_enter Try.func5, Try.ntmps5
    subst hv
    go_wp2_with (go_at_call 14; refine (szSpanS_any _ _ _ _ _ (by omega) (by omega) (by omega)).mono ?_; rintro e w' ⟨rfl, rfl⟩)
    refine (toSpanS_any _ xs _ hR hl2).mono ?_
    rintro e w1 ⟨rfl, o1, b1⟩
    go_wp2_with fail
    refine (sHasDay_any _ xs _ _ o1.rs (by omega)).mono ?_
    rintro e w2 ⟨rfl, b2⟩
    have B2 := below_tt b1 b2
    go_wp2_with fail
    refine (toSpanS_any _ xs _ (hR.below B2) hl2).mono ?_
    rintro e w3 ⟨rfl, o3, b3⟩
    have B3 := below_tt B2 b3
    go_wp2_with fail
    refine (iHasDay_any _ xs _ _ o3.rs (by omega)).mono ?_
    rintro e w4 ⟨rfl, b4⟩
    have B4 := below_tt B3 b4
    have o4 := o3.below b4
    go_wp2_with fail
    refine (toSpanS_any _ xs _ (hR.below B4) hl2).mono ?_
    rintro e w5 ⟨rfl, o5, b5⟩
    have B5 := below_tt B4 b5
    have o45 := o4.below b5
    go_wp2_with fail
    refine (eqSpanS_any _ _ xs xs _ o45.rs o5.rs hl4 hl4).mono ?_
    rintro e w6 ⟨rfl, b6⟩
    have B6 := below_tt B5 b6
    go_wp2
    go_ret
    exact ⟨rfl, B6⟩

set_option maxHeartbeats 1000000 in
theorem walk_FnExactNthDay (v : Value) (xs : List (Int × Int)) (n : Int) {w : World} (hR : RS w v xs ∧ (xs.length : Int) ≤ 9223372036854775807) (_ : I64 n) : Calls Try.prog 6 #[v, .int .i64 n] w (Yes w) := by
  have hB := Below.refl w.heap.size w
  obtain ⟨hR, hlen⟩ := hR
  obtain ⟨a, cap, hv⟩ := hR.val
  by_cases hbig : (xs.length : Int) > 1048576
  · subst hv
    go_enter Try.func6, Try.ntmps6
    go_wp2
    go_ret
    exact ⟨rfl, hB⟩
  · have hl2 : xs.length ≤ 2000000 := by omega
    have hl4 : xs.length ≤ 4000000000000 := by omega
    go_enter Try.func6, Try.ntmps6
    subst hv
    go_wp2_with (go_at_call 14; refine (szSpanS_any _ _ _ _ _ (by omega) (by omega) (by omega)).mono ?_; rintro e w' ⟨rfl, rfl⟩)
    refine (toSpanS_any _ xs _ hR hl2).mono ?_
    rintro e w1 ⟨rfl, o1, b1⟩
    go_wp2_with fail
    refine (sNthDay_any _ xs _ _ o1.rs (by omega)).mono ?_
    rintro e w2 ⟨rfl, b2⟩
    have B2 := below_tt b1 b2
    go_wp2_with fail
    refine (toSpanS_any _ xs _ (hR.below B2) hl2).mono ?_
    rintro e w3 ⟨rfl, o3, b3⟩
    have B3 := below_tt B2 b3
    go_wp2_with fail
    refine (iNthDay_any _ xs _ _ o3.rs (by omega)).mono ?_
    rintro e w4 ⟨rfl, b4⟩
    have B4 := below_tt B3 b4
    have o4 := o3.below b4
    go_wp2_with fail
    refine (toSpanS_any _ xs _ (hR.below B4) hl2).mono ?_
    rintro e w5 ⟨rfl, o5, b5⟩
    have B5 := below_tt B4 b5
    have o45 := o4.below b5
    go_wp2_with fail
    refine (eqSpanS_any _ _ xs xs _ o45.rs o5.rs hl4 hl4).mono ?_
    rintro e w6 ⟨rfl, b6⟩
    have B6 := below_tt B5 b6
    go_wp2
    go_ret
    exact ⟨rfl, B6⟩
end Go.Proofs.Ytnpbgcckbohmfaa
