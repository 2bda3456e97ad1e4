/- Sets of days: countDays on both sides, CountDays. -/
import Derived.Test.YtnpbgcckbohmfaaSets2
namespace Go.Proofs.Ytnpbgcckbohmfaa
open Go.RowKit

/-- The days of the first k spans. -/
def sumTo (xs : List (Int × Int)) : Nat → Int
  | 0 => 0
  | k + 1 => sumTo xs k + ((gS xs k).2 - (gS xs k).1 + 1)
theorem okS_iff {s : Int × Int} : okS s = true ↔ (0 ≤ s.1 ∧ s.1 ≤ s.2 ∧ s.2 ≤ 730499) := by
  simp [okS, inR]; omega
theorem sumTo_bd {xs : List (Int × Int)} (h : ∀ i, i < xs.length → okS (gS xs i) = true) (k : Nat) (hk : k ≤ xs.length) : 0 ≤ sumTo xs k ∧ sumTo xs k ≤ k * 730500 := by
  induction k with
  | zero => simp [sumTo]
  | succ k ih =>
    have h1 := okS_iff.1 (h k (by omega))
    have h2 := ih (by omega)
    simp only [sumTo]
    push_cast
    omega

set_option maxHeartbeats 1000000 in
theorem l02Count_cells (b off cap : Nat) (xs : List (Int × Int)) (w : World) (hb : b < w.heap.size) (h : SpanAt w b off xs) (hl : xs.length ≤ 4000000) (hok : ∀ i, i < xs.length → okS (gS xs i) = true) :
    Calls Try.prog 50 #[.slice (some ⟨b, off, none⟩) xs.length cap] w fun e w' => e = .returned (.int .i64 (sumTo xs xs.length)) ∧ Below w.heap.size w w' := by
  have rg := cell_rg; have l2 : ∀ n : Nat, n < n + 1 + 1 := (fun _ => by omega); have l3 : ∀ n : Nat, n < n + 1 + 1 + 1 := (fun _ => by omega); have l4 : ∀ n : Nat, n < n + 1 + 1 + 1 + 1 := (fun _ => by omega)
  have hB := Below.refl w.heap.size w
  go_enter Try.func50, Try.ntmps50
  go_wp2
  go_loopw [3, 4] (fun s3 s4 wr => ∃ k : Nat, k ≤ xs.length ∧ s4 = .int .i64 k ∧ s3 = .int .i64 (sumTo xs k) ∧ Below w.heap.size w wr) (fun s3 s4 _ => xs.length - (intOf s4).toNat)
  case atStart => exact ⟨0, by omega, rfl, rfl, hB⟩
  case round =>
    clear hB
    obtain ⟨k, hk, rfl, rfl, hB⟩ := hrel
    have z1 := bsize hB b hb
    have z3 : b < wr.heap.size + 1 := by omega
    have hp := Below.refl wr.heap.size wr
    by_cases hlt : k < xs.length
    · have e1 := h.of_cells fun o => hB.cell (p := ⟨b, o, none⟩) hb
      have e10 := (e1 k hlt).1
      have e11 := (e1 k hlt).2
      have hbd := sumTo_bd hok k hk
      have hkk := okS_iff.1 (hok k hlt)
      have hs : Hid (sumTo xs (k + 1) = sumTo xs k + ((gS xs k).2 - (gS xs k).1 + 1)) := Lib.hid rfl
      generalize (gS xs k).1 = x at e10 hkk hs
      generalize (gS xs k).2 = y at e11 hkk hs
      generalize sumTo xs k = n at hbd hs
      clear e1
      obtain ⟨hbd1, hbd2⟩ := hbd
      obtain ⟨hk1, hk2, hk3⟩ := hkk
      go_wp2
      (refine wp_region_quiet_below (by kernel_rfl) (by kernel_rfl) ?_; (repeat (go_big_quiet_step (fail))); refine wpQuiet_nil ?_; intro w9 hw9; have hb := below_of_regrown hw9; clear hw9; obtain ⟨hc, hf⟩ := bcell hb; have hz := bsize hb; (first | (have hB := below_tt hB hb) | (have hB := below_tt (below_al hB _) hb) | (have hB := below_tt (below_al (below_al hB _) _) hb) | (have hB := hb)); obtain ⟨hc0, hf0⟩ := bcell hB; have hz0 := bsize hB; (first | (have h2 := below_tt hp hb; obtain ⟨hc2, hf2⟩ := bcell h2; have hz2 := bsize h2) | (have h2 := below_tt (below_al hp _) hb; obtain ⟨hc2, hf2⟩ := bcell h2; have hz2 := bsize h2) | skip); have hp := hb)
      go_wp2
      go_roundw
      case rel => exact ⟨k + 1, by omega, by simp, by rw [hs.out]; (try simp); try omega, by (repeat' (first | (with_reducible exact Below.refl _ _) | (with_reducible assumption) | (with_reducible refine below_al ?_ _) | (with_reducible refine Below.drew ?_) | (with_reducible refine Below.setCell ?_ (by first | exact Nat.le_refl _ | (dsimp only; omega) | (simp; omega)) _) | (with_reducible refine below_drewN ?_ _) | (with_reducible refine below_tt ?_ (by assumption))))⟩
      case measure => simp [intOf]; omega
    · obtain rfl : k = xs.length := by omega
      go_wp2
      go_ret
      exact ⟨rfl, hB⟩
set_option maxHeartbeats 1000000 in
theorem countDays_cells (b off cap : Nat) (xs : List (Int × Int)) (w : World) (hb : b < w.heap.size) (h : SpanAt w b off xs) (hl : xs.length ≤ 4000000) (hok : ∀ i, i < xs.length → okS (gS xs i) = true) :
    Calls Try.prog 51 #[.slice (some ⟨b, off, none⟩) xs.length cap] w fun e w' => e = .returned (.int .i64 (sumTo xs xs.length)) ∧ Below w.heap.size w w' := by
  have rg := cell_rg; have l2 : ∀ n : Nat, n < n + 1 + 1 := (fun _ => by omega); have l3 : ∀ n : Nat, n < n + 1 + 1 + 1 := (fun _ => by omega); have l4 : ∀ n : Nat, n < n + 1 + 1 + 1 + 1 := (fun _ => by omega)
  have hB := Below.refl w.heap.size w
  go_enter Try.func51, Try.ntmps51
  go_wp2
  go_loopw [3, 8] (fun s3 s8 wr => ∃ k : Nat, k ≤ xs.length ∧ s8 = .int .i64 k ∧ s3 = .int .i64 (sumTo xs k) ∧ Below w.heap.size w wr) (fun s3 s8 _ => xs.length - (intOf s8).toNat)
  case atStart => exact ⟨0, by omega, rfl, rfl, hB⟩
  case round =>
    clear hB
    obtain ⟨k, hk, rfl, rfl, hB⟩ := hrel
    have z1 := bsize hB b hb
    have z3 : b < wr.heap.size + 1 := by omega
    have hp := Below.refl wr.heap.size wr
    by_cases hlt : k < xs.length
    · have e1 := h.of_cells fun o => hB.cell (p := ⟨b, o, none⟩) hb
      have e10 := (e1 k hlt).1
      have e11 := (e1 k hlt).2
      have hbd := sumTo_bd hok k hk
      have hkk := okS_iff.1 (hok k hlt)
      have hs : Hid (sumTo xs (k + 1) = sumTo xs k + ((gS xs k).2 - (gS xs k).1 + 1)) := Lib.hid rfl
      generalize (gS xs k).1 = x at e10 hkk hs
      generalize (gS xs k).2 = y at e11 hkk hs
      generalize sumTo xs k = n at hbd hs
      clear e1
      obtain ⟨hbd1, hbd2⟩ := hbd
      obtain ⟨hk1, hk2, hk3⟩ := hkk
      go_wp2
      go_roundw
      case rel => exact ⟨k + 1, by omega, by simp, by rw [hs.out]; (try simp); try omega, by (repeat' (first | (with_reducible exact Below.refl _ _) | (with_reducible assumption) | (with_reducible refine below_al ?_ _) | (with_reducible refine Below.drew ?_) | (with_reducible refine Below.setCell ?_ (by first | exact Nat.le_refl _ | (dsimp only; omega) | (simp; omega)) _) | (with_reducible refine below_drewN ?_ _) | (with_reducible refine below_tt ?_ (by assumption))))⟩
      case measure => simp [intOf]; omega
    · obtain rfl : k = xs.length := by omega
      go_wp2
      go_ret
      exact ⟨rfl, hB⟩
theorem l02Count_nil (a : Option Addr) (cap : Nat) (w : World) :
    Calls Try.prog 50 #[.slice a 0 cap] w fun e w' => e = .returned (.int .i64 0) ∧ w = w' := by
  go_enter Try.func50, Try.ntmps50
  go_wp2
  go_loopw [3, 4] (fun s3 s4 wr => s4 = .int .i64 0 ∧ s3 = .int .i64 0 ∧ wr = w) (fun _ _ _ => 0)
  case atStart => exact ⟨rfl, rfl, rfl⟩
  case round =>
    obtain ⟨rfl, rfl, rfl⟩ := hrel
    go_wp2
    go_ret
    exact ⟨rfl, rfl⟩
theorem l02Count_any (v : Value) (xs : List (Int × Int)) (w : World) (h : RS w v xs) (hl : xs.length ≤ 4000000) (hok : ∀ i, i < xs.length → okS (gS xs i) = true) :
    Calls Try.prog 50 #[v] w fun e w' => e = .returned (.int .i64 (sumTo xs xs.length)) ∧ Below w.heap.size w w' := by
  rcases h with ⟨rfl, a, cap, rfl⟩ | ⟨b, off, cap, rfl, hb, hs⟩
  · exact (l02Count_nil a cap w).mono fun _ _ h => ⟨h.1, by rw [← h.2]; exact Below.refl _ _⟩
  · exact l02Count_cells b off cap xs w hb hs hl hok
theorem countDays_nil (a : Option Addr) (cap : Nat) (w : World) :
    Calls Try.prog 51 #[.slice a 0 cap] w fun e w' => e = .returned (.int .i64 0) ∧ w = w' := by
  go_enter Try.func51, Try.ntmps51
  go_wp2
  go_loopw [3, 8] (fun s3 s8 wr => s8 = .int .i64 0 ∧ s3 = .int .i64 0 ∧ wr = w) (fun _ _ _ => 0)
  case atStart => exact ⟨rfl, rfl, rfl⟩
  case round =>
    obtain ⟨rfl, rfl, rfl⟩ := hrel
    go_wp2
    go_ret
    exact ⟨rfl, rfl⟩
theorem countDays_any (v : Value) (xs : List (Int × Int)) (w : World) (h : RS w v xs) (hl : xs.length ≤ 4000000) (hok : ∀ i, i < xs.length → okS (gS xs i) = true) :
    Calls Try.prog 51 #[v] w fun e w' => e = .returned (.int .i64 (sumTo xs xs.length)) ∧ Below w.heap.size w w' := by
  rcases h with ⟨rfl, a, cap, rfl⟩ | ⟨b, off, cap, rfl, hb, hs⟩
  · exact (countDays_nil a cap w).mono fun _ _ h => ⟨h.1, by rw [← h.2]; exact Below.refl _ _⟩
  · exact countDays_cells b off cap xs w hb hs hl hok

theorem isSet_ok {xs : List (Int × Int)} (h : isSet xs = true) : xs.length ≤ 300 ∧ ∀ i, i < xs.length → okS (gS xs i) = true :=
  ⟨(isSet_iff.1 h).2, fun i hi => ((isSet_iff.1 h).1 i hi).1⟩
/-- What CountDays answers. -/
noncomputable def countR (xs : List (Int × Int)) : Int × Int := if isSet xs = true then (sumTo xs xs.length, 0) else (0, 1)
set_option maxHeartbeats 1000000 in
theorem sCountDays_any (v : Value) (xs : List (Int × Int)) (w : World) (h : RS w v xs) (hl : xs.length ≤ 4000000) :
    Calls Try.prog 19 #[v] w fun e w' => e = .returned (.tuple #[.int .i64 (countR xs).1, .int .i64 (countR xs).2]) ∧ Below w.heap.size w w' := by
  have hB := Below.refl w.heap.size w
  cases hs : isSet xs
  · have hr : Hid (countR xs = (0, 1)) := Lib.hid (by simp [countR, hs])
    have hs' := Lib.hid hs
    clear hs
    rw [hr.out]
    go_enter Try.func19, Try.ntmps19
    go_wp2_with fail
    refine (sIsSet_any v xs _ h hl).mono ?_
    rintro e w1 ⟨rfl, b1⟩
    rw [hs'.out]
    go_wp2
    go_ret2
    exact ⟨rfl, b1⟩
  · have hr : Hid (countR xs = (sumTo xs xs.length, 0)) := Lib.hid (by simp [countR, hs])
    have hk := isSet_ok hs
    have hs' := Lib.hid hs
    clear hs
    rw [hr.out]
    go_enter Try.func19, Try.ntmps19
    go_wp2_with fail
    refine (sIsSet_any v xs _ h hl).mono ?_
    rintro e w1 ⟨rfl, b1⟩
    rw [hs'.out]
    go_wp2_with fail
    refine (l02Count_any v xs _ (h.below b1) hl hk.2).mono ?_
    rintro e w2 ⟨rfl, b2⟩
    go_wp2
    go_ret2
    exact ⟨rfl, below_tt b1 b2⟩
set_option maxHeartbeats 1000000 in
theorem iCountDays_any (v : Value) (xs : List (Int × Int)) (w : World) (h : RS w v xs) (hl : xs.length ≤ 4000000) :
    Calls Try.prog 20 #[v] w fun e w' => e = .returned (.tuple #[.int .i64 (countR xs).1, .int .i64 (countR xs).2]) ∧ Below w.heap.size w w' := by
  have hB := Below.refl w.heap.size w
  cases hs : isSet xs
  · have hr : Hid (countR xs = (0, 1)) := Lib.hid (by simp [countR, hs])
    have hs' := Lib.hid hs
    clear hs
    rw [hr.out]
    go_enter Try.func20, Try.ntmps20
    go_wp2_with fail
    refine (iIsSet_any v xs _ h hl).mono ?_
    rintro e w1 ⟨rfl, b1⟩
    rw [hs'.out]
    go_wp2
    go_ret2
    exact ⟨rfl, b1⟩
  · have hr : Hid (countR xs = (sumTo xs xs.length, 0)) := Lib.hid (by simp [countR, hs])
    have hk := isSet_ok hs
    have hs' := Lib.hid hs
    clear hs
    rw [hr.out]
    go_enter Try.func20, Try.ntmps20
    go_wp2_with fail
    refine (iIsSet_any v xs _ h hl).mono ?_
    rintro e w1 ⟨rfl, b1⟩
    rw [hs'.out]
    go_wp2_with fail
    refine (countDays_any v xs _ (h.below b1) hl hk.2).mono ?_
    rintro e w2 ⟨rfl, b2⟩
    go_wp2
    go_ret2
    exact ⟨rfl, below_tt b1 b2⟩
set_option maxHeartbeats 1000000 in
theorem walk_FnExactCountDays (v : Value) (xs : List (Int × Int)) {w : World} (hR : RS w v xs ∧ (xs.length : Int) ≤ 9223372036854775807) : Calls Try.prog 4 #[v] w (Yes w) := by
  have hB := Below.refl w.heap.size w
  obtain ⟨hR, hlen⟩ := hR
  obtain ⟨a, cap, hv⟩ := hR.val
  by_cases hbig : (xs.length : Int) > 1048576
  · subst hv
    go_enter Try.func4, Try.ntmps4
    go_wp2
    go_ret
    exact ⟨rfl, hB⟩
  · have hl2 : xs.length ≤ 2000000 := by omega
    have hl4 : xs.length ≤ 4000000000000 := by omega
    go_enter Try.func4, Try.ntmps4
    subst hv
    go_wp2_with (go_at_call 14; refine (szSpanS_any _ _ _ _ _ (by omega) (by omega) (by omega)).mono ?_; rintro e w' ⟨rfl, rfl⟩)
    refine (toSpanS_any _ xs _ hR hl2).mono ?_
    rintro e w1 ⟨rfl, o1, b1⟩
    go_wp2_with fail
    refine (sCountDays_any _ xs _ o1.rs (by omega)).mono ?_
    rintro e w2 ⟨rfl, b2⟩
    have B2 := below_tt b1 b2
    go_wp2_with fail
    refine (toSpanS_any _ xs _ (hR.below B2) hl2).mono ?_
    rintro e w3 ⟨rfl, o3, b3⟩
    have B3 := below_tt B2 b3
    go_wp2_with fail
    refine (iCountDays_any _ xs _ o3.rs (by omega)).mono ?_
    rintro e w4 ⟨rfl, b4⟩
    have B4 := below_tt B3 b4
    have o4 := o3.below b4
    go_wp2_with fail
    refine (toSpanS_any _ xs _ (hR.below B4) hl2).mono ?_
    rintro e w5 ⟨rfl, o5, b5⟩
    have B5 := below_tt B4 b5
    have o45 := o4.below b5
    go_wp2_with fail
    refine (eqSpanS_any _ _ xs xs _ o45.rs o5.rs hl4 hl4).mono ?_
    rintro e w6 ⟨rfl, b6⟩
    have B6 := below_tt B5 b6
    go_wp2
    go_ret
    exact ⟨rfl, B6⟩
end Go.Proofs.Ytnpbgcckbohmfaa
