/- The reference's join and the text of a set. -/
import Derived.Test.YtpinngcdojbndaaGreatDoorText1
namespace Go.Proofs.YtpinngcdojbndaaGreatDoor
open Go.RowKit

theorem take_lens (zs : List ByteArray) (k : Nat) : lensB (zs.take k) ≤ lensB zs := by
  unfold lensB
  induction zs generalizing k with
  | nil => simp
  | cons z r ih =>
    cases k with
    | zero => simp
    | succ k => have := ih k; simp only [List.take_succ_cons, List.map_cons, List.sum_cons]; omega
theorem lens_get (zs : List ByteArray) (k : Nat) (h : k < zs.length) : (gT zs k).size ≤ lensB zs := by
  unfold lensB
  induction zs generalizing k with
  | nil => simp at h
  | cons z r ih =>
    cases k with
    | zero => simp [gT]
    | succ k =>
      have := ih k (by simpa using h)
      simp only [List.map_cons, List.sum_cons]
      have e : gT (z :: r) (k + 1) = gT r k := by simp [gT]
      rw [e]; omega

set_option maxRecDepth 10000 in
set_option maxHeartbeats 4000000 in
theorem l01Join_any (v : Value) (zs : List ByteArray) (w : World) (h : RT w v zs) (hl : zs.length ≤ 4000000) (hsum : lensB zs ≤ 1000000000) :
    Calls Tryz.prog 43 #[v, .string ⟨#[44]⟩] w fun e w' => e = .returned (.string (joinB zs 44)) ∧ w = w' := by
  obtain ⟨a, cap, hv⟩ := h.val
  subst hv
  go_enter Tryz.func43, Tryz.ntmps43
  go_wp2_with fail
  go_loopw [5, 6] (fun s5 s6 wr => ∃ k : Nat, k ≤ zs.length ∧ s6 = .int .i64 k ∧ s5 = .string (joinB (zs.take k) 44) ∧ w = wr) (fun _ s6 _ => zs.length - (intOf s6).toNat)
  case atStart => exact ⟨0, by omega, rfl, rfl, rfl⟩
  case round =>
    obtain ⟨k, hk, rfl, rfl, rfl⟩ := hrel
    by_cases hlt : k < zs.length
    · rcases h with ⟨h0, _⟩ | ⟨b, off, cap', hv, hb, hs⟩
      · rw [h0] at hlt; exact absurd hlt (by simp)
      injection hv with e1 e2 e3
      subst e1
      have hc := hs k hlt
      clear hs
      have hstep := joinB_step zs k hlt
      have hz1 := joinB_size (zs.take k)
      have hz2 := take_lens zs k
      have hz3 := lens_get zs k hlt
      have hz4 : (zs.take k).length ≤ zs.length := by rw [List.length_take]; omega
      generalize gT zs k = x at hc hstep hz3
      have hz5 : (joinB (zs.take k) 44).size ≤ 2000000000 := by omega
      clear hz1 hz2 hz4
      by_cases h0 : k = 0
      · subst h0
        rw [Nat.add_zero] at hc
        have hJ : joinB (zs.take 0) 44 = ByteArray.empty := rfl
        rw [hJ] at hz5 ⊢
        rw [if_pos rfl, show ByteArray.empty ++ x = x by simp] at hstep
        have hstep := Lib.hid hstep
        have hz6 : ¬ (9223372036854775807 < ByteArray.empty.size + x.size) := by have : ByteArray.empty.size = 0 := rfl; omega
        go_wp2_with fail
        go_roundw
        case rel => exact ⟨1, by omega, by simp, by rw [hstep.out], by trivial⟩
        case measure => simp [intOf]; omega
      · rw [if_neg h0] at hstep
        have hstep := Lib.hid hstep
        generalize joinB (zs.take k) 44 = J at hz5 hstep ⊢
        have hz6 : ¬ (9223372036854775807 < J.size + 1) := by omega
        have hz7 : ¬ (9223372036854775807 < J.size + 1 + x.size) := by omega
        have d0 : decide (0 < (k : Int)) = true := decide_eq_true (by omega)
        go_wp2_with fail
        go_roundw
        case rel => exact ⟨k + 1, by omega, by simp, by rw [hstep.out], by trivial⟩
        case measure => simp [intOf]; omega
    · obtain rfl : k = zs.length := by omega
      rw [List.take_length]
      go_wp2_with fail
      go_ret
      exact ⟨rfl, rfl⟩

/-- A span's text as a string. -/
def partB (x : Int × Int) : ByteArray := bs (partL x)
theorem dec_len {n : Int} (h0 : 0 ≤ n) (h1 : n ≤ 730499) : (bs (Lib.decDigits n.toNat)).size ≤ 6 := by
  rw [bs_size, Lib.decDigits_length]; exact nDigits_small _ (by omega)
theorem partB_lo {x : Int × Int} (h : ¬ x.1 < x.2) : partB x = bs (Lib.decDigits x.1.toNat) := by unfold partB partL; rw [if_neg h]
theorem partB_hi {x : Int × Int} (h : x.1 < x.2) : partB x = bs (Lib.decDigits x.1.toNat) ++ ⟨#[46, 46]⟩ ++ bs (Lib.decDigits x.2.toNat) := by
  unfold partB partL; rw [if_pos h, show (⟨#[46, 46]⟩ : ByteArray) = bs [46, 46] from rfl, bs_app, bs_app, List.append_assoc]
theorem partB_size {x : Int × Int} (h : okT x) : (partB x).size ≤ 14 := by
  obtain ⟨h1, h2, h3⟩ := h
  have a := dec_len h1 (by omega)
  have b := dec_len (n := x.2) (by omega) h3
  by_cases q : x.1 < x.2
  · rw [partB_hi q, ByteArray.size_append', ByteArray.size_append']
    have : (⟨#[46, 46]⟩ : ByteArray).size = 2 := rfl
    omega
  · rw [partB_lo q]; omega
theorem words_lens (xs : List (Int × Int)) (h : ∀ x ∈ xs, okT x) : lensB (xs.map partB) ≤ 14 * xs.length := by
  unfold lensB
  induction xs with
  | nil => simp
  | cons x r ih =>
    have := ih (fun y hy => h y (by simp [hy]))
    have := partB_size (h x (by simp))
    simp only [List.map_cons, List.sum_cons, List.length_cons] at *
    omega
theorem text_join {xs : List (Int × Int)} (h : xs ≠ []) : bs (textL xs) = joinB (xs.map partB) 44 := by
  unfold textL joinB
  rw [if_neg h, List.map_map]
  congr 2
theorem words_snoc {xs : List (Int × Int)} {k : Nat} (h : k < xs.length) : (xs.take k).map partB ++ [partB (gS xs k)] = (xs.take (k + 1)).map partB := by
  rw [List.take_add_one, List.map_append]
  have e : gS xs k = xs[k] := by unfold gS; simp [List.getD_eq_getElem?_getD, List.getElem?_eq_getElem h]
  rw [e, List.getElem?_eq_getElem h]; rfl
theorem okT_get {xs : List (Int × Int)} (h : ∀ x ∈ xs, okT x) {k : Nat} (hk : k < xs.length) : okT (gS xs k) := by
  have e : gS xs k = xs[k] := by unfold gS; simp [List.getD_eq_getElem?_getD, List.getElem?_eq_getElem hk]
  rw [e]; exact h _ (List.getElem_mem hk)

set_option maxRecDepth 10000 in
set_option maxHeartbeats 4000000 in
theorem l02Text_cells (b off cap : Nat) (xs : List (Int × Int)) (w : World) (hb : b < w.heap.size) (h : SpanAt w b off xs) (hl : xs.length ≤ 1000) (hp : 0 < xs.length) (hok : ∀ x ∈ xs, okT x) :
    Calls Tryz.prog 21 #[.slice (some ⟨b, off, none⟩) xs.length cap] w fun e w' => e = .returned (.string (bs (textL xs))) ∧ Below w.heap.size w w' := by
  have rg := cell_rg; have l2 : ∀ n : Nat, n < n + 1 + 1 := (fun _ => by omega); have l3 : ∀ n : Nat, n < n + 1 + 1 + 1 := (fun _ => by omega); have l4 : ∀ n : Nat, n < n + 1 + 1 + 1 + 1 := (fun _ => by omega)
  have hB := Below.refl w.heap.size w
  go_enter Tryz.func21, Tryz.ntmps21
  go_wp2_with fail
  go_loopw [3, 4, 5] (fun s3 s4 _ wr => ∃ k : Nat, k ≤ xs.length ∧ s4 = .int .i64 k ∧ OwnT wr w.heap.size s3 ((xs.take k).map partB) ∧ Below w.heap.size w wr) (fun _ s4 _ _ => xs.length - (intOf s4).toNat)
  case atStart => exact ⟨0, by omega, rfl, OwnT.made w (Nat.le_refl _), by (repeat' (first | (with_reducible exact Below.refl _ _) | (with_reducible assumption) | (with_reducible refine below_al ?_ _) | (with_reducible refine Below.drew ?_) | (with_reducible refine Below.setCell ?_ (by first | exact Nat.le_refl _ | (dsimp only; omega) | (simp; omega)) _) | (with_reducible refine below_drewN ?_ _) | (with_reducible refine below_tt ?_ (by assumption))))⟩
  case round =>
    clear hB
    obtain ⟨k, hk, rfl, hO, hB⟩ := hrel
    by_cases hlt : k < xs.length
    · have hs := h.of_cells fun o => hB.cell (p := ⟨b, o, none⟩) hb
      have c0 := (hs k hlt).1
      have c1 := (hs k hlt).2
      have zb := bsize hB b hb
      clear hs
      obtain ⟨h1, h2, h3⟩ := okT_get hok hlt
      have hsn := words_snoc hlt
      have elo := partB_lo (x := gS xs k)
      have ehi := partB_hi (x := gS xs k)
      generalize partB (gS xs k) = P at hsn elo ehi
      change wr.cell? _ = some (.int .i64 (gS xs k).1) at c0
      change wr.cell? _ = some (.int .i64 (gS xs k).2) at c1
      generalize (gS xs k).1 = F at *
      generalize (gS xs k).2 = T at *
      obtain ⟨A, hA⟩ : ∃ A, bs (Lib.decDigits F.toNat) = A := ⟨_, rfl⟩
      obtain ⟨C, hC⟩ : ∃ C, bs (Lib.decDigits T.toNat) = C := ⟨_, rfl⟩
      have zA := dec_len h1 (by omega)
      have zC := dec_len (n := T) (by omega) h3
      rw [hA] at zA elo ehi
      rw [hC] at zC ehi
      have hA := Lib.hid hA
      have hC := Lib.hid hC
      by_cases hft : F < T
      · have hP := Lib.hid (ehi hft)
        clear elo ehi
        have z1 : ¬ (9223372036854775807 < A.size + 2) := by omega
        have z2 : ¬ (9223372036854775807 < A.size + 2 + C.size) := by omega
        have hft' : decide (F < T) = true := decide_eq_true hft
        go_wp2_with fail
        refine (l01Dec_is hA.out h1 (by omega) _).mono ?_
        rintro e w1 ⟨rfl, b1⟩
        have hO := hO.below b1
        have hB := below_tt hB b1
        have c0 := (b1.cell (p := ⟨b, off + k * 2, none⟩) zb).trans c0
        have c1 := (b1.cell (p := ⟨b, off + k * 2 + 1, none⟩) zb).trans c1
        have zb := bsize b1 b zb
        go_wp2_with fail
        (refine wp_region_quiet_below (by kernel_rfl) (by kernel_rfl) ?_; (repeat (go_big_quiet_step (fail))); refine wpQuiet_nil ?_; intro w9 hw9; have hb := below_of_regrown hw9; clear hw9; obtain ⟨hc, hf⟩ := bcell hb; have hz := bsize hb; (first | (have hB := below_tt hB hb) | (have hB := below_tt (below_al hB _) hb) | (have hB := below_tt (below_al (below_al hB _) _) hb) | (have hB := hb)); obtain ⟨hc0, hf0⟩ := bcell hB; have hz0 := bsize hB; (first | (have h2 := below_tt hp hb; obtain ⟨hc2, hf2⟩ := bcell h2; have hz2 := bsize h2) | (have h2 := below_tt (below_al hp _) hb; obtain ⟨hc2, hf2⟩ := bcell h2; have hz2 := bsize h2) | skip); have hp := hb)
        have hO := hO.below hb
        have c0 := (hb.cell (p := ⟨b, off + k * 2, none⟩) zb).trans c0
        have c1 := (hb.cell (p := ⟨b, off + k * 2 + 1, none⟩) zb).trans c1
        have zb := bsize hb b zb
        clear hc hf hz hc0 hf0 hz0
        go_wp2_with fail
        refine (l01Dec_is hC.out (by omega) (by omega) _).mono ?_
        rintro e w2 ⟨rfl, b2⟩
        have hO := hO.below b2
        have hB := below_tt hB b2
        rw [hP.out] at hsn
        have hsn := Lib.hid hsn
        go_wp2_with (at_builtin; refine app_str (w0 := w) (p := A ++ ⟨#[46, 46]⟩ ++ C) (zs := (xs.take k).map partB) (by (repeat' (first | (with_reducible exact Below.refl _ _) | (with_reducible assumption) | (with_reducible refine below_al ?_ _) | (with_reducible refine Below.drew ?_) | (with_reducible refine Below.setCell ?_ (by first | exact Nat.le_refl _ | (dsimp only; omega) | (simp; omega)) _) | (with_reducible refine below_drewN ?_ _) | (with_reducible refine below_tt ?_ (by assumption))))) (hO.alloc _) (by simp; omega) rfl _ _ rfl rfl rfl (by simp [go_sem]) ?_; intro v6 w6 hO6 hB6)
        go_roundw
        case rel => exact ⟨k + 1, by omega, by simp, by rw [← hsn.out]; exact hO6, hB6⟩
        case measure => simp [intOf]; omega
      · have hP := Lib.hid (elo hft)
        clear elo ehi
        have hft' : decide (F < T) = false := decide_eq_false hft
        go_wp2_with fail
        refine (l01Dec_is hA.out h1 (by omega) _).mono ?_
        rintro e w1 ⟨rfl, b1⟩
        have hO := hO.below b1
        have hB := below_tt hB b1
        have c0 := (b1.cell (p := ⟨b, off + k * 2, none⟩) zb).trans c0
        have c1 := (b1.cell (p := ⟨b, off + k * 2 + 1, none⟩) zb).trans c1
        have zb := bsize b1 b zb
        go_wp2_with fail
        (refine wp_region_quiet_below (by kernel_rfl) (by kernel_rfl) ?_; (repeat (go_big_quiet_step (fail))); refine wpQuiet_nil ?_; intro w9 hw9; have hb := below_of_regrown hw9; clear hw9; obtain ⟨hc, hf⟩ := bcell hb; have hz := bsize hb; (first | (have hB := below_tt hB hb) | (have hB := below_tt (below_al hB _) hb) | (have hB := below_tt (below_al (below_al hB _) _) hb) | (have hB := hb)); obtain ⟨hc0, hf0⟩ := bcell hB; have hz0 := bsize hB; (first | (have h2 := below_tt hp hb; obtain ⟨hc2, hf2⟩ := bcell h2; have hz2 := bsize h2) | (have h2 := below_tt (below_al hp _) hb; obtain ⟨hc2, hf2⟩ := bcell h2; have hz2 := bsize h2) | skip); have hp := hb)
        have hO := hO.below hb
        clear hc hf hz hc0 hf0 hz0
        rw [hP.out] at hsn
        have hsn := Lib.hid hsn
        go_wp2_with (at_builtin; refine app_str (w0 := w) (p := A) (zs := (xs.take k).map partB) (by (repeat' (first | (with_reducible exact Below.refl _ _) | (with_reducible assumption) | (with_reducible refine below_al ?_ _) | (with_reducible refine Below.drew ?_) | (with_reducible refine Below.setCell ?_ (by first | exact Nat.le_refl _ | (dsimp only; omega) | (simp; omega)) _) | (with_reducible refine below_drewN ?_ _) | (with_reducible refine below_tt ?_ (by assumption))))) (hO.alloc _) (by simp; omega) rfl _ _ rfl rfl rfl (by simp [go_sem]) ?_; intro v6 w6 hO6 hB6)
        go_roundw
        case rel => exact ⟨k + 1, by omega, by simp, by rw [← hsn.out]; exact hO6, hB6⟩
        case measure => simp [intOf]; omega
    · obtain rfl : k = xs.length := by omega
      rw [List.take_length] at hO
      have hR := hO.rs
      obtain ⟨aa, capp, hv⟩ := hO.len
      subst hv
      have hne : xs ≠ [] := by intro e; rw [e] at hp; simp at hp
      have hT := Lib.hid (text_join hne)
      have hlen := words_lens xs hok
      have hn0 : ((xs.length : Int) == 0) = false := by simp; omega
      rw [List.length_map] at hR ⊢
      go_wp2_with fail
      refine (l01Join_any _ (xs.map partB) _ hR (by rw [List.length_map]; omega) (by omega)).mono ?_
      rintro e w5 ⟨rfl, rfl⟩
      rw [← hT.out]
      go_wp2_with fail
      go_ret
      exact ⟨rfl, hB⟩
theorem l02Text_nil (a : Option Addr) (cap : Nat) (w : World) :
    Calls Tryz.prog 21 #[.slice a 0 cap] w fun e w' => e = .returned (.string (bs (textL []))) ∧ Below w.heap.size w w' := by
  have hB := Below.refl w.heap.size w
  go_enter Tryz.func21, Tryz.ntmps21
  go_wp2_with fail
  go_loopw [3, 4, 5] (fun s3 s4 _ wr => s4 = .int .i64 0 ∧ OwnT wr w.heap.size s3 [] ∧ Below w.heap.size w wr) (fun _ _ _ _ => 0)
  case atStart => exact ⟨rfl, OwnT.made w (Nat.le_refl _), by (repeat' (first | (with_reducible exact Below.refl _ _) | (with_reducible assumption) | (with_reducible refine below_al ?_ _) | (with_reducible refine Below.drew ?_) | (with_reducible refine Below.setCell ?_ (by first | exact Nat.le_refl _ | (dsimp only; omega) | (simp; omega)) _) | (with_reducible refine below_drewN ?_ _) | (with_reducible refine below_tt ?_ (by assumption))))⟩
  case round =>
    clear hB
    obtain ⟨rfl, hO, hB⟩ := hrel
    obtain ⟨aa, capp, hv⟩ := hO.len
    subst hv
    go_wp2_with fail
    go_ret
    exact ⟨rfl, hB⟩
theorem l02Text_any (v : Value) (xs : List (Int × Int)) (w : World) (h : RS w v xs) (hS : isSet xs = true) :
    Calls Tryz.prog 21 #[v] w fun e w' => e = .returned (.string (bs (textL xs))) ∧ Below w.heap.size w w' := by
  have hok := set_okT hS
  have hl := (isSet_iff.1 hS).2
  by_cases h0 : xs.length = 0
  · obtain rfl : xs = [] := List.length_eq_zero_iff.1 h0
    obtain ⟨a, cap, rfl⟩ := h.val
    exact l02Text_nil a cap w
  · rcases h with ⟨rfl, _⟩ | ⟨b, off, cap, rfl, hb, hs⟩
    · simp at h0
    exact l02Text_cells b off cap xs w hb hs (by omega) (by omega) hok
theorem l02Text_is {v : Value} {xs : List (Int × Int)} {w : World} {A : ByteArray} (hA : bs (textL xs) = A) (h : RS w v xs) (hS : isSet xs = true) :
    Calls Tryz.prog 21 #[v] w fun e w' => e = .returned (.string A) ∧ Below w.heap.size w w' := by
  subst hA; exact l02Text_any v xs w h hS

/-- What SetText gives. -/
noncomputable def setTextR (xs : List (Int × Int)) : ByteArray × Int := if isSet xs = true then (bs (textL xs), 0) else (ByteArray.empty, 1)
theorem setTextR_t {xs : List (Int × Int)} (h : isSet xs = true) : setTextR xs = (bs (textL xs), 0) := by unfold setTextR; rw [if_pos h]
theorem setTextR_f {xs : List (Int × Int)} (h : isSet xs = false) : setTextR xs = (ByteArray.empty, 1) := by unfold setTextR; rw [h]; rfl
theorem specSetText_any (v : Value) (xs : List (Int × Int)) (w : World) (h : RS w v xs) (hl : xs.length ≤ 4000000) :
    Calls Tryz.prog 7 #[v] w fun e w' => e = .returned (.tuple #[.string (setTextR xs).1, .int .i64 (setTextR xs).2]) ∧ Below w.heap.size w w' := by
  cases hS : isSet xs
  · have hV := Lib.hid (setTextR_f hS)
    go_enter Tryz.func7, Tryz.ntmps7
    go_wp2_with fail
    refine (sIsSet_any v xs _ h hl).mono ?_
    rintro e w1 ⟨rfl, b1⟩
    rw [hS]
    go_wp2_with fail
    go_ret2
    exact ⟨by rw [hV.out]; rfl, b1⟩
  · have hV := Lib.hid (setTextR_t hS)
    go_enter Tryz.func7, Tryz.ntmps7
    go_wp2_with fail
    refine (sIsSet_any v xs _ h hl).mono ?_
    rintro e w1 ⟨rfl, b1⟩
    rw [hS]
    go_wp2_with fail
    refine (l02Text_any v xs _ (h.below b1) hS).mono ?_
    rintro e w2 ⟨rfl, b2⟩
    go_wp2_with fail
    go_ret2
    exact ⟨by rw [hV.out]; rfl, below_tt b1 b2⟩
end Go.Proofs.YtpinngcdojbndaaGreatDoor
