/- The years with Easter on a date: both sides, and the law. -/
import Derived.Test.YticnkjpgjcddcaaSearch
import Derived.Test.YticnkjpgjcddcaaEast
import Derived.Test.YticnkjpgjcddcaaOwnI
import Derived.Test.YticnkjpgjcddcaaFrame
namespace Go.Proofs.Yticnkjpgjcddcaa
open Go.RowKit

def hasE (m d y : Int) : Bool := decide (oem y = m ∧ oed y = d)
def yearsL (m d a : Int) : Nat → List Int
  | 0 => []
  | k + 1 => yearsL m d a k ++ (if hasE m d (a + k) = true then [a + k] else [])
theorem yearsL_len (m d a : Int) (k : Nat) : (yearsL m d a k).length ≤ k := by
  induction k with
  | zero => simp [yearsL]
  | succ k ih => rw [yearsL]; split <;> simp <;> omega
theorem yearsL_mem {m d a y : Int} {k : Nat} (h : y ∈ yearsL m d a k) : a ≤ y ∧ y < a + k ∧ oem y = m ∧ oed y = d := by
  induction k with
  | zero => simp [yearsL] at h
  | succ k ih =>
    rw [yearsL, List.mem_append] at h
    rcases h with h | h
    · have := ih h; omega
    · split at h
      · rename_i hh
        simp at h
        subst h
        unfold hasE at hh
        simp at hh
        omega
      · simp at h
def ywB (m d a b : Int) : Bool := inR a 1 2000 && (inR b 1 2000 && (decide (a ≤ b) && (decide (b - a ≤ 600) && valid 4 m d false)))
def yearsR (m d a b : Int) : List Int × Int := if ywB m d a b = true then (yearsL m d a (b - a + 1).toNat, 0) else ([], 2)
theorem oe_valid {y : Int} (h1 : 1 ≤ y) (h2 : y ≤ 2000) : valid y (oem y) (oed y) false = true := by
  have := oes_bd y h1
  have e1 : oem y = 3 ∨ oem y = 4 := by unfold oem; omega
  refine valid_mk h1 h2 (by omega) (by omega) (by unfold oed; omega) ?_
  rcases e1 with e | e
  · rw [e]; unfold mlen oed; simp; omega
  · rw [e]; unfold oem at e; unfold mlen oed; simp; omega
theorem oe_dat {y : Int} (h1 : 1 ≤ y) (h2 : y ≤ 2000) : dat (oeaster y) false = (y, oem y, oed y) := dat_of ⟨oe_valid h1 h2, rfl⟩
theorem oe_bd {y : Int} (h1 : 1 ≤ y) (h2 : y ≤ 2000) : nyear 1 false ≤ oeaster y ∧ oeaster y < nyear 2001 false := by
  have a := num_bd (oe_valid h1 h2)
  have b := nyear_mono false (a := 1) (b := y) (by omega) (by omega)
  have c := nyear_mono false (a := y + 1) (b := 2001) (by omega) (by omega)
  unfold oeaster; omega
theorem dateOfE_any (y : Int) (w : World) (h1 : 1 ≤ y) (h2 : y ≤ 2000) :
    Calls Try.prog 93 #[.int .i64 (oeaster y), .bool false] w fun e w' => e = .returned (.agg #[.int .i64 y, .int .i64 (oem y), .int .i64 (oed y)]) ∧ Below w.heap.size w w' := by
  have h := dateOf_any (oeaster y) false w (oe_bd h1 h2).1 (oe_bd h1 h2).2
  rw [oe_dat h1 h2] at h
  exact h
theorem isMonthDay_is {m d : Int} {b : Bool} (h : valid 4 m d false = b) (w : World) :
    Calls Try.prog 92 #[.int .i64 m, .int .i64 d] w fun e w' => e = .returned (.bool b) ∧ Below w.heap.size w w' := by
  have rg := cell_rg; have l2 : ∀ n : Nat, n < n + 1 + 1 := (fun _ => by omega); have l3 : ∀ n : Nat, n < n + 1 + 1 + 1 := (fun _ => by omega); have l4 : ∀ n : Nat, n < n + 1 + 1 + 1 + 1 := (fun _ => by omega)
  go_enter Try.func92, Try.ntmps92
  go_wp2_with (go_at_call 43; (refine (implIsOldDate_is h _).mono ?_; rintro e w' ⟨rfl, hb⟩; obtain ⟨hc, hf⟩ := bcell hb; have hz := bsize hb; (first | (have hB := below_tt hB hb) | (have hB := below_tt (below_al hB _) hb) | (have hB := below_tt (below_al (below_al hB _) _) hb) | (have hB := hb)); obtain ⟨hc0, hf0⟩ := bcell hB; have hz0 := bsize hB; (first | (have h2 := below_tt hp hb; obtain ⟨hc2, hf2⟩ := bcell h2; have hz2 := bsize h2) | (have h2 := below_tt (below_al hp _) hb; obtain ⟨hc2, hf2⟩ := bcell h2; have hz2 := bsize h2) | skip); have hp := hb))
  go_ret
  exact ⟨rfl, by (repeat' (first | (with_reducible exact Below.refl _ _) | (with_reducible assumption) | (with_reducible refine below_al ?_ _) | (with_reducible refine Below.drew ?_) | (with_reducible refine Below.setCell ?_ (by first | exact Nat.le_refl _ | (dsimp only; omega) | (simp; omega)) _) | (with_reducible refine below_drewN ?_ _) | (with_reducible refine below_tt ?_ (by assumption))))⟩

theorem yearsR_no {m d a b : Int} (h : ywB m d a b = false) : yearsR m d a b = ([], 2) := by unfold yearsR; rw [h]; rfl
theorem ywB_is (m d a b : Int) : ywB m d a b = (inR a 1 2000 && (inR b 1 2000 && (decide (a ≤ b) && (decide (b - a ≤ 600) && valid 4 m d false)))) := rfl
theorem ywB_t {m d a b : Int} (h : ywB m d a b = true) : 1 ≤ a ∧ a ≤ b ∧ b ≤ 2000 ∧ b - a ≤ 600 ∧ valid 4 m d false = true := by
  unfold ywB at h
  simp at h
  obtain ⟨h1, h2, h3, h4, h5⟩ := h
  have a := inR_t h1
  have b := inR_t h2
  exact ⟨by omega, by omega, by omega, by omega, h5⟩
set_option maxHeartbeats 4000000 in
theorem iYears_no (m d a b : Int) (w : World) (h : ywB m d a b = false) :
    Calls Try.prog 16 #[.int .i64 m, .int .i64 d, .int .i64 a, .int .i64 b] w fun e w' => e = .returned (.tuple #[.slice none 0 0, .int .i64 2]) ∧ Below w.heap.size w w' := by
  have rg := cell_rg; have l2 : ∀ n : Nat, n < n + 1 + 1 := (fun _ => by omega); have l3 : ∀ n : Nat, n < n + 1 + 1 + 1 := (fun _ => by omega); have l4 : ∀ n : Nat, n < n + 1 + 1 + 1 + 1 := (fun _ => by omega)
  have hB := Below.refl w.heap.size w
  rw [ywB_is] at h
  cases ha : inR a 1 2000
  · have h1 := Lib.hid ha
    clear ha h
    go_enter Try.func16, Try.ntmps16
    go_wp2_with (go_at_call 91; refine (isYear_is h1.out _).mono ?_; rintro e w' ⟨rfl, rfl⟩)
    go_ret2
    exact ⟨rfl, by (repeat' (first | (with_reducible exact Below.refl _ _) | (with_reducible assumption) | (with_reducible refine below_al ?_ _) | (with_reducible refine Below.drew ?_) | (with_reducible refine Below.setCell ?_ (by first | exact Nat.le_refl _ | (dsimp only; omega) | (simp; omega)) _) | (with_reducible refine below_drewN ?_ _) | (with_reducible refine below_tt ?_ (by assumption))))⟩
  cases hb : inR b 1 2000
  · have h1 := Lib.hid ha
    have h2 := Lib.hid hb
    clear ha hb h
    go_enter Try.func16, Try.ntmps16
    go_wp2_with (go_at_call 91; refine (isYear_is (by first | exact h1.out | exact h2.out) _).mono ?_; rintro e w' ⟨rfl, rfl⟩)
    go_ret2
    exact ⟨rfl, by (repeat' (first | (with_reducible exact Below.refl _ _) | (with_reducible assumption) | (with_reducible refine below_al ?_ _) | (with_reducible refine Below.drew ?_) | (with_reducible refine Below.setCell ?_ (by first | exact Nat.le_refl _ | (dsimp only; omega) | (simp; omega)) _) | (with_reducible refine below_drewN ?_ _) | (with_reducible refine below_tt ?_ (by assumption))))⟩
  obtain ⟨a1, a2⟩ := inR_t ha
  obtain ⟨b1, b2⟩ := inR_t hb
  by_cases hab : a ≤ b
  case neg =>
    have h1 := Lib.hid ha
    have h2 := Lib.hid hb
    clear ha hb h
    go_enter Try.func16, Try.ntmps16
    go_wp2_with (go_at_call 91; refine (isYear_is (by first | exact h1.out | exact h2.out) _).mono ?_; rintro e w' ⟨rfl, rfl⟩)
    go_ret2
    exact ⟨rfl, by (repeat' (first | (with_reducible exact Below.refl _ _) | (with_reducible assumption) | (with_reducible refine below_al ?_ _) | (with_reducible refine Below.drew ?_) | (with_reducible refine Below.setCell ?_ (by first | exact Nat.le_refl _ | (dsimp only; omega) | (simp; omega)) _) | (with_reducible refine below_drewN ?_ _) | (with_reducible refine below_tt ?_ (by assumption))))⟩
  by_cases h6 : b - a ≤ 600
  case neg =>
    have h1 := Lib.hid ha
    have h2 := Lib.hid hb
    clear ha hb h
    go_enter Try.func16, Try.ntmps16
    go_wp2_with (go_at_call 91; refine (isYear_is (by first | exact h1.out | exact h2.out) _).mono ?_; rintro e w' ⟨rfl, rfl⟩)
    go_ret2
    exact ⟨rfl, by (repeat' (first | (with_reducible exact Below.refl _ _) | (with_reducible assumption) | (with_reducible refine below_al ?_ _) | (with_reducible refine Below.drew ?_) | (with_reducible refine Below.setCell ?_ (by first | exact Nat.le_refl _ | (dsimp only; omega) | (simp; omega)) _) | (with_reducible refine below_drewN ?_ _) | (with_reducible refine below_tt ?_ (by assumption))))⟩
  cases hv : valid 4 m d false
  · have h1 := Lib.hid ha
    have h2 := Lib.hid hb
    have h3 := Lib.hid hv
    clear ha hb h hv
    go_enter Try.func16, Try.ntmps16
    go_wp2_with (first | (go_at_call 91; refine (isYear_is (by first | exact h1.out | exact h2.out) _).mono ?_; rintro e w' ⟨rfl, rfl⟩) | (go_at_call 92; (refine (isMonthDay_is h3.out _).mono ?_; rintro e w' ⟨rfl, hb⟩; obtain ⟨hc, hf⟩ := bcell hb; have hz := bsize hb; (first | (have hB := below_tt hB hb) | (have hB := below_tt (below_al hB _) hb) | (have hB := below_tt (below_al (below_al hB _) _) hb) | (have hB := hb)); obtain ⟨hc0, hf0⟩ := bcell hB; have hz0 := bsize hB; (first | (have h2 := below_tt hp hb; obtain ⟨hc2, hf2⟩ := bcell h2; have hz2 := bsize h2) | (have h2 := below_tt (below_al hp _) hb; obtain ⟨hc2, hf2⟩ := bcell h2; have hz2 := bsize h2) | skip); have hp := hb)))
    go_ret2
    exact ⟨rfl, by (repeat' (first | (with_reducible exact Below.refl _ _) | (with_reducible assumption) | (with_reducible refine below_al ?_ _) | (with_reducible refine Below.drew ?_) | (with_reducible refine Below.setCell ?_ (by first | exact Nat.le_refl _ | (dsimp only; omega) | (simp; omega)) _) | (with_reducible refine below_drewN ?_ _) | (with_reducible refine below_tt ?_ (by assumption))))⟩
  · exfalso
    rw [ha, hb, decide_eq_true hab, decide_eq_true h6, hv] at h
    simp at h
set_option maxRecDepth 100000 in
set_option maxHeartbeats 4000000 in
theorem iYears_any (m d a b : Int) (w : World) :
    Calls Try.prog 16 #[.int .i64 m, .int .i64 d, .int .i64 a, .int .i64 b] w fun e w' => ∃ v, e = .returned (.tuple #[v, .int .i64 (yearsR m d a b).2]) ∧ OwnI w' w.heap.size v (yearsR m d a b).1 ∧ Below w.heap.size w w' := by
  cases hy : ywB m d a b
  · rw [yearsR_no hy]
    exact (iYears_no m d a b w hy).mono fun _ _ ⟨h1, h2⟩ => ⟨_, h1, OwnI.nil _ _, h2⟩
  have rg := cell_rg; have l2 : ∀ n : Nat, n < n + 1 + 1 := (fun _ => by omega); have l3 : ∀ n : Nat, n < n + 1 + 1 + 1 := (fun _ => by omega); have l4 : ∀ n : Nat, n < n + 1 + 1 + 1 + 1 := (fun _ => by omega)
  have hB := Below.refl w.heap.size w
  have HV : Hid (yearsR m d a b = (yearsL m d a (b - a + 1).toNat, 0)) := by unfold yearsR Hid; rw [hy]; rfl
  obtain ⟨k1, k2, k3, k4, k5⟩ := ywB_t hy
  have h1 := Lib.hid (inR_mk k1 (show a ≤ 2000 by omega))
  have h2 := Lib.hid (inR_mk (show 1 ≤ b by omega) k3)
  have h3 := Lib.hid k5
  clear hy k5
  rw [HV.out]
  clear HV
  obtain ⟨kk, hkk⟩ : ∃ kk, (b - a + 1).toNat = kk := ⟨_, rfl⟩
  rw [hkk]
  go_enter Try.func16, Try.ntmps16
  go_wp2_with (first | (go_at_call 91; refine (isYear_is (by first | exact h1.out | exact h2.out) _).mono ?_; rintro e w' ⟨rfl, rfl⟩) | (go_at_call 92; (refine (isMonthDay_is h3.out _).mono ?_; rintro e w' ⟨rfl, hb⟩; obtain ⟨hc, hf⟩ := bcell hb; have hz := bsize hb; (first | (have hB := below_tt hB hb) | (have hB := below_tt (below_al hB _) hb) | (have hB := below_tt (below_al (below_al hB _) _) hb) | (have hB := hb)); obtain ⟨hc0, hf0⟩ := bcell hB; have hz0 := bsize hB; (first | (have h2 := below_tt hp hb; obtain ⟨hc2, hf2⟩ := bcell h2; have hz2 := bsize h2) | (have h2 := below_tt (below_al hp _) hb; obtain ⟨hc2, hf2⟩ := bcell h2; have hz2 := bsize h2) | skip); have hp := hb)))
  have hb0 := hb
  have hO := OwnI.made w' (base := w.heap.size) hb0.size
  have hB' := hb0.alloc hb0.size (.cells #[] 2)
  clear hB hc hf hz hc0 hf0 hz0 hp hb
  go_loopw [10, 11] (fun s10 s11 wr => ∃ k : Nat, a + k ≤ b + 1 ∧ s11 = .int .i64 (a + k) ∧ OwnI wr w.heap.size s10 (yearsL m d a k) ∧ Below w.heap.size w wr) (fun _ s11 _ => (b + 1 - intOf s11).toNat)
  case atStart => exact ⟨0, by omega, by simp, hO, hB'⟩
  case round =>
    clear hO hB'
    obtain ⟨k, hk, rfl, hO, hB⟩ := hrel
    by_cases hlt : a + k ≤ b
    · have hl := yearsL_len m d a k
      have hS : Hid (yearsL m d a (k + 1) = yearsL m d a k ++ (if decide (oem (a + k) = m ∧ oed (a + k) = d) = true then [a + (k : Int)] else [])) := rfl
      go_wp2_with fail
      refine (oldEaster_any _ _ (by omega) (by omega)).mono ?_
      rintro e w1 ⟨rfl, b1⟩
      have hO1 := hO.below b1
      have B1 := below_tt hB b1
      go_wp2_with fail
      refine (dateOfE_any _ _ (by omega) (by omega)).mono ?_
      rintro e w2 ⟨rfl, b2⟩
      have hO2 := hO1.below b2
      have B2 := below_tt B1 b2
      clear hO hO1 hB B1 b1 b2
      by_cases hm : oem (a + k) = m
      · by_cases hd : oed (a + k) = d
        · rw [if_pos (decide_eq_true ⟨hm, hd⟩)] at hS
          go_wp2_with (at_builtin; refine app_int (w0 := w) (p := a + k) (zs := yearsL m d a k) (by (repeat' (first | (with_reducible exact Below.refl _ _) | (with_reducible assumption) | (with_reducible refine below_al ?_ _) | (with_reducible refine Below.drew ?_) | (with_reducible refine Below.setCell ?_ (by first | exact Nat.le_refl _ | (dsimp only; omega) | (simp; omega)) _) | (with_reducible refine below_drewN ?_ _) | (with_reducible refine below_tt ?_ (by assumption))))) ((hO2.alloc _).alloc _) (by omega) rfl (.tmp 58) (.tmp 60) rfl rfl rfl (by simp [go_sem]) ?_; intro v6 w6 hO6 hB6)
          go_roundw
          case rel => exact ⟨k + 1, by omega, by simp; omega, by rw [hS.out]; exact hO6, hB6⟩
          case measure => simp [intOf]; omega
        · rw [if_neg (by simp [hd])] at hS
          go_wp2_with fail
          go_roundw
          case rel => exact ⟨k + 1, by omega, by simp; omega, by rw [hS.out, List.append_nil]; exact hO2.alloc _, by (repeat' (first | (with_reducible exact Below.refl _ _) | (with_reducible assumption) | (with_reducible refine below_al ?_ _) | (with_reducible refine Below.drew ?_) | (with_reducible refine Below.setCell ?_ (by first | exact Nat.le_refl _ | (dsimp only; omega) | (simp; omega)) _) | (with_reducible refine below_drewN ?_ _) | (with_reducible refine below_tt ?_ (by assumption))))⟩
          case measure => simp [intOf]; omega
      · rw [if_neg (by simp [hm])] at hS
        go_wp2_with fail
        go_roundw
        case rel => exact ⟨k + 1, by omega, by simp; omega, by rw [hS.out, List.append_nil]; exact hO2.alloc _, by (repeat' (first | (with_reducible exact Below.refl _ _) | (with_reducible assumption) | (with_reducible refine below_al ?_ _) | (with_reducible refine Below.drew ?_) | (with_reducible refine Below.setCell ?_ (by first | exact Nat.le_refl _ | (dsimp only; omega) | (simp; omega)) _) | (with_reducible refine below_drewN ?_ _) | (with_reducible refine below_tt ?_ (by assumption))))⟩
        case measure => simp [intOf]; omega
    · obtain rfl : kk = k := by omega
      go_wp2
      go_ret2
      exact ⟨_, rfl, hO, hB⟩
theorem ywB_s {m d a b M : Int} (ha : inR a 1 2000 = true) (hM : M = 2000 ∧ 2000 ≤ a + 600 ∨ M = a + 600 ∧ a + 600 < 2000) : ywB m d a b = (inR b a M && valid 4 m d false) := by
  have h := inR_t ha
  unfold ywB
  rw [ha]
  cases valid 4 m d false
  · simp
  · rw [Bool.eq_iff_iff]
    unfold inR
    simp
    omega
set_option maxHeartbeats 4000000 in
theorem sYears_no (m d a b : Int) (w : World) (h : ywB m d a b = false) :
    Calls Try.prog 15 #[.int .i64 m, .int .i64 d, .int .i64 a, .int .i64 b] w fun e w' => e = .returned (.tuple #[.slice none 0 0, .int .i64 2]) ∧ Below w.heap.size w w' := by
  have rg := cell_rg; have l2 : ∀ n : Nat, n < n + 1 + 1 := (fun _ => by omega); have l3 : ∀ n : Nat, n < n + 1 + 1 + 1 := (fun _ => by omega); have l4 : ∀ n : Nat, n < n + 1 + 1 + 1 + 1 := (fun _ => by omega)
  have hB := Below.refl w.heap.size w
  cases ha : inR a 1 2000
  · have h1 := Lib.hid ha
    clear ha h
    go_enter Try.func15, Try.ntmps15
    go_wp2_with (go_at_call 87; refine (l04Year_is h1.out _).mono ?_; rintro e w' ⟨rfl, rfl⟩)
    go_ret2
    exact ⟨rfl, by (repeat' (first | (with_reducible exact Below.refl _ _) | (with_reducible assumption) | (with_reducible refine below_al ?_ _) | (with_reducible refine Below.drew ?_) | (with_reducible refine Below.setCell ?_ (by first | exact Nat.le_refl _ | (dsimp only; omega) | (simp; omega)) _) | (with_reducible refine below_drewN ?_ _) | (with_reducible refine below_tt ?_ (by assumption))))⟩
  obtain ⟨M, hM⟩ : ∃ M, M = 2000 ∧ 2000 ≤ a + 600 ∨ M = a + 600 ∧ a + 600 < 2000 := by
    by_cases q : a + 600 < 2000
    · exact ⟨_, Or.inr ⟨rfl, q⟩⟩
    · exact ⟨_, Or.inl ⟨rfl, by omega⟩⟩
  have hs := ywB_s (m := m) (d := d) (b := b) ha hM
  rw [h] at hs
  obtain ⟨a1, a2⟩ := inR_t ha
  have h1 := Lib.hid ha
  clear ha h
  cases hb : inR b a M
  · have h2 := Lib.hid hb
    clear hb hs
    rcases hM with ⟨rfl, hM⟩ | ⟨rfl, hM⟩
    all_goals
      go_enter Try.func15, Try.ntmps15
      go_wp2_with (first | (go_at_call 87; refine (l04Year_is h1.out _).mono ?_; rintro e w' ⟨rfl, rfl⟩) | (go_at_call 88; refine (l01In_is h2.out _).mono ?_; rintro e w' ⟨rfl, rfl⟩))
      go_ret2
      exact ⟨rfl, by (repeat' (first | (with_reducible exact Below.refl _ _) | (with_reducible assumption) | (with_reducible refine below_al ?_ _) | (with_reducible refine Below.drew ?_) | (with_reducible refine Below.setCell ?_ (by first | exact Nat.le_refl _ | (dsimp only; omega) | (simp; omega)) _) | (with_reducible refine below_drewN ?_ _) | (with_reducible refine below_tt ?_ (by assumption))))⟩
  · have h2 := Lib.hid hb
    rw [hb] at hs
    have h3 := Lib.hid (show valid 4 m d false = false by simpa using hs.symm)
    clear hb hs
    rcases hM with ⟨rfl, hM⟩ | ⟨rfl, hM⟩
    all_goals
      go_enter Try.func15, Try.ntmps15
      go_wp2_with (first | (go_at_call 87; refine (l04Year_is h1.out _).mono ?_; rintro e w' ⟨rfl, rfl⟩) | (go_at_call 88; refine (l01In_is h2.out _).mono ?_; rintro e w' ⟨rfl, rfl⟩) | (go_at_call 89; (refine (specIsOldDate_is h3.out _).mono ?_; rintro e w' ⟨rfl, hb⟩; obtain ⟨hc, hf⟩ := bcell hb; have hz := bsize hb; (first | (have hB := below_tt hB hb) | (have hB := below_tt (below_al hB _) hb) | (have hB := below_tt (below_al (below_al hB _) _) hb) | (have hB := hb)); obtain ⟨hc0, hf0⟩ := bcell hB; have hz0 := bsize hB; (first | (have h2 := below_tt hp hb; obtain ⟨hc2, hf2⟩ := bcell h2; have hz2 := bsize h2) | (have h2 := below_tt (below_al hp _) hb; obtain ⟨hc2, hf2⟩ := bcell h2; have hz2 := bsize h2) | skip); have hp := hb)))
      go_ret2
      exact ⟨rfl, by (repeat' (first | (with_reducible exact Below.refl _ _) | (with_reducible assumption) | (with_reducible refine below_al ?_ _) | (with_reducible refine Below.drew ?_) | (with_reducible refine Below.setCell ?_ (by first | exact Nat.le_refl _ | (dsimp only; omega) | (simp; omega)) _) | (with_reducible refine below_drewN ?_ _) | (with_reducible refine below_tt ?_ (by assumption))))⟩
set_option maxRecDepth 100000 in
set_option maxHeartbeats 4000000 in
theorem sYears_any (m d a b : Int) (w : World) :
    Calls Try.prog 15 #[.int .i64 m, .int .i64 d, .int .i64 a, .int .i64 b] w fun e w' => ∃ v, e = .returned (.tuple #[v, .int .i64 (yearsR m d a b).2]) ∧ OwnI w' w.heap.size v (yearsR m d a b).1 ∧ Below w.heap.size w w' := by
  cases hy : ywB m d a b
  · rw [yearsR_no hy]
    exact (sYears_no m d a b w hy).mono fun _ _ ⟨h1, h2⟩ => ⟨_, h1, OwnI.nil _ _, h2⟩
  have rg := cell_rg; have l2 : ∀ n : Nat, n < n + 1 + 1 := (fun _ => by omega); have l3 : ∀ n : Nat, n < n + 1 + 1 + 1 := (fun _ => by omega); have l4 : ∀ n : Nat, n < n + 1 + 1 + 1 + 1 := (fun _ => by omega)
  have hB := Below.refl w.heap.size w
  have HV : Hid (yearsR m d a b = (yearsL m d a (b - a + 1).toNat, 0)) := by unfold yearsR Hid; rw [hy]; rfl
  obtain ⟨k1, k2, k3, k4, k5⟩ := ywB_t hy
  have h1 := Lib.hid (inR_mk k1 (show a ≤ 2000 by omega))
  have h3 := Lib.hid k5
  clear hy k5
  rw [HV.out]
  clear HV
  obtain ⟨kk, hkk⟩ : ∃ kk, (b - a + 1).toNat = kk := ⟨_, rfl⟩
  rw [hkk]
  obtain ⟨M, hM, h2⟩ : ∃ M, (M = 2000 ∧ 2000 ≤ a + 600 ∨ M = a + 600 ∧ a + 600 < 2000) ∧ Hid (inR b a M = true) := by
    by_cases q : a + 600 < 2000
    · exact ⟨_, Or.inr ⟨rfl, q⟩, Lib.hid (inR_mk k2 (by omega))⟩
    · exact ⟨_, Or.inl ⟨rfl, by omega⟩, Lib.hid (inR_mk k2 (by omega))⟩
  rcases hM with ⟨rfl, hM⟩ | ⟨rfl, hM⟩
  all_goals
    go_enter Try.func15, Try.ntmps15
    go_wp2_with (first | (go_at_call 87; refine (l04Year_is h1.out _).mono ?_; rintro e w' ⟨rfl, rfl⟩) | (go_at_call 88; refine (l01In_is h2.out _).mono ?_; rintro e w' ⟨rfl, rfl⟩) | (go_at_call 89; (refine (specIsOldDate_is h3.out _).mono ?_; rintro e w' ⟨rfl, hb⟩; obtain ⟨hc, hf⟩ := bcell hb; have hz := bsize hb; (first | (have hB := below_tt hB hb) | (have hB := below_tt (below_al hB _) hb) | (have hB := below_tt (below_al (below_al hB _) _) hb) | (have hB := hb)); obtain ⟨hc0, hf0⟩ := bcell hB; have hz0 := bsize hB; (first | (have h2 := below_tt hp hb; obtain ⟨hc2, hf2⟩ := bcell h2; have hz2 := bsize h2) | (have h2 := below_tt (below_al hp _) hb; obtain ⟨hc2, hf2⟩ := bcell h2; have hz2 := bsize h2) | skip); have hp := hb)))
    have hb0 := hb
    have hO := OwnI.made w' (base := w.heap.size) hb0.size
    have hB' := hb0.alloc hb0.size (.cells #[] 2)
    clear hB hc hf hz hc0 hf0 hz0 hp hb
    go_loopw [10, 11] (fun s10 s11 wr => ∃ k : Nat, a + k ≤ b + 1 ∧ s11 = .int .i64 (a + k) ∧ OwnI wr w.heap.size s10 (yearsL m d a k) ∧ Below w.heap.size w wr) (fun _ s11 _ => (b + 1 - intOf s11).toNat)
    case atStart => exact ⟨0, by omega, by simp, hO, hB'⟩
    case round =>
      clear hO hB'
      obtain ⟨k, hk, rfl, hO, hB⟩ := hrel
      by_cases hlt : a + k ≤ b
      · have hl := yearsL_len m d a k
        have hS : Hid (yearsL m d a (k + 1) = yearsL m d a k ++ (if decide (oem (a + k) = m ∧ oed (a + k) = d) = true then [a + (k : Int)] else [])) := rfl
        go_wp2_with fail
        refine (l04Old_any _ _ (by omega) (by omega)).mono ?_
        rintro e w2 ⟨rfl, b2⟩
        have hO2 := hO.below b2
        have B2 := below_tt hB b2
        clear hO hB b2
        by_cases hm : oem (a + k) = m
        · by_cases hd : oed (a + k) = d
          · rw [if_pos (decide_eq_true ⟨hm, hd⟩)] at hS
            go_wp2_with (at_builtin; refine app_int (w0 := w) (p := a + k) (zs := yearsL m d a k) (by (repeat' (first | (with_reducible exact Below.refl _ _) | (with_reducible assumption) | (with_reducible refine below_al ?_ _) | (with_reducible refine Below.drew ?_) | (with_reducible refine Below.setCell ?_ (by first | exact Nat.le_refl _ | (dsimp only; omega) | (simp; omega)) _) | (with_reducible refine below_drewN ?_ _) | (with_reducible refine below_tt ?_ (by assumption))))) ((hO2.alloc _).alloc _) (by omega) rfl _ _ rfl rfl rfl (by simp [go_sem]) ?_; intro v6 w6 hO6 hB6)
            go_roundw
            case rel => exact ⟨k + 1, by omega, by simp; omega, by rw [hS.out]; exact hO6, hB6⟩
            case measure => simp [intOf]; omega
          · rw [if_neg (by simp [hd])] at hS
            go_wp2_with fail
            go_roundw
            case rel => exact ⟨k + 1, by omega, by simp; omega, by rw [hS.out, List.append_nil]; exact hO2.alloc _, by (repeat' (first | (with_reducible exact Below.refl _ _) | (with_reducible assumption) | (with_reducible refine below_al ?_ _) | (with_reducible refine Below.drew ?_) | (with_reducible refine Below.setCell ?_ (by first | exact Nat.le_refl _ | (dsimp only; omega) | (simp; omega)) _) | (with_reducible refine below_drewN ?_ _) | (with_reducible refine below_tt ?_ (by assumption))))⟩
            case measure => simp [intOf]; omega
        · rw [if_neg (by simp [hm])] at hS
          go_wp2_with fail
          go_roundw
          case rel => exact ⟨k + 1, by omega, by simp; omega, by rw [hS.out, List.append_nil]; exact hO2.alloc _, by (repeat' (first | (with_reducible exact Below.refl _ _) | (with_reducible assumption) | (with_reducible refine below_al ?_ _) | (with_reducible refine Below.drew ?_) | (with_reducible refine Below.setCell ?_ (by first | exact Nat.le_refl _ | (dsimp only; omega) | (simp; omega)) _) | (with_reducible refine below_drewN ?_ _) | (with_reducible refine below_tt ?_ (by assumption))))⟩
          case measure => simp [intOf]; omega
      · obtain rfl : kk = k := by omega
        go_wp2
        go_ret2
        exact ⟨_, rfl, hO, hB⟩
end Go.Proofs.Yticnkjpgjcddcaa
