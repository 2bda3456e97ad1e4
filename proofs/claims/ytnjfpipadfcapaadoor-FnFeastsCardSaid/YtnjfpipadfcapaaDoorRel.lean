/- The day with a relation to a feast: both sides, and the law. -/
import Derived.Test.YtnjfpipadfcapaaDoorFeast2
import Derived.Test.YtnjfpipadfcapaaDoorFrame
namespace Go.Proofs.YtnjfpipadfcapaaDoor
open Go.RowKit

def relB2 (r d : Int) : Bool := inR r 0 4 && (inR d 0 6 && (decide (3 ≤ r) || decide (d = 0)))
def relB (f r d : Int) : Bool := inR f 0 19 && relB2 r d
def relO (r d n : Int) : Int := if r = 1 then n - 1 else if r = 2 then n + 7 else if r = 3 then n + 1 + (d - (n + 5) % 7 + 13) % 7 else if r = 4 then n - 1 - ((n + 5) % 7 - d + 13) % 7 else n
def relI (f r d y : Int) : Int := relO r d (feastI f y)
def relR (f r d y : Int) : Int × Int := if relB f r d = true ∧ inR y 1 2000 = true then (if inR (relI f r d y) 0 730499 = true then (relI f r d y, 0) else (0, 4)) else (0, 2)
theorem relB_t {f r d : Int} (h : relB f r d = true) : inR f 0 19 = true ∧ relB2 r d = true := by unfold relB at h; simpa using h
theorem relB2_t {r d : Int} (h : relB2 r d = true) : 0 ≤ r ∧ r ≤ 4 ∧ 0 ≤ d ∧ d ≤ 6 ∧ (3 ≤ r ∨ d = 0) := by
  unfold relB2 at h
  simp at h
  have a := inR_t h.1; have b := inR_t h.2.1; omega
theorem relO_bd {r d n : Int} (h : relB2 r d = true) : n - 7 ≤ relO r d n ∧ relO r d n ≤ n + 7 := by
  have := relB2_t h
  unfold relO
  split
  · omega
  · split
    · omega
    · split
      · omega
      · split <;> omega

theorem relI_five (f r d y : Int) : (r = 1 → relI f r d y = feastI f y - 1) ∧ (r = 2 → relI f r d y = feastI f y + 7) ∧ (r = 3 → relI f r d y = feastI f y + 1 + (d - (feastI f y + 5) % 7 + 13) % 7) ∧
    (r = 4 → relI f r d y = feastI f y - 1 - ((feastI f y + 5) % 7 - d + 13) % 7) ∧ (¬ r = 1 ∧ ¬ r = 2 ∧ ¬ r = 3 ∧ ¬ r = 4 → relI f r d y = feastI f y) := by
  unfold relI relO
  refine ⟨fun h => ?_, fun h => ?_, fun h => ?_, fun h => ?_, fun h => ?_⟩
  · subst h; rfl
  · subst h; rfl
  · subst h; rfl
  · subst h; rfl
  · rw [if_neg h.1, if_neg h.2.1, if_neg h.2.2.1, if_neg h.2.2.2]
theorem isRelation_any (f r d : Int) (w : World) :
    Calls Tryd.prog 32 #[.int .i64 f, .int .i64 r, .int .i64 d] w fun e w' => e = .returned (.bool (relB f r d)) ∧ w = w' := by
  cases hf : inR f 0 19 <;> cases hr : inR r 0 4 <;> cases hd : inR d 0 6
  all_goals
    have HV := Lib.hid (show relB f r d = (inR f 0 19 && (inR r 0 4 && (inR d 0 6 && (decide (3 ≤ r) || decide (d = 0))))) from rfl)
    rw [hf, hr, hd] at HV
    have h1 := Lib.hid hf
    have h2 := Lib.hid hr
    have h3 := Lib.hid hd
    clear hf hr hd
    go_enter Tryd.func32, Tryd.ntmps32
    go_wp2_with (first | (go_at_call 25; refine (isFeast_is h1.out _).mono ?_; rintro e w' ⟨rfl, rfl⟩) | (go_at_call 50; refine (within_is (by first | exact h2.out | exact h3.out) _).mono ?_; rintro e w' ⟨rfl, rfl⟩))
  all_goals (go_ret; refine ⟨ret_bool ?_, rfl⟩; rw [HV.out, Bool.eq_iff_iff]; (try simp); try omega)
theorem isRelation_is {f r d : Int} {b : Bool} (h : relB f r d = b) (w : World) :
    Calls Tryd.prog 32 #[.int .i64 f, .int .i64 r, .int .i64 d] w fun e w' => e = .returned (.bool b) ∧ w = w' := by
  subst h; exact isRelation_any f r d w
theorem l05Relation_any (r d : Int) (w : World) :
    Calls Tryd.prog 37 #[.int .i64 r, .int .i64 d] w fun e w' => e = .returned (.bool (relB2 r d)) ∧ w = w' := by
  cases hr : inR r 0 4 <;> cases hd : inR d 0 6
  all_goals
    have HV := Lib.hid (show relB2 r d = (inR r 0 4 && (inR d 0 6 && (decide (3 ≤ r) || decide (d = 0)))) from rfl)
    rw [hr, hd] at HV
    have h2 := Lib.hid hr
    have h3 := Lib.hid hd
    clear hr hd
    go_enter Tryd.func37, Tryd.ntmps37
    go_wp2_with (go_at_call 49; refine (l01In_is (by first | exact h2.out | exact h3.out) _).mono ?_; rintro e w' ⟨rfl, rfl⟩)
  all_goals (go_ret; refine ⟨ret_bool ?_, rfl⟩; rw [HV.out, Bool.eq_iff_iff]; (try simp); try omega)
theorem l05Relation_is {r d : Int} {b : Bool} (h : relB2 r d = b) (w : World) :
    Calls Tryd.prog 37 #[.int .i64 r, .int .i64 d] w fun e w' => e = .returned (.bool b) ∧ w = w' := by
  subst h; exact l05Relation_any r d w

set_option maxHeartbeats 1000000 in
theorem relatedDay_any (f r d y : Int) (w : World) (h1 : 0 ≤ f) (h2 : f ≤ 19) (h3 : 1 ≤ y) (h4 : y ≤ 2000) (hd1 : 0 ≤ d) (hd2 : d ≤ 6) :
    Calls Tryd.prog 35 #[.int .i64 f, .int .i64 r, .int .i64 d, .int .i64 y] w fun e w' => e = .returned (.int .i64 (relI f r d y)) ∧ Below w.heap.size w w' := by
  have rg := cell_rg; have l2 : ∀ n : Nat, n < n + 1 + 1 := (fun _ => by omega); have l3 : ∀ n : Nat, n < n + 1 + 1 + 1 := (fun _ => by omega); have l4 : ∀ n : Nat, n < n + 1 + 1 + 1 + 1 := (fun _ => by omega)
  have hn := feast_day h1 h2 h3 h4
  have HV := Lib.hid (relI_five f r d y)
  obtain ⟨hn1, hn2⟩ := hn
  by_cases r1 : r = 1
  · have HW := Lib.hid (HV.out.1 r1)
    clear HV
    subst r1
    go_enter Tryd.func35, Tryd.ntmps35
    go_wp2_with (go_at_call 47; (refine (feastDay_any _ _ _ h1 h2 h3 h4).mono ?_; rintro e w' ⟨rfl, hb⟩; obtain ⟨hc, hf⟩ := bcell hb; have hz := bsize hb; (first | (have hB := below_tt hB hb) | (have hB := below_tt (below_al hB _) hb) | (have hB := below_tt (below_al (below_al hB _) _) hb) | (have hB := hb)); obtain ⟨hc0, hf0⟩ := bcell hB; have hz0 := bsize hB; (first | (have h2 := below_tt hp hb; obtain ⟨hc2, hf2⟩ := bcell h2; have hz2 := bsize h2) | (have h2 := below_tt (below_al hp _) hb; obtain ⟨hc2, hf2⟩ := bcell h2; have hz2 := bsize h2) | skip); have hp := hb))
    go_ret
    exact ⟨ret_int (by rw [HW.out]), by (repeat' (first | (with_reducible exact Below.refl _ _) | (with_reducible assumption) | (with_reducible refine below_al ?_ _) | (with_reducible refine Below.drew ?_) | (with_reducible refine Below.setCell ?_ (by first | exact Nat.le_refl _ | (dsimp only; omega) | (simp; omega)) _) | (with_reducible refine below_drewN ?_ _) | (with_reducible refine below_tt ?_ (by assumption))))⟩
  by_cases r2 : r = 2
  · have HW := Lib.hid (HV.out.2.1 r2)
    clear HV
    subst r2
    go_enter Tryd.func35, Tryd.ntmps35
    go_wp2_with (go_at_call 47; (refine (feastDay_any _ _ _ h1 h2 h3 h4).mono ?_; rintro e w' ⟨rfl, hb⟩; obtain ⟨hc, hf⟩ := bcell hb; have hz := bsize hb; (first | (have hB := below_tt hB hb) | (have hB := below_tt (below_al hB _) hb) | (have hB := below_tt (below_al (below_al hB _) _) hb) | (have hB := hb)); obtain ⟨hc0, hf0⟩ := bcell hB; have hz0 := bsize hB; (first | (have h2 := below_tt hp hb; obtain ⟨hc2, hf2⟩ := bcell h2; have hz2 := bsize h2) | (have h2 := below_tt (below_al hp _) hb; obtain ⟨hc2, hf2⟩ := bcell h2; have hz2 := bsize h2) | skip); have hp := hb))
    go_ret
    exact ⟨ret_int (by rw [HW.out]), by (repeat' (first | (with_reducible exact Below.refl _ _) | (with_reducible assumption) | (with_reducible refine below_al ?_ _) | (with_reducible refine Below.drew ?_) | (with_reducible refine Below.setCell ?_ (by first | exact Nat.le_refl _ | (dsimp only; omega) | (simp; omega)) _) | (with_reducible refine below_drewN ?_ _) | (with_reducible refine below_tt ?_ (by assumption))))⟩
  by_cases r3 : r = 3
  · have HW := Lib.hid (HV.out.2.2.1 r3)
    clear HV
    subst r3
    go_enter Tryd.func35, Tryd.ntmps35
    go_wp2_with (first | (go_at_call 47; (refine (feastDay_any _ _ _ h1 h2 h3 h4).mono ?_; rintro e w' ⟨rfl, hb⟩; obtain ⟨hc, hf⟩ := bcell hb; have hz := bsize hb; (first | (have hB := below_tt hB hb) | (have hB := below_tt (below_al hB _) hb) | (have hB := below_tt (below_al (below_al hB _) _) hb) | (have hB := hb)); obtain ⟨hc0, hf0⟩ := bcell hB; have hz0 := bsize hB; (first | (have h2 := below_tt hp hb; obtain ⟨hc2, hf2⟩ := bcell h2; have hz2 := bsize h2) | (have h2 := below_tt (below_al hp _) hb; obtain ⟨hc2, hf2⟩ := bcell h2; have hz2 := bsize h2) | skip); have hp := hb)) | (go_at_call 48; refine (weekdayOf_any _ _ (by omega) (by omega)).mono ?_; rintro e w' ⟨rfl, rfl⟩))
    go_ret
    exact ⟨ret_int (by rw [HW.out]; try omega), by (repeat' (first | (with_reducible exact Below.refl _ _) | (with_reducible assumption) | (with_reducible refine below_al ?_ _) | (with_reducible refine Below.drew ?_) | (with_reducible refine Below.setCell ?_ (by first | exact Nat.le_refl _ | (dsimp only; omega) | (simp; omega)) _) | (with_reducible refine below_drewN ?_ _) | (with_reducible refine below_tt ?_ (by assumption))))⟩
  by_cases r4 : r = 4
  · have HW := Lib.hid (HV.out.2.2.2.1 r4)
    clear HV
    subst r4
    go_enter Tryd.func35, Tryd.ntmps35
    go_wp2_with (first | (go_at_call 47; (refine (feastDay_any _ _ _ h1 h2 h3 h4).mono ?_; rintro e w' ⟨rfl, hb⟩; obtain ⟨hc, hf⟩ := bcell hb; have hz := bsize hb; (first | (have hB := below_tt hB hb) | (have hB := below_tt (below_al hB _) hb) | (have hB := below_tt (below_al (below_al hB _) _) hb) | (have hB := hb)); obtain ⟨hc0, hf0⟩ := bcell hB; have hz0 := bsize hB; (first | (have h2 := below_tt hp hb; obtain ⟨hc2, hf2⟩ := bcell h2; have hz2 := bsize h2) | (have h2 := below_tt (below_al hp _) hb; obtain ⟨hc2, hf2⟩ := bcell h2; have hz2 := bsize h2) | skip); have hp := hb)) | (go_at_call 48; refine (weekdayOf_any _ _ (by omega) (by omega)).mono ?_; rintro e w' ⟨rfl, rfl⟩))
    go_ret
    exact ⟨ret_int (by rw [HW.out]; try omega), by (repeat' (first | (with_reducible exact Below.refl _ _) | (with_reducible assumption) | (with_reducible refine below_al ?_ _) | (with_reducible refine Below.drew ?_) | (with_reducible refine Below.setCell ?_ (by first | exact Nat.le_refl _ | (dsimp only; omega) | (simp; omega)) _) | (with_reducible refine below_drewN ?_ _) | (with_reducible refine below_tt ?_ (by assumption))))⟩
  have HW := Lib.hid (HV.out.2.2.2.2 ⟨r1, r2, r3, r4⟩)
  clear HV
  go_enter Tryd.func35, Tryd.ntmps35
  go_wp2_with (go_at_call 47; (refine (feastDay_any _ _ _ h1 h2 h3 h4).mono ?_; rintro e w' ⟨rfl, hb⟩; obtain ⟨hc, hf⟩ := bcell hb; have hz := bsize hb; (first | (have hB := below_tt hB hb) | (have hB := below_tt (below_al hB _) hb) | (have hB := below_tt (below_al (below_al hB _) _) hb) | (have hB := hb)); obtain ⟨hc0, hf0⟩ := bcell hB; have hz0 := bsize hB; (first | (have h2 := below_tt hp hb; obtain ⟨hc2, hf2⟩ := bcell h2; have hz2 := bsize h2) | (have h2 := below_tt (below_al hp _) hb; obtain ⟨hc2, hf2⟩ := bcell h2; have hz2 := bsize h2) | skip); have hp := hb))
  go_ret
  exact ⟨ret_int (by rw [HW.out]), by (repeat' (first | (with_reducible exact Below.refl _ _) | (with_reducible assumption) | (with_reducible refine below_al ?_ _) | (with_reducible refine Below.drew ?_) | (with_reducible refine Below.setCell ?_ (by first | exact Nat.le_refl _ | (dsimp only; omega) | (simp; omega)) _) | (with_reducible refine below_drewN ?_ _) | (with_reducible refine below_tt ?_ (by assumption))))⟩
set_option maxHeartbeats 1000000 in
theorem l05Related_any (f r d y : Int) (w : World) (h1 : 0 ≤ f) (h2 : f ≤ 19) (h3 : 1 ≤ y) (h4 : y ≤ 2000) (hd1 : 0 ≤ d) (hd2 : d ≤ 6) :
    Calls Tryd.prog 38 #[.int .i64 f, .int .i64 r, .int .i64 d, .int .i64 y] w fun e w' => e = .returned (.int .i64 (relI f r d y)) ∧ Below w.heap.size w w' := by
  have rg := cell_rg; have l2 : ∀ n : Nat, n < n + 1 + 1 := (fun _ => by omega); have l3 : ∀ n : Nat, n < n + 1 + 1 + 1 := (fun _ => by omega); have l4 : ∀ n : Nat, n < n + 1 + 1 + 1 + 1 := (fun _ => by omega)
  have hn := feast_day h1 h2 h3 h4
  have HV := Lib.hid (relI_five f r d y)
  obtain ⟨hn1, hn2⟩ := hn
  by_cases r1 : r = 1
  · have HW := Lib.hid (HV.out.1 r1)
    clear HV
    subst r1
    go_enter Tryd.func38, Tryd.ntmps38
    go_wp2_with (go_at_call 40; (refine (l05Day_any _ _ _ h1 h2 h3 h4).mono ?_; rintro e w' ⟨rfl, hb⟩; obtain ⟨hc, hf⟩ := bcell hb; have hz := bsize hb; (first | (have hB := below_tt hB hb) | (have hB := below_tt (below_al hB _) hb) | (have hB := below_tt (below_al (below_al hB _) _) hb) | (have hB := hb)); obtain ⟨hc0, hf0⟩ := bcell hB; have hz0 := bsize hB; (first | (have h2 := below_tt hp hb; obtain ⟨hc2, hf2⟩ := bcell h2; have hz2 := bsize h2) | (have h2 := below_tt (below_al hp _) hb; obtain ⟨hc2, hf2⟩ := bcell h2; have hz2 := bsize h2) | skip); have hp := hb))
    go_ret
    exact ⟨ret_int (by rw [HW.out]), by (repeat' (first | (with_reducible exact Below.refl _ _) | (with_reducible assumption) | (with_reducible refine below_al ?_ _) | (with_reducible refine Below.drew ?_) | (with_reducible refine Below.setCell ?_ (by first | exact Nat.le_refl _ | (dsimp only; omega) | (simp; omega)) _) | (with_reducible refine below_drewN ?_ _) | (with_reducible refine below_tt ?_ (by assumption))))⟩
  by_cases r2 : r = 2
  · have HW := Lib.hid (HV.out.2.1 r2)
    clear HV
    subst r2
    go_enter Tryd.func38, Tryd.ntmps38
    go_wp2_with (go_at_call 40; (refine (l05Day_any _ _ _ h1 h2 h3 h4).mono ?_; rintro e w' ⟨rfl, hb⟩; obtain ⟨hc, hf⟩ := bcell hb; have hz := bsize hb; (first | (have hB := below_tt hB hb) | (have hB := below_tt (below_al hB _) hb) | (have hB := below_tt (below_al (below_al hB _) _) hb) | (have hB := hb)); obtain ⟨hc0, hf0⟩ := bcell hB; have hz0 := bsize hB; (first | (have h2 := below_tt hp hb; obtain ⟨hc2, hf2⟩ := bcell h2; have hz2 := bsize h2) | (have h2 := below_tt (below_al hp _) hb; obtain ⟨hc2, hf2⟩ := bcell h2; have hz2 := bsize h2) | skip); have hp := hb))
    go_ret
    exact ⟨ret_int (by rw [HW.out]), by (repeat' (first | (with_reducible exact Below.refl _ _) | (with_reducible assumption) | (with_reducible refine below_al ?_ _) | (with_reducible refine Below.drew ?_) | (with_reducible refine Below.setCell ?_ (by first | exact Nat.le_refl _ | (dsimp only; omega) | (simp; omega)) _) | (with_reducible refine below_drewN ?_ _) | (with_reducible refine below_tt ?_ (by assumption))))⟩
  by_cases r3 : r = 3
  · have HW := Lib.hid (HV.out.2.2.1 r3)
    clear HV
    subst r3
    go_enter Tryd.func38, Tryd.ntmps38
    go_wp2_with (first | (go_at_call 40; (refine (l05Day_any _ _ _ h1 h2 h3 h4).mono ?_; rintro e w' ⟨rfl, hb⟩; obtain ⟨hc, hf⟩ := bcell hb; have hz := bsize hb; (first | (have hB := below_tt hB hb) | (have hB := below_tt (below_al hB _) hb) | (have hB := below_tt (below_al (below_al hB _) _) hb) | (have hB := hb)); obtain ⟨hc0, hf0⟩ := bcell hB; have hz0 := bsize hB; (first | (have h2 := below_tt hp hb; obtain ⟨hc2, hf2⟩ := bcell h2; have hz2 := bsize h2) | (have h2 := below_tt (below_al hp _) hb; obtain ⟨hc2, hf2⟩ := bcell h2; have hz2 := bsize h2) | skip); have hp := hb)) | (go_at_call 53; refine (l01Weekday_any _ _ (by omega) (by omega)).mono ?_; rintro e w' ⟨rfl, rfl⟩))
    go_ret
    exact ⟨ret_int (by rw [HW.out]; try omega), by (repeat' (first | (with_reducible exact Below.refl _ _) | (with_reducible assumption) | (with_reducible refine below_al ?_ _) | (with_reducible refine Below.drew ?_) | (with_reducible refine Below.setCell ?_ (by first | exact Nat.le_refl _ | (dsimp only; omega) | (simp; omega)) _) | (with_reducible refine below_drewN ?_ _) | (with_reducible refine below_tt ?_ (by assumption))))⟩
  by_cases r4 : r = 4
  · have HW := Lib.hid (HV.out.2.2.2.1 r4)
    clear HV
    subst r4
    go_enter Tryd.func38, Tryd.ntmps38
    go_wp2_with (first | (go_at_call 40; (refine (l05Day_any _ _ _ h1 h2 h3 h4).mono ?_; rintro e w' ⟨rfl, hb⟩; obtain ⟨hc, hf⟩ := bcell hb; have hz := bsize hb; (first | (have hB := below_tt hB hb) | (have hB := below_tt (below_al hB _) hb) | (have hB := below_tt (below_al (below_al hB _) _) hb) | (have hB := hb)); obtain ⟨hc0, hf0⟩ := bcell hB; have hz0 := bsize hB; (first | (have h2 := below_tt hp hb; obtain ⟨hc2, hf2⟩ := bcell h2; have hz2 := bsize h2) | (have h2 := below_tt (below_al hp _) hb; obtain ⟨hc2, hf2⟩ := bcell h2; have hz2 := bsize h2) | skip); have hp := hb)) | (go_at_call 53; refine (l01Weekday_any _ _ (by omega) (by omega)).mono ?_; rintro e w' ⟨rfl, rfl⟩))
    go_ret
    exact ⟨ret_int (by rw [HW.out]; try omega), by (repeat' (first | (with_reducible exact Below.refl _ _) | (with_reducible assumption) | (with_reducible refine below_al ?_ _) | (with_reducible refine Below.drew ?_) | (with_reducible refine Below.setCell ?_ (by first | exact Nat.le_refl _ | (dsimp only; omega) | (simp; omega)) _) | (with_reducible refine below_drewN ?_ _) | (with_reducible refine below_tt ?_ (by assumption))))⟩
  have HW := Lib.hid (HV.out.2.2.2.2 ⟨r1, r2, r3, r4⟩)
  clear HV
  go_enter Tryd.func38, Tryd.ntmps38
  go_wp2_with (go_at_call 40; (refine (l05Day_any _ _ _ h1 h2 h3 h4).mono ?_; rintro e w' ⟨rfl, hb⟩; obtain ⟨hc, hf⟩ := bcell hb; have hz := bsize hb; (first | (have hB := below_tt hB hb) | (have hB := below_tt (below_al hB _) hb) | (have hB := below_tt (below_al (below_al hB _) _) hb) | (have hB := hb)); obtain ⟨hc0, hf0⟩ := bcell hB; have hz0 := bsize hB; (first | (have h2 := below_tt hp hb; obtain ⟨hc2, hf2⟩ := bcell h2; have hz2 := bsize h2) | (have h2 := below_tt (below_al hp _) hb; obtain ⟨hc2, hf2⟩ := bcell h2; have hz2 := bsize h2) | skip); have hp := hb))
  go_ret
  exact ⟨ret_int (by rw [HW.out]), by (repeat' (first | (with_reducible exact Below.refl _ _) | (with_reducible assumption) | (with_reducible refine below_al ?_ _) | (with_reducible refine Below.drew ?_) | (with_reducible refine Below.setCell ?_ (by first | exact Nat.le_refl _ | (dsimp only; omega) | (simp; omega)) _) | (with_reducible refine below_drewN ?_ _) | (with_reducible refine below_tt ?_ (by assumption))))⟩

theorem relR_no {f r d y : Int} (h : relB f r d = false ∨ inR y 1 2000 = false) : relR f r d y = (0, 2) := by
  unfold relR; rcases h with h | h <;> simp [h]
theorem relR_yes {f r d y : Int} {b : Bool} (h : relB f r d = true) (k : inR y 1 2000 = true) (hb : inR (relI f r d y) 0 730499 = b) : relR f r d y = (if b = true then relI f r d y else 0, if b = true then 0 else 4) := by
  unfold relR; rw [if_pos ⟨h, k⟩, hb]; cases b <;> rfl
set_option maxHeartbeats 1000000 in
theorem implRelatedDay_any (f r d y : Int) (w : World) :
    Calls Tryd.prog 12 #[.int .i64 f, .int .i64 r, .int .i64 d, .int .i64 y] w fun e w' => e = .returned (.tuple #[.int .i64 (relR f r d y).1, .int .i64 (relR f r d y).2]) ∧ Below w.heap.size w w' := by
  have rg := cell_rg; have l2 : ∀ n : Nat, n < n + 1 + 1 := (fun _ => by omega); have l3 : ∀ n : Nat, n < n + 1 + 1 + 1 := (fun _ => by omega); have l4 : ∀ n : Nat, n < n + 1 + 1 + 1 + 1 := (fun _ => by omega)
  cases hb : relB f r d
  · have HV := Lib.hid (relR_no (y := y) (Or.inl hb))
    have h1 := Lib.hid hb
    clear hb
    go_enter Tryd.func12, Tryd.ntmps12
    go_wp2_with (go_at_call 32; refine (isRelation_is h1.out _).mono ?_; rintro e w' ⟨rfl, rfl⟩)
    go_ret2
    exact ⟨by rw [HV.out]; rfl, by (repeat' (first | (with_reducible exact Below.refl _ _) | (with_reducible assumption) | (with_reducible refine below_al ?_ _) | (with_reducible refine Below.drew ?_) | (with_reducible refine Below.setCell ?_ (by first | exact Nat.le_refl _ | (dsimp only; omega) | (simp; omega)) _) | (with_reducible refine below_drewN ?_ _) | (with_reducible refine below_tt ?_ (by assumption))))⟩
  · cases hy : inR y 1 2000
    · have HV := Lib.hid (relR_no (f := f) (r := r) (d := d) (Or.inr hy))
      have h1 := Lib.hid hb
      have h2 := Lib.hid hy
      clear hb hy
      go_enter Tryd.func12, Tryd.ntmps12
      go_wp2_with (first | (go_at_call 32; refine (isRelation_is h1.out _).mono ?_; rintro e w' ⟨rfl, rfl⟩) | (go_at_call 33; refine (isYear_is h2.out _).mono ?_; rintro e w' ⟨rfl, rfl⟩))
      go_ret2
      exact ⟨by rw [HV.out]; rfl, by (repeat' (first | (with_reducible exact Below.refl _ _) | (with_reducible assumption) | (with_reducible refine below_al ?_ _) | (with_reducible refine Below.drew ?_) | (with_reducible refine Below.setCell ?_ (by first | exact Nat.le_refl _ | (dsimp only; omega) | (simp; omega)) _) | (with_reducible refine below_drewN ?_ _) | (with_reducible refine below_tt ?_ (by assumption))))⟩
    · cases hin : inR (relI f r d y) 0 730499
      all_goals
        have HV := Lib.hid (relR_yes hb hy hin)
        have k1 := inR_t (relB_t hb).1
        have k2 := relB2_t (relB_t hb).2
        have k3 := inR_t hy
        have h1 := Lib.hid hb
        have h2 := Lib.hid hy
        have h3 := Lib.hid hin
        clear hb hy hin
        obtain ⟨k11, k12⟩ := k1
        obtain ⟨_, _, k21, k22, _⟩ := k2
        obtain ⟨k31, k32⟩ := k3
        go_enter Tryd.func12, Tryd.ntmps12
        go_wp2_with (first | (go_at_call 32; refine (isRelation_is h1.out _).mono ?_; rintro e w' ⟨rfl, rfl⟩) | (go_at_call 33; refine (isYear_is h2.out _).mono ?_; rintro e w' ⟨rfl, rfl⟩) | (go_at_call 35; (refine (relatedDay_any _ _ _ _ _ k11 k12 k31 k32 k21 k22).mono ?_; rintro e w' ⟨rfl, hb⟩; obtain ⟨hc, hf⟩ := bcell hb; have hz := bsize hb; (first | (have hB := below_tt hB hb) | (have hB := below_tt (below_al hB _) hb) | (have hB := below_tt (below_al (below_al hB _) _) hb) | (have hB := hb)); obtain ⟨hc0, hf0⟩ := bcell hB; have hz0 := bsize hB; (first | (have h2 := below_tt hp hb; obtain ⟨hc2, hf2⟩ := bcell h2; have hz2 := bsize h2) | (have h2 := below_tt (below_al hp _) hb; obtain ⟨hc2, hf2⟩ := bcell h2; have hz2 := bsize h2) | skip); have hp := hb)) | (go_at_call 34; refine (dayOr_is h3.out _).mono ?_; rintro e w' ⟨rfl, rfl⟩))
        go_ret2
        exact ⟨by rw [HV.out]; rfl, by (repeat' (first | (with_reducible exact Below.refl _ _) | (with_reducible assumption) | (with_reducible refine below_al ?_ _) | (with_reducible refine Below.drew ?_) | (with_reducible refine Below.setCell ?_ (by first | exact Nat.le_refl _ | (dsimp only; omega) | (simp; omega)) _) | (with_reducible refine below_drewN ?_ _) | (with_reducible refine below_tt ?_ (by assumption))))⟩
set_option maxHeartbeats 1000000 in
theorem specRelatedDay_any (f r d y : Int) (w : World) :
    Calls Tryd.prog 13 #[.int .i64 f, .int .i64 r, .int .i64 d, .int .i64 y] w fun e w' => e = .returned (.tuple #[.int .i64 (relR f r d y).1, .int .i64 (relR f r d y).2]) ∧ Below w.heap.size w w' := by
  have rg := cell_rg; have l2 : ∀ n : Nat, n < n + 1 + 1 := (fun _ => by omega); have l3 : ∀ n : Nat, n < n + 1 + 1 + 1 := (fun _ => by omega); have l4 : ∀ n : Nat, n < n + 1 + 1 + 1 + 1 := (fun _ => by omega)
  cases hf : inR f 0 19
  · have HV := Lib.hid (relR_no (f := f) (r := r) (d := d) (y := y) (Or.inl (by unfold relB; rw [hf]; rfl)))
    have h1 := Lib.hid hf
    clear hf
    go_enter Tryd.func13, Tryd.ntmps13
    go_wp2_with (go_at_call 23; refine (l05Feast_is h1.out _).mono ?_; rintro e w' ⟨rfl, rfl⟩)
    go_ret2
    exact ⟨by rw [HV.out]; rfl, by (repeat' (first | (with_reducible exact Below.refl _ _) | (with_reducible assumption) | (with_reducible refine below_al ?_ _) | (with_reducible refine Below.drew ?_) | (with_reducible refine Below.setCell ?_ (by first | exact Nat.le_refl _ | (dsimp only; omega) | (simp; omega)) _) | (with_reducible refine below_drewN ?_ _) | (with_reducible refine below_tt ?_ (by assumption))))⟩
  · cases hy : inR y 1 2000
    · have HV := Lib.hid (relR_no (f := f) (r := r) (d := d) (y := y) (Or.inr hy))
      have h1 := Lib.hid hf
      have h2 := Lib.hid hy
      clear hf hy
      go_enter Tryd.func13, Tryd.ntmps13
      go_wp2_with (first | (go_at_call 23; refine (l05Feast_is h1.out _).mono ?_; rintro e w' ⟨rfl, rfl⟩) | (go_at_call 36; refine (l04Year_is h2.out _).mono ?_; rintro e w' ⟨rfl, rfl⟩))
      go_ret2
      exact ⟨by rw [HV.out]; rfl, by (repeat' (first | (with_reducible exact Below.refl _ _) | (with_reducible assumption) | (with_reducible refine below_al ?_ _) | (with_reducible refine Below.drew ?_) | (with_reducible refine Below.setCell ?_ (by first | exact Nat.le_refl _ | (dsimp only; omega) | (simp; omega)) _) | (with_reducible refine below_drewN ?_ _) | (with_reducible refine below_tt ?_ (by assumption))))⟩
    · cases hr : relB2 r d
      · have HV := Lib.hid (relR_no (f := f) (r := r) (d := d) (y := y) (Or.inl (by unfold relB; rw [hf, hr]; rfl)))
        have h1 := Lib.hid hf
        have h2 := Lib.hid hy
        have h3 := Lib.hid hr
        clear hf hy hr
        go_enter Tryd.func13, Tryd.ntmps13
        go_wp2_with (first | (go_at_call 23; refine (l05Feast_is h1.out _).mono ?_; rintro e w' ⟨rfl, rfl⟩) | (go_at_call 36; refine (l04Year_is h2.out _).mono ?_; rintro e w' ⟨rfl, rfl⟩) | (go_at_call 37; refine (l05Relation_is h3.out _).mono ?_; rintro e w' ⟨rfl, rfl⟩))
        go_ret2
        exact ⟨by rw [HV.out]; rfl, by (repeat' (first | (with_reducible exact Below.refl _ _) | (with_reducible assumption) | (with_reducible refine below_al ?_ _) | (with_reducible refine Below.drew ?_) | (with_reducible refine Below.setCell ?_ (by first | exact Nat.le_refl _ | (dsimp only; omega) | (simp; omega)) _) | (with_reducible refine below_drewN ?_ _) | (with_reducible refine below_tt ?_ (by assumption))))⟩
      · cases hin : inR (relI f r d y) 0 730499
        all_goals
          have HV := Lib.hid (relR_yes (by unfold relB; rw [hf, hr]; rfl) hy hin)
          have k1 := inR_t hf
          have k2 := relB2_t hr
          have k3 := inR_t hy
          have h1 := Lib.hid hf
          have h2 := Lib.hid hy
          have h3 := Lib.hid hr
          have h4 := Lib.hid hin
          clear hf hy hr hin
          obtain ⟨k11, k12⟩ := k1
          obtain ⟨_, _, k21, k22, _⟩ := k2
          obtain ⟨k31, k32⟩ := k3
          go_enter Tryd.func13, Tryd.ntmps13
          go_wp2_with (first | (go_at_call 23; refine (l05Feast_is h1.out _).mono ?_; rintro e w' ⟨rfl, rfl⟩) | (go_at_call 36; refine (l04Year_is h2.out _).mono ?_; rintro e w' ⟨rfl, rfl⟩) | (go_at_call 37; refine (l05Relation_is h3.out _).mono ?_; rintro e w' ⟨rfl, rfl⟩) | (go_at_call 38; (refine (l05Related_any _ _ _ _ _ k11 k12 k31 k32 k21 k22).mono ?_; rintro e w' ⟨rfl, hb⟩; obtain ⟨hc, hf⟩ := bcell hb; have hz := bsize hb; (first | (have hB := below_tt hB hb) | (have hB := below_tt (below_al hB _) hb) | (have hB := below_tt (below_al (below_al hB _) _) hb) | (have hB := hb)); obtain ⟨hc0, hf0⟩ := bcell hB; have hz0 := bsize hB; (first | (have h2 := below_tt hp hb; obtain ⟨hc2, hf2⟩ := bcell h2; have hz2 := bsize h2) | (have h2 := below_tt (below_al hp _) hb; obtain ⟨hc2, hf2⟩ := bcell h2; have hz2 := bsize h2) | skip); have hp := hb)) | (go_at_call 39; refine (l01Day_is h4.out _).mono ?_; rintro e w' ⟨rfl, rfl⟩))
          go_ret2
          exact ⟨by rw [HV.out]; rfl, by (repeat' (first | (with_reducible exact Below.refl _ _) | (with_reducible assumption) | (with_reducible refine below_al ?_ _) | (with_reducible refine Below.drew ?_) | (with_reducible refine Below.setCell ?_ (by first | exact Nat.le_refl _ | (dsimp only; omega) | (simp; omega)) _) | (with_reducible refine below_drewN ?_ _) | (with_reducible refine below_tt ?_ (by assumption))))⟩

end Go.Proofs.YtnjfpipadfcapaaDoor
