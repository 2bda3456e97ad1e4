/- The exported functions of one number or one date, on both sides. -/
import Derived.Test.YticnkjpgjcddcaaEast
namespace Go.Proofs.Yticnkjpgjcddcaa
open Go.RowKit

/-! What each returns. -/
def goldR (y : Int) : Int × Int := if inR y 1 2000 = true then (y % 19 + 1, 0) else (0, 2)
def weekR (n : Int) : Int × Int := if inR n 0 730499 = true then ((n + 5) % 7, 0) else (0, 2)
def dayR (y m d : Int) (f : Bool) : Int × Int := if valid y m d f = true then (num y m d f, 0) else (0, 1)
def termR (y : Int) : Int × Int := if inR y 1 2000 = true then (num y 3 21 false + moon y, 0) else (0, 2)
def oeastR (y : Int) : Int × Int := if inR y 1 2000 = true then (oeaster y, 0) else (0, 2)
def neastR (y : Int) : Int × Int := if inR y 1583 2000 = true then (neaster y, 0) else (0, 2)
def letter (y : Int) : Int := 6 - (nyear y false + 5) % 7
def lettR (y : Int) : Int × Int × Int := if inR y 1 2000 = true then (if leap y false = true then (letter y, (letter y + 6) % 7, 0) else (letter y, letter y, 0)) else (0, 0, 2)
theorem num_jan (y : Int) (f : Bool) : num y 1 1 f = nyear y f := by unfold num; rw [cum_one]; omega

theorem implGoldenNumber_any (y : Int) (w : World) :
    Calls Try.prog 47 #[.int .i64 y] w fun e w' => e = .returned (.tuple #[.int .i64 (goldR y).1, .int .i64 (goldR y).2]) ∧ Below w.heap.size w w' := by
  cases hy : inR y 1 2000
  · have hyy : Hid (inR y 1 2000 = false) := hy
    have hv : Hid (goldR y = (0, 2)) := by unfold goldR Hid; rw [hy]; rfl
    clear hy
    go_enter Try.func47, Try.ntmps47
    go_wp2_with (go_at_call 91; refine (isYear_is hyy.out _).mono ?_; rintro e w' ⟨rfl, rfl⟩)
    go_ret2
    exact ⟨by rw [hv.out]; rfl, by (repeat' (first | (with_reducible exact Below.refl _ _) | (with_reducible assumption) | (with_reducible refine below_al ?_ _) | (with_reducible refine Below.drew ?_) | (with_reducible refine Below.setCell ?_ (by first | exact Nat.le_refl _ | (dsimp only; omega) | (simp; omega)) _) | (with_reducible refine below_drewN ?_ _) | (with_reducible refine below_tt ?_ (by assumption))))⟩
  · have hyy : Hid (inR y 1 2000 = true) := hy
    have hb := inR_t hy
    obtain ⟨hb1, hb2⟩ := hb
    have hv : Hid (goldR y = (y % 19 + 1, 0)) := by unfold goldR Hid; rw [hy]; rfl
    clear hy
    go_enter Try.func47, Try.ntmps47
    go_wp2_with (first | (go_at_call 91; refine (isYear_is hyy.out _).mono ?_; rintro e w' ⟨rfl, rfl⟩) )
    go_ret2
    exact ⟨by rw [hv.out]; rfl, by (repeat' (first | (with_reducible exact Below.refl _ _) | (with_reducible assumption) | (with_reducible refine below_al ?_ _) | (with_reducible refine Below.drew ?_) | (with_reducible refine Below.setCell ?_ (by first | exact Nat.le_refl _ | (dsimp only; omega) | (simp; omega)) _) | (with_reducible refine below_drewN ?_ _) | (with_reducible refine below_tt ?_ (by assumption))))⟩

theorem specGoldenNumber_any (y : Int) (w : World) :
    Calls Try.prog 48 #[.int .i64 y] w fun e w' => e = .returned (.tuple #[.int .i64 (goldR y).1, .int .i64 (goldR y).2]) ∧ Below w.heap.size w w' := by
  cases hy : inR y 1 2000
  · have hyy : Hid (inR y 1 2000 = false) := hy
    have hv : Hid (goldR y = (0, 2)) := by unfold goldR Hid; rw [hy]; rfl
    clear hy
    go_enter Try.func48, Try.ntmps48
    go_wp2_with (go_at_call 87; refine (l04Year_is hyy.out _).mono ?_; rintro e w' ⟨rfl, rfl⟩)
    go_ret2
    exact ⟨by rw [hv.out]; rfl, by (repeat' (first | (with_reducible exact Below.refl _ _) | (with_reducible assumption) | (with_reducible refine below_al ?_ _) | (with_reducible refine Below.drew ?_) | (with_reducible refine Below.setCell ?_ (by first | exact Nat.le_refl _ | (dsimp only; omega) | (simp; omega)) _) | (with_reducible refine below_drewN ?_ _) | (with_reducible refine below_tt ?_ (by assumption))))⟩
  · have hyy : Hid (inR y 1 2000 = true) := hy
    have hb := inR_t hy
    obtain ⟨hb1, hb2⟩ := hb
    have hv : Hid (goldR y = (y % 19 + 1, 0)) := by unfold goldR Hid; rw [hy]; rfl
    clear hy
    go_enter Try.func48, Try.ntmps48
    go_wp2_with (first | (go_at_call 87; refine (l04Year_is hyy.out _).mono ?_; rintro e w' ⟨rfl, rfl⟩) )
    go_ret2
    exact ⟨by rw [hv.out]; rfl, by (repeat' (first | (with_reducible exact Below.refl _ _) | (with_reducible assumption) | (with_reducible refine below_al ?_ _) | (with_reducible refine Below.drew ?_) | (with_reducible refine Below.setCell ?_ (by first | exact Nat.le_refl _ | (dsimp only; omega) | (simp; omega)) _) | (with_reducible refine below_drewN ?_ _) | (with_reducible refine below_tt ?_ (by assumption))))⟩

theorem implEasterTerm_any (y : Int) (w : World) :
    Calls Try.prog 54 #[.int .i64 y] w fun e w' => e = .returned (.tuple #[.int .i64 (termR y).1, .int .i64 (termR y).2]) ∧ Below w.heap.size w w' := by
  cases hy : inR y 1 2000
  · have hyy : Hid (inR y 1 2000 = false) := hy
    have hv : Hid (termR y = (0, 2)) := by unfold termR Hid; rw [hy]; rfl
    clear hy
    go_enter Try.func54, Try.ntmps54
    go_wp2_with (go_at_call 91; refine (isYear_is hyy.out _).mono ?_; rintro e w' ⟨rfl, rfl⟩)
    go_ret2
    exact ⟨by rw [hv.out]; rfl, by (repeat' (first | (with_reducible exact Below.refl _ _) | (with_reducible assumption) | (with_reducible refine below_al ?_ _) | (with_reducible refine Below.drew ?_) | (with_reducible refine Below.setCell ?_ (by first | exact Nat.le_refl _ | (dsimp only; omega) | (simp; omega)) _) | (with_reducible refine below_drewN ?_ _) | (with_reducible refine below_tt ?_ (by assumption))))⟩
  · have hyy : Hid (inR y 1 2000 = true) := hy
    have hb := inR_t hy
    obtain ⟨hb1, hb2⟩ := hb
    have hm := moon_bd y hb1
    have hcm := cum_bd y 3 false (by omega) (by omega)
    have hnb := nyear_lo y false hb1 (by omega)
    have hnn : 0 ≤ num y 3 21 false ∧ num y 3 21 false ≤ 100000000 := by unfold num; omega
    have hv : Hid (termR y = (num y 3 21 false + moon y, 0)) := by unfold termR Hid; rw [hy]; rfl
    clear hy
    go_enter Try.func54, Try.ntmps54
    go_wp2_with (first | (go_at_call 91; refine (isYear_is hyy.out _).mono ?_; rintro e w' ⟨rfl, rfl⟩) | (go_at_call 116; (refine (dayOf_any _ _ _ _ _ (by omega) (by omega) (by omega) (by omega) (by omega) (by omega)).mono ?_; rintro e w' ⟨rfl, hb⟩; obtain ⟨hc, hf⟩ := bcell hb; have hz := bsize hb; (first | (have hB := below_tt hB hb) | (have hB := below_tt (below_al hB _) hb) | (have hB := below_tt (below_al (below_al hB _) _) hb) | (have hB := hb)); obtain ⟨hc0, hf0⟩ := bcell hB; have hz0 := bsize hB; (first | (have h2 := below_tt hp hb; obtain ⟨hc2, hf2⟩ := bcell h2; have hz2 := bsize h2) | (have h2 := below_tt (below_al hp _) hb; obtain ⟨hc2, hf2⟩ := bcell h2; have hz2 := bsize h2) | skip); have hp := hb)) | (go_at_call 128; refine (moonDays_any _ _ hb1 hb2).mono ?_; rintro e w' ⟨rfl, rfl⟩))
    go_ret2
    exact ⟨by rw [hv.out]; rfl, by (repeat' (first | (with_reducible exact Below.refl _ _) | (with_reducible assumption) | (with_reducible refine below_al ?_ _) | (with_reducible refine Below.drew ?_) | (with_reducible refine Below.setCell ?_ (by first | exact Nat.le_refl _ | (dsimp only; omega) | (simp; omega)) _) | (with_reducible refine below_drewN ?_ _) | (with_reducible refine below_tt ?_ (by assumption))))⟩

theorem specEasterTerm_any (y : Int) (w : World) :
    Calls Try.prog 55 #[.int .i64 y] w fun e w' => e = .returned (.tuple #[.int .i64 (termR y).1, .int .i64 (termR y).2]) ∧ Below w.heap.size w w' := by
  cases hy : inR y 1 2000
  · have hyy : Hid (inR y 1 2000 = false) := hy
    have hv : Hid (termR y = (0, 2)) := by unfold termR Hid; rw [hy]; rfl
    clear hy
    go_enter Try.func55, Try.ntmps55
    go_wp2_with (go_at_call 87; refine (l04Year_is hyy.out _).mono ?_; rintro e w' ⟨rfl, rfl⟩)
    go_ret2
    exact ⟨by rw [hv.out]; rfl, by (repeat' (first | (with_reducible exact Below.refl _ _) | (with_reducible assumption) | (with_reducible refine below_al ?_ _) | (with_reducible refine Below.drew ?_) | (with_reducible refine Below.setCell ?_ (by first | exact Nat.le_refl _ | (dsimp only; omega) | (simp; omega)) _) | (with_reducible refine below_drewN ?_ _) | (with_reducible refine below_tt ?_ (by assumption))))⟩
  · have hyy : Hid (inR y 1 2000 = true) := hy
    have hb := inR_t hy
    obtain ⟨hb1, hb2⟩ := hb
    have hcm := cum_bd y 3 false (by omega) (by omega)
    have hnb := nyear_lo y false hb1 (by omega)
    have hnn : 0 ≤ num y 3 21 false ∧ num y 3 21 false ≤ 100000000 := by unfold num; omega
    have hv : Hid (termR y = (num y 3 21 false + (19 * (y % 19) + 15) % 30, 0)) := by unfold termR Hid; rw [hy]; rfl
    clear hy
    go_enter Try.func55, Try.ntmps55
    go_wp2_with (first | (go_at_call 87; refine (l04Year_is hyy.out _).mono ?_; rintro e w' ⟨rfl, rfl⟩) | (go_at_call 117; (refine (l01Number_any _ _ _ _ _ (by omega) (by omega) (by omega) (by omega) (by omega) (by omega)).mono ?_; rintro e w' ⟨rfl, hb⟩; obtain ⟨hc, hf⟩ := bcell hb; have hz := bsize hb; (first | (have hB := below_tt hB hb) | (have hB := below_tt (below_al hB _) hb) | (have hB := below_tt (below_al (below_al hB _) _) hb) | (have hB := hb)); obtain ⟨hc0, hf0⟩ := bcell hB; have hz0 := bsize hB; (first | (have h2 := below_tt hp hb; obtain ⟨hc2, hf2⟩ := bcell h2; have hz2 := bsize h2) | (have h2 := below_tt (below_al hp _) hb; obtain ⟨hc2, hf2⟩ := bcell h2; have hz2 := bsize h2) | skip); have hp := hb)))
    go_ret2
    exact ⟨by rw [hv.out]; rfl, by (repeat' (first | (with_reducible exact Below.refl _ _) | (with_reducible assumption) | (with_reducible refine below_al ?_ _) | (with_reducible refine Below.drew ?_) | (with_reducible refine Below.setCell ?_ (by first | exact Nat.le_refl _ | (dsimp only; omega) | (simp; omega)) _) | (with_reducible refine below_drewN ?_ _) | (with_reducible refine below_tt ?_ (by assumption))))⟩

theorem implOldEaster_any (y : Int) (w : World) :
    Calls Try.prog 51 #[.int .i64 y] w fun e w' => e = .returned (.tuple #[.int .i64 (oeastR y).1, .int .i64 (oeastR y).2]) ∧ Below w.heap.size w w' := by
  cases hy : inR y 1 2000
  · have hyy : Hid (inR y 1 2000 = false) := hy
    have hv : Hid (oeastR y = (0, 2)) := by unfold oeastR Hid; rw [hy]; rfl
    clear hy
    go_enter Try.func51, Try.ntmps51
    go_wp2_with (go_at_call 91; refine (isYear_is hyy.out _).mono ?_; rintro e w' ⟨rfl, rfl⟩)
    go_ret2
    exact ⟨by rw [hv.out]; rfl, by (repeat' (first | (with_reducible exact Below.refl _ _) | (with_reducible assumption) | (with_reducible refine below_al ?_ _) | (with_reducible refine Below.drew ?_) | (with_reducible refine Below.setCell ?_ (by first | exact Nat.le_refl _ | (dsimp only; omega) | (simp; omega)) _) | (with_reducible refine below_drewN ?_ _) | (with_reducible refine below_tt ?_ (by assumption))))⟩
  · have hyy : Hid (inR y 1 2000 = true) := hy
    have hb := inR_t hy
    obtain ⟨hb1, hb2⟩ := hb
    have hv : Hid (oeastR y = (oeaster y, 0)) := by unfold oeastR Hid; rw [hy]; rfl
    clear hy
    go_enter Try.func51, Try.ntmps51
    go_wp2_with (first | (go_at_call 91; refine (isYear_is hyy.out _).mono ?_; rintro e w' ⟨rfl, rfl⟩) | (go_at_call 94; (refine (oldEaster_any _ _ hb1 hb2).mono ?_; rintro e w' ⟨rfl, hb⟩; obtain ⟨hc, hf⟩ := bcell hb; have hz := bsize hb; (first | (have hB := below_tt hB hb) | (have hB := below_tt (below_al hB _) hb) | (have hB := below_tt (below_al (below_al hB _) _) hb) | (have hB := hb)); obtain ⟨hc0, hf0⟩ := bcell hB; have hz0 := bsize hB; (first | (have h2 := below_tt hp hb; obtain ⟨hc2, hf2⟩ := bcell h2; have hz2 := bsize h2) | (have h2 := below_tt (below_al hp _) hb; obtain ⟨hc2, hf2⟩ := bcell h2; have hz2 := bsize h2) | skip); have hp := hb)))
    go_ret2
    exact ⟨by rw [hv.out]; rfl, by (repeat' (first | (with_reducible exact Below.refl _ _) | (with_reducible assumption) | (with_reducible refine below_al ?_ _) | (with_reducible refine Below.drew ?_) | (with_reducible refine Below.setCell ?_ (by first | exact Nat.le_refl _ | (dsimp only; omega) | (simp; omega)) _) | (with_reducible refine below_drewN ?_ _) | (with_reducible refine below_tt ?_ (by assumption))))⟩

theorem specOldEaster_any (y : Int) (w : World) :
    Calls Try.prog 53 #[.int .i64 y] w fun e w' => e = .returned (.tuple #[.int .i64 (oeastR y).1, .int .i64 (oeastR y).2]) ∧ Below w.heap.size w w' := by
  cases hy : inR y 1 2000
  · have hyy : Hid (inR y 1 2000 = false) := hy
    have hv : Hid (oeastR y = (0, 2)) := by unfold oeastR Hid; rw [hy]; rfl
    clear hy
    go_enter Try.func53, Try.ntmps53
    go_wp2_with (go_at_call 87; refine (l04Year_is hyy.out _).mono ?_; rintro e w' ⟨rfl, rfl⟩)
    go_ret2
    exact ⟨by rw [hv.out]; rfl, by (repeat' (first | (with_reducible exact Below.refl _ _) | (with_reducible assumption) | (with_reducible refine below_al ?_ _) | (with_reducible refine Below.drew ?_) | (with_reducible refine Below.setCell ?_ (by first | exact Nat.le_refl _ | (dsimp only; omega) | (simp; omega)) _) | (with_reducible refine below_drewN ?_ _) | (with_reducible refine below_tt ?_ (by assumption))))⟩
  · have hyy : Hid (inR y 1 2000 = true) := hy
    have hb := inR_t hy
    obtain ⟨hb1, hb2⟩ := hb
    have hm := oem_bd y hb1
    have hd := oed_bd y hb1
    have hv : Hid (oeastR y = (num y (oem y) (oed y) false, 0)) := by unfold oeastR Hid; rw [hy]; rfl
    clear hy
    go_enter Try.func53, Try.ntmps53
    go_wp2_with (first | (go_at_call 87; refine (l04Year_is hyy.out _).mono ?_; rintro e w' ⟨rfl, rfl⟩) | (go_at_call 90; (refine (l04Old_any _ _ hb1 hb2).mono ?_; rintro e w' ⟨rfl, hb⟩; obtain ⟨hc, hf⟩ := bcell hb; have hz := bsize hb; (first | (have hB := below_tt hB hb) | (have hB := below_tt (below_al hB _) hb) | (have hB := below_tt (below_al (below_al hB _) _) hb) | (have hB := hb)); obtain ⟨hc0, hf0⟩ := bcell hB; have hz0 := bsize hB; (first | (have h2 := below_tt hp hb; obtain ⟨hc2, hf2⟩ := bcell h2; have hz2 := bsize h2) | (have h2 := below_tt (below_al hp _) hb; obtain ⟨hc2, hf2⟩ := bcell h2; have hz2 := bsize h2) | skip); have hp := hb)) | (go_at_call 117; (refine (l01Number_any _ _ _ _ _ (by omega) (by omega) (by omega) (by omega) (by omega) (by omega)).mono ?_; rintro e w' ⟨rfl, hb⟩; obtain ⟨hc, hf⟩ := bcell hb; have hz := bsize hb; (first | (have hB := below_tt hB hb) | (have hB := below_tt (below_al hB _) hb) | (have hB := below_tt (below_al (below_al hB _) _) hb) | (have hB := hb)); obtain ⟨hc0, hf0⟩ := bcell hB; have hz0 := bsize hB; (first | (have h2 := below_tt hp hb; obtain ⟨hc2, hf2⟩ := bcell h2; have hz2 := bsize h2) | (have h2 := below_tt (below_al hp _) hb; obtain ⟨hc2, hf2⟩ := bcell h2; have hz2 := bsize h2) | skip); have hp := hb)))
    go_ret2
    exact ⟨by rw [hv.out]; rfl, by (repeat' (first | (with_reducible exact Below.refl _ _) | (with_reducible assumption) | (with_reducible refine below_al ?_ _) | (with_reducible refine Below.drew ?_) | (with_reducible refine Below.setCell ?_ (by first | exact Nat.le_refl _ | (dsimp only; omega) | (simp; omega)) _) | (with_reducible refine below_drewN ?_ _) | (with_reducible refine below_tt ?_ (by assumption))))⟩

theorem implNewEaster_any (y : Int) (w : World) :
    Calls Try.prog 57 #[.int .i64 y] w fun e w' => e = .returned (.tuple #[.int .i64 (neastR y).1, .int .i64 (neastR y).2]) ∧ Below w.heap.size w w' := by
  cases hy : inR y 1583 2000
  · have hyy : Hid (inR y 1583 2000 = false) := hy
    have hv : Hid (neastR y = (0, 2)) := by unfold neastR Hid; rw [hy]; rfl
    clear hy
    go_enter Try.func57, Try.ntmps57
    go_wp2_with (go_at_call 110; refine (within_is hyy.out _).mono ?_; rintro e w' ⟨rfl, rfl⟩)
    go_ret2
    exact ⟨by rw [hv.out]; rfl, by (repeat' (first | (with_reducible exact Below.refl _ _) | (with_reducible assumption) | (with_reducible refine below_al ?_ _) | (with_reducible refine Below.drew ?_) | (with_reducible refine Below.setCell ?_ (by first | exact Nat.le_refl _ | (dsimp only; omega) | (simp; omega)) _) | (with_reducible refine below_drewN ?_ _) | (with_reducible refine below_tt ?_ (by assumption))))⟩
  · have hyy : Hid (inR y 1583 2000 = true) := hy
    have hb := inR_t hy
    obtain ⟨hb1, hb2⟩ := hb
    have hv : Hid (neastR y = (neaster y, 0)) := by unfold neastR Hid; rw [hy]; rfl
    clear hy
    go_enter Try.func57, Try.ntmps57
    go_wp2_with (first | (go_at_call 110; refine (within_is hyy.out _).mono ?_; rintro e w' ⟨rfl, rfl⟩) | (go_at_call 129; (refine (newEaster_any _ _ hb1 hb2).mono ?_; rintro e w' ⟨rfl, hb⟩; obtain ⟨hc, hf⟩ := bcell hb; have hz := bsize hb; (first | (have hB := below_tt hB hb) | (have hB := below_tt (below_al hB _) hb) | (have hB := below_tt (below_al (below_al hB _) _) hb) | (have hB := hb)); obtain ⟨hc0, hf0⟩ := bcell hB; have hz0 := bsize hB; (first | (have h2 := below_tt hp hb; obtain ⟨hc2, hf2⟩ := bcell h2; have hz2 := bsize h2) | (have h2 := below_tt (below_al hp _) hb; obtain ⟨hc2, hf2⟩ := bcell h2; have hz2 := bsize h2) | skip); have hp := hb)))
    go_ret2
    exact ⟨by rw [hv.out]; rfl, by (repeat' (first | (with_reducible exact Below.refl _ _) | (with_reducible assumption) | (with_reducible refine below_al ?_ _) | (with_reducible refine Below.drew ?_) | (with_reducible refine Below.setCell ?_ (by first | exact Nat.le_refl _ | (dsimp only; omega) | (simp; omega)) _) | (with_reducible refine below_drewN ?_ _) | (with_reducible refine below_tt ?_ (by assumption))))⟩

theorem specNewEaster_any (y : Int) (w : World) :
    Calls Try.prog 58 #[.int .i64 y] w fun e w' => e = .returned (.tuple #[.int .i64 (neastR y).1, .int .i64 (neastR y).2]) ∧ Below w.heap.size w w' := by
  cases hy : inR y 1583 2000
  · have hyy : Hid (inR y 1583 2000 = false) := hy
    have hv : Hid (neastR y = (0, 2)) := by unfold neastR Hid; rw [hy]; rfl
    clear hy
    go_enter Try.func58, Try.ntmps58
    go_wp2_with (go_at_call 88; refine (l01In_is hyy.out _).mono ?_; rintro e w' ⟨rfl, rfl⟩)
    go_ret2
    exact ⟨by rw [hv.out]; rfl, by (repeat' (first | (with_reducible exact Below.refl _ _) | (with_reducible assumption) | (with_reducible refine below_al ?_ _) | (with_reducible refine Below.drew ?_) | (with_reducible refine Below.setCell ?_ (by first | exact Nat.le_refl _ | (dsimp only; omega) | (simp; omega)) _) | (with_reducible refine below_drewN ?_ _) | (with_reducible refine below_tt ?_ (by assumption))))⟩
  · have hyy : Hid (inR y 1583 2000 = true) := hy
    have hb := inR_t hy
    obtain ⟨hb1, hb2⟩ := hb
    have hv : Hid (neastR y = (neaster y, 0)) := by unfold neastR Hid; rw [hy]; rfl
    clear hy
    go_enter Try.func58, Try.ntmps58
    go_wp2_with (first | (go_at_call 88; refine (l01In_is hyy.out _).mono ?_; rintro e w' ⟨rfl, rfl⟩) | (go_at_call 130; (refine (l04New_any _ _ hb1 hb2).mono ?_; rintro e w' ⟨rfl, hb⟩; obtain ⟨hc, hf⟩ := bcell hb; have hz := bsize hb; (first | (have hB := below_tt hB hb) | (have hB := below_tt (below_al hB _) hb) | (have hB := below_tt (below_al (below_al hB _) _) hb) | (have hB := hb)); obtain ⟨hc0, hf0⟩ := bcell hB; have hz0 := bsize hB; (first | (have h2 := below_tt hp hb; obtain ⟨hc2, hf2⟩ := bcell h2; have hz2 := bsize h2) | (have h2 := below_tt (below_al hp _) hb; obtain ⟨hc2, hf2⟩ := bcell h2; have hz2 := bsize h2) | skip); have hp := hb)))
    go_ret2
    exact ⟨by rw [hv.out]; rfl, by (repeat' (first | (with_reducible exact Below.refl _ _) | (with_reducible assumption) | (with_reducible refine below_al ?_ _) | (with_reducible refine Below.drew ?_) | (with_reducible refine Below.setCell ?_ (by first | exact Nat.le_refl _ | (dsimp only; omega) | (simp; omega)) _) | (with_reducible refine below_drewN ?_ _) | (with_reducible refine below_tt ?_ (by assumption))))⟩

theorem implWeekdayOf_any (y : Int) (w : World) :
    Calls Try.prog 41 #[.int .i64 y] w fun e w' => e = .returned (.tuple #[.int .i64 (weekR y).1, .int .i64 (weekR y).2]) ∧ Below w.heap.size w w' := by
  cases hy : inR y 0 730499
  · have hyy : Hid (inR y 0 730499 = false) := hy
    have hv : Hid (weekR y = (0, 2)) := by unfold weekR Hid; rw [hy]; rfl
    clear hy
    go_enter Try.func41, Try.ntmps41
    go_wp2_with (go_at_call 104; refine (isDay_is hyy.out _).mono ?_; rintro e w' ⟨rfl, rfl⟩)
    go_ret2
    exact ⟨by rw [hv.out]; rfl, by (repeat' (first | (with_reducible exact Below.refl _ _) | (with_reducible assumption) | (with_reducible refine below_al ?_ _) | (with_reducible refine Below.drew ?_) | (with_reducible refine Below.setCell ?_ (by first | exact Nat.le_refl _ | (dsimp only; omega) | (simp; omega)) _) | (with_reducible refine below_drewN ?_ _) | (with_reducible refine below_tt ?_ (by assumption))))⟩
  · have hyy : Hid (inR y 0 730499 = true) := hy
    have hb := inR_t hy
    obtain ⟨hb1, hb2⟩ := hb
    have hv : Hid (weekR y = ((y + 5) % 7, 0)) := by unfold weekR Hid; rw [hy]; rfl
    clear hy
    go_enter Try.func41, Try.ntmps41
    go_wp2_with (first | (go_at_call 104; refine (isDay_is hyy.out _).mono ?_; rintro e w' ⟨rfl, rfl⟩) | (go_at_call 119; refine (weekdayOf_any _ _ hb1 (by omega)).mono ?_; rintro e w' ⟨rfl, rfl⟩))
    go_ret2
    exact ⟨by rw [hv.out]; rfl, by (repeat' (first | (with_reducible exact Below.refl _ _) | (with_reducible assumption) | (with_reducible refine below_al ?_ _) | (with_reducible refine Below.drew ?_) | (with_reducible refine Below.setCell ?_ (by first | exact Nat.le_refl _ | (dsimp only; omega) | (simp; omega)) _) | (with_reducible refine below_drewN ?_ _) | (with_reducible refine below_tt ?_ (by assumption))))⟩

theorem specWeekdayOf_any (y : Int) (w : World) :
    Calls Try.prog 42 #[.int .i64 y] w fun e w' => e = .returned (.tuple #[.int .i64 (weekR y).1, .int .i64 (weekR y).2]) ∧ Below w.heap.size w w' := by
  cases hy : inR y 0 730499
  · have hyy : Hid (inR y 0 730499 = false) := hy
    have hv : Hid (weekR y = (0, 2)) := by unfold weekR Hid; rw [hy]; rfl
    clear hy
    go_enter Try.func42, Try.ntmps42
    go_wp2_with (go_at_call 98; refine (l01Day_is hyy.out _).mono ?_; rintro e w' ⟨rfl, rfl⟩)
    go_ret2
    exact ⟨by rw [hv.out]; rfl, by (repeat' (first | (with_reducible exact Below.refl _ _) | (with_reducible assumption) | (with_reducible refine below_al ?_ _) | (with_reducible refine Below.drew ?_) | (with_reducible refine Below.setCell ?_ (by first | exact Nat.le_refl _ | (dsimp only; omega) | (simp; omega)) _) | (with_reducible refine below_drewN ?_ _) | (with_reducible refine below_tt ?_ (by assumption))))⟩
  · have hyy : Hid (inR y 0 730499 = true) := hy
    have hb := inR_t hy
    obtain ⟨hb1, hb2⟩ := hb
    have hv : Hid (weekR y = ((y + 5) % 7, 0)) := by unfold weekR Hid; rw [hy]; rfl
    clear hy
    go_enter Try.func42, Try.ntmps42
    go_wp2_with (first | (go_at_call 98; refine (l01Day_is hyy.out _).mono ?_; rintro e w' ⟨rfl, rfl⟩) | (go_at_call 120; refine (l01Weekday_any _ _ hb1 (by omega)).mono ?_; rintro e w' ⟨rfl, rfl⟩))
    go_ret2
    exact ⟨by rw [hv.out]; rfl, by (repeat' (first | (with_reducible exact Below.refl _ _) | (with_reducible assumption) | (with_reducible refine below_al ?_ _) | (with_reducible refine Below.drew ?_) | (with_reducible refine Below.setCell ?_ (by first | exact Nat.le_refl _ | (dsimp only; omega) | (simp; omega)) _) | (with_reducible refine below_drewN ?_ _) | (with_reducible refine below_tt ?_ (by assumption))))⟩

theorem implOldDay_any (y m d : Int) (w : World) :
    Calls Try.prog 35 #[.agg #[.int .i64 y, .int .i64 m, .int .i64 d]] w fun e w' => e = .returned (.tuple #[.int .i64 (dayR y m d false).1, .int .i64 (dayR y m d false).2]) ∧ Below w.heap.size w w' := by
  cases hy : valid y m d false
  · have hyy : Hid (valid y m d false = false) := hy
    have hv : Hid (dayR y m d false = (0, 1)) := by unfold dayR Hid; rw [hy]; rfl
    clear hy
    go_enter Try.func35, Try.ntmps35
    go_wp2_with (go_at_call 43; (refine (implIsOldDate_is hyy.out _).mono ?_; rintro e w' ⟨rfl, hb⟩; obtain ⟨hc, hf⟩ := bcell hb; have hz := bsize hb; (first | (have hB := below_tt hB hb) | (have hB := below_tt (below_al hB _) hb) | (have hB := below_tt (below_al (below_al hB _) _) hb) | (have hB := hb)); obtain ⟨hc0, hf0⟩ := bcell hB; have hz0 := bsize hB; (first | (have h2 := below_tt hp hb; obtain ⟨hc2, hf2⟩ := bcell h2; have hz2 := bsize h2) | (have h2 := below_tt (below_al hp _) hb; obtain ⟨hc2, hf2⟩ := bcell h2; have hz2 := bsize h2) | skip); have hp := hb))
    go_ret2
    exact ⟨by rw [hv.out]; rfl, by (repeat' (first | (with_reducible exact Below.refl _ _) | (with_reducible assumption) | (with_reducible refine below_al ?_ _) | (with_reducible refine Below.drew ?_) | (with_reducible refine Below.setCell ?_ (by first | exact Nat.le_refl _ | (dsimp only; omega) | (simp; omega)) _) | (with_reducible refine below_drewN ?_ _) | (with_reducible refine below_tt ?_ (by assumption))))⟩
  · have hyy : Hid (valid y m d false = true) := hy
    have hb := valid_t hy
    have hl := mlen_bd y m false
    have hv : Hid (dayR y m d false = (num y m d false, 0)) := by unfold dayR Hid; rw [hy]; rfl
    clear hy
    go_enter Try.func35, Try.ntmps35
    go_wp2_with (first | (go_at_call 43; (refine (implIsOldDate_is hyy.out _).mono ?_; rintro e w' ⟨rfl, hb⟩; obtain ⟨hc, hf⟩ := bcell hb; have hz := bsize hb; (first | (have hB := below_tt hB hb) | (have hB := below_tt (below_al hB _) hb) | (have hB := below_tt (below_al (below_al hB _) _) hb) | (have hB := hb)); obtain ⟨hc0, hf0⟩ := bcell hB; have hz0 := bsize hB; (first | (have h2 := below_tt hp hb; obtain ⟨hc2, hf2⟩ := bcell h2; have hz2 := bsize h2) | (have h2 := below_tt (below_al hp _) hb; obtain ⟨hc2, hf2⟩ := bcell h2; have hz2 := bsize h2) | skip); have hp := hb)) | (go_at_call 116; (refine (dayOf_any _ _ _ _ _ (by omega) (by omega) (by omega) (by omega) (by omega) (by omega)).mono ?_; rintro e w' ⟨rfl, hb⟩; obtain ⟨hc, hf⟩ := bcell hb; have hz := bsize hb; (first | (have hB := below_tt hB hb) | (have hB := below_tt (below_al hB _) hb) | (have hB := below_tt (below_al (below_al hB _) _) hb) | (have hB := hb)); obtain ⟨hc0, hf0⟩ := bcell hB; have hz0 := bsize hB; (first | (have h2 := below_tt hp hb; obtain ⟨hc2, hf2⟩ := bcell h2; have hz2 := bsize h2) | (have h2 := below_tt (below_al hp _) hb; obtain ⟨hc2, hf2⟩ := bcell h2; have hz2 := bsize h2) | skip); have hp := hb)))
    go_ret2
    exact ⟨by rw [hv.out]; rfl, by (repeat' (first | (with_reducible exact Below.refl _ _) | (with_reducible assumption) | (with_reducible refine below_al ?_ _) | (with_reducible refine Below.drew ?_) | (with_reducible refine Below.setCell ?_ (by first | exact Nat.le_refl _ | (dsimp only; omega) | (simp; omega)) _) | (with_reducible refine below_drewN ?_ _) | (with_reducible refine below_tt ?_ (by assumption))))⟩

theorem specOldDay_any (y m d : Int) (w : World) :
    Calls Try.prog 36 #[.agg #[.int .i64 y, .int .i64 m, .int .i64 d]] w fun e w' => e = .returned (.tuple #[.int .i64 (dayR y m d false).1, .int .i64 (dayR y m d false).2]) ∧ Below w.heap.size w w' := by
  cases hy : valid y m d false
  · have hyy : Hid (valid y m d false = false) := hy
    have hv : Hid (dayR y m d false = (0, 1)) := by unfold dayR Hid; rw [hy]; rfl
    clear hy
    go_enter Try.func36, Try.ntmps36
    go_wp2_with (go_at_call 89; (refine (specIsOldDate_is hyy.out _).mono ?_; rintro e w' ⟨rfl, hb⟩; obtain ⟨hc, hf⟩ := bcell hb; have hz := bsize hb; (first | (have hB := below_tt hB hb) | (have hB := below_tt (below_al hB _) hb) | (have hB := below_tt (below_al (below_al hB _) _) hb) | (have hB := hb)); obtain ⟨hc0, hf0⟩ := bcell hB; have hz0 := bsize hB; (first | (have h2 := below_tt hp hb; obtain ⟨hc2, hf2⟩ := bcell h2; have hz2 := bsize h2) | (have h2 := below_tt (below_al hp _) hb; obtain ⟨hc2, hf2⟩ := bcell h2; have hz2 := bsize h2) | skip); have hp := hb))
    go_ret2
    exact ⟨by rw [hv.out]; rfl, by (repeat' (first | (with_reducible exact Below.refl _ _) | (with_reducible assumption) | (with_reducible refine below_al ?_ _) | (with_reducible refine Below.drew ?_) | (with_reducible refine Below.setCell ?_ (by first | exact Nat.le_refl _ | (dsimp only; omega) | (simp; omega)) _) | (with_reducible refine below_drewN ?_ _) | (with_reducible refine below_tt ?_ (by assumption))))⟩
  · have hyy : Hid (valid y m d false = true) := hy
    have hb := valid_t hy
    have hl := mlen_bd y m false
    have hv : Hid (dayR y m d false = (num y m d false, 0)) := by unfold dayR Hid; rw [hy]; rfl
    clear hy
    go_enter Try.func36, Try.ntmps36
    go_wp2_with (first | (go_at_call 89; (refine (specIsOldDate_is hyy.out _).mono ?_; rintro e w' ⟨rfl, hb⟩; obtain ⟨hc, hf⟩ := bcell hb; have hz := bsize hb; (first | (have hB := below_tt hB hb) | (have hB := below_tt (below_al hB _) hb) | (have hB := below_tt (below_al (below_al hB _) _) hb) | (have hB := hb)); obtain ⟨hc0, hf0⟩ := bcell hB; have hz0 := bsize hB; (first | (have h2 := below_tt hp hb; obtain ⟨hc2, hf2⟩ := bcell h2; have hz2 := bsize h2) | (have h2 := below_tt (below_al hp _) hb; obtain ⟨hc2, hf2⟩ := bcell h2; have hz2 := bsize h2) | skip); have hp := hb)) | (go_at_call 117; (refine (l01Number_any _ _ _ _ _ (by omega) (by omega) (by omega) (by omega) (by omega) (by omega)).mono ?_; rintro e w' ⟨rfl, hb⟩; obtain ⟨hc, hf⟩ := bcell hb; have hz := bsize hb; (first | (have hB := below_tt hB hb) | (have hB := below_tt (below_al hB _) hb) | (have hB := below_tt (below_al (below_al hB _) _) hb) | (have hB := hb)); obtain ⟨hc0, hf0⟩ := bcell hB; have hz0 := bsize hB; (first | (have h2 := below_tt hp hb; obtain ⟨hc2, hf2⟩ := bcell h2; have hz2 := bsize h2) | (have h2 := below_tt (below_al hp _) hb; obtain ⟨hc2, hf2⟩ := bcell h2; have hz2 := bsize h2) | skip); have hp := hb)))
    go_ret2
    exact ⟨by rw [hv.out]; rfl, by (repeat' (first | (with_reducible exact Below.refl _ _) | (with_reducible assumption) | (with_reducible refine below_al ?_ _) | (with_reducible refine Below.drew ?_) | (with_reducible refine Below.setCell ?_ (by first | exact Nat.le_refl _ | (dsimp only; omega) | (simp; omega)) _) | (with_reducible refine below_drewN ?_ _) | (with_reducible refine below_tt ?_ (by assumption))))⟩

theorem isLeap_is {y : Int} {f r : Bool} (hr : leap y f = r) (w : World) (h : 0 ≤ y) :
    Calls Try.prog 124 #[.int .i64 y, .bool f] w fun e w' => e = .returned (.bool r) ∧ w = w' := by
  subst hr; exact isLeap_any y f w h
theorem implSundayLetters_any (y : Int) (w : World) :
    Calls Try.prog 45 #[.int .i64 y] w fun e w' => e = .returned (.tuple #[.int .i64 (lettR y).1, .int .i64 (lettR y).2.1, .int .i64 (lettR y).2.2]) ∧ Below w.heap.size w w' := by
  cases hy : inR y 1 2000
  · have hyy : Hid (inR y 1 2000 = false) := hy
    have hv : Hid (lettR y = (0, 0, 2)) := by unfold lettR Hid; rw [hy]; rfl
    clear hy
    go_enter Try.func45, Try.ntmps45
    go_wp2_with (go_at_call 91; refine (isYear_is hyy.out _).mono ?_; rintro e w' ⟨rfl, rfl⟩)
    go_ret3
    exact ⟨by rw [hv.out]; rfl, by (repeat' (first | (with_reducible exact Below.refl _ _) | (with_reducible assumption) | (with_reducible refine below_al ?_ _) | (with_reducible refine Below.drew ?_) | (with_reducible refine Below.setCell ?_ (by first | exact Nat.le_refl _ | (dsimp only; omega) | (simp; omega)) _) | (with_reducible refine below_drewN ?_ _) | (with_reducible refine below_tt ?_ (by assumption))))⟩
  · have hyy : Hid (inR y 1 2000 = true) := hy
    obtain ⟨hb1, hb2⟩ := inR_t hy
    have hn := nyear_lo y false hb1 (by omega)
    obtain ⟨hn1, hn2⟩ := hn
    cases hp : leap y false
    · have hpp : Hid (leap y false = false) := hp
      have hv : Hid (lettR y = (letter y, letter y, 0)) := by unfold lettR Hid; rw [hy, hp]; rfl
      clear hy hp
      go_enter Try.func45, Try.ntmps45
      go_wp2_with (first | (go_at_call 91; refine (isYear_is hyy.out _).mono ?_; rintro e w' ⟨rfl, rfl⟩) | (go_at_call 124; refine (isLeap_is hpp.out _ (by omega)).mono ?_; rintro e w' ⟨rfl, rfl⟩) | (go_at_call 123; refine (newYear_any _ _ _ hb1 (by omega)).mono ?_; rintro e w' ⟨rfl, rfl⟩) | (go_at_call 119; refine (weekdayOf_any _ _ hn1 (by omega)).mono ?_; rintro e w' ⟨rfl, rfl⟩))
      go_ret3
      exact ⟨by rw [hv.out]; rfl, by (repeat' (first | (with_reducible exact Below.refl _ _) | (with_reducible assumption) | (with_reducible refine below_al ?_ _) | (with_reducible refine Below.drew ?_) | (with_reducible refine Below.setCell ?_ (by first | exact Nat.le_refl _ | (dsimp only; omega) | (simp; omega)) _) | (with_reducible refine below_drewN ?_ _) | (with_reducible refine below_tt ?_ (by assumption))))⟩
    · have hpp : Hid (leap y false = true) := hp
      have hv : Hid (lettR y = (letter y, (letter y + 6) % 7, 0)) := by unfold lettR Hid; rw [hy, hp]; rfl
      clear hy hp
      go_enter Try.func45, Try.ntmps45
      go_wp2_with (first | (go_at_call 91; refine (isYear_is hyy.out _).mono ?_; rintro e w' ⟨rfl, rfl⟩) | (go_at_call 124; refine (isLeap_is hpp.out _ (by omega)).mono ?_; rintro e w' ⟨rfl, rfl⟩) | (go_at_call 123; refine (newYear_any _ _ _ hb1 (by omega)).mono ?_; rintro e w' ⟨rfl, rfl⟩) | (go_at_call 119; refine (weekdayOf_any _ _ hn1 (by omega)).mono ?_; rintro e w' ⟨rfl, rfl⟩))
      go_ret3
      exact ⟨by rw [hv.out]; rfl, by (repeat' (first | (with_reducible exact Below.refl _ _) | (with_reducible assumption) | (with_reducible refine below_al ?_ _) | (with_reducible refine Below.drew ?_) | (with_reducible refine Below.setCell ?_ (by first | exact Nat.le_refl _ | (dsimp only; omega) | (simp; omega)) _) | (with_reducible refine below_drewN ?_ _) | (with_reducible refine below_tt ?_ (by assumption))))⟩

theorem l01Jan_any (y : Int) (f : Bool) (w : World) (h1 : 1 ≤ y) (h2 : y ≤ 100000) :
    Calls Try.prog 117 #[.agg #[.int .i64 y, .int .i64 1, .int .i64 1], .bool f] w fun e w' => e = .returned (.int .i64 (nyear y f)) ∧ Below w.heap.size w w' := by
  have := l01Number_any y 1 1 f w h1 h2 (by omega) (by omega) (by omega) (by omega)
  rwa [num_jan] at this

theorem l01Leap_is {y : Int} {f r : Bool} (hr : leap y f = r) (w : World) (h : 0 ≤ y) :
    Calls Try.prog 125 #[.int .i64 y, .bool f] w fun e w' => e = .returned (.bool r) ∧ w = w' := by
  subst hr; exact l01Leap_any y f w h
theorem specSundayLetters_any (y : Int) (w : World) :
    Calls Try.prog 46 #[.int .i64 y] w fun e w' => e = .returned (.tuple #[.int .i64 (lettR y).1, .int .i64 (lettR y).2.1, .int .i64 (lettR y).2.2]) ∧ Below w.heap.size w w' := by
  cases hy : inR y 1 2000
  · have hyy : Hid (inR y 1 2000 = false) := hy
    have hv : Hid (lettR y = (0, 0, 2)) := by unfold lettR Hid; rw [hy]; rfl
    clear hy
    go_enter Try.func46, Try.ntmps46
    go_wp2_with (go_at_call 87; refine (l04Year_is hyy.out _).mono ?_; rintro e w' ⟨rfl, rfl⟩)
    go_ret3
    exact ⟨by rw [hv.out]; rfl, by (repeat' (first | (with_reducible exact Below.refl _ _) | (with_reducible assumption) | (with_reducible refine below_al ?_ _) | (with_reducible refine Below.drew ?_) | (with_reducible refine Below.setCell ?_ (by first | exact Nat.le_refl _ | (dsimp only; omega) | (simp; omega)) _) | (with_reducible refine below_drewN ?_ _) | (with_reducible refine below_tt ?_ (by assumption))))⟩
  · have hyy : Hid (inR y 1 2000 = true) := hy
    obtain ⟨hb1, hb2⟩ := inR_t hy
    have hn := nyear_lo y false hb1 (by omega)
    obtain ⟨hn1, hn2⟩ := hn
    cases hp : leap y false
    · have hpp : Hid (leap y false = false) := hp
      have hv : Hid (lettR y = (letter y, letter y, 0)) := by unfold lettR Hid; rw [hy, hp]; rfl
      clear hy hp
      go_enter Try.func46, Try.ntmps46
      go_wp2_with (first | (go_at_call 87; refine (l04Year_is hyy.out _).mono ?_; rintro e w' ⟨rfl, rfl⟩) | (go_at_call 125; refine (l01Leap_is hpp.out _ (by omega)).mono ?_; rintro e w' ⟨rfl, rfl⟩) | (go_at_call 117; (refine (l01Jan_any _ _ _ hb1 (by omega)).mono ?_; rintro e w' ⟨rfl, hb⟩; obtain ⟨hc, hf⟩ := bcell hb; have hz := bsize hb; (first | (have hB := below_tt hB hb) | (have hB := below_tt (below_al hB _) hb) | (have hB := below_tt (below_al (below_al hB _) _) hb) | (have hB := hb)); obtain ⟨hc0, hf0⟩ := bcell hB; have hz0 := bsize hB; (first | (have h2 := below_tt hp hb; obtain ⟨hc2, hf2⟩ := bcell h2; have hz2 := bsize h2) | (have h2 := below_tt (below_al hp _) hb; obtain ⟨hc2, hf2⟩ := bcell h2; have hz2 := bsize h2) | skip); have hp := hb)) | (go_at_call 120; refine (l01Weekday_any _ _ hn1 (by omega)).mono ?_; rintro e w' ⟨rfl, rfl⟩))
      go_ret3
      exact ⟨by rw [hv.out]; rfl, by (repeat' (first | (with_reducible exact Below.refl _ _) | (with_reducible assumption) | (with_reducible refine below_al ?_ _) | (with_reducible refine Below.drew ?_) | (with_reducible refine Below.setCell ?_ (by first | exact Nat.le_refl _ | (dsimp only; omega) | (simp; omega)) _) | (with_reducible refine below_drewN ?_ _) | (with_reducible refine below_tt ?_ (by assumption))))⟩
    · have hpp : Hid (leap y false = true) := hp
      have hv : Hid (lettR y = (letter y, (letter y + 6) % 7, 0)) := by unfold lettR Hid; rw [hy, hp]; rfl
      clear hy hp
      go_enter Try.func46, Try.ntmps46
      go_wp2_with (first | (go_at_call 87; refine (l04Year_is hyy.out _).mono ?_; rintro e w' ⟨rfl, rfl⟩) | (go_at_call 125; refine (l01Leap_is hpp.out _ (by omega)).mono ?_; rintro e w' ⟨rfl, rfl⟩) | (go_at_call 117; (refine (l01Jan_any _ _ _ hb1 (by omega)).mono ?_; rintro e w' ⟨rfl, hb⟩; obtain ⟨hc, hf⟩ := bcell hb; have hz := bsize hb; (first | (have hB := below_tt hB hb) | (have hB := below_tt (below_al hB _) hb) | (have hB := below_tt (below_al (below_al hB _) _) hb) | (have hB := hb)); obtain ⟨hc0, hf0⟩ := bcell hB; have hz0 := bsize hB; (first | (have h2 := below_tt hp hb; obtain ⟨hc2, hf2⟩ := bcell h2; have hz2 := bsize h2) | (have h2 := below_tt (below_al hp _) hb; obtain ⟨hc2, hf2⟩ := bcell h2; have hz2 := bsize h2) | skip); have hp := hb)) | (go_at_call 120; refine (l01Weekday_any _ _ hn1 (by omega)).mono ?_; rintro e w' ⟨rfl, rfl⟩))
      go_ret3
      exact ⟨by rw [hv.out]; rfl, by (repeat' (first | (with_reducible exact Below.refl _ _) | (with_reducible assumption) | (with_reducible refine below_al ?_ _) | (with_reducible refine Below.drew ?_) | (with_reducible refine Below.setCell ?_ (by first | exact Nat.le_refl _ | (dsimp only; omega) | (simp; omega)) _) | (with_reducible refine below_drewN ?_ _) | (with_reducible refine below_tt ?_ (by assumption))))⟩
end Go.Proofs.Yticnkjpgjcddcaa
