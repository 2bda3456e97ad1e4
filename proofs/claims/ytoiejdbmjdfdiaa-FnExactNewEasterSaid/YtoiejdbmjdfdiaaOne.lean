/- The exported functions of one number or one date, on both sides. -/
import Derived.Test.YtoiejdbmjdfdiaaEast
namespace Go.Proofs.Ytoiejdbmjdfdiaa
open Go.RowKit

/-! What each returns. -/
def goldR (y : Int) : Int × Int := if inR y 1 2000 = true then (y % 19 + 1, 0) else (0, 2)
def weekR (n : Int) : Int × Int := if inR n 0 730499 = true then ((n + 5) % 7, 0) else (0, 2)
def dayR (y m d : Int) (f : Bool) : Int × Int := if valid y m d f = true then (num y m d f, 0) else (0, 1)
def termR (y : Int) : Int × Int := if inR y 1 2000 = true then (num y 3 21 false + moon y, 0) else (0, 2)
def oeastR (y : Int) : Int × Int := if inR y 1 2000 = true then (oeaster y, 0) else (0, 2)
def neastR (y : Int) : Int × Int := if inR y 1583 2000 = true then (neaster y, 0) else (0, 2)
def letter (y : Int) : Int := 6 - (nyear y false + 5) % 7
def lettR (y : Int) : Int × Int × Int := if inR y 1 2000 = true then (if leap y false = true then (letter y, (letter y + 6) % 7, 0) else (letter y, letter y, 0)) else (0, 0, 2)
theorem num_jan (y : Int) (f : Bool) : num y 1 1 f = nyear y f := by unfold num; rw [cum_one]; omega

theorem implGoldenNumber_any (y : Int) (w : World) :
    Calls Try.prog 19 #[.int .i64 y] w fun e w' => e = .returned (.tuple #[.int .i64 (goldR y).1, .int .i64 (goldR y).2]) ∧ Below w.heap.size w w' := by
  cases hy : inR y 1 2000
  · have hyy : Hid (inR y 1 2000 = false) := hy
    have hv : Hid (goldR y = (0, 2)) := by unfold goldR Hid; rw [hy]; rfl
    clear hy
    go_enter Try.func19, Try.ntmps19
    go_wp2_with (go_at_call 42; refine (isYear_is hyy.out _).mono ?_; rintro e w' ⟨rfl, rfl⟩)
    go_ret2
    exact ⟨by rw [hv.out]; rfl, by (repeat' (first | (with_reducible exact Below.refl _ _) | (with_reducible assumption) | (with_reducible refine below_al ?_ _) | (with_reducible refine Below.drew ?_) | (with_reducible refine below_drewN ?_ _) | (with_reducible refine below_tt ?_ (by assumption))))⟩
  · have hyy : Hid (inR y 1 2000 = true) := hy
    have hb := inR_t hy
    obtain ⟨hb1, hb2⟩ := hb
    have hv : Hid (goldR y = (y % 19 + 1, 0)) := by unfold goldR Hid; rw [hy]; rfl
    clear hy
    go_enter Try.func19, Try.ntmps19
    go_wp2_with (first | (go_at_call 42; refine (isYear_is hyy.out _).mono ?_; rintro e w' ⟨rfl, rfl⟩) )
    go_ret2
    exact ⟨by rw [hv.out]; rfl, by (repeat' (first | (with_reducible exact Below.refl _ _) | (with_reducible assumption) | (with_reducible refine below_al ?_ _) | (with_reducible refine Below.drew ?_) | (with_reducible refine below_drewN ?_ _) | (with_reducible refine below_tt ?_ (by assumption))))⟩

theorem specGoldenNumber_any (y : Int) (w : World) :
    Calls Try.prog 18 #[.int .i64 y] w fun e w' => e = .returned (.tuple #[.int .i64 (goldR y).1, .int .i64 (goldR y).2]) ∧ Below w.heap.size w w' := by
  cases hy : inR y 1 2000
  · have hyy : Hid (inR y 1 2000 = false) := hy
    have hv : Hid (goldR y = (0, 2)) := by unfold goldR Hid; rw [hy]; rfl
    clear hy
    go_enter Try.func18, Try.ntmps18
    go_wp2_with (go_at_call 41; refine (l04Year_is hyy.out _).mono ?_; rintro e w' ⟨rfl, rfl⟩)
    go_ret2
    exact ⟨by rw [hv.out]; rfl, by (repeat' (first | (with_reducible exact Below.refl _ _) | (with_reducible assumption) | (with_reducible refine below_al ?_ _) | (with_reducible refine Below.drew ?_) | (with_reducible refine below_drewN ?_ _) | (with_reducible refine below_tt ?_ (by assumption))))⟩
  · have hyy : Hid (inR y 1 2000 = true) := hy
    have hb := inR_t hy
    obtain ⟨hb1, hb2⟩ := hb
    have hv : Hid (goldR y = (y % 19 + 1, 0)) := by unfold goldR Hid; rw [hy]; rfl
    clear hy
    go_enter Try.func18, Try.ntmps18
    go_wp2_with (first | (go_at_call 41; refine (l04Year_is hyy.out _).mono ?_; rintro e w' ⟨rfl, rfl⟩) )
    go_ret2
    exact ⟨by rw [hv.out]; rfl, by (repeat' (first | (with_reducible exact Below.refl _ _) | (with_reducible assumption) | (with_reducible refine below_al ?_ _) | (with_reducible refine Below.drew ?_) | (with_reducible refine below_drewN ?_ _) | (with_reducible refine below_tt ?_ (by assumption))))⟩

theorem implEasterTerm_any (y : Int) (w : World) :
    Calls Try.prog 30 #[.int .i64 y] w fun e w' => e = .returned (.tuple #[.int .i64 (termR y).1, .int .i64 (termR y).2]) ∧ Below w.heap.size w w' := by
  cases hy : inR y 1 2000
  · have hyy : Hid (inR y 1 2000 = false) := hy
    have hv : Hid (termR y = (0, 2)) := by unfold termR Hid; rw [hy]; rfl
    clear hy
    go_enter Try.func30, Try.ntmps30
    go_wp2_with (go_at_call 42; refine (isYear_is hyy.out _).mono ?_; rintro e w' ⟨rfl, rfl⟩)
    go_ret2
    exact ⟨by rw [hv.out]; rfl, by (repeat' (first | (with_reducible exact Below.refl _ _) | (with_reducible assumption) | (with_reducible refine below_al ?_ _) | (with_reducible refine Below.drew ?_) | (with_reducible refine below_drewN ?_ _) | (with_reducible refine below_tt ?_ (by assumption))))⟩
  · have hyy : Hid (inR y 1 2000 = true) := hy
    have hb := inR_t hy
    obtain ⟨hb1, hb2⟩ := hb
    have hm := moon_bd y hb1
    have hcm := cum_bd y 3 false (by omega) (by omega)
    have hnb := nyear_lo y false hb1 (by omega)
    have hnn : 0 ≤ num y 3 21 false ∧ num y 3 21 false ≤ 100000000 := by unfold num; omega
    have hv : Hid (termR y = (num y 3 21 false + moon y, 0)) := by unfold termR Hid; rw [hy]; rfl
    clear hy
    go_enter Try.func30, Try.ntmps30
    go_wp2_with (first | (go_at_call 42; refine (isYear_is hyy.out _).mono ?_; rintro e w' ⟨rfl, rfl⟩) | (go_at_call 53; (refine (dayOf_any _ _ _ _ _ (by omega) (by omega) (by omega) (by omega) (by omega) (by omega)).mono ?_; rintro e w' ⟨rfl, hb⟩; obtain ⟨hc, hf⟩ := bcell hb; have hz := bsize hb)) | (go_at_call 54; refine (moonDays_any _ _ hb1 hb2).mono ?_; rintro e w' ⟨rfl, rfl⟩))
    go_ret2
    exact ⟨by rw [hv.out]; rfl, by (repeat' (first | (with_reducible exact Below.refl _ _) | (with_reducible assumption) | (with_reducible refine below_al ?_ _) | (with_reducible refine Below.drew ?_) | (with_reducible refine below_drewN ?_ _) | (with_reducible refine below_tt ?_ (by assumption))))⟩

theorem specEasterTerm_any (y : Int) (w : World) :
    Calls Try.prog 29 #[.int .i64 y] w fun e w' => e = .returned (.tuple #[.int .i64 (termR y).1, .int .i64 (termR y).2]) ∧ Below w.heap.size w w' := by
  cases hy : inR y 1 2000
  · have hyy : Hid (inR y 1 2000 = false) := hy
    have hv : Hid (termR y = (0, 2)) := by unfold termR Hid; rw [hy]; rfl
    clear hy
    go_enter Try.func29, Try.ntmps29
    go_wp2_with (go_at_call 41; refine (l04Year_is hyy.out _).mono ?_; rintro e w' ⟨rfl, rfl⟩)
    go_ret2
    exact ⟨by rw [hv.out]; rfl, by (repeat' (first | (with_reducible exact Below.refl _ _) | (with_reducible assumption) | (with_reducible refine below_al ?_ _) | (with_reducible refine Below.drew ?_) | (with_reducible refine below_drewN ?_ _) | (with_reducible refine below_tt ?_ (by assumption))))⟩
  · have hyy : Hid (inR y 1 2000 = true) := hy
    have hb := inR_t hy
    obtain ⟨hb1, hb2⟩ := hb
    have hcm := cum_bd y 3 false (by omega) (by omega)
    have hnb := nyear_lo y false hb1 (by omega)
    have hnn : 0 ≤ num y 3 21 false ∧ num y 3 21 false ≤ 100000000 := by unfold num; omega
    have hv : Hid (termR y = (num y 3 21 false + (19 * (y % 19) + 15) % 30, 0)) := by unfold termR Hid; rw [hy]; rfl
    clear hy
    go_enter Try.func29, Try.ntmps29
    go_wp2_with (first | (go_at_call 41; refine (l04Year_is hyy.out _).mono ?_; rintro e w' ⟨rfl, rfl⟩) | (go_at_call 49; (refine (l01Number_any _ _ _ _ _ (by omega) (by omega) (by omega) (by omega) (by omega) (by omega)).mono ?_; rintro e w' ⟨rfl, hb⟩; obtain ⟨hc, hf⟩ := bcell hb; have hz := bsize hb)))
    go_ret2
    exact ⟨by rw [hv.out]; rfl, by (repeat' (first | (with_reducible exact Below.refl _ _) | (with_reducible assumption) | (with_reducible refine below_al ?_ _) | (with_reducible refine Below.drew ?_) | (with_reducible refine below_drewN ?_ _) | (with_reducible refine below_tt ?_ (by assumption))))⟩

theorem implOldEaster_any (y : Int) (w : World) :
    Calls Try.prog 36 #[.int .i64 y] w fun e w' => e = .returned (.tuple #[.int .i64 (oeastR y).1, .int .i64 (oeastR y).2]) ∧ Below w.heap.size w w' := by
  cases hy : inR y 1 2000
  · have hyy : Hid (inR y 1 2000 = false) := hy
    have hv : Hid (oeastR y = (0, 2)) := by unfold oeastR Hid; rw [hy]; rfl
    clear hy
    go_enter Try.func36, Try.ntmps36
    go_wp2_with (go_at_call 42; refine (isYear_is hyy.out _).mono ?_; rintro e w' ⟨rfl, rfl⟩)
    go_ret2
    exact ⟨by rw [hv.out]; rfl, by (repeat' (first | (with_reducible exact Below.refl _ _) | (with_reducible assumption) | (with_reducible refine below_al ?_ _) | (with_reducible refine Below.drew ?_) | (with_reducible refine below_drewN ?_ _) | (with_reducible refine below_tt ?_ (by assumption))))⟩
  · have hyy : Hid (inR y 1 2000 = true) := hy
    have hb := inR_t hy
    obtain ⟨hb1, hb2⟩ := hb
    have hv : Hid (oeastR y = (oeaster y, 0)) := by unfold oeastR Hid; rw [hy]; rfl
    clear hy
    go_enter Try.func36, Try.ntmps36
    go_wp2_with (first | (go_at_call 42; refine (isYear_is hyy.out _).mono ?_; rintro e w' ⟨rfl, rfl⟩) | (go_at_call 56; (refine (oldEaster_any _ _ hb1 hb2).mono ?_; rintro e w' ⟨rfl, hb⟩; obtain ⟨hc, hf⟩ := bcell hb; have hz := bsize hb)))
    go_ret2
    exact ⟨by rw [hv.out]; rfl, by (repeat' (first | (with_reducible exact Below.refl _ _) | (with_reducible assumption) | (with_reducible refine below_al ?_ _) | (with_reducible refine Below.drew ?_) | (with_reducible refine below_drewN ?_ _) | (with_reducible refine below_tt ?_ (by assumption))))⟩

theorem specOldEaster_any (y : Int) (w : World) :
    Calls Try.prog 35 #[.int .i64 y] w fun e w' => e = .returned (.tuple #[.int .i64 (oeastR y).1, .int .i64 (oeastR y).2]) ∧ Below w.heap.size w w' := by
  cases hy : inR y 1 2000
  · have hyy : Hid (inR y 1 2000 = false) := hy
    have hv : Hid (oeastR y = (0, 2)) := by unfold oeastR Hid; rw [hy]; rfl
    clear hy
    go_enter Try.func35, Try.ntmps35
    go_wp2_with (go_at_call 41; refine (l04Year_is hyy.out _).mono ?_; rintro e w' ⟨rfl, rfl⟩)
    go_ret2
    exact ⟨by rw [hv.out]; rfl, by (repeat' (first | (with_reducible exact Below.refl _ _) | (with_reducible assumption) | (with_reducible refine below_al ?_ _) | (with_reducible refine Below.drew ?_) | (with_reducible refine below_drewN ?_ _) | (with_reducible refine below_tt ?_ (by assumption))))⟩
  · have hyy : Hid (inR y 1 2000 = true) := hy
    have hb := inR_t hy
    obtain ⟨hb1, hb2⟩ := hb
    have hm := oem_bd y hb1
    have hd := oed_bd y hb1
    have hv : Hid (oeastR y = (num y (oem y) (oed y) false, 0)) := by unfold oeastR Hid; rw [hy]; rfl
    clear hy
    go_enter Try.func35, Try.ntmps35
    go_wp2_with (first | (go_at_call 41; refine (l04Year_is hyy.out _).mono ?_; rintro e w' ⟨rfl, rfl⟩) | (go_at_call 55; (refine (l04Old_any _ _ hb1 hb2).mono ?_; rintro e w' ⟨rfl, hb⟩; obtain ⟨hc, hf⟩ := bcell hb; have hz := bsize hb)) | (go_at_call 49; (refine (l01Number_any _ _ _ _ _ (by omega) (by omega) (by omega) (by omega) (by omega) (by omega)).mono ?_; rintro e w' ⟨rfl, hb⟩; obtain ⟨hc, hf⟩ := bcell hb; have hz := bsize hb)))
    go_ret2
    exact ⟨by rw [hv.out]; rfl, by (repeat' (first | (with_reducible exact Below.refl _ _) | (with_reducible assumption) | (with_reducible refine below_al ?_ _) | (with_reducible refine Below.drew ?_) | (with_reducible refine below_drewN ?_ _) | (with_reducible refine below_tt ?_ (by assumption))))⟩

theorem implNewEaster_any (y : Int) (w : World) :
    Calls Try.prog 38 #[.int .i64 y] w fun e w' => e = .returned (.tuple #[.int .i64 (neastR y).1, .int .i64 (neastR y).2]) ∧ Below w.heap.size w w' := by
  cases hy : inR y 1583 2000
  · have hyy : Hid (inR y 1583 2000 = false) := hy
    have hv : Hid (neastR y = (0, 2)) := by unfold neastR Hid; rw [hy]; rfl
    clear hy
    go_enter Try.func38, Try.ntmps38
    go_wp2_with (go_at_call 40; refine (within_is hyy.out _).mono ?_; rintro e w' ⟨rfl, rfl⟩)
    go_ret2
    exact ⟨by rw [hv.out]; rfl, by (repeat' (first | (with_reducible exact Below.refl _ _) | (with_reducible assumption) | (with_reducible refine below_al ?_ _) | (with_reducible refine Below.drew ?_) | (with_reducible refine below_drewN ?_ _) | (with_reducible refine below_tt ?_ (by assumption))))⟩
  · have hyy : Hid (inR y 1583 2000 = true) := hy
    have hb := inR_t hy
    obtain ⟨hb1, hb2⟩ := hb
    have hv : Hid (neastR y = (neaster y, 0)) := by unfold neastR Hid; rw [hy]; rfl
    clear hy
    go_enter Try.func38, Try.ntmps38
    go_wp2_with (first | (go_at_call 40; refine (within_is hyy.out _).mono ?_; rintro e w' ⟨rfl, rfl⟩) | (go_at_call 58; (refine (newEaster_any _ _ hb1 hb2).mono ?_; rintro e w' ⟨rfl, hb⟩; obtain ⟨hc, hf⟩ := bcell hb; have hz := bsize hb)))
    go_ret2
    exact ⟨by rw [hv.out]; rfl, by (repeat' (first | (with_reducible exact Below.refl _ _) | (with_reducible assumption) | (with_reducible refine below_al ?_ _) | (with_reducible refine Below.drew ?_) | (with_reducible refine below_drewN ?_ _) | (with_reducible refine below_tt ?_ (by assumption))))⟩

theorem specNewEaster_any (y : Int) (w : World) :
    Calls Try.prog 37 #[.int .i64 y] w fun e w' => e = .returned (.tuple #[.int .i64 (neastR y).1, .int .i64 (neastR y).2]) ∧ Below w.heap.size w w' := by
  cases hy : inR y 1583 2000
  · have hyy : Hid (inR y 1583 2000 = false) := hy
    have hv : Hid (neastR y = (0, 2)) := by unfold neastR Hid; rw [hy]; rfl
    clear hy
    go_enter Try.func37, Try.ntmps37
    go_wp2_with (go_at_call 39; refine (l01In_is hyy.out _).mono ?_; rintro e w' ⟨rfl, rfl⟩)
    go_ret2
    exact ⟨by rw [hv.out]; rfl, by (repeat' (first | (with_reducible exact Below.refl _ _) | (with_reducible assumption) | (with_reducible refine below_al ?_ _) | (with_reducible refine Below.drew ?_) | (with_reducible refine below_drewN ?_ _) | (with_reducible refine below_tt ?_ (by assumption))))⟩
  · have hyy : Hid (inR y 1583 2000 = true) := hy
    have hb := inR_t hy
    obtain ⟨hb1, hb2⟩ := hb
    have hv : Hid (neastR y = (neaster y, 0)) := by unfold neastR Hid; rw [hy]; rfl
    clear hy
    go_enter Try.func37, Try.ntmps37
    go_wp2_with (first | (go_at_call 39; refine (l01In_is hyy.out _).mono ?_; rintro e w' ⟨rfl, rfl⟩) | (go_at_call 57; (refine (l04New_any _ _ hb1 hb2).mono ?_; rintro e w' ⟨rfl, hb⟩; obtain ⟨hc, hf⟩ := bcell hb; have hz := bsize hb)))
    go_ret2
    exact ⟨by rw [hv.out]; rfl, by (repeat' (first | (with_reducible exact Below.refl _ _) | (with_reducible assumption) | (with_reducible refine below_al ?_ _) | (with_reducible refine Below.drew ?_) | (with_reducible refine below_drewN ?_ _) | (with_reducible refine below_tt ?_ (by assumption))))⟩

theorem implWeekdayOf_any (y : Int) (w : World) :
    Calls Try.prog 21 #[.int .i64 y] w fun e w' => e = .returned (.tuple #[.int .i64 (weekR y).1, .int .i64 (weekR y).2]) ∧ Below w.heap.size w w' := by
  cases hy : inR y 0 730499
  · have hyy : Hid (inR y 0 730499 = false) := hy
    have hv : Hid (weekR y = (0, 2)) := by unfold weekR Hid; rw [hy]; rfl
    clear hy
    go_enter Try.func21, Try.ntmps21
    go_wp2_with (go_at_call 45; refine (isDay_is hyy.out _).mono ?_; rintro e w' ⟨rfl, rfl⟩)
    go_ret2
    exact ⟨by rw [hv.out]; rfl, by (repeat' (first | (with_reducible exact Below.refl _ _) | (with_reducible assumption) | (with_reducible refine below_al ?_ _) | (with_reducible refine Below.drew ?_) | (with_reducible refine below_drewN ?_ _) | (with_reducible refine below_tt ?_ (by assumption))))⟩
  · have hyy : Hid (inR y 0 730499 = true) := hy
    have hb := inR_t hy
    obtain ⟨hb1, hb2⟩ := hb
    have hv : Hid (weekR y = ((y + 5) % 7, 0)) := by unfold weekR Hid; rw [hy]; rfl
    clear hy
    go_enter Try.func21, Try.ntmps21
    go_wp2_with (first | (go_at_call 45; refine (isDay_is hyy.out _).mono ?_; rintro e w' ⟨rfl, rfl⟩) | (go_at_call 46; refine (weekdayOf_any _ _ hb1 (by omega)).mono ?_; rintro e w' ⟨rfl, rfl⟩))
    go_ret2
    exact ⟨by rw [hv.out]; rfl, by (repeat' (first | (with_reducible exact Below.refl _ _) | (with_reducible assumption) | (with_reducible refine below_al ?_ _) | (with_reducible refine Below.drew ?_) | (with_reducible refine below_drewN ?_ _) | (with_reducible refine below_tt ?_ (by assumption))))⟩

theorem specWeekdayOf_any (y : Int) (w : World) :
    Calls Try.prog 20 #[.int .i64 y] w fun e w' => e = .returned (.tuple #[.int .i64 (weekR y).1, .int .i64 (weekR y).2]) ∧ Below w.heap.size w w' := by
  cases hy : inR y 0 730499
  · have hyy : Hid (inR y 0 730499 = false) := hy
    have hv : Hid (weekR y = (0, 2)) := by unfold weekR Hid; rw [hy]; rfl
    clear hy
    go_enter Try.func20, Try.ntmps20
    go_wp2_with (go_at_call 43; refine (l01Day_is hyy.out _).mono ?_; rintro e w' ⟨rfl, rfl⟩)
    go_ret2
    exact ⟨by rw [hv.out]; rfl, by (repeat' (first | (with_reducible exact Below.refl _ _) | (with_reducible assumption) | (with_reducible refine below_al ?_ _) | (with_reducible refine Below.drew ?_) | (with_reducible refine below_drewN ?_ _) | (with_reducible refine below_tt ?_ (by assumption))))⟩
  · have hyy : Hid (inR y 0 730499 = true) := hy
    have hb := inR_t hy
    obtain ⟨hb1, hb2⟩ := hb
    have hv : Hid (weekR y = ((y + 5) % 7, 0)) := by unfold weekR Hid; rw [hy]; rfl
    clear hy
    go_enter Try.func20, Try.ntmps20
    go_wp2_with (first | (go_at_call 43; refine (l01Day_is hyy.out _).mono ?_; rintro e w' ⟨rfl, rfl⟩) | (go_at_call 44; refine (l01Weekday_any _ _ hb1 (by omega)).mono ?_; rintro e w' ⟨rfl, rfl⟩))
    go_ret2
    exact ⟨by rw [hv.out]; rfl, by (repeat' (first | (with_reducible exact Below.refl _ _) | (with_reducible assumption) | (with_reducible refine below_al ?_ _) | (with_reducible refine Below.drew ?_) | (with_reducible refine below_drewN ?_ _) | (with_reducible refine below_tt ?_ (by assumption))))⟩

theorem implOldDay_any (y m d : Int) (w : World) :
    Calls Try.prog 34 #[.agg #[.int .i64 y, .int .i64 m, .int .i64 d]] w fun e w' => e = .returned (.tuple #[.int .i64 (dayR y m d false).1, .int .i64 (dayR y m d false).2]) ∧ Below w.heap.size w w' := by
  cases hy : valid y m d false
  · have hyy : Hid (valid y m d false = false) := hy
    have hv : Hid (dayR y m d false = (0, 1)) := by unfold dayR Hid; rw [hy]; rfl
    clear hy
    go_enter Try.func34, Try.ntmps34
    go_wp2_with (go_at_call 26; (refine (implIsOldDate_is hyy.out _).mono ?_; rintro e w' ⟨rfl, hb⟩; obtain ⟨hc, hf⟩ := bcell hb; have hz := bsize hb))
    go_ret2
    exact ⟨by rw [hv.out]; rfl, by (repeat' (first | (with_reducible exact Below.refl _ _) | (with_reducible assumption) | (with_reducible refine below_al ?_ _) | (with_reducible refine Below.drew ?_) | (with_reducible refine below_drewN ?_ _) | (with_reducible refine below_tt ?_ (by assumption))))⟩
  · have hyy : Hid (valid y m d false = true) := hy
    have hb := valid_t hy
    have hl := mlen_bd y m false
    have hv : Hid (dayR y m d false = (num y m d false, 0)) := by unfold dayR Hid; rw [hy]; rfl
    clear hy
    go_enter Try.func34, Try.ntmps34
    go_wp2_with (first | (go_at_call 26; (refine (implIsOldDate_is hyy.out _).mono ?_; rintro e w' ⟨rfl, hb⟩; obtain ⟨hc, hf⟩ := bcell hb; have hz := bsize hb)) | (go_at_call 53; (refine (dayOf_any _ _ _ _ _ (by omega) (by omega) (by omega) (by omega) (by omega) (by omega)).mono ?_; rintro e w' ⟨rfl, hb⟩; obtain ⟨hc, hf⟩ := bcell hb; have hz := bsize hb)))
    go_ret2
    exact ⟨by rw [hv.out]; rfl, by (repeat' (first | (with_reducible exact Below.refl _ _) | (with_reducible assumption) | (with_reducible refine below_al ?_ _) | (with_reducible refine Below.drew ?_) | (with_reducible refine below_drewN ?_ _) | (with_reducible refine below_tt ?_ (by assumption))))⟩

theorem implNewDay_any (y m d : Int) (w : World) :
    Calls Try.prog 32 #[.agg #[.int .i64 y, .int .i64 m, .int .i64 d]] w fun e w' => e = .returned (.tuple #[.int .i64 (dayR y m d true).1, .int .i64 (dayR y m d true).2]) ∧ Below w.heap.size w w' := by
  cases hy : valid y m d true
  · have hyy : Hid (valid y m d true = false) := hy
    have hv : Hid (dayR y m d true = (0, 1)) := by unfold dayR Hid; rw [hy]; rfl
    clear hy
    go_enter Try.func32, Try.ntmps32
    go_wp2_with (go_at_call 24; (refine (implIsNewDate_is hyy.out _).mono ?_; rintro e w' ⟨rfl, hb⟩; obtain ⟨hc, hf⟩ := bcell hb; have hz := bsize hb))
    go_ret2
    exact ⟨by rw [hv.out]; rfl, by (repeat' (first | (with_reducible exact Below.refl _ _) | (with_reducible assumption) | (with_reducible refine below_al ?_ _) | (with_reducible refine Below.drew ?_) | (with_reducible refine below_drewN ?_ _) | (with_reducible refine below_tt ?_ (by assumption))))⟩
  · have hyy : Hid (valid y m d true = true) := hy
    have hb := valid_t hy
    have hl := mlen_bd y m true
    have hv : Hid (dayR y m d true = (num y m d true, 0)) := by unfold dayR Hid; rw [hy]; rfl
    clear hy
    go_enter Try.func32, Try.ntmps32
    go_wp2_with (first | (go_at_call 24; (refine (implIsNewDate_is hyy.out _).mono ?_; rintro e w' ⟨rfl, hb⟩; obtain ⟨hc, hf⟩ := bcell hb; have hz := bsize hb)) | (go_at_call 53; (refine (dayOf_any _ _ _ _ _ (by omega) (by omega) (by omega) (by omega) (by omega) (by omega)).mono ?_; rintro e w' ⟨rfl, hb⟩; obtain ⟨hc, hf⟩ := bcell hb; have hz := bsize hb)))
    go_ret2
    exact ⟨by rw [hv.out]; rfl, by (repeat' (first | (with_reducible exact Below.refl _ _) | (with_reducible assumption) | (with_reducible refine below_al ?_ _) | (with_reducible refine Below.drew ?_) | (with_reducible refine below_drewN ?_ _) | (with_reducible refine below_tt ?_ (by assumption))))⟩

theorem specOldDay_any (y m d : Int) (w : World) :
    Calls Try.prog 33 #[.agg #[.int .i64 y, .int .i64 m, .int .i64 d]] w fun e w' => e = .returned (.tuple #[.int .i64 (dayR y m d false).1, .int .i64 (dayR y m d false).2]) ∧ Below w.heap.size w w' := by
  cases hy : valid y m d false
  · have hyy : Hid (valid y m d false = false) := hy
    have hv : Hid (dayR y m d false = (0, 1)) := by unfold dayR Hid; rw [hy]; rfl
    clear hy
    go_enter Try.func33, Try.ntmps33
    go_wp2_with (go_at_call 25; (refine (specIsOldDate_is hyy.out _).mono ?_; rintro e w' ⟨rfl, hb⟩; obtain ⟨hc, hf⟩ := bcell hb; have hz := bsize hb))
    go_ret2
    exact ⟨by rw [hv.out]; rfl, by (repeat' (first | (with_reducible exact Below.refl _ _) | (with_reducible assumption) | (with_reducible refine below_al ?_ _) | (with_reducible refine Below.drew ?_) | (with_reducible refine below_drewN ?_ _) | (with_reducible refine below_tt ?_ (by assumption))))⟩
  · have hyy : Hid (valid y m d false = true) := hy
    have hb := valid_t hy
    have hl := mlen_bd y m false
    have hv : Hid (dayR y m d false = (num y m d false, 0)) := by unfold dayR Hid; rw [hy]; rfl
    clear hy
    go_enter Try.func33, Try.ntmps33
    go_wp2_with (first | (go_at_call 25; (refine (specIsOldDate_is hyy.out _).mono ?_; rintro e w' ⟨rfl, hb⟩; obtain ⟨hc, hf⟩ := bcell hb; have hz := bsize hb)) | (go_at_call 49; (refine (l01Number_any _ _ _ _ _ (by omega) (by omega) (by omega) (by omega) (by omega) (by omega)).mono ?_; rintro e w' ⟨rfl, hb⟩; obtain ⟨hc, hf⟩ := bcell hb; have hz := bsize hb)))
    go_ret2
    exact ⟨by rw [hv.out]; rfl, by (repeat' (first | (with_reducible exact Below.refl _ _) | (with_reducible assumption) | (with_reducible refine below_al ?_ _) | (with_reducible refine Below.drew ?_) | (with_reducible refine below_drewN ?_ _) | (with_reducible refine below_tt ?_ (by assumption))))⟩

theorem specNewDay_any (y m d : Int) (w : World) :
    Calls Try.prog 31 #[.agg #[.int .i64 y, .int .i64 m, .int .i64 d]] w fun e w' => e = .returned (.tuple #[.int .i64 (dayR y m d true).1, .int .i64 (dayR y m d true).2]) ∧ Below w.heap.size w w' := by
  cases hy : valid y m d true
  · have hyy : Hid (valid y m d true = false) := hy
    have hv : Hid (dayR y m d true = (0, 1)) := by unfold dayR Hid; rw [hy]; rfl
    clear hy
    go_enter Try.func31, Try.ntmps31
    go_wp2_with (go_at_call 22; (refine (specIsNewDate_is hyy.out _).mono ?_; rintro e w' ⟨rfl, hb⟩; obtain ⟨hc, hf⟩ := bcell hb; have hz := bsize hb))
    go_ret2
    exact ⟨by rw [hv.out]; rfl, by (repeat' (first | (with_reducible exact Below.refl _ _) | (with_reducible assumption) | (with_reducible refine below_al ?_ _) | (with_reducible refine Below.drew ?_) | (with_reducible refine below_drewN ?_ _) | (with_reducible refine below_tt ?_ (by assumption))))⟩
  · have hyy : Hid (valid y m d true = true) := hy
    have hb := valid_t hy
    have hl := mlen_bd y m true
    have hv : Hid (dayR y m d true = (num y m d true, 0)) := by unfold dayR Hid; rw [hy]; rfl
    clear hy
    go_enter Try.func31, Try.ntmps31
    go_wp2_with (first | (go_at_call 22; (refine (specIsNewDate_is hyy.out _).mono ?_; rintro e w' ⟨rfl, hb⟩; obtain ⟨hc, hf⟩ := bcell hb; have hz := bsize hb)) | (go_at_call 49; (refine (l01Number_any _ _ _ _ _ (by omega) (by omega) (by omega) (by omega) (by omega) (by omega)).mono ?_; rintro e w' ⟨rfl, hb⟩; obtain ⟨hc, hf⟩ := bcell hb; have hz := bsize hb)))
    go_ret2
    exact ⟨by rw [hv.out]; rfl, by (repeat' (first | (with_reducible exact Below.refl _ _) | (with_reducible assumption) | (with_reducible refine below_al ?_ _) | (with_reducible refine Below.drew ?_) | (with_reducible refine below_drewN ?_ _) | (with_reducible refine below_tt ?_ (by assumption))))⟩

theorem isLeap_is {y : Int} {f r : Bool} (hr : leap y f = r) (w : World) (h : 0 ≤ y) :
    Calls Try.prog 52 #[.int .i64 y, .bool f] w fun e w' => e = .returned (.bool r) ∧ w = w' := by
  subst hr; exact isLeap_any y f w h
theorem implSundayLetters_any (y : Int) (w : World) :
    Calls Try.prog 28 #[.int .i64 y] w fun e w' => e = .returned (.tuple #[.int .i64 (lettR y).1, .int .i64 (lettR y).2.1, .int .i64 (lettR y).2.2]) ∧ Below w.heap.size w w' := by
  cases hy : inR y 1 2000
  · have hyy : Hid (inR y 1 2000 = false) := hy
    have hv : Hid (lettR y = (0, 0, 2)) := by unfold lettR Hid; rw [hy]; rfl
    clear hy
    go_enter Try.func28, Try.ntmps28
    go_wp2_with (go_at_call 42; refine (isYear_is hyy.out _).mono ?_; rintro e w' ⟨rfl, rfl⟩)
    go_ret3
    exact ⟨by rw [hv.out]; rfl, by (repeat' (first | (with_reducible exact Below.refl _ _) | (with_reducible assumption) | (with_reducible refine below_al ?_ _) | (with_reducible refine Below.drew ?_) | (with_reducible refine below_drewN ?_ _) | (with_reducible refine below_tt ?_ (by assumption))))⟩
  · have hyy : Hid (inR y 1 2000 = true) := hy
    obtain ⟨hb1, hb2⟩ := inR_t hy
    have hn := nyear_lo y false hb1 (by omega)
    obtain ⟨hn1, hn2⟩ := hn
    cases hp : leap y false
    · have hpp : Hid (leap y false = false) := hp
      have hv : Hid (lettR y = (letter y, letter y, 0)) := by unfold lettR Hid; rw [hy, hp]; rfl
      clear hy hp
      go_enter Try.func28, Try.ntmps28
      go_wp2_with (first | (go_at_call 42; refine (isYear_is hyy.out _).mono ?_; rintro e w' ⟨rfl, rfl⟩) | (go_at_call 52; refine (isLeap_is hpp.out _ (by omega)).mono ?_; rintro e w' ⟨rfl, rfl⟩) | (go_at_call 51; refine (newYear_any _ _ _ hb1 (by omega)).mono ?_; rintro e w' ⟨rfl, rfl⟩) | (go_at_call 46; refine (weekdayOf_any _ _ hn1 (by omega)).mono ?_; rintro e w' ⟨rfl, rfl⟩))
      go_ret3
      exact ⟨by rw [hv.out]; rfl, by (repeat' (first | (with_reducible exact Below.refl _ _) | (with_reducible assumption) | (with_reducible refine below_al ?_ _) | (with_reducible refine Below.drew ?_) | (with_reducible refine below_drewN ?_ _) | (with_reducible refine below_tt ?_ (by assumption))))⟩
    · have hpp : Hid (leap y false = true) := hp
      have hv : Hid (lettR y = (letter y, (letter y + 6) % 7, 0)) := by unfold lettR Hid; rw [hy, hp]; rfl
      clear hy hp
      go_enter Try.func28, Try.ntmps28
      go_wp2_with (first | (go_at_call 42; refine (isYear_is hyy.out _).mono ?_; rintro e w' ⟨rfl, rfl⟩) | (go_at_call 52; refine (isLeap_is hpp.out _ (by omega)).mono ?_; rintro e w' ⟨rfl, rfl⟩) | (go_at_call 51; refine (newYear_any _ _ _ hb1 (by omega)).mono ?_; rintro e w' ⟨rfl, rfl⟩) | (go_at_call 46; refine (weekdayOf_any _ _ hn1 (by omega)).mono ?_; rintro e w' ⟨rfl, rfl⟩))
      go_ret3
      exact ⟨by rw [hv.out]; rfl, by (repeat' (first | (with_reducible exact Below.refl _ _) | (with_reducible assumption) | (with_reducible refine below_al ?_ _) | (with_reducible refine Below.drew ?_) | (with_reducible refine below_drewN ?_ _) | (with_reducible refine below_tt ?_ (by assumption))))⟩

theorem l01Jan_any (y : Int) (f : Bool) (w : World) (h1 : 1 ≤ y) (h2 : y ≤ 100000) :
    Calls Try.prog 49 #[.agg #[.int .i64 y, .int .i64 1, .int .i64 1], .bool f] w fun e w' => e = .returned (.int .i64 (nyear y f)) ∧ Below w.heap.size w w' := by
  have := l01Number_any y 1 1 f w h1 h2 (by omega) (by omega) (by omega) (by omega)
  rwa [num_jan] at this

theorem l01Leap_is {y : Int} {f r : Bool} (hr : leap y f = r) (w : World) (h : 0 ≤ y) :
    Calls Try.prog 50 #[.int .i64 y, .bool f] w fun e w' => e = .returned (.bool r) ∧ w = w' := by
  subst hr; exact l01Leap_any y f w h
theorem specSundayLetters_any (y : Int) (w : World) :
    Calls Try.prog 27 #[.int .i64 y] w fun e w' => e = .returned (.tuple #[.int .i64 (lettR y).1, .int .i64 (lettR y).2.1, .int .i64 (lettR y).2.2]) ∧ Below w.heap.size w w' := by
  cases hy : inR y 1 2000
  · have hyy : Hid (inR y 1 2000 = false) := hy
    have hv : Hid (lettR y = (0, 0, 2)) := by unfold lettR Hid; rw [hy]; rfl
    clear hy
    go_enter Try.func27, Try.ntmps27
    go_wp2_with (go_at_call 41; refine (l04Year_is hyy.out _).mono ?_; rintro e w' ⟨rfl, rfl⟩)
    go_ret3
    exact ⟨by rw [hv.out]; rfl, by (repeat' (first | (with_reducible exact Below.refl _ _) | (with_reducible assumption) | (with_reducible refine below_al ?_ _) | (with_reducible refine Below.drew ?_) | (with_reducible refine below_drewN ?_ _) | (with_reducible refine below_tt ?_ (by assumption))))⟩
  · have hyy : Hid (inR y 1 2000 = true) := hy
    obtain ⟨hb1, hb2⟩ := inR_t hy
    have hn := nyear_lo y false hb1 (by omega)
    obtain ⟨hn1, hn2⟩ := hn
    cases hp : leap y false
    · have hpp : Hid (leap y false = false) := hp
      have hv : Hid (lettR y = (letter y, letter y, 0)) := by unfold lettR Hid; rw [hy, hp]; rfl
      clear hy hp
      go_enter Try.func27, Try.ntmps27
      go_wp2_with (first | (go_at_call 41; refine (l04Year_is hyy.out _).mono ?_; rintro e w' ⟨rfl, rfl⟩) | (go_at_call 50; refine (l01Leap_is hpp.out _ (by omega)).mono ?_; rintro e w' ⟨rfl, rfl⟩) | (go_at_call 49; (refine (l01Jan_any _ _ _ hb1 (by omega)).mono ?_; rintro e w' ⟨rfl, hb⟩; obtain ⟨hc, hf⟩ := bcell hb; have hz := bsize hb)) | (go_at_call 44; refine (l01Weekday_any _ _ hn1 (by omega)).mono ?_; rintro e w' ⟨rfl, rfl⟩))
      go_ret3
      exact ⟨by rw [hv.out]; rfl, by (repeat' (first | (with_reducible exact Below.refl _ _) | (with_reducible assumption) | (with_reducible refine below_al ?_ _) | (with_reducible refine Below.drew ?_) | (with_reducible refine below_drewN ?_ _) | (with_reducible refine below_tt ?_ (by assumption))))⟩
    · have hpp : Hid (leap y false = true) := hp
      have hv : Hid (lettR y = (letter y, (letter y + 6) % 7, 0)) := by unfold lettR Hid; rw [hy, hp]; rfl
      clear hy hp
      go_enter Try.func27, Try.ntmps27
      go_wp2_with (first | (go_at_call 41; refine (l04Year_is hyy.out _).mono ?_; rintro e w' ⟨rfl, rfl⟩) | (go_at_call 50; refine (l01Leap_is hpp.out _ (by omega)).mono ?_; rintro e w' ⟨rfl, rfl⟩) | (go_at_call 49; (refine (l01Jan_any _ _ _ hb1 (by omega)).mono ?_; rintro e w' ⟨rfl, hb⟩; obtain ⟨hc, hf⟩ := bcell hb; have hz := bsize hb)) | (go_at_call 44; refine (l01Weekday_any _ _ hn1 (by omega)).mono ?_; rintro e w' ⟨rfl, rfl⟩))
      go_ret3
      exact ⟨by rw [hv.out]; rfl, by (repeat' (first | (with_reducible exact Below.refl _ _) | (with_reducible assumption) | (with_reducible refine below_al ?_ _) | (with_reducible refine Below.drew ?_) | (with_reducible refine below_drewN ?_ _) | (with_reducible refine below_tt ?_ (by assumption))))⟩
end Go.Proofs.Ytoiejdbmjdfdiaa
