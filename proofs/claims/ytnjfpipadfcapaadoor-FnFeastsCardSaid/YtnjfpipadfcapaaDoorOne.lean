/- The exported functions of one number or one date, on both sides. -/
import Derived.Test.YtnjfpipadfcapaaDoorEast
namespace Go.Proofs.YtnjfpipadfcapaaDoor
open Go.RowKit

/-! What each returns. -/
def goldR (y : Int) : Int × Int := if inR y 1 2000 = true then (y % 19 + 1, 0) else (0, 2)
def weekR (n : Int) : Int × Int := if inR n 0 730499 = true then ((n + 5) % 7, 0) else (0, 2)
def dayR (y m d : Int) (f : Bool) : Int × Int := if valid y m d f = true then (num y m d f, 0) else (0, 1)
def termR (y : Int) : Int × Int := if inR y 1 2000 = true then (num y 3 21 false + moon y, 0) else (0, 2)
def oeastR (y : Int) : Int × Int := if inR y 1 2000 = true then (oeaster y, 0) else (0, 2)
def neastR (y : Int) : Int × Int := if inR y 1583 2000 = true then (neaster y, 0) else (0, 2)
def letter (y : Int) : Int := 6 - (nyear y false + 5) % 7
def lettR (y : Int) : Int × Int × Int := if inR y 1 2000 = true then (if leap y false = true then (letter y, (letter y + 6) % 7, 0) else (letter y, letter y, 0)) else (0, 0, 2)
theorem num_jan (y : Int) (f : Bool) : num y 1 1 f = nyear y f := by unfold num; rw [cum_one]; omega

theorem implWeekdayOf_any (y : Int) (w : World) :
    Calls Tryd.prog 22 #[.int .i64 y] w fun e w' => e = .returned (.tuple #[.int .i64 (weekR y).1, .int .i64 (weekR y).2]) ∧ Below w.heap.size w w' := by
  cases hy : inR y 0 730499
  · have hyy : Hid (inR y 0 730499 = false) := hy
    have hv : Hid (weekR y = (0, 2)) := by unfold weekR Hid; rw [hy]; rfl
    clear hy
    go_enter Tryd.func22, Tryd.ntmps22
    go_wp2_with (go_at_call 43; refine (isDay_is hyy.out _).mono ?_; rintro e w' ⟨rfl, rfl⟩)
    go_ret2
    exact ⟨by rw [hv.out]; rfl, by (repeat' (first | (with_reducible exact Below.refl _ _) | (with_reducible assumption) | (with_reducible refine below_al ?_ _) | (with_reducible refine Below.drew ?_) | (with_reducible refine Below.setCell ?_ (by first | exact Nat.le_refl _ | (dsimp only; omega) | (simp; omega)) _) | (with_reducible refine below_drewN ?_ _) | (with_reducible refine below_tt ?_ (by assumption))))⟩
  · have hyy : Hid (inR y 0 730499 = true) := hy
    have hb := inR_t hy
    obtain ⟨hb1, hb2⟩ := hb
    have hv : Hid (weekR y = ((y + 5) % 7, 0)) := by unfold weekR Hid; rw [hy]; rfl
    clear hy
    go_enter Tryd.func22, Tryd.ntmps22
    go_wp2_with (first | (go_at_call 43; refine (isDay_is hyy.out _).mono ?_; rintro e w' ⟨rfl, rfl⟩) | (go_at_call 48; refine (weekdayOf_any _ _ hb1 (by omega)).mono ?_; rintro e w' ⟨rfl, rfl⟩))
    go_ret2
    exact ⟨by rw [hv.out]; rfl, by (repeat' (first | (with_reducible exact Below.refl _ _) | (with_reducible assumption) | (with_reducible refine below_al ?_ _) | (with_reducible refine Below.drew ?_) | (with_reducible refine Below.setCell ?_ (by first | exact Nat.le_refl _ | (dsimp only; omega) | (simp; omega)) _) | (with_reducible refine below_drewN ?_ _) | (with_reducible refine below_tt ?_ (by assumption))))⟩

theorem isLeap_is {y : Int} {f r : Bool} (hr : leap y f = r) (w : World) (h : 0 ≤ y) :
    Calls Tryd.prog 68 #[.int .i64 y, .bool f] w fun e w' => e = .returned (.bool r) ∧ w = w' := by
  subst hr; exact isLeap_any y f w h
theorem l01Jan_any (y : Int) (f : Bool) (w : World) (h1 : 1 ≤ y) (h2 : y ≤ 100000) :
    Calls Tryd.prog 54 #[.agg #[.int .i64 y, .int .i64 1, .int .i64 1], .bool f] w fun e w' => e = .returned (.int .i64 (nyear y f)) ∧ Below w.heap.size w w' := by
  have := l01Number_any y 1 1 f w h1 h2 (by omega) (by omega) (by omega) (by omega)
  rwa [num_jan] at this

theorem l01Leap_is {y : Int} {f r : Bool} (hr : leap y f = r) (w : World) (h : 0 ≤ y) :
    Calls Tryd.prog 73 #[.int .i64 y, .bool f] w fun e w' => e = .returned (.bool r) ∧ w = w' := by
  subst hr; exact l01Leap_any y f w h
end Go.Proofs.YtnjfpipadfcapaaDoor
