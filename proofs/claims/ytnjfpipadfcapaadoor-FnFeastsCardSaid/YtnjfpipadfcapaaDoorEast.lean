/- Easter, on both sides; golden numbers, letters, terms; the exported functions of one number. -/
import Derived.Test.YtnjfpipadfcapaaDoorNum
import Derived.Test.YtnjfpipadfcapaaDoorDates
namespace Go.Proofs.YtnjfpipadfcapaaDoor
open Go.RowKit

theorem ret_two {a b c d : Int} (h : a = c) (k : b = d) : Ending.returned (.tuple #[.int .i64 a, .int .i64 b]) = .returned (.tuple #[.int .i64 c, .int .i64 d]) := by rw [h, k]
theorem ret_three {a b c d e f : Int} (h : a = d) (k : b = e) (l : c = f) : Ending.returned (.tuple #[.int .i64 a, .int .i64 b, .int .i64 c]) = .returned (.tuple #[.int .i64 d, .int .i64 e, .int .i64 f]) := by rw [h, k, l]

/-- A pair of numbers, as a result. -/
def two (r : Int × Int) : Value := .tuple #[.int .i64 r.1, .int .i64 r.2]
def three (r : Int × Int × Int) : Value := .tuple #[.int .i64 r.1, .int .i64 r.2.1, .int .i64 r.2.2]

theorem moonDays_any (y : Int) (w : World) (h : 1 ≤ y) (k : y ≤ 2000) :
    Calls Tryd.prog 69 #[.int .i64 y] w fun e w' => e = .returned (.int .i64 (moon y)) ∧ w = w' := by
  go_enter Tryd.func69, Tryd.ntmps69
  go_wp2
  go_ret
  exact ⟨ret_int (by simp [moon]), rfl⟩
theorem oldEaster_any (y : Int) (w : World) (h : 1 ≤ y) (k : y ≤ 2000) :
    Calls Tryd.prog 62 #[.int .i64 y] w fun e w' => e = .returned (.int .i64 (oeaster y)) ∧ Below w.heap.size w w' := by
  have hm := moon_bd y h
  have hS : Hid (oeaster y = num y ((moon y + ((2 * (y % 4) + 4 * (y % 7) - moon y + 34) % 7) + 114) / 31) ((moon y + ((2 * (y % 4) + 4 * (y % 7) - moon y + 34) % 7) + 114) % 31 + 1) false) := rfl
  go_enter Tryd.func62, Tryd.ntmps62
  go_wp2_with fail
  refine (moonDays_any _ _ h k).mono ?_
  rintro e w' ⟨rfl, rfl⟩
  go_wp2_with fail
  refine (dayOf_any _ _ _ _ _ (by omega) (by omega) (by omega) (by omega) (by omega) (by omega)).mono ?_
  rintro e w' ⟨rfl, hb⟩
  go_wp2
  go_ret
  exact ⟨ret_int hS.out.symm, by (repeat' (first | (with_reducible exact Below.refl _ _) | (with_reducible assumption) | (with_reducible refine below_al ?_ _) | (with_reducible refine Below.drew ?_) | (with_reducible refine Below.setCell ?_ (by first | exact Nat.le_refl _ | (dsimp only; omega) | (simp; omega)) _) | (with_reducible refine below_drewN ?_ _) | (with_reducible refine below_tt ?_ (by assumption))))⟩
theorem l04Old_any (y : Int) (w : World) (h : 1 ≤ y) (k : y ≤ 2000) :
    Calls Tryd.prog 55 #[.int .i64 y] w fun e w' => e = .returned (.agg #[.int .i64 y, .int .i64 (oem y), .int .i64 (oed y)]) ∧ Below w.heap.size w w' := by
  have hm := moon_bd y h
  go_enter Tryd.func55, Tryd.ntmps55
  go_wp2
  refine bodyPost_ret (v := .agg #[.int .i64 y, .int .i64 (oem y), .int .i64 (oed y)]) (by simp [results, Tryd.results55, go_sem, oem, oed, oes, moon]) rfl ⟨rfl, ?_⟩
  (repeat' (first | (with_reducible exact Below.refl _ _) | (with_reducible assumption) | (with_reducible refine below_al ?_ _) | (with_reducible refine Below.drew ?_) | (with_reducible refine Below.setCell ?_ (by first | exact Nat.le_refl _ | (dsimp only; omega) | (simp; omega)) _) | (with_reducible refine below_drewN ?_ _) | (with_reducible refine below_tt ?_ (by assumption))))

end Go.Proofs.YtnjfpipadfcapaaDoor
