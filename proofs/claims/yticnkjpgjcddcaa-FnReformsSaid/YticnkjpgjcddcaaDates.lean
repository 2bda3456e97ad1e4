/- The calendars' dates: IsOldDate, IsNewDate on both sides, and the conversions of the laws. -/
import Derived.Test.YticnkjpgjcddcaaBase
namespace Go.Proofs.Yticnkjpgjcddcaa
open Go.RowKit

theorem specIsOldDate_any (y m d : Int) (w : World) :
    Calls Try.prog 89 #[.agg #[.int .i64 y, .int .i64 m, .int .i64 d]] w fun e w' => e = .returned (.bool (valid y m d false)) ∧ Below w.heap.size w w' := by
  go_enter Try.func89, Try.ntmps89
  go_wp2_with (go_at_call 142; refine (l01Valid_any _ _ _ _ _).mono ?_; rintro e w' ⟨rfl, hb⟩)
  go_ret
  exact ⟨rfl, by (repeat' (first | (with_reducible exact Below.refl _ _) | (with_reducible assumption) | (with_reducible refine below_al ?_ _) | (with_reducible refine Below.drew ?_) | (with_reducible refine Below.setCell ?_ (by first | exact Nat.le_refl _ | (dsimp only; omega) | (simp; omega)) _) | (with_reducible refine below_drewN ?_ _) | (with_reducible refine below_tt ?_ (by assumption))))⟩
theorem specIsNewDate_any (y m d : Int) (w : World) :
    Calls Try.prog 155 #[.agg #[.int .i64 y, .int .i64 m, .int .i64 d]] w fun e w' => e = .returned (.bool (valid y m d true)) ∧ Below w.heap.size w w' := by
  go_enter Try.func155, Try.ntmps155
  go_wp2_with (go_at_call 142; refine (l01Valid_any _ _ _ _ _).mono ?_; rintro e w' ⟨rfl, hb⟩)
  go_ret
  exact ⟨rfl, by (repeat' (first | (with_reducible exact Below.refl _ _) | (with_reducible assumption) | (with_reducible refine below_al ?_ _) | (with_reducible refine Below.drew ?_) | (with_reducible refine Below.setCell ?_ (by first | exact Nat.le_refl _ | (dsimp only; omega) | (simp; omega)) _) | (with_reducible refine below_drewN ?_ _) | (with_reducible refine below_tt ?_ (by assumption))))⟩
theorem implIsOldDate_any (y m d : Int) (w : World) :
    Calls Try.prog 43 #[.agg #[.int .i64 y, .int .i64 m, .int .i64 d]] w fun e w' => e = .returned (.bool (valid y m d false)) ∧ Below w.heap.size w w' := by
  go_enter Try.func43, Try.ntmps43
  go_wp2_with (go_at_call 121; refine (isDate_any _ _ _ _ _).mono ?_; rintro e w' ⟨rfl, hb⟩)
  go_ret
  exact ⟨rfl, by (repeat' (first | (with_reducible exact Below.refl _ _) | (with_reducible assumption) | (with_reducible refine below_al ?_ _) | (with_reducible refine Below.drew ?_) | (with_reducible refine Below.setCell ?_ (by first | exact Nat.le_refl _ | (dsimp only; omega) | (simp; omega)) _) | (with_reducible refine below_drewN ?_ _) | (with_reducible refine below_tt ?_ (by assumption))))⟩
theorem implIsNewDate_any (y m d : Int) (w : World) :
    Calls Try.prog 156 #[.agg #[.int .i64 y, .int .i64 m, .int .i64 d]] w fun e w' => e = .returned (.bool (valid y m d true)) ∧ Below w.heap.size w w' := by
  go_enter Try.func156, Try.ntmps156
  go_wp2_with (go_at_call 121; refine (isDate_any _ _ _ _ _).mono ?_; rintro e w' ⟨rfl, hb⟩)
  go_ret
  exact ⟨rfl, by (repeat' (first | (with_reducible exact Below.refl _ _) | (with_reducible assumption) | (with_reducible refine below_al ?_ _) | (with_reducible refine Below.drew ?_) | (with_reducible refine Below.setCell ?_ (by first | exact Nat.le_refl _ | (dsimp only; omega) | (simp; omega)) _) | (with_reducible refine below_drewN ?_ _) | (with_reducible refine below_tt ?_ (by assumption))))⟩
theorem specIsOldDate_is {y m d : Int} {r : Bool} (h : valid y m d false = r) (w : World) :
    Calls Try.prog 89 #[.agg #[.int .i64 y, .int .i64 m, .int .i64 d]] w fun e w' => e = .returned (.bool r) ∧ Below w.heap.size w w' := by
  subst h; exact specIsOldDate_any _ _ _ w
theorem specIsNewDate_is {y m d : Int} {r : Bool} (h : valid y m d true = r) (w : World) :
    Calls Try.prog 155 #[.agg #[.int .i64 y, .int .i64 m, .int .i64 d]] w fun e w' => e = .returned (.bool r) ∧ Below w.heap.size w w' := by
  subst h; exact specIsNewDate_any _ _ _ w
theorem implIsOldDate_is {y m d : Int} {r : Bool} (h : valid y m d false = r) (w : World) :
    Calls Try.prog 43 #[.agg #[.int .i64 y, .int .i64 m, .int .i64 d]] w fun e w' => e = .returned (.bool r) ∧ Below w.heap.size w w' := by
  subst h; exact implIsOldDate_any _ _ _ w
theorem implIsNewDate_is {y m d : Int} {r : Bool} (h : valid y m d true = r) (w : World) :
    Calls Try.prog 156 #[.agg #[.int .i64 y, .int .i64 m, .int .i64 d]] w fun e w' => e = .returned (.bool r) ∧ Below w.heap.size w w' := by
  subst h; exact implIsNewDate_any _ _ _ w

/-- A calendar: the day of its reform. -/
def calB (c : Int) : Bool := inR c 200000 730486 || decide (c = 730500)
theorem calB_t {c : Int} (h : inR c 200000 730486 = true) : calB c = true := by simp [calB, h]
theorem calB_f {c : Int} (h : inR c 200000 730486 = false) : calB c = decide (c = 730500) := by simp [calB, h]
theorem calB_yes {c : Int} (h : calB c = true) : 200000 ≤ c ∧ c ≤ 730500 := by
  unfold calB at h
  rw [Bool.or_eq_true] at h
  rcases h with h | h
  · have := inR_t h; omega
  · simp at h; omega
theorem specIsCalendar_any (c : Int) (w : World) :
    Calls Try.prog 72 #[.agg #[.int .i64 c]] w fun e w' => e = .returned (.bool (calB c)) ∧ Below w.heap.size w w' := by
  cases hc : inR c 200000 730486
  · have hv : Hid (calB c = decide (c = 730500)) := calB_f hc
    have hyy : Hid (inR c 200000 730486 = false) := hc
    clear hc
    go_enter Try.func72, Try.ntmps72
    go_wp2_with (go_at_call 88; refine (l01In_is hyy.out _).mono ?_; rintro e w' ⟨rfl, rfl⟩)
    go_ret
    exact ⟨ret_bool (by rw [hv.out]; first | rfl | (rw [Bool.eq_iff_iff]; simp)), by (repeat' (first | (with_reducible exact Below.refl _ _) | (with_reducible assumption) | (with_reducible refine below_al ?_ _) | (with_reducible refine Below.drew ?_) | (with_reducible refine Below.setCell ?_ (by first | exact Nat.le_refl _ | (dsimp only; omega) | (simp; omega)) _) | (with_reducible refine below_drewN ?_ _) | (with_reducible refine below_tt ?_ (by assumption))))⟩
  · have hv : Hid (calB c = true) := calB_t hc
    have hyy : Hid (inR c 200000 730486 = true) := hc
    clear hc
    go_enter Try.func72, Try.ntmps72
    go_wp2_with (go_at_call 88; refine (l01In_is hyy.out _).mono ?_; rintro e w' ⟨rfl, rfl⟩)
    go_ret
    exact ⟨ret_bool hv.out.symm, by (repeat' (first | (with_reducible exact Below.refl _ _) | (with_reducible assumption) | (with_reducible refine below_al ?_ _) | (with_reducible refine Below.drew ?_) | (with_reducible refine Below.setCell ?_ (by first | exact Nat.le_refl _ | (dsimp only; omega) | (simp; omega)) _) | (with_reducible refine below_drewN ?_ _) | (with_reducible refine below_tt ?_ (by assumption))))⟩
theorem specIsCalendar_is {c : Int} {r : Bool} (h : calB c = r) (w : World) :
    Calls Try.prog 72 #[.agg #[.int .i64 c]] w fun e w' => e = .returned (.bool r) ∧ Below w.heap.size w w' := by
  subst h; exact specIsCalendar_any c w
theorem implIsCalendar_any (c : Int) (w : World) :
    Calls Try.prog 71 #[.agg #[.int .i64 c]] w fun e w' => e = .returned (.bool (calB c)) ∧ Below w.heap.size w w' := by
  cases hc : inR c 200000 730486
  · have hv : Hid (calB c = decide (c = 730500)) := calB_f hc
    have hyy : Hid (inR c 200000 730486 = false) := hc
    clear hc
    go_enter Try.func71, Try.ntmps71
    go_wp2_with (go_at_call 110; refine (within_is hyy.out _).mono ?_; rintro e w' ⟨rfl, rfl⟩)
    go_ret
    exact ⟨ret_bool (by rw [hv.out]; first | rfl | (rw [Bool.eq_iff_iff]; simp)), by (repeat' (first | (with_reducible exact Below.refl _ _) | (with_reducible assumption) | (with_reducible refine below_al ?_ _) | (with_reducible refine Below.drew ?_) | (with_reducible refine Below.setCell ?_ (by first | exact Nat.le_refl _ | (dsimp only; omega) | (simp; omega)) _) | (with_reducible refine below_drewN ?_ _) | (with_reducible refine below_tt ?_ (by assumption))))⟩
  · have hv : Hid (calB c = true) := calB_t hc
    have hyy : Hid (inR c 200000 730486 = true) := hc
    clear hc
    go_enter Try.func71, Try.ntmps71
    go_wp2_with (go_at_call 110; refine (within_is hyy.out _).mono ?_; rintro e w' ⟨rfl, rfl⟩)
    go_ret
    exact ⟨ret_bool hv.out.symm, by (repeat' (first | (with_reducible exact Below.refl _ _) | (with_reducible assumption) | (with_reducible refine below_al ?_ _) | (with_reducible refine Below.drew ?_) | (with_reducible refine Below.setCell ?_ (by first | exact Nat.le_refl _ | (dsimp only; omega) | (simp; omega)) _) | (with_reducible refine below_drewN ?_ _) | (with_reducible refine below_tt ?_ (by assumption))))⟩
theorem implIsCalendar_is {c : Int} {r : Bool} (h : calB c = r) (w : World) :
    Calls Try.prog 71 #[.agg #[.int .i64 c]] w fun e w' => e = .returned (.bool r) ∧ Below w.heap.size w w' := by
  subst h; exact implIsCalendar_any c w
end Go.Proofs.Yticnkjpgjcddcaa
