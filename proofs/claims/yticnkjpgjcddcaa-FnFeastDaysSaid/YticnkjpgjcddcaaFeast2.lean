/- The exported day of a feast: both sides. -/
import Derived.Test.YticnkjpgjcddcaaFeast
namespace Go.Proofs.Yticnkjpgjcddcaa
open Go.RowKit

theorem isFeast_is {n : Int} {r : Bool} (h : inR n 0 19 = r) (w : World) :
    Calls Try.prog 146 #[.int .i64 n] w fun e w' => e = .returned (.bool r) ∧ w = w' := by
  subst h
  go_enter Try.func146, Try.ntmps146
  go_wp2_with (go_at_call 110; refine (within_any _ _ _ _).mono ?_; rintro e w' ⟨rfl, rfl⟩)
  go_ret
  exact ⟨rfl, rfl⟩
theorem l05Feast_is {n : Int} {r : Bool} (h : inR n 0 19 = r) (w : World) :
    Calls Try.prog 95 #[.int .i64 n] w fun e w' => e = .returned (.bool r) ∧ w = w' := by
  subst h
  go_enter Try.func95, Try.ntmps95
  go_wp2_with (go_at_call 88; refine (l01In_any _ _ _ _).mono ?_; rintro e w' ⟨rfl, rfl⟩)
  go_ret
  exact ⟨rfl, rfl⟩
theorem dayOr_is {n : Int} {r : Bool} (h : inR n 0 730499 = r) (w : World) :
    Calls Try.prog 100 #[.int .i64 n] w fun e w' => e = .returned (.tuple #[.int .i64 (if r = true then n else 0), .int .i64 (if r = true then 0 else 4)]) ∧ w = w' := by
  have h1 := Lib.hid h
  clear h
  cases r
  all_goals
    go_enter Try.func100, Try.ntmps100
    go_wp2_with (go_at_call 104; refine (isDay_is h1.out _).mono ?_; rintro e w' ⟨rfl, rfl⟩)
    go_ret2
    exact ⟨rfl, rfl⟩
theorem dayOr_in {n : Int} (h : inR n 0 730499 = true) (w : World) :
    Calls Try.prog 100 #[.int .i64 n] w fun e w' => e = .returned (.tuple #[.int .i64 n, .int .i64 0]) ∧ w = w' := dayOr_is h w

end Go.Proofs.Yticnkjpgjcddcaa
