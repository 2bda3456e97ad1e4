/- The calendars' dates: IsOldDate, IsNewDate on both sides, and the conversions of the laws. -/
import Derived.Test.YtnjfpipadfcapaaDoorBase
namespace Go.Proofs.YtnjfpipadfcapaaDoor
open Go.RowKit
/-- A calendar: the day of its reform. -/
def calB (c : Int) : Bool := inR c 200000 730486 || decide (c = 730500)
theorem calB_t {c : Int} (h : inR c 200000 730486 = true) : calB c = true := by simp [calB, h]
theorem calB_f {c : Int} (h : inR c 200000 730486 = false) : calB c = decide (c = 730500) := by simp [calB, h]
theorem calB_yes {c : Int} (h : calB c = true) : 200000 ≤ c ∧ c ≤ 730500 := by
  unfold calB at h
  rw [Bool.or_eq_true] at h
  rcases h with h | h
  · have := inR_t h; omega
  · simp at h; omega
end Go.Proofs.YtnjfpipadfcapaaDoor
