/- Sets of days: countDays on both sides, CountDays. -/
import Derived.Test.YtpinngcdojbndaaGreatDoorSets2
namespace Go.Proofs.YtpinngcdojbndaaGreatDoor
open Go.RowKit

/-- The days of the first k spans. -/
def sumTo (xs : List (Int × Int)) : Nat → Int
  | 0 => 0
  | k + 1 => sumTo xs k + ((gS xs k).2 - (gS xs k).1 + 1)
theorem okS_iff {s : Int × Int} : okS s = true ↔ (0 ≤ s.1 ∧ s.1 ≤ s.2 ∧ s.2 ≤ 730499) := by
  simp [okS, inR]; omega
theorem sumTo_bd {xs : List (Int × Int)} (h : ∀ i, i < xs.length → okS (gS xs i) = true) (k : Nat) (hk : k ≤ xs.length) : 0 ≤ sumTo xs k ∧ sumTo xs k ≤ k * 730500 := by
  induction k with
  | zero => simp [sumTo]
  | succ k ih =>
    have h1 := okS_iff.1 (h k (by omega))
    have h2 := ih (by omega)
    simp only [sumTo]
    push_cast
    omega

theorem isSet_ok {xs : List (Int × Int)} (h : isSet xs = true) : xs.length ≤ 300 ∧ ∀ i, i < xs.length → okS (gS xs i) = true :=
  ⟨(isSet_iff.1 h).2, fun i hi => ((isSet_iff.1 h).1 i hi).1⟩
/-- What CountDays answers. -/
noncomputable def countR (xs : List (Int × Int)) : Int × Int := if isSet xs = true then (sumTo xs xs.length, 0) else (0, 1)
end Go.Proofs.YtpinngcdojbndaaGreatDoor
