/- Sets of days: ShiftSet on both sides. -/
import Derived.Test.YtpinngcdojbndaaGreatDoorSets6
namespace Go.Proofs.YtpinngcdojbndaaGreatDoor
open Go.RowKit

/-- What ShiftSet answers. -/
noncomputable def shiftR (xs : List (Int × Int)) (m : Int) : List (Int × Int) × Int := if isSet xs = true then (if inR m (-730499) 730499 = true then (shiftL m xs, 0) else ([], 2)) else ([], 1)
theorem OwnS.nil (w : World) (base : Nat) : OwnS w base (.slice none 0 0) [] := World.ownsRow_nil w base _ 2
theorem OwnS.more {w : World} {base base' : Nat} {v : Value} {xs : List (Int × Int)} (h : OwnS w base v xs) (hb : base' ≤ base) : OwnS w base' v xs := by
  refine ⟨h.1, ?_⟩
  rcases h.2 with h | ⟨g, cap, cur, hv, hg, rest⟩
  · exact Or.inl h
  · exact Or.inr ⟨g, cap, cur, hv, Nat.le_trans hb hg, rest⟩

end Go.Proofs.YtpinngcdojbndaaGreatDoor
