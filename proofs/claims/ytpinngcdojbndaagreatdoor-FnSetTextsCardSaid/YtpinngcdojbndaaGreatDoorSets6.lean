/- Sets of days: the shift on both sides. -/
import Derived.Test.YtpinngcdojbndaaGreatDoorSets4
import Derived.Test.YtpinngcdojbndaaGreatDoorApp
import Derived.Outline
namespace Go.Proofs.YtpinngcdojbndaaGreatDoor
open Go.RowKit

/-- A span moved, cut at the ends. -/
def shS (n : Int) (s : Int × Int) : Int × Int := (if 0 < s.1 + n then s.1 + n else 0, if s.2 + n < 730499 then s.2 + n else 730499)
def shiftL (n : Int) (xs : List (Int × Int)) : List (Int × Int) := (xs.map (shS n)).filter fun s => decide (s.1 ≤ s.2)
theorem take_gS {xs : List (Int × Int)} {k : Nat} (h : k < xs.length) : xs.take (k + 1) = xs.take k ++ [gS xs k] := by
  rw [List.take_add_one, List.getElem?_eq_getElem h]
  simp only [gS, List.getD_eq_getElem?_getD, List.getElem?_eq_getElem h, Option.getD_some, Option.toList_some]
theorem shift_put {n : Int} {xs : List (Int × Int)} {k : Nat} (h : k < xs.length) (hs : (shS n (gS xs k)).1 ≤ (shS n (gS xs k)).2) : shiftL n (xs.take (k + 1)) = shiftL n (xs.take k) ++ [shS n (gS xs k)] := by
  rw [take_gS h]; simp only [shiftL, List.map_append, List.filter_append, List.map_cons, List.map_nil]; rw [List.filter_cons_of_pos (by simpa using hs)]; rfl
theorem shift_skip {n : Int} {xs : List (Int × Int)} {k : Nat} (h : k < xs.length) (hs : ¬ (shS n (gS xs k)).1 ≤ (shS n (gS xs k)).2) : shiftL n (xs.take (k + 1)) = shiftL n (xs.take k) := by
  rw [take_gS h]; simp only [shiftL, List.map_append, List.filter_append, List.map_cons, List.map_nil]; rw [List.filter_cons_of_neg (by simpa using hs)]; simp
theorem shift_len (n : Int) (xs : List (Int × Int)) (k : Nat) : (shiftL n (xs.take k)).length ≤ k := by
  unfold shiftL
  refine Nat.le_trans (List.length_filter_le _ _) ?_
  rw [List.length_map, List.length_take]; omega

end Go.Proofs.YtpinngcdojbndaaGreatDoor
