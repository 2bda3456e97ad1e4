/- Sets of days: HasDay, NthDay on both sides, and their laws. -/
import Derived.Test.YticnkjpgjcddcaaSets3
namespace Go.Proofs.Yticnkjpgjcddcaa
open Go.RowKit

/-- Is the day in a span of the list? -/
def hasB (xs : List (Int × Int)) (n : Int) : Bool := xs.any fun s => inR n s.1 s.2
theorem gS_mem {xs : List (Int × Int)} {i : Nat} (h : i < xs.length) : gS xs i ∈ xs := by
  simp only [gS, List.getD_eq_getElem?_getD, List.getElem?_eq_getElem h, Option.getD_some]; exact List.getElem_mem h
theorem mem_gS {xs : List (Int × Int)} {s : Int × Int} (h : s ∈ xs) : ∃ i, i < xs.length ∧ gS xs i = s := by
  obtain ⟨i, hi, e⟩ := List.getElem_of_mem h
  exact ⟨i, hi, by simp only [gS, List.getD_eq_getElem?_getD, List.getElem?_eq_getElem hi, Option.getD_some]; exact e⟩
theorem hasB_yes {xs : List (Int × Int)} {n : Int} {i : Nat} (hi : i < xs.length) (h : inR n (gS xs i).1 (gS xs i).2 = true) : hasB xs n = true :=
  List.any_eq_true.2 ⟨_, gS_mem hi, h⟩
theorem hasB_no {xs : List (Int × Int)} {n : Int} (h : ∀ i, i < xs.length → inR n (gS xs i).1 (gS xs i).2 = false) : hasB xs n = false := by
  refine List.any_eq_false.2 fun s hs => ?_
  obtain ⟨i, hi, rfl⟩ := mem_gS hs
  rw [h i hi]; simp

/-- What HasDay answers. -/
noncomputable def hasR (xs : List (Int × Int)) (n : Int) : Bool × Int := if isSet xs = true then (if inR n 0 730499 = true then (hasB xs n, 0) else (false, 2)) else (false, 1)

end Go.Proofs.Yticnkjpgjcddcaa
