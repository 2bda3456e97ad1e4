/- Sets of days: what both lists hold, on both sides. -/
import Derived.Test.YtpinngcdojbndaaGreatDoorSets4
import Derived.Test.YtpinngcdojbndaaGreatDoorApp
import Derived.Test.YtpinngcdojbndaaGreatDoorOwn
import Derived.Deep.DeepCutAuto
namespace Go.Proofs.YtpinngcdojbndaaGreatDoor
open Go.RowKit

/-- What two spans have in common. -/
def cutS (x y : Int × Int) : Int × Int := (if x.1 < y.1 then y.1 else x.1, if y.2 < x.2 then y.2 else x.2)
def meetL : List (Int × Int) → List (Int × Int) → List (Int × Int)
  | [], _ => []
  | _ :: _, [] => []
  | x :: xs, y :: ys => (if (cutS x y).1 ≤ (cutS x y).2 then [cutS x y] else []) ++ (if x.2 < y.2 then meetL xs (y :: ys) else meetL (x :: xs) ys)
termination_by xs ys => xs.length + ys.length
theorem meetL_nil (ys : List (Int × Int)) : meetL [] ys = [] := by unfold meetL; rfl
theorem meetL_nil' (xs : List (Int × Int)) : meetL xs [] = [] := by cases xs <;> (unfold meetL; rfl)
/-- How far the meeting has come. -/
def meetAt (xs ys P : List (Int × Int)) (i k : Nat) : Prop := P ++ meetL (xs.drop i) (ys.drop k) = meetL xs ys ∧ P.length ≤ i + k
theorem meetAt_end {xs ys P : List (Int × Int)} {i k : Nat} (h : meetAt xs ys P i k) (he : xs.length ≤ i ∨ ys.length ≤ k) : P = meetL xs ys := by
  obtain ⟨h, _⟩ := h
  rcases he with he | he
  · rw [List.drop_eq_nil_of_le he, meetL_nil, List.append_nil] at h; exact h
  · rw [List.drop_eq_nil_of_le he, meetL_nil', List.append_nil] at h; exact h
theorem drop_gS' {xs : List (Int × Int)} {i : Nat} (h : i < xs.length) : xs.drop i = gS xs i :: xs.drop (i + 1) := by
  rw [List.drop_eq_getElem_cons h]
  simp only [gS, List.getD_eq_getElem?_getD, List.getElem?_eq_getElem h, Option.getD_some]
theorem meetAt_unf {xs ys P : List (Int × Int)} {i k : Nat} (h : meetAt xs ys P i k) (hi : i < xs.length) (hk : k < ys.length) :
    (P ++ (if (cutS (gS xs i) (gS ys k)).1 ≤ (cutS (gS xs i) (gS ys k)).2 then [cutS (gS xs i) (gS ys k)] else [])) ++ (if (gS xs i).2 < (gS ys k).2 then meetL (xs.drop (i + 1)) (ys.drop k) else meetL (xs.drop i) (ys.drop (k + 1))) = meetL xs ys := by
  rw [← h.1]
  conv => rhs; rw [drop_gS' hi, drop_gS' hk]; unfold meetL
  rw [List.append_assoc, ← drop_gS' hi, ← drop_gS' hk]
theorem meetAt_step {xs ys P : List (Int × Int)} {i k : Nat} (h : meetAt xs ys P i k) (hi : i < xs.length) (hk : k < ys.length) :
    ((cutS (gS xs i) (gS ys k)).1 ≤ (cutS (gS xs i) (gS ys k)).2 → ((gS xs i).2 < (gS ys k).2 → meetAt xs ys (P ++ [cutS (gS xs i) (gS ys k)]) (i + 1) k) ∧ (¬ (gS xs i).2 < (gS ys k).2 → meetAt xs ys (P ++ [cutS (gS xs i) (gS ys k)]) i (k + 1))) ∧
    (¬ (cutS (gS xs i) (gS ys k)).1 ≤ (cutS (gS xs i) (gS ys k)).2 → ((gS xs i).2 < (gS ys k).2 → meetAt xs ys P (i + 1) k) ∧ (¬ (gS xs i).2 < (gS ys k).2 → meetAt xs ys P i (k + 1))) := by
  have hu := meetAt_unf h hi hk
  have hl := h.2
  refine ⟨fun hc => ⟨fun hlt => ?_, fun hlt => ?_⟩, fun hc => ⟨fun hlt => ?_, fun hlt => ?_⟩⟩
  · rw [if_pos hc, if_pos hlt] at hu; exact ⟨hu, by simp; omega⟩
  · rw [if_pos hc, if_neg hlt] at hu; exact ⟨hu, by simp; omega⟩
  · rw [if_neg hc, if_pos hlt, List.append_nil] at hu; exact ⟨hu, by omega⟩
  · rw [if_neg hc, if_neg hlt, List.append_nil] at hu; exact ⟨hu, by omega⟩
theorem meet_len (xs ys : List (Int × Int)) : (meetL xs ys).length ≤ xs.length + ys.length := by
  suffices h : ∀ n (xs ys : List (Int × Int)), xs.length + ys.length = n → (meetL xs ys).length ≤ xs.length + ys.length from h _ xs ys rfl
  intro n
  induction n using Nat.strongRecOn with
  | _ n ih =>
    intro xs ys hn
    cases xs with
    | nil => simp [meetL_nil]
    | cons x xs =>
      cases ys with
      | nil => simp [meetL_nil']
      | cons y ys =>
        have h1 := ih (xs.length + (y :: ys).length) (by simp at hn ⊢; omega) xs (y :: ys) rfl
        have h2 := ih ((x :: xs).length + ys.length) (by simp at hn ⊢; omega) (x :: xs) ys rfl
        unfold meetL
        rw [List.length_append]
        split <;> split <;> simp at h1 h2 ⊢ <;> omega

end Go.Proofs.YtpinngcdojbndaaGreatDoor
