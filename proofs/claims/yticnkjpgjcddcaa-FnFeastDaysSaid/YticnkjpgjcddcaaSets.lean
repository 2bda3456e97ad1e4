/- Sets of days: which lists are sets; how many days they have. -/
import Derived.Test.YticnkjpgjcddcaaSpans
namespace Go.Proofs.Yticnkjpgjcddcaa
open Go.RowKit

/-- The k-th span. -/
abbrev gS (xs : List (Int × Int)) (k : Nat) : Int × Int := xs.getD k (0, 0)
/-- A span of days. -/
def okS (s : Int × Int) : Bool := inR s.1 0 730499 && inR s.2 0 730499 && decide (s.1 ≤ s.2)
/-- The first k spans are well, and as far apart as must be. -/
def goodTo (xs : List (Int × Int)) (k : Nat) : Prop := ∀ i, i < k → okS (gS xs i) = true ∧ (0 < i → (gS xs (i - 1)).2 + 2 ≤ (gS xs i).1)
/-- Is it a set? -/
noncomputable def isSet (xs : List (Int × Int)) : Bool := @decide (goodTo xs xs.length ∧ xs.length ≤ 300) (Classical.propDecidable _)
theorem isSet_iff {xs : List (Int × Int)} : isSet xs = true ↔ (goodTo xs xs.length ∧ xs.length ≤ 300) := by unfold isSet; simp
theorem isSet_bad {xs : List (Int × Int)} {k : Nat} (hk : k < xs.length) (h : ¬ (okS (gS xs k) = true ∧ (0 < k → (gS xs (k - 1)).2 + 2 ≤ (gS xs k).1))) : isSet xs = false := by
  cases hb : isSet xs
  · rfl
  · exact absurd ((isSet_iff.1 hb).1 k hk) h
theorem okS_bd {s : Int × Int} (h : okS s = true) : s.2 ≤ 730499 ∧ 0 ≤ s.2 := by
  simp [okS, inR] at h; omega
theorem goodTo_succ {xs : List (Int × Int)} {k : Nat} (h : goodTo xs k) (hk : okS (gS xs k) = true) (hg : 0 < k → (gS xs (k - 1)).2 + 2 ≤ (gS xs k).1) : goodTo xs (k + 1) := by
  intro i hi
  rcases Nat.lt_or_ge i k with h3 | h3
  · exact h i h3
  · obtain rfl : i = k := by omega
    exact ⟨hk, hg⟩

theorem okS_parts (s : Int × Int) : okS s = (inR s.1 0 730499 && inR s.2 0 730499 && decide (s.1 ≤ s.2)) := rfl
end Go.Proofs.Yticnkjpgjcddcaa
