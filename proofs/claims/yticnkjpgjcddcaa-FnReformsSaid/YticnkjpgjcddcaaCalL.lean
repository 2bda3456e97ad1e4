/- Plain laws of calendars: local dates and days determine each other; how many dates a reform skips; how long a year is. -/
import Derived.Test.YticnkjpgjcddcaaLocal
import Derived.Test.YticnkjpgjcddcaaLoc2
import Derived.Test.YticnkjpgjcddcaaDays
import Derived.Test.YticnkjpgjcddcaaFnDays
namespace Go.Proofs.Yticnkjpgjcddcaa
open Go.RowKit

theorem mlen_same (y m : Int) (h : m ≠ 2) : mlen y m false = mlen y m true := by unfold mlen; rw [if_neg h, if_neg h]
theorem mlen_two (y : Int) : mlen y 2 true ≤ mlen y 2 false ∧ mlen y 2 false ≤ mlen y 2 true + 1 ∧ (¬ (y % 100 = 0 ∧ y % 400 ≠ 0) → mlen y 2 false = mlen y 2 true) := by
  unfold mlen leap
  simp only [if_pos]
  refine ⟨?_, ?_, ?_⟩
  · split <;> split <;> simp_all
  · split <;> split <;> simp_all
  · intro h
    by_cases h4 : y % 4 = 0 <;> by_cases h1 : y % 100 = 0 <;> by_cases h2 : y % 400 = 0 <;> simp [h4, h1, h2] <;> omega
theorem cumN_diff (y : Int) (k : Nat) : cumN y true k ≤ cumN y false k ∧ cumN y false k ≤ cumN y true k + (mlen y 2 false - mlen y 2 true) ∧ (k ≤ 1 → cumN y false k = cumN y true k) := by
  have h2 := mlen_two y
  induction k with
  | zero => simp [cumN]; omega
  | succ k ih =>
    simp only [cumN]
    by_cases hk : k = 1
    · subst hk
      have e := ih.2.2 (by omega)
      have c : (((1 : Nat) : Int) + 1) = 2 := by omega
      rw [c]
      omega
    · have e := mlen_same y ((k : Int) + 1) (by omega)
      have i1 := ih.1
      have i2 := ih.2.1
      have i3 := ih.2.2
      omega
theorem num_diff (y m d : Int) : num y m d false - num y m d true = ((y - 1) / 100 - (y - 1) / 400 - 2) + (cum y m false - cum y m true) := by
  have e1 : nyear y false = 365 * (y - 1) + (y - 1) / 4 := by unfold nyear; simp
  have e2 : nyear y true = 365 * (y - 1) + (y - 1) / 4 - (y - 1) / 100 + (y - 1) / 400 + 2 := by unfold nyear; simp
  unfold num
  omega
theorem skip_bd {y m d : Int} (h : valid y m d true = true) (hn : 200000 ≤ num y m d true) : 1 ≤ num y m d false - num y m d true ∧ num y m d false - num y m d true ≤ 14 := by
  have hd := num_diff y m d
  have v := valid_t h
  have b := num_bd h
  have hy : 501 ≤ y := by
    by_cases q : 501 ≤ y
    · exact q
    · have := nyear_mono true (a := y + 1) (b := 501) (by omega) (by omega)
      have e : nyear 501 true = 365 * 500 + 500 / 4 - 500 / 100 + 500 / 400 + 2 := by unfold nyear; simp
      omega
  have c := cumN_diff y (m - 1).toNat
  have t := mlen_two y
  have hc : cum y m false = cumN y false (m - 1).toNat := rfl
  have hc2 : cum y m true = cumN y true (m - 1).toNat := rfl
  rw [hd, hc, hc2]
  by_cases q : y % 100 = 0 ∧ y % 400 ≠ 0
  · omega
  · have := t.2.2 q
    omega
theorem skip_t {c s e : Int} (h : skipR c = (s, e)) : e = 0 → 1 ≤ s ∧ s ≤ 14 := by
  intro he
  unfold skipR at h
  split at h
  · rename_i hc
    split at h
    · injection h with h1 h2; omega
    · rename_i hc2
      injection h with h1 h2
      have cc := cal_cap hc
      have en := nyear_ends
      have d := dat_is (n := c) (f := true) (by omega) (by omega)
      have := skip_bd d.1 (by rw [d.2]; omega)
      rw [d.2] at this
      omega
  · injection h with h1 h2; omega
theorem lday_of {c n y m d : Int} (hc : codeR c y m d = 0) (h : locR c y m d = (n, true)) : ldayR c y m d = (n, 0) := by
  unfold ldayR; rw [if_pos hc, h]; rfl
theorem ldate_back {c n p q r : Int} (h : ldateR c n = ((p, q, r), 0)) : ldayR c p q r = (n, 0) := by
  unfold ldateR at h
  split at h
  · rename_i hc
    have cc := cal_cap hc
    split at h
    · rename_i hi
      have := inR_t hi
      have en := nyear_ends
      split at h
      · rename_i hlt
        injection h with h1 h2
        have d := dat_is (n := n) (f := false) (by omega) (by omega)
        rw [h1] at d
        refine lday_of (by unfold codeR; rw [if_pos ⟨hc, Or.inl d.1⟩]) ?_
        rw [locR_old d.1 (by rw [d.2]; omega), d.2]
      · rename_i hlt
        split at h
        · rename_i h7
          injection h with h1 h2
          have d := dat_is (n := n) (f := true) (by omega) (by omega)
          rw [h1] at d
          have s := skip_bd d.1 (by rw [d.2]; omega)
          refine lday_of (by unfold codeR; rw [if_pos ⟨hc, Or.inr d.1⟩]) ?_
          rw [locR_new (Or.inr (by rw [d.2] at s; omega)) d.1 (by rw [d.2]; omega), d.2]
        · injection h with h1 h2; simp at h2
    · injection h with h1 h2; simp at h2
  · injection h with h1 h2; simp at h2
theorem lday_back {c k y m d : Int} (h : ldayR c y m d = (k, 0)) : ldateR c k = ((y, m, d), 0) := by
  unfold ldayR at h
  split at h
  · rename_i hc
    have hcal : calB c = true := by
      unfold codeR at hc
      split at hc
      · rename_i hh; exact hh.1
      · simp at hc
    have cc := cal_cap hcal
    have en := nyear_ends
    split at h
    · rename_i hl
      injection h with h1 h2
      unfold locR at h1 hl
      split at h1
      · rename_i ho
        have b := num_day ho.1
        dsimp only at h1
        subst h1
        unfold ldateR
        rw [if_pos hcal, if_pos (inR_mk b.1 b.2), if_pos ho.2, dat_of ⟨ho.1, rfl⟩]
      · rename_i ho
        rw [if_neg ho] at hl
        split at h1
        · rename_i hn
          dsimp only at h1
          have v := valid_t hn.1
          have b := num_bd hn.1
          have e1 := nyear_mono true (a := 1) (b := y) (by omega) (by omega)
          have e2 := nyear_mono true (a := y + 1) (b := 2001) (by omega) (by omega)
          subst h1
          unfold ldateR
          rw [if_pos hcal, if_pos (inR_mk (by omega) (by omega)), if_neg (by omega), if_pos (by omega), dat_of ⟨hn.1, rfl⟩]
        · rename_i hn
          rw [if_neg hn] at hl
          simp at hl
    · injection h with h1 h2; simp at h2
  · injection h with h1 h2; simp at h2
/-- The three ways in which a date may stand to a calendar. -/
theorem three_ways (c y m d : Int) : (∃ k, ldayR c y m d = (k, 0) ∧ islocR c y m d = (true, 0)) ∨ (ldayR c y m d = (0, 4) ∧ islocR c y m d = (false, 0)) ∨ (ldayR c y m d = (0, 1) ∧ islocR c y m d = (false, 1)) := by
  unfold ldayR islocR
  by_cases hc : codeR c y m d = 0
  · rw [if_pos hc, if_pos hc]
    cases hl : (locR c y m d).2
    · exact Or.inr (Or.inl ⟨rfl, rfl⟩)
    · exact Or.inl ⟨_, rfl, rfl⟩
  · rw [if_neg hc, if_neg hc]
    exact Or.inr (Or.inr ⟨rfl, rfl⟩)
theorem ldate_ways (c n : Int) : (∃ p q r, ldateR c n = ((p, q, r), 0)) ∨ ∃ e, ldateR c n = ((0, 0, 0), e) ∧ e ≠ 0 := by
  unfold ldateR
  split
  · split
    · split
      · exact Or.inl ⟨_, _, _, rfl⟩
      · split
        · exact Or.inl ⟨_, _, _, rfl⟩
        · exact Or.inr ⟨_, rfl, by decide⟩
    · exact Or.inr ⟨_, rfl, by decide⟩
  · exact Or.inr ⟨_, rfl, by decide⟩
theorem new_le_old {y : Int} (h : 301 ≤ y) : nyear y true ≤ nyear y false := by
  have e1 : nyear y false = 365 * (y - 1) + (y - 1) / 4 := by unfold nyear; simp
  have e2 : nyear y true = 365 * (y - 1) + (y - 1) / 4 - (y - 1) / 100 + (y - 1) / 400 + 2 := by unfold nyear; simp
  omega
theorem days_366 {c y : Int} (hc : 200000 ≤ c) (h1 : 1 ≤ y) (h2 : y ≤ 2000) : daysI c y ≤ 366 := by
  have s1 := nyear_succ y false h1
  have s2 := nyear_succ y true h1
  have a1 : nyear (y + 1) false ≤ nyear y false + 366 := by rw [s1]; split <;> omega
  have a2 : nyear (y + 1) true ≤ nyear y true + 366 := by rw [s2]; split <;> omega
  by_cases q : 301 ≤ y
  · have := new_le_old q
    have := new_le_old (y := y + 1) (by omega)
    unfold daysI; omega
  · have m1 := nyear_mono false (a := y + 1) (b := 302) (by omega) (by omega)
    have m2 := nyear_mono true (a := y + 1) (b := 302) (by omega) (by omega)
    have e1 : nyear 302 false = 365 * 301 + 301 / 4 := by unfold nyear; simp
    have e2 : nyear 302 true = 365 * 301 + 301 / 4 - 301 / 100 + 301 / 400 + 2 := by unfold nyear; simp
    unfold daysI; omega
theorem days_t (c y : Int) : ∃ n e, daysR c y = (n, e) ∧ (e = 0 → n ≤ 366) := by
  unfold daysR
  split
  · rename_i hc
    have cc := cal_cap hc
    split
    · rename_i hy
      have := inR_t hy
      exact ⟨_, _, rfl, fun _ => days_366 (by omega) this.1 this.2⟩
    · exact ⟨_, _, rfl, fun h => by simp at h⟩
  · exact ⟨_, _, rfl, fun h => by simp at h⟩
theorem same_t (c y m d c' y' m' d' : Int) : (∃ b, sameR c y m d c' y' m' d' = (b, 0) ∧ sameR c' y' m' d' c y m d = (b, 0) ∧ sameR c y m d c y m d = (true, 0)) ∨ ∃ e, sameR c y m d c' y' m' d' = (false, e) ∧ e ≠ 0 := by
  by_cases h : codeR c y m d = 0 ∧ codeR c' y' m' d' = 0
  · by_cases k : (locR c y m d).2 = true ∧ (locR c' y' m' d').2 = true
    · left
      refine ⟨decide ((locR c y m d).1 = (locR c' y' m' d').1), ?_, ?_, ?_⟩
      · unfold sameR; rw [if_pos h, if_pos k]
      · unfold sameR; rw [if_pos ⟨h.2, h.1⟩, if_pos ⟨k.2, k.1⟩]
        have : decide ((locR c' y' m' d').1 = (locR c y m d).1) = decide ((locR c y m d).1 = (locR c' y' m' d').1) := by rw [Bool.eq_iff_iff]; simp; exact eq_comm
        rw [this]
      · unfold sameR; rw [if_pos ⟨h.1, h.1⟩, if_pos ⟨k.1, k.1⟩]; simp
    · right; exact ⟨4, by unfold sameR; rw [if_pos h, if_neg k], by decide⟩
  · right; exact ⟨1, by unfold sameR; rw [if_neg h], by decide⟩
end Go.Proofs.Yticnkjpgjcddcaa
