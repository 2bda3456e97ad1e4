/- Plain law of sets of days: the k-th day, a set moved by days. -/
import Derived.Test.YtnpbgcckbohmfaaSetLaw
import Derived.Test.YtnpbgcckbohmfaaSets5
import Derived.Test.YtnpbgcckbohmfaaSets7
namespace Go.Proofs.Ytnpbgcckbohmfaa
open Go.RowKit

theorem sum_cons (s : Int × Int) (xs : List (Int × Int)) : sumTo (s :: xs) (s :: xs).length = (s.2 - s.1 + 1) + sumTo xs xs.length := sumTo_cons s xs xs.length
theorem nthL_in : ∀ (xs : List (Int × Int)) (k : Int), 0 ≤ k → k < sumTo xs xs.length → memS xs (nthL xs k) := by
  intro xs
  induction xs with
  | nil => intro k h0 h1; simp [sumTo] at h1; omega
  | cons s xs ih =>
    intro k h0 h1
    rw [sum_cons] at h1
    rw [nthL, memS_cons]
    by_cases h : k < s.2 - s.1 + 1
    · rw [if_pos h]; exact Or.inl (by omega)
    · rw [if_neg h]; exact Or.inr (ih _ (by omega) (by omega))
theorem nthL_up : ∀ (xs : List (Int × Int)) (a k : Int), normF a xs → 1 ≤ k → k < sumTo xs xs.length → nthL xs (k - 1) < nthL xs k := by
  intro xs
  induction xs with
  | nil => intro a k _ h0 h1; simp [sumTo] at h1; omega
  | cons s xs ih =>
    intro a k ⟨n1, n2, n3⟩ h0 h1
    rw [sum_cons] at h1
    rw [nthL, nthL]
    by_cases h : k < s.2 - s.1 + 1
    · rw [if_pos h, if_pos (by omega)]; omega
    · rw [if_neg h]
      by_cases h2 : k - 1 < s.2 - s.1 + 1
      · rw [if_pos h2]
        have := normF_mem n3 (nthL_in xs (k - (s.2 - s.1 + 1)) (by omega) (by omega))
        omega
      · rw [if_neg h2]
        have := ih (s.2 + 2) (k - (s.2 - s.1 + 1)) n3 (by omega) (by omega)
        rw [show k - (s.2 - s.1 + 1) - 1 = k - 1 - (s.2 - s.1 + 1) by omega] at this
        exact this
theorem hasB_mem {xs : List (Int × Int)} {d : Int} (h : memS xs d) : hasB xs d = true := by
  obtain ⟨s, hs, h1, h2⟩ := h
  exact List.any_eq_true.2 ⟨s, hs, by unfold inR; simp; omega⟩
theorem nthR_ok {xs : List (Int × Int)} {k : Int} (h : (nthR xs k).2 = 0) : nthR xs k = (nthL xs k, 0) ∧ isSet xs = true ∧ 0 ≤ k ∧ k < sumTo xs xs.length := by
  unfold nthR at h ⊢
  cases hs : isSet xs
  · simp [hs] at h
  · cases hn : inR k 0 (sumTo xs xs.length - 1)
    · simp [hs, hn] at h
    · have := inR_t hn
      exact ⟨by simp, rfl, by omega, by omega⟩
theorem nth_law {xs : List (Int × Int)} {k : Int} (hs : isSet xs = true) (h0 : 0 ≤ k) (h1 : k < sumTo xs xs.length) :
    hasR xs (nthL xs k) = (true, 0) ∧ (0 < k → nthR xs (k - 1) = (nthL xs (k - 1), 0) ∧ nthL xs (k - 1) < nthL xs k) := by
  have hm := nthL_in xs k h0 h1
  have hd := set_days hs _ hm
  refine ⟨?_, fun hk => ⟨?_, nthL_up xs 0 k (isSet_norm hs).1 (by omega) h1⟩⟩
  · have : inR (nthL xs k) 0 730499 = true := by unfold inR; simp; omega
    simp [hasR, hs, this, hasB_mem hm]
  · have : inR (k - 1) 0 (sumTo xs xs.length - 1) = true := by unfold inR; simp; omega
    simp [nthR, hs, this]

/-! ### a set moved -/
theorem shift_cons (m : Int) (s : Int × Int) (xs : List (Int × Int)) : shiftL m (s :: xs) = (if (shS m s).1 ≤ (shS m s).2 then [shS m s] else []) ++ shiftL m xs := by
  unfold shiftL
  rw [List.map_cons, List.filter_cons]
  by_cases h : (shS m s).1 ≤ (shS m s).2 <;> simp [h]
theorem shS_is (m : Int) (s : Int × Int) : (shS m s).1 = max 0 (s.1 + m) ∧ (shS m s).2 = min 730499 (s.2 + m) := by
  unfold shS
  constructor
  · show (if 0 < s.1 + m then s.1 + m else 0) = _; split <;> omega
  · show (if s.2 + m < 730499 then s.2 + m else 730499) = _; split <;> omega
theorem shift_norm (m : Int) : ∀ (xs : List (Int × Int)) (a : Int), normF a xs → normF (max 0 (a + m)) (shiftL m xs) := by
  intro xs
  induction xs with
  | nil => intro a _; trivial
  | cons s xs ih =>
    intro a ⟨n1, n2, n3⟩
    obtain ⟨e1, e2⟩ := shS_is m s
    have h := ih _ n3
    rw [shift_cons]
    split
    · rename_i hh
      exact ⟨by omega, hh, normF_lo h (by omega)⟩
    · exact normF_lo h (by omega)
theorem shift_set {xs : List (Int × Int)} (m : Int) (h : isSet xs = true) : isSet (shiftL m xs) = true := by
  obtain ⟨h1, h2, h3⟩ := isSet_norm h
  refine isSet_of (normF_lo (shift_norm m xs 0 h1) (by omega)) (fun s hs => ?_) ?_
  · unfold shiftL at hs
    obtain ⟨t, _, rfl⟩ := List.mem_map.1 (List.mem_filter.1 hs).1
    have := (shS_is m t).2
    omega
  · have := shift_len m xs xs.length
    rw [List.take_length] at this
    omega
theorem shift_has {xs : List (Int × Int)} {m f : Int} (h : isSet xs = true) {i : Nat} (hi : i < xs.length) (hf : (gS xs i).1 = f) (h0 : 0 ≤ f + m) (h1 : f + m ≤ 730499) :
    hasR (shiftL m xs) (f + m) = (true, 0) := by
  have hle := (okS_iff.1 ((isSet_ok h).2 i hi)).2.1
  obtain ⟨e1, e2⟩ := shS_is m (gS xs i)
  have hm : memS (shiftL m xs) (f + m) := by
    refine ⟨shS m (gS xs i), ?_, by rw [e1]; omega, by rw [e2]; omega⟩
    unfold shiftL
    exact List.mem_filter.2 ⟨List.mem_map.2 ⟨_, gS_mem hi, rfl⟩, decide_eq_true (by rw [e1, e2]; omega)⟩
  have : inR (f + m) 0 730499 = true := by unfold inR; simp; omega
  simp [hasR, shift_set m h, this, hasB_mem hm]
theorem shiftR_ok {xs : List (Int × Int)} {m : Int} (h : (shiftR xs m).2 = 0) : shiftR xs m = (shiftL m xs, 0) ∧ isSet xs = true ∧ -730499 ≤ m ∧ m ≤ 730499 := by
  unfold shiftR at h ⊢
  cases hs : isSet xs
  · simp [hs] at h
  · cases hn : inR m (-730499) 730499
    · simp [hs, hn] at h
    · have := inR_t hn
      exact ⟨by simp, rfl, by omega, by omega⟩
theorem set_days2 {xs : List (Int × Int)} (h : isSet xs = true) {i : Nat} (hi : i < xs.length) : 0 ≤ (gS xs i).1 ∧ (gS xs i).1 ≤ 730499 := by
  have := okS_iff.1 ((isSet_ok h).2 i hi)
  omega
end Go.Proofs.Ytnpbgcckbohmfaa
