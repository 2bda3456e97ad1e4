/- Plain law of sets of days: which days union, meeting and rest hold, that they are sets, how many days they have. -/
import Derived.Test.YtpinngcdojbndaaGreatDoorMake2
namespace Go.Proofs.YtpinngcdojbndaaGreatDoor
open Go.RowKit

theorem normF_of {xs : List (Int × Int)} : ∀ {a : Int}, (∀ i, i < xs.length → (gS xs i).1 ≤ (gS xs i).2 ∧ (0 < i → (gS xs (i - 1)).2 + 2 ≤ (gS xs i).1)) → (0 < xs.length → a ≤ (gS xs 0).1) → normF a xs := by
  induction xs with
  | nil => intro a _ _; trivial
  | cons s xs ih =>
    intro a h h0
    have h1 := h 0 (by simp)
    refine ⟨by simpa [gS] using h0 (by simp), by simpa [gS] using h1.1, ih (fun i hi => ?_) (fun hp => ?_)⟩
    · have h2 := h (i + 1) (by simpa using hi)
      refine ⟨by simpa [gS] using h2.1, fun hi0 => ?_⟩
      obtain ⟨j, rfl⟩ : ∃ j, i = j + 1 := ⟨i - 1, by omega⟩
      simpa [gS] using h2.2 (by omega)
    · have h2 := h 1 (by simpa using hp)
      simpa [gS] using h2.2 (by omega)
theorem normF_get {xs : List (Int × Int)} : ∀ {a : Int}, normF a xs → ∀ i, i < xs.length → (gS xs i).1 ≤ (gS xs i).2 ∧ (0 < i → (gS xs (i - 1)).2 + 2 ≤ (gS xs i).1) ∧ a ≤ (gS xs i).1 := by
  induction xs with
  | nil => intro a _ i hi; simp at hi
  | cons s xs ih =>
    intro a ⟨h1, h2, h3⟩ i hi
    cases i with
    | zero => simp [gS]; omega
    | succ i =>
      obtain ⟨k1, k2, k3⟩ := ih h3 i (by simpa using hi)
      refine ⟨by simpa [gS] using k1, fun _ => ?_, ?_⟩
      · cases i with
        | zero => simpa [gS] using k3
        | succ i => have := k2 (by omega); simpa [gS] using this
      · have : s.2 + 2 ≤ (gS xs i).1 := k3
        simp [gS] at this ⊢; omega
/-- A set, told by its days. -/
theorem isSet_norm {xs : List (Int × Int)} (h : isSet xs = true) : normF 0 xs ∧ (∀ s ∈ xs, 0 ≤ s.1 ∧ s.1 ≤ s.2 ∧ s.2 ≤ 730499) ∧ xs.length ≤ 300 := by
  obtain ⟨hg, hl⟩ := isSet_iff.1 h
  have hok := (isSet_ok h).2
  refine ⟨normF_of (fun i hi => ⟨(okS_iff.1 (hok i hi)).2.1, (hg i hi).2⟩) (fun hp => (okS_iff.1 (hok 0 hp)).1), fun s hs => ?_, hl⟩
  obtain ⟨i, hi, rfl⟩ := mem_gS hs
  exact okS_iff.1 (hok i hi)
theorem isSet_of {xs : List (Int × Int)} (h : normF 0 xs) (hd : ∀ s ∈ xs, s.2 ≤ 730499) (hl : xs.length ≤ 300) : isSet xs = true := by
  refine isSet_iff.2 ⟨fun i hi => ?_, hl⟩
  obtain ⟨h1, h2, h3⟩ := normF_get h i hi
  exact ⟨okS_iff.2 ⟨h3, h1, hd _ (gS_mem hi)⟩, h2⟩
theorem memS_of {xs : List (Int × Int)} {s : Int × Int} (hs : s ∈ xs) (h : s.1 ≤ s.2) : memS xs s.2 ∧ memS xs s.1 := ⟨⟨s, hs, h, Int.le_refl _⟩, ⟨s, hs, Int.le_refl _, h⟩⟩
/-- A list with gaps whose days are days is a set, if it is not too long. -/
theorem isSet_days {xs : List (Int × Int)} {a : Int} (h : normF a xs) (hd : ∀ d, memS xs d → 0 ≤ d ∧ d ≤ 730499) (hl : xs.length ≤ 300) : isSet xs = true := by
  have hle : ∀ s ∈ xs, s.1 ≤ s.2 := fun s hs => by
    obtain ⟨i, hi, rfl⟩ := mem_gS hs
    exact (normF_get h i hi).1
  refine isSet_of ?_ (fun s hs => (hd _ (memS_of hs (hle s hs)).1).2) hl
  cases xs with
  | nil => trivial
  | cons s xs => exact ⟨(hd _ (memS_of List.mem_cons_self (hle s List.mem_cons_self)).2).1, h.2⟩
theorem set_days {xs : List (Int × Int)} (h : isSet xs = true) (d : Int) (hd : memS xs d) : 0 ≤ d ∧ d ≤ 730499 := by
  obtain ⟨s, hs, h1, h2⟩ := hd
  have := (isSet_norm h).2.1 s hs
  omega

/-! ### union -/
theorem unite_is {xs : List (Int × Int)} (hv : ∀ s ∈ xs, s.1 ≤ s.2) : (∃ a, normF a (uniteL xs)) ∧ ∀ d, memS (uniteL xs) d ↔ memS xs d := by
  obtain ⟨h1, h2⟩ := merge_is (sortI_ord xs) (fun s hs => hv s ((sortI_perm xs).mem_iff.1 hs))
  refine ⟨h1, fun d => (h2 d).trans ?_⟩
  unfold memS
  exact ⟨fun ⟨s, hs, h⟩ => ⟨s, (sortI_perm xs).mem_iff.1 hs, h⟩, fun ⟨s, hs, h⟩ => ⟨s, (sortI_perm xs).mem_iff.2 hs, h⟩⟩
/-! ### meeting -/
theorem meetL_cons (x y : Int × Int) (xs ys : List (Int × Int)) : meetL (x :: xs) (y :: ys) = (if (cutS x y).1 ≤ (cutS x y).2 then [cutS x y] else []) ++ (if x.2 < y.2 then meetL xs (y :: ys) else meetL (x :: xs) ys) := by
  conv => lhs; unfold meetL
theorem cut_mem (x y : Int × Int) (d : Int) : memS (if (cutS x y).1 ≤ (cutS x y).2 then [cutS x y] else []) d ↔ (x.1 ≤ d ∧ d ≤ x.2) ∧ (y.1 ≤ d ∧ d ≤ y.2) := by
  have h1 : (cutS x y).1 = max x.1 y.1 := by unfold cutS; split <;> omega
  have h2 : (cutS x y).2 = min x.2 y.2 := by unfold cutS; simp only; split <;> omega
  split
  · rw [memS_cons, h1, h2]
    constructor
    · rintro (h | h)
      · omega
      · exact absurd h (memS_nil d)
    · intro h; exact Or.inl (by omega)
  · rename_i hh
    rw [h1, h2] at hh
    constructor
    · intro h; exact absurd h (memS_nil d)
    · intro h; omega
theorem cut_norm {x y : Int × Int} {a : Int} {L : List (Int × Int)} (ha : a ≤ max x.1 y.1) (hL : normF (min x.2 y.2 + 2) L) (hL2 : normF a L) : normF a ((if (cutS x y).1 ≤ (cutS x y).2 then [cutS x y] else []) ++ L) := by
  have h1 : (cutS x y).1 = max x.1 y.1 := by unfold cutS; split <;> omega
  have h2 : (cutS x y).2 = min x.2 y.2 := by unfold cutS; simp only; split <;> omega
  split
  · rename_i hh
    refine ⟨by rw [h1]; exact ha, hh, ?_⟩
    rw [h2]; exact hL
  · exact hL2
theorem meet_is : ∀ (n : Nat) (xs ys : List (Int × Int)) (a b : Int), xs.length + ys.length = n → normF a xs → normF b ys → normF (max a b) (meetL xs ys) ∧ ∀ d, memS (meetL xs ys) d ↔ memS xs d ∧ memS ys d := by
  intro n
  induction n using Nat.strongRecOn with
  | _ n ih =>
    intro xs ys a b hn hx hy
    cases xs with
    | nil => rw [meetL_nil]; exact ⟨trivial, fun d => ⟨fun h => absurd h (memS_nil d), fun h => absurd h.1 (memS_nil d)⟩⟩
    | cons x xs =>
      cases ys with
      | nil => rw [meetL_nil']; exact ⟨trivial, fun d => ⟨fun h => absurd h (memS_nil d), fun h => absurd h.2 (memS_nil d)⟩⟩
      | cons y ys =>
        obtain ⟨x1, x2, x3⟩ := hx
        obtain ⟨y1, y2, y3⟩ := hy
        rw [meetL_cons]
        by_cases hlt : x.2 < y.2
        · rw [if_pos hlt]
          obtain ⟨k1, k2⟩ := ih (xs.length + (y :: ys).length) (by simp at hn ⊢; omega) xs (y :: ys) (x.2 + 2) b rfl x3 ⟨y1, y2, y3⟩
          refine ⟨cut_norm (by omega) (normF_lo k1 (by omega)) (normF_lo k1 (by omega)), fun d => ?_⟩
          rw [memS_append, cut_mem, k2, memS_cons, memS_cons]
          constructor
          · rintro (⟨h1, h2⟩ | ⟨h1, h2⟩)
            · exact ⟨Or.inl h1, Or.inl h2⟩
            · exact ⟨Or.inr h1, h2⟩
          · rintro ⟨h1 | h1, h2⟩
            · rcases h2 with h2 | h2
              · exact Or.inl ⟨h1, h2⟩
              · have := normF_mem y3 h2; omega
            · exact Or.inr ⟨h1, h2⟩
        · rw [if_neg hlt]
          obtain ⟨k1, k2⟩ := ih ((x :: xs).length + ys.length) (by simp at hn ⊢; omega) (x :: xs) ys a (y.2 + 2) rfl ⟨x1, x2, x3⟩ y3
          refine ⟨cut_norm (by omega) (normF_lo k1 (by omega)) (normF_lo k1 (by omega)), fun d => ?_⟩
          rw [memS_append, cut_mem, k2, memS_cons, memS_cons]
          constructor
          · rintro (⟨h1, h2⟩ | ⟨h1, h2⟩)
            · exact ⟨Or.inl h1, Or.inl h2⟩
            · exact ⟨h1, Or.inr h2⟩
          · rintro ⟨h1, h2 | h2⟩
            · rcases h1 with h1 | h1
              · exact Or.inl ⟨h1, h2⟩
              · have := normF_mem x3 h1; omega
            · exact Or.inr ⟨h1, h2⟩
/-! ### the rest -/
theorem rest_is (ys : List (Int × Int)) : ∀ (n b : Int), n ≤ 730500 → n ≤ b → normF b ys → (∀ s ∈ ys, s.2 ≤ 730499) → normF n (restF n ys) ∧ ∀ d, memS (restF n ys) d ↔ (n ≤ d ∧ d ≤ 730499) ∧ ¬ memS ys d := by
  induction ys with
  | nil =>
    intro n b _ _ _ _
    rw [restF_nil]
    split
    · exact ⟨⟨Int.le_refl _, by assumption, trivial⟩, fun d => by rw [memS_cons]; simp [memS_nil]⟩
    · exact ⟨trivial, fun d => ⟨fun h => absurd h (memS_nil d), fun h => by omega⟩⟩
  | cons s ys ih =>
    intro n b hn hnb ⟨h1, h2, h3⟩ hd
    have hs := hd s List.mem_cons_self
    obtain ⟨k1, k2⟩ := ih (s.2 + 1) (s.2 + 2) (by omega) (by omega) h3 (fun t ht => hd t (List.mem_cons_of_mem _ ht))
    rw [restF_cons]
    refine ⟨?_, fun d => ?_⟩
    · split
      · refine ⟨Int.le_refl _, by simp only; omega, normF_lo k1 (by simp only; omega)⟩
      · exact normF_lo k1 (by omega)
    · rw [memS_append, k2, memS_cons]
      have hlo : memS ys d → s.2 + 2 ≤ d := fun h => normF_mem h3 h
      constructor
      · rintro (h | ⟨h4, h5⟩)
        · split at h
          · rw [memS_cons] at h
            rcases h with h | h
            · simp only at h
              refine ⟨by omega, ?_⟩
              rintro (h6 | h6)
              · omega
              · have := hlo h6; omega
            · exact absurd h (memS_nil d)
          · exact absurd h (memS_nil d)
        · refine ⟨by omega, ?_⟩
          rintro (h6 | h6)
          · omega
          · exact h5 h6
      · rintro ⟨h4, h5⟩
        have h6 : ¬ (s.1 ≤ d ∧ d ≤ s.2) := fun h => h5 (Or.inl h)
        have h7 : ¬ memS ys d := fun h => h5 (Or.inr h)
        by_cases h8 : d < s.1
        · left
          rw [if_pos (by omega), memS_cons]
          exact Or.inl ⟨by simp only; omega, by simp only; omega⟩
        · exact Or.inr ⟨by omega, h7⟩
/-! ### counting -/
open Classical in
/-- How many of the first N days there are. -/
noncomputable def cntP (P : Int → Prop) : Nat → Int
  | 0 => 0
  | k + 1 => cntP P k + (if P k then 1 else 0)
theorem cntP_congr {P Q : Int → Prop} (N : Nat) (h : ∀ d : Int, 0 ≤ d → d < N → (P d ↔ Q d)) : cntP P N = cntP Q N := by
  induction N with
  | zero => rfl
  | succ k ih =>
    simp only [cntP]
    rw [ih (fun d h0 h1 => h d h0 (by push_cast; omega))]
    congr 1
    have := h k (by omega) (by push_cast; omega)
    by_cases hp : P k
    · rw [if_pos hp, if_pos (this.1 hp)]
    · rw [if_neg hp, if_neg (fun hq => hp (this.2 hq))]
theorem cntP_add (P Q : Int → Prop) (N : Nat) : cntP P N + cntP Q N = cntP (fun d => P d ∨ Q d) N + cntP (fun d => P d ∧ Q d) N := by
  induction N with
  | zero => rfl
  | succ k ih =>
    simp only [cntP]
    by_cases hp : P k <;> by_cases hq : Q k <;> simp [hp, hq] <;> omega
theorem cntP_sub (P Q : Int → Prop) (N : Nat) : cntP (fun d => P d ∧ ¬ Q d) N = cntP P N - cntP (fun d => P d ∧ Q d) N := by
  induction N with
  | zero => rfl
  | succ k ih =>
    simp only [cntP]
    by_cases hp : P k <;> by_cases hq : Q k <;> simp [hp, hq] <;> omega
theorem cntP_none (N : Nat) : cntP (fun _ => False) N = 0 := by
  induction N with
  | zero => rfl
  | succ k ih => simp only [cntP]; rw [ih]; simp
theorem cntP_span (a b : Int) (h0 : 0 ≤ a) (hab : a ≤ b + 1) (N : Nat) : cntP (fun d => a ≤ d ∧ d ≤ b) N = max 0 (min (b + 1) N - a) := by
  induction N with
  | zero => simp only [cntP]; omega
  | succ k ih =>
    simp only [cntP]
    rw [ih]
    by_cases hp : a ≤ (k : Int) ∧ (k : Int) ≤ b
    · rw [if_pos hp]; push_cast; omega
    · rw [if_neg hp]; push_cast; omega
def sumL : List (Int × Int) → Int
  | [] => 0
  | s :: xs => (s.2 - s.1 + 1) + sumL xs
theorem sumTo_cons (s : Int × Int) (xs : List (Int × Int)) (k : Nat) : sumTo (s :: xs) (k + 1) = (s.2 - s.1 + 1) + sumTo xs k := by
  induction k with
  | zero => simp [sumTo, gS]
  | succ k ih => rw [sumTo, ih, sumTo]; simp [gS]; omega
theorem sumTo_all (xs : List (Int × Int)) : sumTo xs xs.length = sumL xs := by
  induction xs with
  | nil => rfl
  | cons s xs ih => rw [List.length_cons, sumTo_cons, ih]; rfl
theorem sum_count (N : Nat) (xs : List (Int × Int)) : ∀ a : Int, 0 ≤ a → normF a xs → (∀ s ∈ xs, s.2 < N) → sumL xs = cntP (memS xs) N := by
  induction xs with
  | nil => intro a _ _ _; rw [cntP_congr N (Q := fun _ => False) (fun d _ _ => ⟨fun h => absurd h (memS_nil d), fun h => h.elim⟩), cntP_none]; rfl
  | cons s xs ih =>
    intro a ha ⟨h1, h2, h3⟩ hN
    have hs := hN s List.mem_cons_self
    have e := ih (s.2 + 2) (by omega) h3 (fun t ht => hN t (List.mem_cons_of_mem _ ht))
    have h4 := cntP_add (fun d => s.1 ≤ d ∧ d ≤ s.2) (memS xs) N
    rw [cntP_span s.1 s.2 (by omega) (by omega) N] at h4
    have h5 : cntP (fun d => (s.1 ≤ d ∧ d ≤ s.2) ∧ memS xs d) N = 0 := by
      rw [cntP_congr N (Q := fun _ => False) (fun d _ _ => ⟨fun h => by have := normF_mem h3 h.2; omega, fun h => h.elim⟩), cntP_none]
    rw [h5] at h4
    have h6 : cntP (memS (s :: xs)) N = cntP (fun d => (s.1 ≤ d ∧ d ≤ s.2) ∨ memS xs d) N := cntP_congr N fun d _ _ => memS_cons s xs d
    rw [h6, show sumL (s :: xs) = (s.2 - s.1 + 1) + sumL xs from rfl, e]
    omega
/-- The number of days of a set. -/
theorem days_count {xs : List (Int × Int)} (h : isSet xs = true) : sumTo xs xs.length = cntP (memS xs) 730500 := by
  obtain ⟨h1, h2, _⟩ := isSet_norm h
  rw [sumTo_all]
  exact sum_count 730500 xs 0 (Int.le_refl _) h1 (fun s hs => by have := h2 s hs; omega)
/-- Union, meeting and what is left: sets, and their days counted together. -/
theorem sets_law {xs ys : List (Int × Int)} (hx : isSet xs = true) (hy : isSet ys = true) (hu : (uniteL (xs ++ ys)).length ≤ 300) (hm : (meetL xs ys).length ≤ 300) (hw : (meetL xs (restF 0 ys)).length ≤ 300) :
    isSet (uniteL (xs ++ ys)) = true ∧ isSet (meetL xs ys) = true ∧ isSet (meetL xs (restF 0 ys)) = true ∧
    sumTo xs xs.length + sumTo ys ys.length = sumTo (uniteL (xs ++ ys)) (uniteL (xs ++ ys)).length + sumTo (meetL xs ys) (meetL xs ys).length ∧
    sumTo (meetL xs (restF 0 ys)) (meetL xs (restF 0 ys)).length = sumTo xs xs.length - sumTo (meetL xs ys) (meetL xs ys).length := by
  obtain ⟨x1, x2, x3⟩ := isSet_norm hx
  obtain ⟨y1, y2, y3⟩ := isSet_norm hy
  have dx := set_days hx
  have dy := set_days hy
  obtain ⟨⟨ua, u1⟩, u2⟩ := unite_is (xs := xs ++ ys) (fun s hs => by
    rcases List.mem_append.1 hs with hs | hs
    · exact (x2 s hs).2.1
    · exact (y2 s hs).2.1)
  obtain ⟨m1, m2⟩ := meet_is _ xs ys 0 0 rfl x1 y1
  obtain ⟨r1, r2⟩ := rest_is ys 0 0 (by omega) (by omega) y1 (fun s hs => (y2 s hs).2.2)
  obtain ⟨w1, w2⟩ := meet_is _ xs (restF 0 ys) 0 0 rfl x1 r1
  have su : isSet (uniteL (xs ++ ys)) = true := isSet_days u1 (fun d hd => by
    rcases (memS_append _ _ _).1 ((u2 d).1 hd) with h | h
    · exact dx d h
    · exact dy d h) hu
  have sm : isSet (meetL xs ys) = true := isSet_days m1 (fun d hd => dx d ((m2 d).1 hd).1) hm
  have sw : isSet (meetL xs (restF 0 ys)) = true := isSet_days w1 (fun d hd => dx d ((w2 d).1 hd).1) hw
  refine ⟨su, sm, sw, ?_, ?_⟩
  · rw [days_count hx, days_count hy, days_count su, days_count sm, cntP_add]
    rw [cntP_congr 730500 (P := memS (uniteL (xs ++ ys))) (Q := fun d => memS xs d ∨ memS ys d) (fun d _ _ => (u2 d).trans (memS_append _ _ _)), cntP_congr 730500 (P := memS (meetL xs ys)) (Q := fun d => memS xs d ∧ memS ys d) (fun d _ _ => m2 d)]
  · rw [days_count hx, days_count sm, days_count sw]
    rw [cntP_congr 730500 (P := memS (meetL xs (restF 0 ys))) (Q := fun d => memS xs d ∧ ¬ memS ys d) (fun d h0 h1 => (w2 d).trans ⟨fun h => ⟨h.1, ((r2 d).1 h.2).2⟩, fun h => ⟨h.1, (r2 d).2 ⟨⟨h0, by omega⟩, h.2⟩⟩⟩), cntP_congr 730500 (P := memS (meetL xs ys)) (Q := fun d => memS xs d ∧ memS ys d) (fun d _ _ => m2 d), cntP_sub]
end Go.Proofs.YtpinngcdojbndaaGreatDoor
