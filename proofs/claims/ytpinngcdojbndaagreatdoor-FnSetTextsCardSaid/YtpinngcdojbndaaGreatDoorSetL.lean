/- Plain law of sets of days: what meeting, rest, shift and union compute, which days they hold, how many. No program in sight. -/
namespace Go.Proofs.YtpinngcdojbndaaGreatDoor
abbrev SpanL := List (Int × Int)
/-- The day lies in a span of the list. -/
def memS (xs : SpanL) (d : Int) : Prop := ∃ s ∈ xs, s.1 ≤ d ∧ d ≤ s.2
/-- Well-formed spans from a day on, with gaps. -/
def normF : Int → SpanL → Prop
  | _, [] => True
  | a, s :: xs => a ≤ s.1 ∧ s.1 ≤ s.2 ∧ normF (s.2 + 2) xs
theorem memS_nil (d : Int) : ¬ memS [] d := fun ⟨_, h, _⟩ => by cases h
theorem memS_cons (s : Int × Int) (xs : SpanL) (d : Int) : memS (s :: xs) d ↔ (s.1 ≤ d ∧ d ≤ s.2) ∨ memS xs d := by
  constructor
  · rintro ⟨t, ht, h⟩
    rcases List.mem_cons.1 ht with rfl | ht
    · exact Or.inl h
    · exact Or.inr ⟨t, ht, h⟩
  · rintro (h | ⟨t, ht, h⟩)
    · exact ⟨s, List.mem_cons_self, h⟩
    · exact ⟨t, List.mem_cons_of_mem _ ht, h⟩
theorem memS_append (xs ys : SpanL) (d : Int) : memS (xs ++ ys) d ↔ memS xs d ∨ memS ys d := by
  induction xs with
  | nil => simp [memS_nil]
  | cons s xs ih => rw [List.cons_append, memS_cons, memS_cons, ih, or_assoc]
theorem normF_lo {a b : Int} {xs : SpanL} (h : normF a xs) (hab : b ≤ a) : normF b xs := by
  cases xs with
  | nil => trivial
  | cons s xs => exact ⟨Int.le_trans hab h.1, h.2⟩
theorem normF_mem {a : Int} {xs : SpanL} (h : normF a xs) {d : Int} (hd : memS xs d) : a ≤ d := by
  induction xs generalizing a with
  | nil => exact absurd hd (memS_nil d)
  | cons s xs ih =>
    obtain ⟨h1, h2, h3⟩ := h
    rcases (memS_cons _ _ _).1 hd with hd | hd
    · omega
    · have := ih h3 hd; omega
/-- A list of spans with gaps is known by its days. -/
theorem norm_unique {a b : Int} {xs ys : SpanL} (hx : normF a xs) (hy : normF b ys) (h : ∀ d, memS xs d ↔ memS ys d) : xs = ys := by
  induction xs generalizing a b ys with
  | nil =>
    cases ys with
    | nil => rfl
    | cons t ys => exact absurd ((h t.1).2 ((memS_cons _ _ _).2 (Or.inl ⟨Int.le_refl _, hy.2.1⟩))) (memS_nil _)
  | cons s xs ih =>
    cases ys with
    | nil => exact absurd ((h s.1).1 ((memS_cons _ _ _).2 (Or.inl ⟨Int.le_refl _, hx.2.1⟩))) (memS_nil _)
    | cons t ys =>
      obtain ⟨x1, x2, x3⟩ := hx
      obtain ⟨y1, y2, y3⟩ := hy
      have mx : ∀ d, memS xs d → s.2 + 2 ≤ d := fun d hd => normF_mem x3 hd
      have my : ∀ d, memS ys d → t.2 + 2 ≤ d := fun d hd => normF_mem y3 hd
      have h1 : s.1 = t.1 := by
        have e1 := (memS_cons _ _ _).1 ((h s.1).1 ((memS_cons _ _ _).2 (Or.inl ⟨Int.le_refl _, x2⟩)))
        have e2 := (memS_cons _ _ _).1 ((h t.1).2 ((memS_cons _ _ _).2 (Or.inl ⟨Int.le_refl _, y2⟩)))
        rcases e1 with e1 | e1 <;> rcases e2 with e2 | e2
        · omega
        · have := mx _ e2; omega
        · have := my _ e1; omega
        · have := mx _ e2; have := my _ e1; omega
      have h2 : s.2 = t.2 := by
        rcases Int.lt_trichotomy s.2 t.2 with hl | hl | hl
        · have e := (memS_cons _ _ _).1 ((h (s.2 + 1)).2 ((memS_cons _ _ _).2 (Or.inl ⟨by omega, by omega⟩)))
          rcases e with e | e
          · omega
          · have := mx _ e; omega
        · exact hl
        · have e := (memS_cons _ _ _).1 ((h (t.2 + 1)).1 ((memS_cons _ _ _).2 (Or.inl ⟨by omega, by omega⟩)))
          rcases e with e | e
          · omega
          · have := my _ e; omega
      have e : s = t := Prod.ext h1 h2
      subst e
      rw [ih x3 y3 (fun d => ?_)]
      constructor
      · intro hd
        rcases (memS_cons _ _ _).1 ((h d).1 ((memS_cons _ _ _).2 (Or.inr hd))) with e | e
        · have := mx _ hd; omega
        · exact e
      · intro hd
        rcases (memS_cons _ _ _).1 ((h d).2 ((memS_cons _ _ _).2 (Or.inr hd))) with e | e
        · have := my _ hd; omega
        · exact e

/-! ### The merging of spans that are in order -/
/-- One step: the next span into what is merged so far (given reversed). -/
def putS (out : SpanL) (s : Int × Int) : SpanL :=
  match out with
  | [] => [s]
  | l :: r => if s.1 ≤ l.2 + 1 then (l.1, max l.2 s.2) :: r else s :: l :: r
/-- What is merged, reversed. -/
def mergeR (xs : SpanL) : SpanL := xs.foldl putS []
def mergeL (xs : SpanL) : SpanL := (mergeR xs).reverse
/-- Reversed form of normF: last span first. -/
def normR : SpanL → Prop
  | [] => True
  | [s] => s.1 ≤ s.2
  | s :: t :: xs => s.1 ≤ s.2 ∧ t.2 + 2 ≤ s.1 ∧ normR (t :: xs)
theorem normR_cons {s t : Int × Int} {xs : SpanL} : normR (s :: t :: xs) ↔ s.1 ≤ s.2 ∧ t.2 + 2 ≤ s.1 ∧ normR (t :: xs) := Iff.rfl
theorem normR_head {s : Int × Int} {xs : SpanL} (h : normR (s :: xs)) : s.1 ≤ s.2 := by
  cases xs with
  | nil => exact h
  | cons t xs => exact h.1
theorem normR_tail {s : Int × Int} {xs : SpanL} (h : normR (s :: xs)) : normR xs := by
  cases xs with
  | nil => trivial
  | cons t xs => exact h.2.2
theorem normR_grow {s : Int × Int} {xs : SpanL} (h : normR (s :: xs)) {b : Int} (hb : s.2 ≤ b) : normR ((s.1, b) :: xs) := by
  have := normR_head h
  cases xs with
  | nil => show s.1 ≤ b; omega
  | cons t xs => exact ⟨by show s.1 ≤ b; omega, h.2.1, h.2.2⟩
theorem putS_normR {out : SpanL} {s : Int × Int} (h : normR out) (hs : s.1 ≤ s.2) : normR (putS out s) := by
  cases out with
  | nil => exact hs
  | cons l r =>
    simp only [putS]
    split
    · exact normR_grow h (by omega)
    · exact ⟨hs, by omega, h⟩
theorem putS_mem {out : SpanL} {s : Int × Int} (h : normR out) (_hs : s.1 ≤ s.2) (ho : ∀ l r, out = l :: r → l.1 ≤ s.1) (d : Int) : memS (putS out s) d ↔ memS out d ∨ (s.1 ≤ d ∧ d ≤ s.2) := by
  cases out with
  | nil => simp [putS, memS_cons, memS_nil]
  | cons l r =>
    have h1 := ho l r rfl
    have h2 := normR_head h
    simp only [putS]
    split
    · rw [memS_cons, memS_cons]
      constructor
      · rintro (⟨h3, h4⟩ | h3)
        · rcases Int.lt_or_le l.2 d with h5 | h5
          · exact Or.inr ⟨by simp only at h3 h4; omega, by simp only at h3 h4; omega⟩
          · exact Or.inl (Or.inl ⟨h3, h5⟩)
        · exact Or.inl (Or.inr h3)
      · rintro ((⟨h3, h4⟩ | h3) | ⟨h3, h4⟩)
        · exact Or.inl ⟨h3, by simp only; omega⟩
        · exact Or.inr h3
        · exact Or.inl ⟨by simp only; omega, by simp only; omega⟩
    · rw [memS_cons]
      exact Or.comm
/-- In order by their first days. -/
def ordF : Int → SpanL → Prop
  | _, [] => True
  | a, s :: xs => a ≤ s.1 ∧ ordF s.1 xs
theorem putS_head {out : SpanL} {s : Int × Int} (ho : ∀ l r, out = l :: r → l.1 ≤ s.1) : ∃ l r, putS out s = l :: r ∧ l.1 ≤ s.1 := by
  cases out with
  | nil => exact ⟨s, [], rfl, Int.le_refl _⟩
  | cons l r =>
    simp only [putS]
    split
    · exact ⟨_, _, rfl, ho l r rfl⟩
    · exact ⟨_, _, rfl, Int.le_refl _⟩
theorem foldl_put {xs : SpanL} : ∀ {out : SpanL} {a : Int}, normR out → (∀ l r, out = l :: r → l.1 ≤ a) → ordF a xs → (∀ s ∈ xs, s.1 ≤ s.2) →
    normR (xs.foldl putS out) ∧ ∀ d, memS (xs.foldl putS out) d ↔ memS out d ∨ memS xs d := by
  induction xs with
  | nil => intro out a h _ _ _; exact ⟨h, fun d => by simp [memS_nil]⟩
  | cons s xs ih =>
    intro out a h ho hx hv
    have hs := hv s List.mem_cons_self
    have ho' : ∀ l r, out = l :: r → l.1 ≤ s.1 := fun l r e => by have := ho l r e; have := hx.1; omega
    obtain ⟨l, r, e, hl⟩ := putS_head ho'
    obtain ⟨k1, k2⟩ := ih (putS_normR h hs) (fun l' r' e' => by rw [e] at e'; injection e' with e1 e2; subst e1; exact hl) hx.2 (fun t ht => hv t (List.mem_cons_of_mem _ ht))
    refine ⟨k1, fun d => ?_⟩
    rw [List.foldl_cons, k2, putS_mem h hs ho', memS_cons]
    constructor
    · rintro ((h1 | h1) | h1)
      · exact Or.inl h1
      · exact Or.inr (Or.inl h1)
      · exact Or.inr (Or.inr h1)
    · rintro (h1 | h1 | h1)
      · exact Or.inl (Or.inl h1)
      · exact Or.inl (Or.inr h1)
      · exact Or.inr h1
theorem normF_snoc {xs : SpanL} {a : Int} {s : Int × Int} (h : normF a xs) (hs : s.1 ≤ s.2) (ha : a ≤ s.1) (hg : ∀ t ∈ xs, t.2 + 2 ≤ s.1) : normF a (xs ++ [s]) := by
  induction xs generalizing a with
  | nil => exact ⟨ha, hs, trivial⟩
  | cons t xs ih => exact ⟨h.1, h.2.1, ih h.2.2 (by have := hg t List.mem_cons_self; omega) (fun u hu => hg u (List.mem_cons_of_mem _ hu))⟩
theorem normR_last {s : Int × Int} {xs : SpanL} (h : normR (s :: xs)) : ∀ t ∈ xs, t.2 + 2 ≤ s.1 := by
  induction xs generalizing s with
  | nil => intro t ht; cases ht
  | cons u xs ih =>
    intro t ht
    have hu := normR_head h.2.2
    rcases List.mem_cons.1 ht with rfl | ht
    · exact h.2.1
    · have := ih h.2.2 t ht; have := h.2.1; omega
theorem normR_rev {xs : SpanL} (h : normR xs) (a : Int) (ha : ∀ s ∈ xs, a ≤ s.1) : normF a xs.reverse := by
  induction xs with
  | nil => trivial
  | cons s xs ih =>
    rw [List.reverse_cons]
    refine normF_snoc (ih (normR_tail h) fun t ht => ha t (List.mem_cons_of_mem _ ht)) (normR_head h) (ha s List.mem_cons_self) fun t ht => ?_
    exact normR_last h t (List.mem_reverse.1 ht)
theorem memS_reverse (xs : SpanL) (d : Int) : memS xs.reverse d ↔ memS xs d := by
  unfold memS; simp
theorem normF_any {xs : SpanL} (h : normR xs) : ∃ a, normF a xs.reverse := by
  have : ∃ a : Int, ∀ s ∈ xs, a ≤ s.1 := by
    clear h
    induction xs with
    | nil => exact ⟨0, fun s hs => by cases hs⟩
    | cons t xs ih =>
      obtain ⟨a, ha⟩ := ih
      refine ⟨min a t.1, fun s hs => ?_⟩
      rcases List.mem_cons.1 hs with rfl | hs
      · omega
      · have := ha s hs; omega
  obtain ⟨a, ha⟩ := this
  exact ⟨a, normR_rev h a ha⟩
/-- In order, from somewhere. -/
def ordS (xs : SpanL) : Prop := ∃ a, ordF a xs
theorem merge_is {xs : SpanL} (ho : ordS xs) (hv : ∀ s ∈ xs, s.1 ≤ s.2) : (∃ a, normF a (mergeL xs)) ∧ ∀ d, memS (mergeL xs) d ↔ memS xs d := by
  obtain ⟨a, ho⟩ := ho
  obtain ⟨h1, h2⟩ := foldl_put (out := []) (a := a) trivial (fun l r e => by cases e) ho hv
  exact ⟨normF_any h1, fun d => by unfold mergeL; rw [memS_reverse]; exact (h2 d).trans (by simp [memS_nil])⟩
/-- The merging of two arrangements of the same spans is the same. -/
theorem merge_perm {xs ys : SpanL} (hp : xs.Perm ys) (hx : ordS xs) (hy : ordS ys) (hv : ∀ s ∈ xs, s.1 ≤ s.2) : mergeL xs = mergeL ys := by
  obtain ⟨⟨a, ha⟩, h1⟩ := merge_is hx hv
  obtain ⟨⟨b, hb⟩, h2⟩ := merge_is hy (fun s hs => hv s (hp.mem_iff.2 hs))
  refine norm_unique ha hb fun d => ?_
  rw [h1, h2]
  unfold memS
  exact ⟨fun ⟨s, hs, h⟩ => ⟨s, hp.mem_iff.1 hs, h⟩, fun ⟨s, hs, h⟩ => ⟨s, hp.mem_iff.2 hs, h⟩⟩
end Go.Proofs.YtpinngcdojbndaaGreatDoor
