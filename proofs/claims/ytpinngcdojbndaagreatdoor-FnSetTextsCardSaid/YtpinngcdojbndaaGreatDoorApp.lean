/- append of one span to a slice of spans of the call's own. -/
import Derived.Test.YtpinngcdojbndaaGreatDoorSpans
import Derived.Maps.AppendAt
import Derived.StillTailTactics
import Derived.BigQuiet
import Derived.BigRegion
import Derived.Deep.RegionHeld3
namespace Go.Proofs.YtpinngcdojbndaaGreatDoor
open Go.RowKit

theorem flatS_app (xs ys : List (Int × Int)) : flatS (xs ++ ys) = flatS xs ++ flatS ys := by simp [flatS]
theorem OwnS.made (w : World) {base : Nat} (hb : base ≤ w.heap.size) : OwnS (w.alloc (.cells #[] 36)) base (.slice (some ⟨w.heap.size, 0, none⟩) 0 0) [] :=
  World.ownsRow_made w #[] 0 hb (by simp [maxLen]) rfl
theorem ownB_lt {w : World} {base : Nat} {v : Value} {xs : List (Int × Int)} (h : OwnS w base v xs) : ∀ k, v.ownBlock = some k → base ≤ k ∧ k < w.heap.size := World.ownsRow.lt h

theorem still_of_quiet {P : Program} {o : Oper} {a : Act} {w : World} {K : Act → Prop} (h : o.quiet P a (fun w' => w' = w) K) : o.still P a w K := by
  obtain ⟨v, h1, h2⟩ := h
  have h3 := h1 w rfl
  unfold Oper.quietAt at h3
  unfold Oper.still
  generalize (execOp a.eval o).run P w = r at h3 ⊢
  unfold Oper.quietUpon at h3
  unfold Oper.stillUpon
  split at h3
  · obtain ⟨rfl, rfl⟩ := h3; exact ⟨rfl, h2⟩
  · obtain ⟨rfl, rfl⟩ := h3; exact ⟨rfl, h2⟩
  · obtain ⟨rfl, h4⟩ := h3; exact ⟨rfl, v, h4, h2⟩
  · cases h3
theorem wpStill_of_quiet {P : Program} {ops : Array Oper} {w : World} {Q : Act → Prop} : ∀ {l : List Oper} {a : Act}, wpQuiet P ops (fun w' => w' = w) Q l a → wpStill P ops w Q l a
  | [], _, h => h
  | o :: l, a, h => by
    unfold wpStill
    unfold wpQuiet at h
    split
    · rename_i hw
      rw [if_pos hw] at h
      exact still_of_quiet (Oper.quiet_mono (fun a' h' => wpStill_of_quiet h') h)
    · rename_i hw
      rw [if_neg hw] at h
      exact wpStill_of_quiet h
/-- A region that only reads ahead of a chain of writes: walked once, in the order of the text, behind one draw. -/
theorem tail_quiet {P : Program} {id : Nat} {Q : Exit → Act → World → Prop} {a : Act} {w : World} {l : List Oper} (n : Nat) (hm : P.follows .mixedOrders = true) (hB : Region.lexTailB .any l.toArray n = true)
    (h : ∀ w2, w2 = w.drew → wpQuiet P l.toArray (fun w' => w' = w2) (fun a' => wpList P l.toArray Q (l.drop n) a' w2) (l.take n) a) : (Code.region id l.toArray true).wp P Q a w :=
  wp_region_still_tail n hm hB (wpStill_of_quiet (h _ rfl))
theorem OwnS.alloc {w : World} {base : Nat} {v : Value} {xs : List (Int × Int)} (h : OwnS w base v xs) (o : Obj) : OwnS (w.alloc o) base v xs := World.ownsRow.alloc h o
theorem OwnS.drew {w : World} {base : Nat} {v : Value} {xs : List (Int × Int)} (h : OwnS w base v xs) : OwnS w.drew base v xs := h.below (Below.refl _ _).drew
section
variable {ops : Array Oper} {rest : List Oper} {o : Oper} {a : Act} {Q : Exit → Act → World → Prop}
/-- 'out = append(out, s)': what the call made grows by one span; old memory is as it was; another slice of the call's own is kept; other blocks are as they were. -/
theorem app_span2 {w0 W : World} {p q : Int} {v : Value} {xs : List (Int × Int)} {g : Nat} (hB : Below w0.heap.size w0 W) (hown : OwnS W w0.heap.size v xs) (hlen : xs.length ≤ 8000000) (hgd : o.guard = none) (s x : Operand)
    (ho : o.op = .call { callee := .builtin .append, args := #[s, x], argTypes := #[24, 24] })
    (hs : a.eval s = v) (hx : a.eval x = .slice (some ⟨g, 0, none⟩) 1 1) (c0 : W.cell? ⟨g, 0, none⟩ = some (.int .i64 p)) (c1 : W.cell? ⟨g, 1, none⟩ = some (.int .i64 q))
    (h : ∀ v' w', OwnS w' w0.heap.size v' (xs ++ [(p, q)]) → Below w0.heap.size w0 w' → (∀ u ys, OwnS W w0.heap.size u ys → u.ownBlock ≠ v.ownBlock → OwnS w' w0.heap.size u ys ∧ u.ownBlock ≠ v'.ownBlock) →
      (∀ b o, b < W.heap.size → v.ownBlock ≠ some b → w'.cell? ⟨b, o, none⟩ = W.cell? ⟨b, o, none⟩ ∧ w'.frozen? ⟨b, o, none⟩ = W.frozen? ⟨b, o, none⟩ ∧ b < w'.heap.size) → wpList Tryz.prog ops Q rest (a.put o.dst v') w') :
    wpList Tryz.prog ops Q (o :: rest) a W := by
  obtain ⟨i, hi, hz0, hz1, hz2⟩ := info_parts infoSpan
  refine wpList_append_own_at _ hgd s x _ ho w0.heap.size 36 i _ 2 16 Tryz.underlying24 hi hz0 hz1 hz2 rfl (by omega) v xs.length (flatS xs) hs hown ⟨g, 0, none⟩ 1 1 [.int .i64 p, .int .i64 q] hx rfl ?_ ?_ (by simp [maxLen]; omega) (by omega) hB.size ?_
  · intro j u hj
    match j, hj with
    | 0, hj => simp at hj; subst hj; simpa [Addr.add] using c0
    | 1, hj => simp at hj; subst hj; simpa [Addr.add] using c1
  · intro u hu
    simp at hu
    rcases hu with rfl | rfl <;> rfl
  · intro v' w' hown' hgrow _ hat
    refine h v' w' ?_ ?_ ?_ ?_
    · unfold OwnS
      rw [flatS_app, List.length_append]
      exact hown'
    · exact hB.grown hgrow hB.size (fun k hk => (World.ownsRow.lt hown k hk).1)
    · intro u ys hu hne
      refine ⟨OwnS.kept hu hgrow (Or.inr hne), ?_⟩
      rcases hat with e | e <;> rw [e]
      · exact hne
      · intro e2
        have := (ownB_lt hu _ e2).2
        omega
    · intro b off hb hne
      have hbk := hgrow.block b hb (fun e => hne e.symm)
      refine ⟨World.cell?_of_block (a := ⟨b, off, none⟩) hbk, ?_, Nat.lt_of_lt_of_le hb hgrow.size⟩
      simp only [World.frozen?, hbk]
theorem OwnS.ne {w : World} {base : Nat} {v : Value} {xs : List (Int × Int)} (h : OwnS w base v xs) : v.ownBlock ≠ some w.heap.size := fun e => by
  have := (ownB_lt h _ e).2
  omega
theorem app_span {w0 W : World} {p q : Int} {v : Value} {xs : List (Int × Int)} {g : Nat} (hB : Below w0.heap.size w0 W) (hown : OwnS W w0.heap.size v xs) (hlen : xs.length ≤ 8000000) (hgd : o.guard = none) (s x : Operand)
    (ho : o.op = .call { callee := .builtin .append, args := #[s, x], argTypes := #[24, 24] })
    (hs : a.eval s = v) (hx : a.eval x = .slice (some ⟨g, 0, none⟩) 1 1) (c0 : W.cell? ⟨g, 0, none⟩ = some (.int .i64 p)) (c1 : W.cell? ⟨g, 1, none⟩ = some (.int .i64 q))
    (h : ∀ v' w', OwnS w' w0.heap.size v' (xs ++ [(p, q)]) → Below w0.heap.size w0 w' → (∀ u ys, OwnS W w0.heap.size u ys → u.ownBlock ≠ v.ownBlock → OwnS w' w0.heap.size u ys ∧ u.ownBlock ≠ v'.ownBlock) → wpList Tryz.prog ops Q rest (a.put o.dst v') w') :
    wpList Tryz.prog ops Q (o :: rest) a W :=
  app_span2 hB hown hlen hgd s x ho hs hx c0 c1 (fun v' w' h1 h2 h3 _ => h v' w' h1 h2 h3)
end
end Go.Proofs.YtpinngcdojbndaaGreatDoor
