/- A region that only reads ahead of its last writes. -/
import Derived.StillTailTactics
import Derived.BigQuiet
import Derived.KernelRfl
namespace Go.Proofs.YtpinngcdojbndaaGreatDoor
open Go.RowKit
namespace T
theorem still_of_quiet {P : Program} {o : Oper} {a : Act} {w : World} {K : Act → Prop} (h : o.quiet P a (fun w' => w' = w) K) : o.still P a w K := by
  obtain ⟨v, h1, h2⟩ := h
  have h3 := h1 w rfl
  unfold Oper.quietAt at h3
  unfold Oper.still
  generalize (execOp a.eval o).run P w = r at h3 ⊢
  unfold Oper.quietUpon at h3
  unfold Oper.stillUpon
  split at h3
  · obtain ⟨rfl, rfl⟩ := h3; exact ⟨rfl, h2⟩
  · obtain ⟨rfl, rfl⟩ := h3; exact ⟨rfl, h2⟩
  · obtain ⟨rfl, h4⟩ := h3; exact ⟨rfl, v, h4, h2⟩
  · cases h3
theorem wpStill_of_quiet {P : Program} {ops : Array Oper} {w : World} {Q : Act → Prop} : ∀ {l : List Oper} {a : Act}, wpQuiet P ops (fun w' => w' = w) Q l a → wpStill P ops w Q l a
  | [], _, h => h
  | o :: l, a, h => by
    unfold wpStill
    unfold wpQuiet at h
    split
    · rename_i hw
      rw [if_pos hw] at h
      exact still_of_quiet (Oper.quiet_mono (fun a' h' => wpStill_of_quiet h') h)
    · rename_i hw
      rw [if_neg hw] at h
      exact wpStill_of_quiet h
/-- A region that only reads ahead of a chain of writes: walked once, in the order of the text, behind one draw. -/
theorem tail_quiet {P : Program} {id : Nat} {Q : Exit → Act → World → Prop} {a : Act} {w : World} {l : List Oper} (n : Nat) (hm : P.follows .mixedOrders = true) (hB : Region.lexTailB .any l.toArray n = true)
    (h : ∀ w2, w2 = w.drew → wpQuiet P l.toArray (fun w' => w' = w2) (fun a' => wpList P l.toArray Q (l.drop n) a' w2) (l.take n) a) : (Code.region id l.toArray true).wp P Q a w :=
  wp_region_still_tail n hm hB (wpStill_of_quiet (h _ rfl))
end T
end Go.Proofs.YtpinngcdojbndaaGreatDoor
