/- Slices of the call's own that lie apart: what a mark on one of them leaves. -/
import Derived.Test.YtpinngcdojbndaaGreatDoorApp
namespace Go.Proofs.YtpinngcdojbndaaGreatDoor
open Go.RowKit

/-- A slice of the call's own in blocks from lo up to (not with) hi. -/
def OwnIn (w : World) (lo hi : Nat) (v : Value) (xs : List (Int × Int)) : Prop := OwnS w lo v xs ∧ ∀ k, v.ownBlock = some k → k < hi
theorem OwnIn.mk' {w : World} {lo : Nat} {v : Value} {xs : List (Int × Int)} (h : OwnS w lo v xs) : OwnIn w lo w.heap.size v xs := ⟨h, fun k hk => (ownB_lt h k hk).2⟩
theorem OwnIn.below {w w' : World} {lo hi : Nat} {v : Value} {xs : List (Int × Int)} (h : OwnIn w lo hi v xs) (hb : Below w.heap.size w w') : OwnIn w' lo hi v xs := ⟨h.1.below hb, h.2⟩
theorem OwnIn.kept {w w' : World} {lo hi lo' hi' : Nat} {v u : Value} {xs ys : List (Int × Int)} (h : OwnIn w lo hi v xs) (hu : OwnIn w lo' hi' u ys) (hg : w.grownBy w' u.ownBlock) (hd : hi ≤ lo' ∨ hi' ≤ lo) : OwnIn w' lo hi v xs := by
  refine ⟨?_, h.2⟩
  cases hv : v.ownBlock with
  | none => exact h.1.kept hg (Or.inl hv)
  | some k =>
    refine h.1.kept hg (Or.inr fun e => ?_)
    rw [hv] at e
    have h1 := (ownB_lt h.1 k hv).1
    have h2 := h.2 k hv
    have h3 := (ownB_lt hu.1 k e.symm).1
    have h4 := hu.2 k e.symm
    omega
theorem OwnIn.rs {w : World} {lo hi : Nat} {v : Value} {xs : List (Int × Int)} (h : OwnIn w lo hi v xs) : RS w v xs := h.1.rs
theorem below_mark {B : Nat} {w0 w w' : World} {lo hi : Nat} {v : Value} {xs : List (Int × Int)} (hB : Below B w0 w) (h : OwnIn w lo hi v xs) (hg : w.grownBy w' v.ownBlock) (hlo : B ≤ lo) (hBw : B ≤ w.heap.size) : Below B w0 w' :=
  hB.grown hg hBw (fun k hk => Nat.le_trans hlo (ownB_lt h.1 k hk).1)
end Go.Proofs.YtpinngcdojbndaaGreatDoor
