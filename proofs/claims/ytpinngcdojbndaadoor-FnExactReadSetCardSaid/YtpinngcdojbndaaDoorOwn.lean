/- Slices of the call's own that lie apart: what a mark on one of them leaves. -/
import Derived.Test.YtpinngcdojbndaaDoorApp
namespace Go.Proofs.YtpinngcdojbndaaDoor
open Go.RowKit

/-- A slice of the call's own in blocks from lo up to (not with) hi. -/
def OwnIn (w : World) (lo hi : Nat) (v : Value) (xs : List (Int × Int)) : Prop := OwnS w lo v xs ∧ ∀ k, v.ownBlock = some k → k < hi
theorem OwnIn.mk' {w : World} {lo : Nat} {v : Value} {xs : List (Int × Int)} (h : OwnS w lo v xs) : OwnIn w lo w.heap.size v xs := ⟨h, fun k hk => (ownB_lt h k hk).2⟩
theorem OwnIn.below {w w' : World} {lo hi : Nat} {v : Value} {xs : List (Int × Int)} (h : OwnIn w lo hi v xs) (hb : Below w.heap.size w w') : OwnIn w' lo hi v xs := ⟨h.1.below hb, h.2⟩
theorem OwnIn.kept {w w' : World} {lo hi lo' hi' : Nat} {v u : Value} {xs ys : List (Int × Int)} (h : OwnIn w lo hi v xs) (hu : OwnIn w lo' hi' u ys) (hg : w.grownBy w' u.ownBlock) (hd : hi ≤ lo' ∨ hi' ≤ lo) : OwnIn w' lo hi v xs := by
  refine ⟨?_, h.2⟩
  cases hv : v.ownBlock with
  | none => exact h.1.kept hg (Or.inl hv)
  | some k =>
    refine h.1.kept hg (Or.inr fun e => ?_)
    rw [hv] at e
    have h1 := (ownB_lt h.1 k hv).1
    have h2 := h.2 k hv
    have h3 := (ownB_lt hu.1 k e.symm).1
    have h4 := hu.2 k e.symm
    omega
theorem OwnIn.rs {w : World} {lo hi : Nat} {v : Value} {xs : List (Int × Int)} (h : OwnIn w lo hi v xs) : RS w v xs := h.1.rs
theorem below_mark {B : Nat} {w0 w w' : World} {lo hi : Nat} {v : Value} {xs : List (Int × Int)} (hB : Below B w0 w) (h : OwnIn w lo hi v xs) (hg : w.grownBy w' v.ownBlock) (hlo : B ≤ lo) (hBw : B ≤ w.heap.size) : Below B w0 w' :=
  hB.grown hg hBw (fun k hk => Nat.le_trans hlo (ownB_lt h.1 k hk).1)
theorem mark_in {lo hi : Nat} {v : Value} {xs : List (Int × Int)} {k0 : Int} {w : World} (h : OwnIn w lo hi v xs) (hl : xs.length ≤ 4000000) (hk1 : 0 ≤ k0) (hk2 : k0 ≤ 100000000) :
    Calls Tryd.prog 8 #[v, .int .i64 k0] w fun e w' => e = .returned (.int .i64 (k0 + 2 * (xs.length : Int))) ∧ OwnIn w' lo hi v (markL k0 xs.length) ∧ w.grownBy w' v.ownBlock :=
  (markSpanS_any lo v xs k0 w h.1 hl hk1 hk2).mono fun _ _ ⟨he, ho, hg⟩ => ⟨he, ⟨ho, h.2⟩, hg⟩
theorem held_in {lo hi : Nat} {v : Value} {n : Nat} {k0 : Int} {w : World} (h : OwnIn w lo hi v (markL k0 n)) (hl : n ≤ 4000000) (hk1 : 0 ≤ k0) (hk2 : k0 ≤ 100000000) :
    Calls Tryd.prog 9 #[v, .int .i64 k0] w fun e w' => e = .returned (.int .i64 (k0 + 2 * (n : Int))) ∧ Below w.heap.size w w' :=
  heldSpanS_any v n k0 w h.rs hl hk1 hk2
end Go.Proofs.YtpinngcdojbndaaDoor
