/- What the reference draws: days, dates, years, calendars; nothing but the source's own block is turned. -/
import Derived.Test.YtpinngcdojbndaaGreatDoorDraw
namespace Go.Proofs.YtpinngcdojbndaaGreatDoor
open Go.RowKit

theorem SrcC.grown {w w' : World} {base B n k : Nat} {v : Value} {sd : Int} {row : Option Nat} (h : SrcC w base B v n k sd) (hg : w.grownBy w' row) (hr : ∀ g, row = some g → B < g) : SrcC w' base B v n k sd := by
  have hk : ∀ b o, b < w.heap.size → b ≤ B → w'.cell? ⟨b, o, none⟩ = w.cell? ⟨b, o, none⟩ := fun b o hb hle =>
    World.cell?_of_block (a := ⟨b, o, none⟩) (hg.block b hb (fun e => by have := hr b e.symm; omega))
  have hf : ∀ i, w'.frozen? ⟨B, i, none⟩ = w.frozen? ⟨B, i, none⟩ := fun i => by
    simp only [World.frozen?, hg.block B h.hB (fun e => by have := hr B e.symm; omega)]
  exact ⟨h.hb, Nat.lt_of_lt_of_le h.hB hg.size, (hk B 0 h.hB (Nat.le_refl _)).trans h.c0, (hk B 1 h.hB (Nat.le_refl _)).trans h.c1, (hk B 2 h.hB (Nat.le_refl _)).trans h.c2, fun i => (hf i).trans (h.fr i),
    h.rb.keep hg.size (fun b o hb hlt => hk b o hlt (by have := h.hb; omega)), h.hk, h.h1, h.h2⟩
theorem Src.grown {w w' : World} {base B n : Nat} {v : Value} {row : Option Nat} (h : Src w base B v n) (hg : w.grownBy w' row) (hr : ∀ g, row = some g → B < g) : Src w' base B v n := by
  obtain ⟨k, sd, h⟩ := h; exact ⟨k, sd, h.grown hg hr⟩
theorem gb_grown {a w w' : World} {row r2 : Option Nat} (h : a.grownBy w row) (hg : w.grownBy w' r2) (hr : ∀ g, r2 = some g → a.heap.size ≤ g) : a.grownBy w' row :=
  ⟨hg.os.trans h.os, hg.tape.trans h.tape, hg.output.trans h.output, Nat.le_trans h.size hg.size, fun i hi hne => (hg.block i (Nat.lt_of_lt_of_le hi h.size) (fun e => by have := hr i e.symm; omega)).trans (h.block i hi hne)⟩
theorem gb_trans {a b c : World} {row : Option Nat} (h : a.grownBy b row) (k : b.grownBy c row) : a.grownBy c row := h.trans k
theorem nums_alloc (w : World) (zs : List Int) (t : TypeId) : NumsAt (w.alloc (.cells (zs.map (Value.int .i64)).toArray t)) w.heap.size zs := by
  intro i hi
  rw [World.cell?_alloc_at (hn := rfl)]
  simp [List.getElem?_map, List.getElem?_eq_getElem hi, List.getD_eq_getElem?_getD]
theorem nums_at {w : World} {g : Nat} (zs : List Int) (t : TypeId) (h : w.heap.size = g) : NumsAt (w.alloc (.cells (zs.map (Value.int .i64)).toArray t)) g zs := by
  subst h; exact nums_alloc w zs t
theorem Src.hB {w : World} {base B n : Nat} {v : Value} (h : Src w base B v n) : B < w.heap.size := by obtain ⟨_, _, h⟩ := h; exact h.hB
theorem Src.al {w : World} {base B n : Nat} {v : Value} (h : Src w base B v n) (o : Obj) : Src (w.alloc o) base B v n := h.below ((Below.refl _ _).alloc (Nat.le_refl _) o)

/-- A date in a box of the call's own. -/
structure D3 (w : World) (g : Nat) (y m d : Int) : Prop where
  lt : g < w.heap.size
  c0 : w.cell? ⟨g, 0, none⟩ = some (.int .i64 y)
  c1 : w.cell? ⟨g, 1, none⟩ = some (.int .i64 m)
  c2 : w.cell? ⟨g, 2, none⟩ = some (.int .i64 d)
  fr : ∀ i, w.frozen? ⟨g, i, none⟩ = false
theorem D3.src {w w' : World} {g B : Nat} {y m d : Int} (h : D3 w g y m d) (hg : w.grownBy w' (some B)) (hne : g ≠ B) : D3 w' g y m d := by
  have hb := hg.block g h.lt (fun e => hne (by injection e))
  exact ⟨Nat.lt_of_lt_of_le h.lt hg.size, (World.cell?_of_block (a := ⟨g, 0, none⟩) hb).trans h.c0, (World.cell?_of_block (a := ⟨g, 1, none⟩) hb).trans h.c1, (World.cell?_of_block (a := ⟨g, 2, none⟩) hb).trans h.c2, fun i => by have := h.fr i; simp only [World.frozen?] at this ⊢; rw [hb]; exact this⟩
theorem D3.below {w w' : World} {g : Nat} {y m d : Int} (h : D3 w g y m d) (hb : Below w.heap.size w w') : D3 w' g y m d :=
  ⟨Nat.lt_of_lt_of_le h.lt hb.size, (hb.cell (p := ⟨g, 0, none⟩) h.lt).trans h.c0, (hb.cell (p := ⟨g, 1, none⟩) h.lt).trans h.c1, (hb.cell (p := ⟨g, 2, none⟩) h.lt).trans h.c2, fun i => (hb.frozen (p := ⟨g, i, none⟩) h.lt).trans (h.fr i)⟩
theorem D3.al {w : World} {g : Nat} {y m d : Int} (h : D3 w g y m d) (o : Obj) : D3 (w.alloc o) g y m d := h.below ((Below.refl _ _).alloc (Nat.le_refl _) o)
theorem D3.set0 {w : World} {g : Nat} {y m d : Int} (h : D3 w g y m d) (x : Int) : D3 (w.setCell ⟨g, 0, none⟩ (.int .i64 x)) g x m d :=
  ⟨by simpa using h.lt, World.cell?_setCell_same _ _ _ h.c0, set_other h.c1 (by omega), set_other h.c2 (by omega), fun i => (World.frozen?_setCell _ _ _ _).trans (h.fr i)⟩
theorem D3.set1 {w : World} {g : Nat} {y m d : Int} (h : D3 w g y m d) (x : Int) : D3 (w.setCell ⟨g, 1, none⟩ (.int .i64 x)) g y x d :=
  ⟨by simpa using h.lt, set_other h.c0 (by omega), World.cell?_setCell_same _ _ _ h.c1, set_other h.c2 (by omega), fun i => (World.frozen?_setCell _ _ _ _).trans (h.fr i)⟩
theorem D3.set2 {w : World} {g : Nat} {y m d : Int} (h : D3 w g y m d) (x : Int) : D3 (w.setCell ⟨g, 2, none⟩ (.int .i64 x)) g y m x :=
  ⟨by simpa using h.lt, set_other h.c0 (by omega), set_other h.c1 (by omega), World.cell?_setCell_same _ _ _ h.c2, fun i => (World.frozen?_setCell _ _ _ _).trans (h.fr i)⟩
theorem D3.setO {w : World} {g h o : Nat} {y m d : Int} {u : Value} (k : D3 w g y m d) (hne : g ≠ h) : D3 (w.setCell ⟨h, o, none⟩ u) g y m d :=
  ⟨by simpa using k.lt, set_other k.c0 (by omega), set_other k.c1 (by omega), set_other k.c2 (by omega), fun i => (World.frozen?_setCell _ _ _ _).trans (k.fr i)⟩
theorem D3.made (w : World) (y m d : Int) (t : TypeId) : D3 (w.alloc (.cells #[.int .i64 y, .int .i64 m, .int .i64 d] t)) w.heap.size y m d :=
  ⟨by simp, by simp [go_sem], by simp [go_sem], by simp [go_sem], fun i => by simp [go_sem]⟩
theorem Src.set {w : World} {base B n g o : Nat} {v u : Value} (h : Src w base B v n) (hlt : B < g) : Src (w.setCell ⟨g, o, none⟩ u) base B v n :=
  h.grown (gb_set (World.grownBy.refl w (some g)) o u) (fun k e => by injection e with e; omega)
theorem gb_setg {a w : World} {row : Option Nat} {g o : Nat} {u : Value} (h : a.grownBy w row) (hg : a.heap.size ≤ g) : a.grownBy (w.setCell ⟨g, o, none⟩ u) row :=
  gb_grown h (gb_set (World.grownBy.refl w (some g)) o u) (fun k e => by injection e with e; omega)
theorem inN_bd {x : Int} {m : Int} (h : inN x m) (hm : 0 < m) : 0 ≤ x ∧ x ≤ m - 1 := by unfold inN at h; omega

end Go.Proofs.YtpinngcdojbndaaGreatDoor
