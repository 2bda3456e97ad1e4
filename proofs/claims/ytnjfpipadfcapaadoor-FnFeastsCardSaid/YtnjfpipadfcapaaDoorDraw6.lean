/- What the reference draws for the laws of years and calendars. -/
import Derived.Test.YtnjfpipadfcapaaDoorDraw5
import Derived.Test.YtnjfpipadfcapaaDoorLoc2
namespace Go.Proofs.YtnjfpipadfcapaaDoor
open Go.RowKit

/-- A calendar in a box of the call's own. -/
structure D1 (w : World) (g : Nat) (c : Int) : Prop where
  lt : g < w.heap.size
  c0 : w.cell? ⟨g, 0, none⟩ = some (.int .i64 c)
  fr : w.frozen? ⟨g, 0, none⟩ = false
theorem D1.src {w w' : World} {g B : Nat} {c : Int} (h : D1 w g c) (hg : w.grownBy w' (some B)) (hne : g ≠ B) : D1 w' g c := by
  have hb := hg.block g h.lt (fun e => hne (by injection e))
  exact ⟨Nat.lt_of_lt_of_le h.lt hg.size, (World.cell?_of_block (a := ⟨g, 0, none⟩) hb).trans h.c0, by have := h.fr; simp only [World.frozen?] at this ⊢; rw [hb]; exact this⟩
theorem D1.below {w w' : World} {g : Nat} {c : Int} (h : D1 w g c) (hb : Below w.heap.size w w') : D1 w' g c :=
  ⟨Nat.lt_of_lt_of_le h.lt hb.size, (hb.cell (p := ⟨g, 0, none⟩) h.lt).trans h.c0, (hb.frozen (p := ⟨g, 0, none⟩) h.lt).trans h.fr⟩
theorem D1.al {w : World} {g : Nat} {c : Int} (h : D1 w g c) (o : Obj) : D1 (w.alloc o) g c := h.below ((Below.refl _ _).alloc (Nat.le_refl _) o)
theorem D1.made (w : World) (c : Int) (t : TypeId) : D1 (w.alloc (.cells #[.int .i64 c] t)) w.heap.size c := ⟨by simp, by simp [go_sem], by simp [go_sem]⟩

set_option maxHeartbeats 1000000 in
theorem l04DrawYear_any {base B : Nat} {v : Value} {n : Nat} {w : World} (h : Src w base B v n) (hn : n ≤ 1000000) :
    Calls Tryd.prog 31 #[.pointer (some ⟨B, 0, none⟩)] w fun e w' => ∃ x : Int, e = .returned (.int .i64 x) ∧ (0 ≤ x ∧ x ≤ 2001) ∧ Src w' base B v n ∧ w.grownBy w' (some B) := by
  go_enter Tryd.func31, Tryd.ntmps31
  go_wp2_with fail
  refine (l01Next_any 20 h hn (by omega)).mono ?_
  rintro e w1 ⟨x, rfl, hx, hS, hG⟩
  by_cases h0 : x = 0
  · subst h0
    go_wp2_with fail
    have hSa := hS.al (.cells #[.int .i64 0, .int .i64 1, .int .i64 1582, .int .i64 1583, .int .i64 2000, .int .i64 2001] 2)
    refine (l01Pick_any [0, 1, 1582, 1583, 2000, 2001] 6 hSa hn rfl (by omega) (by omega) (by simp) (by have := hS.hB; omega) (nums_alloc w1 [0, 1, 1582, 1583, 2000, 2001] _)).mono ?_
    rintro e w2 ⟨y, rfl, hy, hS2, hG2⟩
    have hyb : 0 ≤ y ∧ y ≤ 2001 := by simp at hy; omega
    go_wp2
    go_ret
    exact ⟨y, rfl, hyb, hS2, gb_trans (gb_alloc hG _) hG2⟩
  · have d0 : (x == 0) = false := by simpa using h0
    go_wp2_with fail
    refine (l01Next_any 2000 hS hn (by omega)).mono ?_
    rintro e w2 ⟨y, rfl, hy, hS2, hG2⟩
    obtain ⟨y1, y2⟩ := inN_bd hy (by omega)
    go_wp2
    go_ret
    exact ⟨1 + y, rfl, by omega, hS2, gb_trans hG hG2⟩


end Go.Proofs.YtnjfpipadfcapaaDoor
