/- Slices of spans: what it is that one reads as a list of pairs; the laws' helpers over them. -/
import Derived.Test.YtpinngcdojbndaaGreatDoorBase
import Derived.Lib.Hide
import Derived.Deep.SlicePairs
import Derived.Deep.LoopGhost
namespace Go.Proofs.YtpinngcdojbndaaGreatDoor
open Go.RowKit

/-- The row at block b, from off on, reads as xs. -/
def SpanAt (w : World) (b off : Nat) (xs : List (Int × Int)) : Prop :=
  ∀ i, i < xs.length → w.cell? ⟨b, off + i * 2, none⟩ = some (.int .i64 (xs.getD i (0, 0)).1) ∧ w.cell? ⟨b, off + i * 2 + 1, none⟩ = some (.int .i64 (xs.getD i (0, 0)).2)
/-- A slice that reads as xs. -/
def RS (w : World) (v : Value) (xs : List (Int × Int)) : Prop :=
  (xs = [] ∧ ∃ a cap, v = .slice a 0 cap) ∨ (∃ b off cap, v = .slice (some ⟨b, off, none⟩) xs.length cap ∧ b < w.heap.size ∧ SpanAt w b off xs)
theorem SpanAt.of_cells {w w' : World} {b off : Nat} {xs : List (Int × Int)} (h : SpanAt w b off xs) (hc : ∀ o, w'.cell? ⟨b, o, none⟩ = w.cell? ⟨b, o, none⟩) : SpanAt w' b off xs :=
  fun i hi => ⟨(hc _).trans (h i hi).1, (hc _).trans (h i hi).2⟩
theorem RS.below {w w' : World} {v : Value} {xs : List (Int × Int)} (h : RS w v xs) (hb : Below w.heap.size w w') : RS w' v xs := by
  rcases h with h | ⟨b, off, cap, hv, hlt, hs⟩
  · exact Or.inl h
  · exact Or.inr ⟨b, off, cap, hv, Nat.lt_of_lt_of_le hlt hb.size, hs.of_cells fun o => hb.cell (p := ⟨b, o, none⟩) hlt⟩

theorem RS.val {w : World} {v : Value} {xs : List (Int × Int)} (h : RS w v xs) : ∃ a cap, v = .slice a xs.length cap := by
  rcases h with ⟨rfl, a, cap, rfl⟩ | ⟨b, off, cap, rfl, _⟩
  · exact ⟨a, cap, rfl⟩
  · exact ⟨_, cap, rfl⟩
/-- The cells of a list of spans. -/
def flatS (xs : List (Int × Int)) : List Value := xs.flatMap fun s => [.int .i64 s.1, .int .i64 s.2]
/-- A slice of the call's own (from base on) that reads as xs. -/
def OwnS (w : World) (base : Nat) (v : Value) (xs : List (Int × Int)) : Prop := w.ownsRow base 36 2 v xs.length (flatS xs)

theorem take_succ_eq {xs ys : List (Int × Int)} {k : Nat} (h : xs.take k = ys.take k) (hx : k < xs.length) (hy : k < ys.length) (he : xs.getD k (0, 0) = ys.getD k (0, 0)) : xs.take (k + 1) = ys.take (k + 1) := by
  rw [List.take_add_one, List.take_add_one, h]
  simp only [List.getD_eq_getElem?_getD, List.getElem?_eq_getElem hx, List.getElem?_eq_getElem hy, Option.getD_some] at he
  rw [List.getElem?_eq_getElem hx, List.getElem?_eq_getElem hy, he]
theorem getD_ne {xs ys : List (Int × Int)} {k : Nat} (he : ¬ xs.getD k (0, 0) = ys.getD k (0, 0)) : ¬ xs = ys := fun h => he (by rw [h])

theorem ownsRow_keptB {w w' : World} {base : Nat} {e : TypeId} {size : Nat} {v : Value} {n : Nat} {xs : List Value} (h : w.ownsRow base e size v n xs) (hb : Below w.heap.size w w') : w'.ownsRow base e size v n xs :=
  h.kept (row := none) ⟨hb.os, hb.tape, hb.output, hb.size, fun k hk _ => hb.block k hk⟩ (by cases hv : v.ownBlock <;> simp)
theorem infoSpan : (Tryz.prog.info? 36).map (fun i => (i.zero, i.size, i.bytes)) = some (some (.agg #[.int .i64 0, .int .i64 0]), 2, 16) := by kernel_rfl
theorem flatS_len (xs : List (Int × Int)) : (flatS xs).length = xs.length * 2 := by
  induction xs with
  | nil => rfl
  | cons x xs ih => simp only [flatS, List.flatMap_cons, List.length_append] at ih ⊢; simp at ih ⊢; omega
theorem flatS_get (xs : List (Int × Int)) (i : Nat) (h : i < xs.length) : (flatS xs)[i * 2]? = some (.int .i64 (xs.getD i (0, 0)).1) ∧ (flatS xs)[i * 2 + 1]? = some (.int .i64 (xs.getD i (0, 0)).2) := by
  induction xs generalizing i with
  | nil => simp at h
  | cons x xs ih =>
    cases i with
    | zero => simp [flatS]
    | succ i =>
      have := ih i (by simpa using h)
      simp only [flatS, List.flatMap_cons] at this ⊢
      rw [show (i + 1) * 2 = i * 2 + 1 + 1 by omega]
      simpa using this
theorem flatS_of {cs : List Value} {xs : List (Int × Int)} (hl : cs.length = xs.length * 2) (h : ∀ i, i < xs.length → cs[i * 2]? = some (.int .i64 (xs.getD i (0, 0)).1) ∧ cs[i * 2 + 1]? = some (.int .i64 (xs.getD i (0, 0)).2)) : cs = flatS xs := by
  apply List.ext_getElem?
  intro j
  by_cases hj : j < cs.length
  · obtain ⟨h1, h2⟩ := h (j / 2) (by omega)
    obtain ⟨g1, g2⟩ := flatS_get xs (j / 2) (by omega)
    rcases Nat.mod_two_eq_zero_or_one j with h0 | h0
    · rw [show j = j / 2 * 2 by omega, h1, g1]
    · rw [show j = j / 2 * 2 + 1 by omega, h2, g2]
  · rw [List.getElem?_eq_none (by omega), List.getElem?_eq_none (by have := flatS_len xs; omega)]

/-- What marking lays. -/
def markL (k : Int) (n : Nat) : List (Int × Int) := (List.range n).map fun (i : Nat) => (k + 2 * (i : Int), k + 2 * (i : Int) + 1)
theorem markL_len (k : Int) (n : Nat) : (markL k n).length = n := by simp [markL]
theorem markL_get (k : Int) (n i : Nat) (h : i < n) : (markL k n).getD i (0, 0) = (k + 2 * (i : Int), k + 2 * (i : Int) + 1) := by
  simp [markL, List.getD_eq_getElem?_getD, List.getElem?_map, List.getElem?_range h]

theorem OwnS.len {w : World} {base : Nat} {v : Value} {xs : List (Int × Int)} (h : OwnS w base v xs) : ∃ a cap, v = .slice a xs.length cap := by
  rcases h.2 with ⟨rfl, h0⟩ | ⟨g, cap, cur, rfl, _⟩
  · exact ⟨none, 0, by rw [h0]⟩
  · exact ⟨_, cap, rfl⟩
theorem OwnS.rs {w : World} {base : Nat} {v : Value} {xs : List (Int × Int)} (h : OwnS w base v xs) : RS w v xs := by
  have h' := h
  unfold OwnS at h'
  rcases h.2 with ⟨rfl, h0⟩ | ⟨g, cap, cur, rfl, _, hg, _⟩
  · exact Or.inl ⟨List.length_eq_zero_iff.1 h0, none, 0, rfl⟩
  · refine Or.inr ⟨g, 0, cap, rfl, (Array.getElem?_eq_some_iff.1 hg).1, fun i hi => ?_⟩
    obtain ⟨h1, h2⟩ := flatS_get xs i hi
    rw [Nat.zero_add]
    exact ⟨(h'.cellAt (i * 2) (by omega)).trans h1, (h'.cellAt (i * 2 + 1) (by omega)).trans h2⟩
theorem OwnS.below {w w' : World} {base : Nat} {v : Value} {xs : List (Int × Int)} (h : OwnS w base v xs) (hb : Below w.heap.size w w') : OwnS w' base v xs := ownsRow_keptB h hb
theorem OwnS.kept {w w' : World} {base : Nat} {v : Value} {xs : List (Int × Int)} {row : Option Nat} (h : OwnS w base v xs) (hg : w.grownBy w' row) (hne : v.ownBlock = none ∨ v.ownBlock ≠ row) : OwnS w' base v xs := World.ownsRow.kept h hg hne

end Go.Proofs.YtpinngcdojbndaaGreatDoor
