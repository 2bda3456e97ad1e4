/- Slices of strings: readable, of the call's own; append; strings as lists of bytes. -/
import Derived.Test.YtpinngcdojbndaaGreatDoorBase
import Derived.Lib.Hide
import Derived.Deep.LoopGhost
import Derived.Maps.AppendAt
import Derived.Lib.Strings
namespace Go.Proofs.YtpinngcdojbndaaGreatDoor
open Go.RowKit

/-- The string of a list of bytes. -/
def bs (l : List UInt8) : ByteArray := ⟨l.toArray⟩
theorem bs_list (l : List UInt8) : (bs l).data.toList = l := by simp [bs]
theorem bs_of (s : ByteArray) : bs s.data.toList = s := by apply ByteArray.ext; simp [bs]
theorem bs_app (a b : List UInt8) : bs a ++ bs b = bs (a ++ b) := by apply ByteArray.ext; simp [bs, ByteArray.data_append]
theorem bs_inj {a b : List UInt8} : bs a = bs b ↔ a = b := ⟨fun h => by rw [← bs_list a, ← bs_list b, h], fun h => by rw [h]⟩
theorem bs_size (l : List UInt8) : (bs l).size = l.length := by show l.toArray.size = _; simp
theorem list_size (s : ByteArray) : s.data.toList.length = s.size := by rw [Array.length_toList]; rfl
theorem toList_data (s : ByteArray) : s.toList = s.data.toList := ByteArray.toList_eq s

abbrev gT (zs : List ByteArray) (k : Nat) : ByteArray := zs.getD k ByteArray.empty
def StrAt (w : World) (b off : Nat) (zs : List ByteArray) : Prop := ∀ i, i < zs.length → w.cell? ⟨b, off + i, none⟩ = some (.string (gT zs i))
def RT (w : World) (v : Value) (zs : List ByteArray) : Prop :=
  (zs = [] ∧ ∃ a cap, v = .slice a 0 cap) ∨ (∃ b off cap, v = .slice (some ⟨b, off, none⟩) zs.length cap ∧ b < w.heap.size ∧ StrAt w b off zs)
theorem StrAt.of_cells {w w' : World} {b off : Nat} {zs : List ByteArray} (h : StrAt w b off zs) (hc : ∀ o, w'.cell? ⟨b, o, none⟩ = w.cell? ⟨b, o, none⟩) : StrAt w' b off zs :=
  fun i hi => (hc _).trans (h i hi)
theorem RT.below {w w' : World} {v : Value} {zs : List ByteArray} (h : RT w v zs) (hb : Below w.heap.size w w') : RT w' v zs := by
  rcases h with h | ⟨b, off, cap, hv, hlt, hs⟩
  · exact Or.inl h
  · exact Or.inr ⟨b, off, cap, hv, Nat.lt_of_lt_of_le hlt hb.size, hs.of_cells fun o => hb.cell (p := ⟨b, o, none⟩) hlt⟩
theorem RT.val {w : World} {v : Value} {zs : List ByteArray} (h : RT w v zs) : ∃ a cap, v = .slice a zs.length cap := by
  rcases h with ⟨rfl, a, cap, rfl⟩ | ⟨b, off, cap, rfl, _⟩
  · exact ⟨a, cap, rfl⟩
  · exact ⟨_, cap, rfl⟩
/-- A slice of strings of the call's own. -/
def OwnT (w : World) (base : Nat) (v : Value) (zs : List ByteArray) : Prop := w.ownsRow base 9 1 v zs.length (zs.map Value.string)
theorem infoStr : (Tryz.prog.info? 9).map (fun i => (i.zero, i.size, i.bytes)) = some (some (.string ByteArray.empty), 1, 16) := by kernel_rfl
theorem ownT_lt {w : World} {base : Nat} {v : Value} {zs : List ByteArray} (h : OwnT w base v zs) : ∀ k, v.ownBlock = some k → base ≤ k ∧ k < w.heap.size := World.ownsRow.lt h
theorem OwnT.made (w : World) {base : Nat} (hb : base ≤ w.heap.size) : OwnT (w.alloc (.cells #[] 9)) base (.slice (some ⟨w.heap.size, 0, none⟩) 0 0) [] :=
  World.ownsRow_made w #[] 0 hb (by simp [maxLen]) rfl
theorem OwnT.below {w w' : World} {base : Nat} {v : Value} {zs : List ByteArray} (h : OwnT w base v zs) (hb : Below w.heap.size w w') : OwnT w' base v zs :=
  World.ownsRow.kept h (row := none) ⟨hb.os, hb.tape, hb.output, hb.size, fun k hk _ => hb.block k hk⟩ (by cases hv : v.ownBlock <;> simp)
theorem OwnT.alloc {w : World} {base : Nat} {v : Value} {zs : List ByteArray} (h : OwnT w base v zs) (o : Obj) : OwnT (w.alloc o) base v zs := World.ownsRow.alloc h o
theorem OwnT.kept {w w' : World} {base : Nat} {v : Value} {zs : List ByteArray} {row : Option Nat} (h : OwnT w base v zs) (hg : w.grownBy w' row) (hne : v.ownBlock = none ∨ v.ownBlock ≠ row) : OwnT w' base v zs := World.ownsRow.kept h hg hne
theorem OwnT.len {w : World} {base : Nat} {v : Value} {zs : List ByteArray} (h : OwnT w base v zs) : ∃ a cap, v = .slice a zs.length cap := by
  rcases h.2 with ⟨rfl, h0⟩ | ⟨g, cap, cur, rfl, _⟩
  · exact ⟨none, 0, by rw [h0]⟩
  · exact ⟨_, cap, rfl⟩
theorem ownT_get {w : World} {base g n cap : Nat} {zs : List ByteArray} (h : OwnT w base (.slice (some ⟨g, 0, none⟩) n cap) zs) {i : Nat} (hi : i < zs.length) : w.cell? ⟨g, i, none⟩ = some (.string (gT zs i)) := by
  obtain ⟨a, c, hv⟩ := h.len
  injection hv with e1 e2 e3
  subst e2
  unfold OwnT at h
  refine (h.cellAt i (by simpa using hi)).trans ?_
  simp [gT, List.getElem?_map, List.getElem?_eq_getElem hi, List.getD_eq_getElem?_getD]
theorem OwnT.rs {w : World} {base : Nat} {v : Value} {zs : List ByteArray} (h : OwnT w base v zs) : RT w v zs := by
  have h' := h
  rcases h.2 with ⟨rfl, h0⟩ | ⟨g, cap, cur, rfl, _, hg, _⟩
  · exact Or.inl ⟨List.length_eq_zero_iff.1 h0, none, 0, rfl⟩
  · exact Or.inr ⟨g, 0, cap, rfl, (Array.getElem?_eq_some_iff.1 hg).1, fun i hi => by rw [Nat.zero_add]; exact ownT_get h' hi⟩

section
variable {ops : Array Oper} {rest : List Oper} {o : Oper} {a : Act} {Q : Exit → Act → World → Prop}
theorem app_str {w0 W : World} {p : ByteArray} {v : Value} {zs : List ByteArray} {g : Nat} (hB : Below w0.heap.size w0 W) (hown : OwnT W w0.heap.size v zs) (hlen : zs.length ≤ 4000000) (hgd : o.guard = none) (s x : Operand)
    (ho : o.op = .call { callee := .builtin .append, args := #[s, x], argTypes := #[44, 44] })
    (hs : a.eval s = v) (hx : a.eval x = .slice (some ⟨g, 0, none⟩) 1 1) (c0 : W.cell? ⟨g, 0, none⟩ = some (.string p))
    (h : ∀ v' w', OwnT w' w0.heap.size v' (zs ++ [p]) → Below w0.heap.size w0 w' → wpList Tryz.prog ops Q rest (a.put o.dst v') w') :
    wpList Tryz.prog ops Q (o :: rest) a W := by
  obtain ⟨i, hi, hz0, hz1, hz2⟩ := info_parts infoStr
  refine wpList_append_own_at _ hgd s x _ ho w0.heap.size 9 i _ 1 16 Tryz.underlying44 hi hz0 hz1 hz2 rfl (by omega) v zs.length (zs.map Value.string) hs hown ⟨g, 0, none⟩ 1 1 [.string p] hx rfl ?_ ?_ (by simp [maxLen]; omega) (by omega) hB.size ?_
  · intro j u hj
    match j, hj with
    | 0, hj => simp at hj; subst hj; simpa [Addr.add] using c0
  · intro u hu
    simp at hu
    subst hu; rfl
  · intro v' w' hown' hgrow _ _
    refine h v' w' ?_ ?_
    · unfold OwnT
      rw [List.map_append, List.length_append]
      exact hown'
    · exact hB.grown hgrow hB.size (fun k hk => (World.ownsRow.lt hown k hk).1)
end
end Go.Proofs.YtpinngcdojbndaaGreatDoor
