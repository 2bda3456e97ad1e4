/- Slices of numbers: readable, of the call's own; append; the laws' helpers over them. -/
import Derived.Test.YtnjfpipadfcapaaDoorBase
import Derived.Lib.Hide
import Derived.Deep.LoopGhost
import Derived.Maps.AppendAt
namespace Go.Proofs.YtnjfpipadfcapaaDoor
open Go.RowKit

abbrev gI (zs : List Int) (k : Nat) : Int := zs.getD k 0
def IntAt (w : World) (b off : Nat) (zs : List Int) : Prop := ∀ i, i < zs.length → w.cell? ⟨b, off + i, none⟩ = some (.int .i64 (gI zs i))
def RI (w : World) (v : Value) (zs : List Int) : Prop :=
  (zs = [] ∧ ∃ a cap, v = .slice a 0 cap) ∨ (∃ b off cap, v = .slice (some ⟨b, off, none⟩) zs.length cap ∧ b < w.heap.size ∧ IntAt w b off zs)
theorem IntAt.of_cells {w w' : World} {b off : Nat} {zs : List Int} (h : IntAt w b off zs) (hc : ∀ o, w'.cell? ⟨b, o, none⟩ = w.cell? ⟨b, o, none⟩) : IntAt w' b off zs :=
  fun i hi => (hc _).trans (h i hi)
theorem RI.below {w w' : World} {v : Value} {zs : List Int} (h : RI w v zs) (hb : Below w.heap.size w w') : RI w' v zs := by
  rcases h with h | ⟨b, off, cap, hv, hlt, hs⟩
  · exact Or.inl h
  · exact Or.inr ⟨b, off, cap, hv, Nat.lt_of_lt_of_le hlt hb.size, hs.of_cells fun o => hb.cell (p := ⟨b, o, none⟩) hlt⟩
theorem RI.val {w : World} {v : Value} {zs : List Int} (h : RI w v zs) : ∃ a cap, v = .slice a zs.length cap := by
  rcases h with ⟨rfl, a, cap, rfl⟩ | ⟨b, off, cap, rfl, _⟩
  · exact ⟨a, cap, rfl⟩
  · exact ⟨_, cap, rfl⟩
/-- A slice of numbers of the call's own. -/
def OwnI (w : World) (base : Nat) (v : Value) (zs : List Int) : Prop := w.ownsRow base 2 1 v zs.length (zs.map (Value.int .i64))
theorem infoInt : (Tryd.prog.info? 2).map (fun i => (i.zero, i.size, i.bytes)) = some (some (.int .i64 0), 1, 8) := by kernel_rfl
theorem ownI_lt {w : World} {base : Nat} {v : Value} {zs : List Int} (h : OwnI w base v zs) : ∀ k, v.ownBlock = some k → base ≤ k ∧ k < w.heap.size := World.ownsRow.lt h
theorem OwnI.made (w : World) {base : Nat} (hb : base ≤ w.heap.size) : OwnI (w.alloc (.cells #[] 2)) base (.slice (some ⟨w.heap.size, 0, none⟩) 0 0) [] :=
  World.ownsRow_made w #[] 0 hb (by simp [maxLen]) rfl
theorem OwnI.nil (w : World) (base : Nat) : OwnI w base (.slice none 0 0) [] := World.ownsRow_nil w base _ 1
theorem OwnI.below {w w' : World} {base : Nat} {v : Value} {zs : List Int} (h : OwnI w base v zs) (hb : Below w.heap.size w w') : OwnI w' base v zs :=
  World.ownsRow.kept h (row := none) ⟨hb.os, hb.tape, hb.output, hb.size, fun k hk _ => hb.block k hk⟩ (by cases hv : v.ownBlock <;> simp)
theorem OwnI.alloc {w : World} {base : Nat} {v : Value} {zs : List Int} (h : OwnI w base v zs) (o : Obj) : OwnI (w.alloc o) base v zs := World.ownsRow.alloc h o
theorem OwnI.kept {w w' : World} {base : Nat} {v : Value} {zs : List Int} {row : Option Nat} (h : OwnI w base v zs) (hg : w.grownBy w' row) (hne : v.ownBlock = none ∨ v.ownBlock ≠ row) : OwnI w' base v zs := World.ownsRow.kept h hg hne
theorem OwnI.more {w : World} {base base' : Nat} {v : Value} {zs : List Int} (h : OwnI w base v zs) (hb : base' ≤ base) : OwnI w base' v zs := by
  refine ⟨h.1, ?_⟩
  rcases h.2 with h | ⟨g, cap, cur, hv, hg, rest⟩
  · exact Or.inl h
  · exact Or.inr ⟨g, cap, cur, hv, Nat.le_trans hb hg, rest⟩
theorem OwnI.len {w : World} {base : Nat} {v : Value} {zs : List Int} (h : OwnI w base v zs) : ∃ a cap, v = .slice a zs.length cap := by
  rcases h.2 with ⟨rfl, h0⟩ | ⟨g, cap, cur, rfl, _⟩
  · exact ⟨none, 0, by rw [h0]⟩
  · exact ⟨_, cap, rfl⟩
theorem ownI_get {w : World} {base g n cap : Nat} {zs : List Int} (h : OwnI w base (.slice (some ⟨g, 0, none⟩) n cap) zs) {i : Nat} (hi : i < zs.length) : w.cell? ⟨g, i, none⟩ = some (.int .i64 (gI zs i)) := by
  obtain ⟨a, c, hv⟩ := h.len
  injection hv with e1 e2 e3
  subst e2
  unfold OwnI at h
  refine (h.cellAt i (by simpa using hi)).trans ?_
  simp [gI, List.getElem?_map, List.getElem?_eq_getElem hi, List.getD_eq_getElem?_getD]
theorem OwnI.rs {w : World} {base : Nat} {v : Value} {zs : List Int} (h : OwnI w base v zs) : RI w v zs := by
  have h' := h
  rcases h.2 with ⟨rfl, h0⟩ | ⟨g, cap, cur, rfl, _, hg, _⟩
  · exact Or.inl ⟨List.length_eq_zero_iff.1 h0, none, 0, rfl⟩
  · exact Or.inr ⟨g, 0, cap, rfl, (Array.getElem?_eq_some_iff.1 hg).1, fun i hi => by rw [Nat.zero_add]; exact ownI_get h' hi⟩

section
variable {ops : Array Oper} {rest : List Oper} {o : Oper} {a : Act} {Q : Exit → Act → World → Prop}
theorem app_int {w0 W : World} {p : Int} {v : Value} {zs : List Int} {g : Nat} (hB : Below w0.heap.size w0 W) (hown : OwnI W w0.heap.size v zs) (hlen : zs.length ≤ 8000000) (hgd : o.guard = none) (s x : Operand)
    (ho : o.op = .call { callee := .builtin .append, args := #[s, x], argTypes := #[34, 34] })
    (hs : a.eval s = v) (hx : a.eval x = .slice (some ⟨g, 0, none⟩) 1 1) (c0 : W.cell? ⟨g, 0, none⟩ = some (.int .i64 p))
    (h : ∀ v' w', OwnI w' w0.heap.size v' (zs ++ [p]) → Below w0.heap.size w0 w' → wpList Tryd.prog ops Q rest (a.put o.dst v') w') :
    wpList Tryd.prog ops Q (o :: rest) a W := by
  obtain ⟨i, hi, hz0, hz1, hz2⟩ := info_parts infoInt
  refine wpList_append_own_at _ hgd s x _ ho w0.heap.size 2 i _ 1 8 Tryd.underlying34 hi hz0 hz1 hz2 rfl (by omega) v zs.length (zs.map (Value.int .i64)) hs hown ⟨g, 0, none⟩ 1 1 [.int .i64 p] hx rfl ?_ ?_ (by simp [maxLen]; omega) (by omega) hB.size ?_
  · intro j u hj
    match j, hj with
    | 0, hj => simp at hj; subst hj; simpa [Addr.add] using c0
  · intro u hu
    simp at hu
    subst hu; rfl
  · intro v' w' hown' hgrow _ _
    refine h v' w' ?_ ?_
    · unfold OwnI
      rw [List.map_append, List.length_append]
      exact hown'
    · exact hB.grown hgrow hB.size (fun k hk => (World.ownsRow.lt hown k hk).1)
end
theorem takeI_succ {xs ys : List Int} {k : Nat} (h : xs.take k = ys.take k) (hx : k < xs.length) (hy : k < ys.length) (he : gI xs k = gI ys k) : xs.take (k + 1) = ys.take (k + 1) := by
  rw [List.take_add_one, List.take_add_one, h]
  simp only [gI, List.getD_eq_getElem?_getD, List.getElem?_eq_getElem hx, List.getElem?_eq_getElem hy, Option.getD_some] at he
  rw [List.getElem?_eq_getElem hx, List.getElem?_eq_getElem hy, he]

set_option maxHeartbeats 1000000 in
theorem likeInts_cells (b1 o1 c1 b2 o2 c2 : Nat) (xs ys : List Int) (w : World) (hb1 : b1 < w.heap.size) (hs1 : IntAt w b1 o1 xs) (hb2 : b2 < w.heap.size) (hs2 : IntAt w b2 o2 ys) (hl : xs.length ≤ 4000000000000) (hlen : xs.length = ys.length) :
    Calls Tryd.prog 19 #[.slice (some ⟨b1, o1, none⟩) xs.length c1, .slice (some ⟨b2, o2, none⟩) xs.length c2] w fun e w' => e = .returned (.bool (decide (xs = ys))) ∧ Below w.heap.size w w' := by
  have rg := cell_rg; have l2 : ∀ n : Nat, n < n + 1 + 1 := (fun _ => by omega); have l3 : ∀ n : Nat, n < n + 1 + 1 + 1 := (fun _ => by omega); have l4 : ∀ n : Nat, n < n + 1 + 1 + 1 + 1 := (fun _ => by omega)
  have hB := Below.refl w.heap.size w
  go_enter Tryd.func19, Tryd.ntmps19
  go_wp2
  go_loopw [5] (fun s5 wr => ∃ k : Nat, k ≤ xs.length ∧ s5 = .int .i64 k ∧ Hid (xs.take k = ys.take k) ∧ Below w.heap.size w wr) (fun s5 _ => xs.length - (intOf s5).toNat)
  case atStart => exact ⟨0, by omega, rfl, Lib.hid (by simp), hB⟩
  case round =>
    clear hB
    obtain ⟨k, hk, rfl, heq, hB⟩ := hrel
    by_cases hlt : k < xs.length
    · have e1 := (hs1.of_cells fun o => hB.cell (p := ⟨b1, o, none⟩) hb1) k hlt
      have e2 := (hs2.of_cells fun o => hB.cell (p := ⟨b2, o, none⟩) hb2) k (by omega)
      have z1 := bsize hB b1 hb1
      have z2 := bsize hB b2 hb2
      have hp := Below.refl wr.heap.size wr
      by_cases hq : gI xs k = gI ys k
      · have hx : Hid (xs.take (k + 1) = ys.take (k + 1)) := Lib.hid (takeI_succ heq.out hlt (by omega) hq)
        generalize gI xs k = p at e1 hq
        generalize gI ys k = q at e2 hq
        subst hq
        go_wp2
        (refine wp_region_quiet_below (by kernel_rfl) (by kernel_rfl) ?_; (repeat (go_big_quiet_step (fail))); refine wpQuiet_nil ?_; intro w9 hw9; have hb := below_of_regrown hw9; clear hw9; obtain ⟨hc, hf⟩ := bcell hb; have hz := bsize hb; (first | (have hB := below_tt hB hb) | (have hB := below_tt (below_al hB _) hb) | (have hB := below_tt (below_al (below_al hB _) _) hb) | (have hB := hb)); obtain ⟨hc0, hf0⟩ := bcell hB; have hz0 := bsize hB; (first | (have h2 := below_tt hp hb; obtain ⟨hc2, hf2⟩ := bcell h2; have hz2 := bsize h2) | (have h2 := below_tt (below_al hp _) hb; obtain ⟨hc2, hf2⟩ := bcell h2; have hz2 := bsize h2) | skip); have hp := hb)
        go_wp2
        go_roundw
        case rel => exact ⟨k + 1, by omega, by simp, hx, hB⟩
        case measure => simp [intOf]; omega
      · have hx : Hid (¬ xs = ys) := Lib.hid fun h => hq (by rw [h])
        generalize gI xs k = p at e1 hq
        generalize gI ys k = q at e2 hq
        have hd : (p == q) = false := by simpa using hq
        have hd2 : (p != q) = true := by simpa using hq
        have hd3 : decide (p = q) = false := decide_eq_false hq
        go_wp2
        (refine wp_region_quiet_below (by kernel_rfl) (by kernel_rfl) ?_; (repeat (go_big_quiet_step (fail))); refine wpQuiet_nil ?_; intro w9 hw9; have hb := below_of_regrown hw9; clear hw9; obtain ⟨hc, hf⟩ := bcell hb; have hz := bsize hb; (first | (have hB := below_tt hB hb) | (have hB := below_tt (below_al hB _) hb) | (have hB := below_tt (below_al (below_al hB _) _) hb) | (have hB := hb)); obtain ⟨hc0, hf0⟩ := bcell hB; have hz0 := bsize hB; (first | (have h2 := below_tt hp hb; obtain ⟨hc2, hf2⟩ := bcell h2; have hz2 := bsize h2) | (have h2 := below_tt (below_al hp _) hb; obtain ⟨hc2, hf2⟩ := bcell h2; have hz2 := bsize h2) | skip); have hp := hb)
        go_wp2
        go_ret
        exact ⟨ret_bool (by simp [hx.out]), hB⟩
    · have hx : Hid (xs = ys) := Lib.hid (by
        have h1 := heq.out
        rwa [List.take_of_length_le (by omega), List.take_of_length_le (by omega)] at h1)
      go_wp2
      go_ret
      exact ⟨ret_bool (by simp [hx.out]), hB⟩
theorem likeInts_nil (a b : Option Addr) (c1 c2 : Nat) (w : World) :
    Calls Tryd.prog 19 #[.slice a 0 c1, .slice b 0 c2] w fun e w' => e = .returned (.bool true) ∧ Below w.heap.size w w' := by
  have hB := Below.refl w.heap.size w
  go_enter Tryd.func19, Tryd.ntmps19
  go_wp2
  go_loopw [5] (fun s5 wr => s5 = .int .i64 0 ∧ Below w.heap.size w wr) (fun _ _ => 0)
  case atStart => exact ⟨rfl, hB⟩
  case round =>
    clear hB
    obtain ⟨rfl, hB⟩ := hrel
    go_wp2
    go_ret
    exact ⟨rfl, hB⟩
theorem likeInts_len (a b : Option Addr) (n m c1 c2 : Nat) (w : World) (h : n ≠ m) :
    Calls Tryd.prog 19 #[.slice a n c1, .slice b m c2] w fun e w' => e = .returned (.bool false) ∧ Below w.heap.size w w' := by
  have hB := Below.refl w.heap.size w
  have h' : ((n : Int) == (m : Int)) = false := by simp; omega
  go_enter Tryd.func19, Tryd.ntmps19
  go_wp2
  go_ret
  exact ⟨rfl, hB⟩
theorem likeInts_any (va vb : Value) (xs ys : List Int) (w : World) (ha : RI w va xs) (hb : RI w vb ys) (hl : xs.length ≤ 4000000000000) (hl2 : ys.length ≤ 4000000000000) :
    Calls Tryd.prog 19 #[va, vb] w fun e w' => e = .returned (.bool (decide (xs = ys))) ∧ Below w.heap.size w w' := by
  by_cases hlen : xs.length = ys.length
  · by_cases h0 : xs.length = 0
    · obtain rfl : xs = [] := List.length_eq_zero_iff.1 h0
      obtain rfl : ys = [] := List.length_eq_zero_iff.1 (by omega)
      obtain ⟨a, c1, rfl⟩ := ha.val
      obtain ⟨b, c2, rfl⟩ := hb.val
      exact likeInts_nil a b c1 c2 w
    · rcases ha with ⟨rfl, _⟩ | ⟨b1, o1, c1, rfl, hb1, hs1⟩
      · simp at h0
      rcases hb with ⟨rfl, _⟩ | ⟨b2, o2, c2, rfl, hb2, hs2⟩
      · exact absurd hlen h0
      rw [← hlen]
      exact likeInts_cells b1 o1 c1 b2 o2 c2 xs ys w hb1 hs1 hb2 hs2 hl hlen
  · obtain ⟨a, c1, rfl⟩ := ha.val
    obtain ⟨b, c2, rfl⟩ := hb.val
    have hne : ¬ xs = ys := fun h => hlen (by rw [h])
    simp only [hne, decide_false]
    exact likeInts_len a b _ _ c1 c2 w hlen

/-- What marking lays. -/
def markI (k : Int) (n : Nat) : List Int := (List.range n).map fun (i : Nat) => k + (i : Int)
theorem markI_len (k : Int) (n : Nat) : (markI k n).length = n := by simp [markI]
theorem markI_get (k : Int) (n i : Nat) (h : i < n) : gI (markI k n) i = k + (i : Int) := by
  simp [gI, markI, List.getD_eq_getElem?_getD, List.getElem?_map, List.getElem?_range h]
theorem intsOf {cs : List Value} {k : Int} {n : Nat} (hl : cs.length = n) (h : ∀ i, i < n → cs[i]? = some (.int .i64 (k + (i : Int)))) : cs = (markI k n).map (Value.int .i64) := by
  apply List.ext_getElem?
  intro j
  by_cases hj : j < n
  · rw [h j hj]; simp [markI, List.getElem?_map, List.getElem?_range hj]
  · rw [List.getElem?_eq_none (by omega), List.getElem?_eq_none (by rw [List.length_map, markI_len]; omega)]
end Go.Proofs.YtnjfpipadfcapaaDoor
