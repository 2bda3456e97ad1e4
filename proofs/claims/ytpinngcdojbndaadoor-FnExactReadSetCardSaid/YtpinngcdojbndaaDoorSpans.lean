/- Slices of spans: what it is that one reads as a list of pairs; the laws' helpers over them. -/
import Derived.Test.YtpinngcdojbndaaDoorBase
import Derived.Lib.Hide
import Derived.Deep.SlicePairs
import Derived.Deep.LoopGhost
namespace Go.Proofs.YtpinngcdojbndaaDoor
open Go.RowKit

/-- The row at block b, from off on, reads as xs. -/
def SpanAt (w : World) (b off : Nat) (xs : List (Int × Int)) : Prop :=
  ∀ i, i < xs.length → w.cell? ⟨b, off + i * 2, none⟩ = some (.int .i64 (xs.getD i (0, 0)).1) ∧ w.cell? ⟨b, off + i * 2 + 1, none⟩ = some (.int .i64 (xs.getD i (0, 0)).2)
/-- A slice that reads as xs. -/
def RS (w : World) (v : Value) (xs : List (Int × Int)) : Prop :=
  (xs = [] ∧ ∃ a cap, v = .slice a 0 cap) ∨ (∃ b off cap, v = .slice (some ⟨b, off, none⟩) xs.length cap ∧ b < w.heap.size ∧ SpanAt w b off xs)
theorem SpanAt.of_cells {w w' : World} {b off : Nat} {xs : List (Int × Int)} (h : SpanAt w b off xs) (hc : ∀ o, w'.cell? ⟨b, o, none⟩ = w.cell? ⟨b, o, none⟩) : SpanAt w' b off xs :=
  fun i hi => ⟨(hc _).trans (h i hi).1, (hc _).trans (h i hi).2⟩
theorem RS.below {w w' : World} {v : Value} {xs : List (Int × Int)} (h : RS w v xs) (hb : Below w.heap.size w w') : RS w' v xs := by
  rcases h with h | ⟨b, off, cap, hv, hlt, hs⟩
  · exact Or.inl h
  · exact Or.inr ⟨b, off, cap, hv, Nat.lt_of_lt_of_le hlt hb.size, hs.of_cells fun o => hb.cell (p := ⟨b, o, none⟩) hlt⟩

theorem RS.val {w : World} {v : Value} {xs : List (Int × Int)} (h : RS w v xs) : ∃ a cap, v = .slice a xs.length cap := by
  rcases h with ⟨rfl, a, cap, rfl⟩ | ⟨b, off, cap, rfl, _⟩
  · exact ⟨a, cap, rfl⟩
  · exact ⟨_, cap, rfl⟩
/-- The cells of a list of spans. -/
def flatS (xs : List (Int × Int)) : List Value := xs.flatMap fun s => [.int .i64 s.1, .int .i64 s.2]
/-- A slice of the call's own (from base on) that reads as xs. -/
def OwnS (w : World) (base : Nat) (v : Value) (xs : List (Int × Int)) : Prop := w.ownsRow base 38 2 v xs.length (flatS xs)

theorem szSpanS_any (a : Option Addr) (n cap : Nat) (left : Int) (w : World) (h1 : 0 ≤ left) (h2 : left ≤ 2000000) (hn : (n : Int) ≤ 9000000000000000000) :
    Calls Tryd.prog 10 #[.slice a n cap, .int .i64 left] w fun e w' => e = .returned (.int .i64 (if left < n then -1 else left - n)) ∧ w = w' := by
  go_enter Tryd.func10, Tryd.ntmps10
  go_wp2
  all_goals (go_ret; exact ⟨rfl, rfl⟩)
theorem toSpan_any (a b : Int) (w : World) :
    Calls Tryd.prog 23 #[.agg #[.int .i64 a, .int .i64 b]] w fun e w' => e = .returned (.agg #[.int .i64 a, .int .i64 b]) ∧ Below w.heap.size w w' := by
  go_enter Tryd.func23, Tryd.ntmps23
  go_wp2
  refine bodyPost_ret (v := .agg #[.int .i64 a, .int .i64 b]) (by simp [results, Tryd.results23, go_sem]) rfl ⟨rfl, ?_⟩
  (repeat' (first | (with_reducible exact Below.refl _ _) | (with_reducible assumption) | (with_reducible refine below_al ?_ _) | (with_reducible refine Below.drew ?_) | (with_reducible refine Below.setCell ?_ (by first | exact Nat.le_refl _ | (dsimp only; omega) | (simp; omega)) _) | (with_reducible refine below_drewN ?_ _) | (with_reducible refine below_tt ?_ (by assumption))))
theorem eqSpan_any (a b c d : Int) (w : World) :
    Calls Tryd.prog 22 #[.agg #[.int .i64 a, .int .i64 b], .agg #[.int .i64 c, .int .i64 d]] w fun e w' => e = .returned (.bool (decide (a = c ∧ b = d))) ∧ Below w.heap.size w w' := by
  have rg := cell_rg; have l2 : ∀ n : Nat, n < n + 1 + 1 := (fun _ => by omega); have l3 : ∀ n : Nat, n < n + 1 + 1 + 1 := (fun _ => by omega); have l4 : ∀ n : Nat, n < n + 1 + 1 + 1 + 1 := (fun _ => by omega)
  by_cases h1 : a = c
  all_goals by_cases h2 : b = d
  all_goals
    go_enter Tryd.func22, Tryd.ntmps22
    go_wp2
    go_ret
    exact ⟨ret_bool (by simp [h1, h2]), by (repeat' (first | (with_reducible exact Below.refl _ _) | (with_reducible assumption) | (with_reducible refine below_al ?_ _) | (with_reducible refine Below.drew ?_) | (with_reducible refine Below.setCell ?_ (by first | exact Nat.le_refl _ | (dsimp only; omega) | (simp; omega)) _) | (with_reducible refine below_drewN ?_ _) | (with_reducible refine below_tt ?_ (by assumption))))⟩

theorem eqSpan_is {a b c d : Int} {r : Bool} (h : decide (a = c ∧ b = d) = r) (w : World) :
    Calls Tryd.prog 22 #[.agg #[.int .i64 a, .int .i64 b], .agg #[.int .i64 c, .int .i64 d]] w fun e w' => e = .returned (.bool r) ∧ Below w.heap.size w w' := by
  subst h; exact eqSpan_any a b c d w

theorem take_succ_eq {xs ys : List (Int × Int)} {k : Nat} (h : xs.take k = ys.take k) (hx : k < xs.length) (hy : k < ys.length) (he : xs.getD k (0, 0) = ys.getD k (0, 0)) : xs.take (k + 1) = ys.take (k + 1) := by
  rw [List.take_add_one, List.take_add_one, h]
  simp only [List.getD_eq_getElem?_getD, List.getElem?_eq_getElem hx, List.getElem?_eq_getElem hy, Option.getD_some] at he
  rw [List.getElem?_eq_getElem hx, List.getElem?_eq_getElem hy, he]
theorem getD_ne {xs ys : List (Int × Int)} {k : Nat} (he : ¬ xs.getD k (0, 0) = ys.getD k (0, 0)) : ¬ xs = ys := fun h => he (by rw [h])

set_option maxHeartbeats 1000000 in
theorem eqSpanS_cells (b1 o1 c1 b2 o2 c2 : Nat) (xs ys : List (Int × Int)) (w : World) (hb1 : b1 < w.heap.size) (hs1 : SpanAt w b1 o1 xs) (hb2 : b2 < w.heap.size) (hs2 : SpanAt w b2 o2 ys) (hl : xs.length ≤ 4000000000000) (hlen : xs.length = ys.length) :
    Calls Tryd.prog 7 #[.slice (some ⟨b1, o1, none⟩) xs.length c1, .slice (some ⟨b2, o2, none⟩) xs.length c2] w fun e w' => e = .returned (.bool (decide (xs = ys))) ∧ Below w.heap.size w w' := by
  have rg := cell_rg; have l2 : ∀ n : Nat, n < n + 1 + 1 := (fun _ => by omega); have l3 : ∀ n : Nat, n < n + 1 + 1 + 1 := (fun _ => by omega); have l4 : ∀ n : Nat, n < n + 1 + 1 + 1 + 1 := (fun _ => by omega)
  have hB := Below.refl w.heap.size w
  have hp := Below.refl w.heap.size w
  go_enter Tryd.func7, Tryd.ntmps7
  go_wp2
  go_loopw [5] (fun s5 wr => ∃ k : Nat, k ≤ xs.length ∧ s5 = .int .i64 k ∧ Hid (xs.take k = ys.take k) ∧ Below w.heap.size w wr) (fun s5 _ => xs.length - (intOf s5).toNat)
  case atStart => exact ⟨0, by omega, rfl, Lib.hid (by simp), hB⟩
  case round =>
    clear hB hp
    obtain ⟨k, hk, rfl, heq, hB⟩ := hrel
    by_cases hlt : k < xs.length
    · have e1 := hs1.of_cells fun o => hB.cell (p := ⟨b1, o, none⟩) hb1
      have e2 := hs2.of_cells fun o => hB.cell (p := ⟨b2, o, none⟩) hb2
      have e10 := (e1 k hlt).1
      have e11 := (e1 k hlt).2
      have z1 := bsize hB b1 hb1
      have z2 := bsize hB b2 hb2
      have e20 := (e2 k (by omega)).1
      have e21 := (e2 k (by omega)).2
      clear e1 e2
      have hp := Below.refl wr.heap.size wr
      have hab : (xs.getD k (0, 0) = ys.getD k (0, 0)) ↔ ((xs.getD k (0, 0)).1 = (ys.getD k (0, 0)).1 ∧ (xs.getD k (0, 0)).2 = (ys.getD k (0, 0)).2) := Prod.ext_iff
      generalize (xs.getD k (0, 0)).1 = a at e10 hab
      generalize (xs.getD k (0, 0)).2 = b at e11 hab
      generalize (ys.getD k (0, 0)).1 = c at e20 hab
      generalize (ys.getD k (0, 0)).2 = d at e21 hab
      by_cases hq : a = c ∧ b = d
      · have hq' : Hid (decide (a = c ∧ b = d) = true) := Lib.hid (by simp [hq])
        have hx : Hid (xs.getD k (0, 0) = ys.getD k (0, 0)) := Lib.hid (hab.2 hq)
        clear hab hq
        go_wp2
        (refine wp_region_quiet_below (by kernel_rfl) (by kernel_rfl) ?_; (repeat (go_big_quiet_step ((go_at_call 22; exact Calls.regrown_of (eqSpan_is hq'.out _))))); refine wpQuiet_nil ?_; intro w9 hw9; have hb := below_of_regrown hw9; clear hw9; obtain ⟨hc, hf⟩ := bcell hb; have hz := bsize hb; (first | (have hB := below_tt hB hb) | (have hB := below_tt (below_al hB _) hb) | (have hB := below_tt (below_al (below_al hB _) _) hb) | (have hB := hb)); obtain ⟨hc0, hf0⟩ := bcell hB; have hz0 := bsize hB; (first | (have h2 := below_tt hp hb; obtain ⟨hc2, hf2⟩ := bcell h2; have hz2 := bsize h2) | (have h2 := below_tt (below_al hp _) hb; obtain ⟨hc2, hf2⟩ := bcell h2; have hz2 := bsize h2) | skip); have hp := hb)
        go_wp2
        go_roundw
        case rel => exact ⟨k + 1, by omega, by simp, Lib.hid (take_succ_eq heq.out hlt (by omega) hx.out), hB⟩
        case measure => simp [intOf]; omega
      · have hq' : Hid (decide (a = c ∧ b = d) = false) := Lib.hid (by simpa using hq)
        have hx : Hid (¬ xs = ys) := Lib.hid fun h => hq (hab.1 (by rw [h]))
        clear hab hq
        go_wp2
        (refine wp_region_quiet_below (by kernel_rfl) (by kernel_rfl) ?_; (repeat (go_big_quiet_step ((go_at_call 22; exact Calls.regrown_of (eqSpan_is hq'.out _))))); refine wpQuiet_nil ?_; intro w9 hw9; have hb := below_of_regrown hw9; clear hw9; obtain ⟨hc, hf⟩ := bcell hb; have hz := bsize hb; (first | (have hB := below_tt hB hb) | (have hB := below_tt (below_al hB _) hb) | (have hB := below_tt (below_al (below_al hB _) _) hb) | (have hB := hb)); obtain ⟨hc0, hf0⟩ := bcell hB; have hz0 := bsize hB; (first | (have h2 := below_tt hp hb; obtain ⟨hc2, hf2⟩ := bcell h2; have hz2 := bsize h2) | (have h2 := below_tt (below_al hp _) hb; obtain ⟨hc2, hf2⟩ := bcell h2; have hz2 := bsize h2) | skip); have hp := hb)
        go_wp2
        go_ret
        exact ⟨ret_bool (by simp [hx.out]), hB⟩
    · have hx : Hid (xs = ys) := Lib.hid (by
        have h1 := heq.out
        rwa [List.take_of_length_le (by omega), List.take_of_length_le (by omega)] at h1)
      go_wp2
      go_ret
      exact ⟨ret_bool (by simp [hx.out]), hB⟩

theorem eqSpanS_nil (a b : Option Addr) (c1 c2 : Nat) (w : World) :
    Calls Tryd.prog 7 #[.slice a 0 c1, .slice b 0 c2] w fun e w' => e = .returned (.bool true) ∧ Below w.heap.size w w' := by
  have hB := Below.refl w.heap.size w
  go_enter Tryd.func7, Tryd.ntmps7
  go_wp2
  go_loopw [5] (fun s5 wr => s5 = .int .i64 0 ∧ Below w.heap.size w wr) (fun _ _ => 0)
  case atStart => exact ⟨rfl, hB⟩
  case round =>
    clear hB
    obtain ⟨rfl, hB⟩ := hrel
    go_wp2
    go_ret
    exact ⟨rfl, hB⟩
theorem eqSpanS_len (a b : Option Addr) (n m c1 c2 : Nat) (w : World) (h : n ≠ m) :
    Calls Tryd.prog 7 #[.slice a n c1, .slice b m c2] w fun e w' => e = .returned (.bool false) ∧ Below w.heap.size w w' := by
  have hB := Below.refl w.heap.size w
  have h' : ((n : Int) == (m : Int)) = false := by simp; omega
  go_enter Tryd.func7, Tryd.ntmps7
  go_wp2
  go_ret
  exact ⟨rfl, hB⟩
theorem eqSpanS_any (va vb : Value) (xs ys : List (Int × Int)) (w : World) (ha : RS w va xs) (hb : RS w vb ys) (hl : xs.length ≤ 4000000000000) (hl2 : ys.length ≤ 4000000000000) :
    Calls Tryd.prog 7 #[va, vb] w fun e w' => e = .returned (.bool (decide (xs = ys))) ∧ Below w.heap.size w w' := by
  by_cases hlen : xs.length = ys.length
  · by_cases h0 : xs.length = 0
    · obtain rfl : xs = [] := List.length_eq_zero_iff.1 h0
      obtain rfl : ys = [] := List.length_eq_zero_iff.1 (by omega)
      obtain ⟨a, c1, rfl⟩ := ha.val
      obtain ⟨b, c2, rfl⟩ := hb.val
      exact eqSpanS_nil a b c1 c2 w
    · rcases ha with ⟨rfl, _⟩ | ⟨b1, o1, c1, rfl, hb1, hs1⟩
      · simp at h0
      rcases hb with ⟨rfl, _⟩ | ⟨b2, o2, c2, rfl, hb2, hs2⟩
      · exact absurd hlen h0
      rw [← hlen]
      exact eqSpanS_cells b1 o1 c1 b2 o2 c2 xs ys w hb1 hs1 hb2 hs2 hl hlen
  · obtain ⟨a, c1, rfl⟩ := ha.val
    obtain ⟨b, c2, rfl⟩ := hb.val
    have hne : ¬ xs = ys := fun h => hlen (by rw [h])
    simp only [hne, decide_false]
    exact eqSpanS_len a b _ _ c1 c2 w hlen
theorem ownsRow_keptB {w w' : World} {base : Nat} {e : TypeId} {size : Nat} {v : Value} {n : Nat} {xs : List Value} (h : w.ownsRow base e size v n xs) (hb : Below w.heap.size w w') : w'.ownsRow base e size v n xs :=
  h.kept (row := none) ⟨hb.os, hb.tape, hb.output, hb.size, fun k hk _ => hb.block k hk⟩ (by cases hv : v.ownBlock <;> simp)
theorem infoSpan : (Tryd.prog.info? 38).map (fun i => (i.zero, i.size, i.bytes)) = some (some (.agg #[.int .i64 0, .int .i64 0]), 2, 16) := by kernel_rfl
theorem flatS_len (xs : List (Int × Int)) : (flatS xs).length = xs.length * 2 := by
  induction xs with
  | nil => rfl
  | cons x xs ih => simp only [flatS, List.flatMap_cons, List.length_append] at ih ⊢; simp at ih ⊢; omega
theorem flatS_get (xs : List (Int × Int)) (i : Nat) (h : i < xs.length) : (flatS xs)[i * 2]? = some (.int .i64 (xs.getD i (0, 0)).1) ∧ (flatS xs)[i * 2 + 1]? = some (.int .i64 (xs.getD i (0, 0)).2) := by
  induction xs generalizing i with
  | nil => simp at h
  | cons x xs ih =>
    cases i with
    | zero => simp [flatS]
    | succ i =>
      have := ih i (by simpa using h)
      simp only [flatS, List.flatMap_cons] at this ⊢
      rw [show (i + 1) * 2 = i * 2 + 1 + 1 by omega]
      simpa using this
theorem flatS_of {cs : List Value} {xs : List (Int × Int)} (hl : cs.length = xs.length * 2) (h : ∀ i, i < xs.length → cs[i * 2]? = some (.int .i64 (xs.getD i (0, 0)).1) ∧ cs[i * 2 + 1]? = some (.int .i64 (xs.getD i (0, 0)).2)) : cs = flatS xs := by
  apply List.ext_getElem?
  intro j
  by_cases hj : j < cs.length
  · obtain ⟨h1, h2⟩ := h (j / 2) (by omega)
    obtain ⟨g1, g2⟩ := flatS_get xs (j / 2) (by omega)
    rcases Nat.mod_two_eq_zero_or_one j with h0 | h0
    · rw [show j = j / 2 * 2 by omega, h1, g1]
    · rw [show j = j / 2 * 2 + 1 by omega, h2, g2]
  · rw [List.getElem?_eq_none (by omega), List.getElem?_eq_none (by have := flatS_len xs; omega)]

set_option maxHeartbeats 1000000 in
theorem toSpanS_cells (b1 o1 c1 : Nat) (xs : List (Int × Int)) (w : World) (h : SpanAt w b1 o1 xs) (hb1 : b1 < w.heap.size) (hl : xs.length ≤ 2000000) :
    Calls Tryd.prog 12 #[.slice (some ⟨b1, o1, none⟩) xs.length c1] w fun e w' => e = .returned (.slice (some ⟨w.heap.size, 0, none⟩) xs.length xs.length) ∧ OwnS w' w.heap.size (.slice (some ⟨w.heap.size, 0, none⟩) xs.length xs.length) xs ∧ Below w.heap.size w w' := by
  obtain ⟨i, hi, hz0, hz1, hz2⟩ := info_parts infoSpan
  go_enter Tryd.func12, Tryd.ntmps12
  go_wp2_with (at_make; refine wpList_make_full _ rfl _ _ 22 rfl w.heap.size 38 i _ 2 Tryd.underlying22 hi hz0 hz1 _ _ _ _ xs.length rfl rfl rfl rfl (by rw [hz2]; omega) (by simp [maxLen]; omega) (Nat.le_refl _) ?_; intro w1 hown hgrow)
  have hB : Below w.heap.size w w1 := (Below.refl _ _).grown hgrow (Nat.le_refl _) (fun k hk => by cases hk)
  clear hgrow hi hz0 hz1 hz2
  go_loopw [4] (fun s4 wr => ∃ k : Nat, k ≤ xs.length ∧ s4 = .int .i64 k ∧ (∃ cs, wr.ownsRow w.heap.size 38 2 (.slice (some ⟨w.heap.size, 0, none⟩) xs.length xs.length) xs.length cs ∧ ∀ i, i < k → cs[i * 2]? = some (.int .i64 (xs.getD i (0, 0)).1) ∧ cs[i * 2 + 1]? = some (.int .i64 (xs.getD i (0, 0)).2)) ∧ Below w.heap.size w wr) (fun s4 _ => xs.length - (intOf s4).toNat)
  case atStart => exact ⟨0, by omega, rfl, ⟨_, hown, fun i hi => by omega⟩, hB⟩
  case round =>
    clear hB hown
    obtain ⟨k, hk, rfl, ⟨cs, hown, hcs⟩, hB⟩ := hrel
    by_cases hlt : k < xs.length
    · have e1 := h.of_cells fun o => hB.cell (p := ⟨b1, o, none⟩) hb1
      have e10 := (e1 k hlt).1
      have e11 := (e1 k hlt).2
      have z1 := bsize hB b1 hb1
      have z2 : w.heap.size < wr.heap.size := (hown.lt _ rfl).2
      have f0 := hown.frozenAt (k * 2)
      have f1 := hown.frozenAt (k * 2 + 1)
      have hcl := hown.1
      obtain ⟨u0, c0⟩ : ∃ u, wr.cell? ⟨w.heap.size, k * 2, none⟩ = some u := ⟨_, (hown.cellAt (k * 2) (by omega)).trans (List.getElem?_eq_getElem (by omega))⟩
      obtain ⟨u1, c2⟩ : ∃ u, wr.cell? ⟨w.heap.size, k * 2 + 1, none⟩ = some u := ⟨_, (hown.cellAt (k * 2 + 1) (by omega)).trans (List.getElem?_eq_getElem (by omega))⟩
      clear e1
      generalize hx : (xs.getD k (0, 0)).1 = a at e10
      generalize hy : (xs.getD k (0, 0)).2 = b at e11
      have hx' := Lib.hid hx
      have hy' := Lib.hid hy
      clear hx hy
      have hp := Below.refl wr.heap.size wr
      go_wp2_with (go_at_call 23; (refine (toSpan_any _ _ _).mono ?_; rintro e w' ⟨rfl, hb⟩; obtain ⟨hc, hf⟩ := bcell hb; have hz := bsize hb; (first | (have hB := below_tt hB hb) | (have hB := below_tt (below_al hB _) hb) | (have hB := below_tt (below_al (below_al hB _) _) hb) | (have hB := hb)); obtain ⟨hc0, hf0⟩ := bcell hB; have hz0 := bsize hB; (first | (have h2 := below_tt hp hb; obtain ⟨hc2, hf2⟩ := bcell h2; have hz2 := bsize h2) | (have h2 := below_tt (below_al hp _) hb; obtain ⟨hc2, hf2⟩ := bcell h2; have hz2 := bsize h2) | skip); have hp := hb))
      go_roundw
      case rel =>
        have ho := ((ownsRow_keptB hown hb).stored (k * 2) (.int .i64 a)).1.stored (k * 2 + 1) (.int .i64 b)
        refine ⟨k + 1, by omega, by simp, ⟨_, ho.1, fun i hi => ?_⟩, by (repeat' (first | (with_reducible exact Below.refl _ _) | (with_reducible assumption) | (with_reducible refine below_al ?_ _) | (with_reducible refine Below.drew ?_) | (with_reducible refine Below.setCell ?_ (by first | exact Nat.le_refl _ | (dsimp only; omega) | (simp; omega)) _) | (with_reducible refine below_drewN ?_ _) | (with_reducible refine below_tt ?_ (by assumption))))⟩
        rcases Nat.lt_or_ge i k with h3 | h3
        · obtain ⟨g1, g2⟩ := hcs i h3
          rw [List.getElem?_set_ne (by omega), List.getElem?_set_ne (by omega), List.getElem?_set_ne (by omega), List.getElem?_set_ne (by omega)]
          exact ⟨g1, g2⟩
        · obtain rfl : i = k := by omega
          rw [List.getElem?_set_ne (by omega), List.getElem?_set_self (by omega), List.getElem?_set_self (by rw [List.length_set]; omega), hx'.out, hy'.out]
          exact ⟨rfl, rfl⟩
      case measure => simp [intOf]; omega
    · obtain rfl : k = xs.length := by omega
      have hfl := Lib.hid (flatS_of hown.1 hcs)
      clear hcs
      go_wp2
      go_ret
      exact ⟨rfl, by unfold OwnS; rw [← hfl.out]; exact hown, hB⟩
theorem toSpanS_nil (a : Option Addr) (cap : Nat) (w : World) :
    Calls Tryd.prog 12 #[.slice a 0 cap] w fun e w' => e = .returned (.slice (some ⟨w.heap.size, 0, none⟩) 0 0) ∧ OwnS w' w.heap.size (.slice (some ⟨w.heap.size, 0, none⟩) 0 0) [] ∧ Below w.heap.size w w' := by
  obtain ⟨i, hi, hz0, hz1, hz2⟩ := info_parts infoSpan
  go_enter Tryd.func12, Tryd.ntmps12
  go_wp2_with (at_make; refine wpList_make_full _ rfl _ _ 22 rfl w.heap.size 38 i _ 2 Tryd.underlying22 hi hz0 hz1 _ _ _ _ 0 rfl rfl rfl rfl (by rw [hz2]; omega) (by simp [maxLen]) (Nat.le_refl _) ?_; intro w1 hown hgrow)
  have hB : Below w.heap.size w w1 := (Below.refl _ _).grown hgrow (Nat.le_refl _) (fun k hk => by cases hk)
  clear hgrow hi hz0 hz1 hz2
  have hO := hown
  go_loopw [4] (fun s4 wr => s4 = .int .i64 0 ∧ wr = w1) (fun _ _ => 0)
  case atStart => exact ⟨rfl, rfl⟩
  case round =>
    obtain ⟨rfl, rfl⟩ := hrel
    go_wp2
    go_ret
    refine ⟨rfl, ?_, hB⟩
    unfold OwnS
    have hl := hO.1
    simp at hl
    simpa [flatS, hl] using hO
theorem toSpanS_any (v : Value) (xs : List (Int × Int)) (w : World) (h : RS w v xs) (hl : xs.length ≤ 2000000) :
    Calls Tryd.prog 12 #[v] w fun e w' => e = .returned (.slice (some ⟨w.heap.size, 0, none⟩) xs.length xs.length) ∧ OwnS w' w.heap.size (.slice (some ⟨w.heap.size, 0, none⟩) xs.length xs.length) xs ∧ Below w.heap.size w w' := by
  rcases h with ⟨rfl, a, cap, rfl⟩ | ⟨b1, o1, c1, rfl, hb1, hs1⟩
  · exact toSpanS_nil a cap w
  · exact toSpanS_cells b1 o1 c1 xs w hs1 hb1 hl

/-- What marking lays. -/
def markL (k : Int) (n : Nat) : List (Int × Int) := (List.range n).map fun (i : Nat) => (k + 2 * (i : Int), k + 2 * (i : Int) + 1)
theorem markL_len (k : Int) (n : Nat) : (markL k n).length = n := by simp [markL]
theorem markL_get (k : Int) (n i : Nat) (h : i < n) : (markL k n).getD i (0, 0) = (k + 2 * (i : Int), k + 2 * (i : Int) + 1) := by
  simp [markL, List.getD_eq_getElem?_getD, List.getElem?_map, List.getElem?_range h]

theorem OwnS.len {w : World} {base : Nat} {v : Value} {xs : List (Int × Int)} (h : OwnS w base v xs) : ∃ a cap, v = .slice a xs.length cap := by
  rcases h.2 with ⟨rfl, h0⟩ | ⟨g, cap, cur, rfl, _⟩
  · exact ⟨none, 0, by rw [h0]⟩
  · exact ⟨_, cap, rfl⟩
theorem OwnS.rs {w : World} {base : Nat} {v : Value} {xs : List (Int × Int)} (h : OwnS w base v xs) : RS w v xs := by
  have h' := h
  unfold OwnS at h'
  rcases h.2 with ⟨rfl, h0⟩ | ⟨g, cap, cur, rfl, _, hg, _⟩
  · exact Or.inl ⟨List.length_eq_zero_iff.1 h0, none, 0, rfl⟩
  · refine Or.inr ⟨g, 0, cap, rfl, (Array.getElem?_eq_some_iff.1 hg).1, fun i hi => ?_⟩
    obtain ⟨h1, h2⟩ := flatS_get xs i hi
    rw [Nat.zero_add]
    exact ⟨(h'.cellAt (i * 2) (by omega)).trans h1, (h'.cellAt (i * 2 + 1) (by omega)).trans h2⟩
theorem OwnS.below {w w' : World} {base : Nat} {v : Value} {xs : List (Int × Int)} (h : OwnS w base v xs) (hb : Below w.heap.size w w') : OwnS w' base v xs := ownsRow_keptB h hb
theorem OwnS.kept {w w' : World} {base : Nat} {v : Value} {xs : List (Int × Int)} {row : Option Nat} (h : OwnS w base v xs) (hg : w.grownBy w' row) (hne : v.ownBlock = none ∨ v.ownBlock ≠ row) : OwnS w' base v xs := World.ownsRow.kept h hg hne

set_option maxHeartbeats 1000000 in
theorem markSpanS_cells (base g cap : Nat) (xs : List (Int × Int)) (k0 : Int) (w : World) (h : OwnS w base (.slice (some ⟨g, 0, none⟩) xs.length cap) xs) (hl : xs.length ≤ 4000000) (hk1 : 0 ≤ k0) (hk2 : k0 ≤ 100000000) :
    Calls Tryd.prog 8 #[.slice (some ⟨g, 0, none⟩) xs.length cap, .int .i64 k0] w fun e w' => e = .returned (.int .i64 (k0 + 2 * (xs.length : Int))) ∧ OwnS w' base (.slice (some ⟨g, 0, none⟩) xs.length cap) (markL k0 xs.length) ∧ w.grownBy w' (some g) := by
  unfold OwnS at h
  go_enter Tryd.func8, Tryd.ntmps8
  go_wp2
  go_loopw [1, 5] (fun s1 s5 wr => ∃ k : Nat, k ≤ xs.length ∧ s5 = .int .i64 k ∧ s1 = .int .i64 (k0 + 2 * (k : Int)) ∧ (∃ cs, wr.ownsRow base 38 2 (.slice (some ⟨g, 0, none⟩) xs.length cap) xs.length cs ∧ ∀ i, i < k → cs[i * 2]? = some (.int .i64 (k0 + 2 * (i : Int))) ∧ cs[i * 2 + 1]? = some (.int .i64 (k0 + 2 * (i : Int) + 1))) ∧ w.grownBy wr (some g)) (fun _ s5 _ => xs.length - (intOf s5).toNat)
  case atStart => exact ⟨0, by omega, rfl, by simp, ⟨_, h, fun i hi => by omega⟩, World.grownBy.refl w _⟩
  case round =>
    obtain ⟨k, hk, rfl, rfl, ⟨cs, hown, hcs⟩, hg⟩ := hrel
    by_cases hlt : k < xs.length
    · have f0 := hown.frozenAt (k * 2)
      have f1 := hown.frozenAt (k * 2 + 1)
      have hcl := hown.1
      obtain ⟨u0, c0⟩ : ∃ u, wr.cell? ⟨g, k * 2, none⟩ = some u := ⟨_, (hown.cellAt (k * 2) (by omega)).trans (List.getElem?_eq_getElem (by omega))⟩
      obtain ⟨u1, c2⟩ : ∃ u, wr.cell? ⟨g, k * 2 + 1, none⟩ = some u := ⟨_, (hown.cellAt (k * 2 + 1) (by omega)).trans (List.getElem?_eq_getElem (by omega))⟩
      go_wp2
      go_roundw
      case rel =>
        have ho := (hown.stored (k * 2) (.int .i64 (k0 + 2 * (k : Int)))).1.stored (k * 2 + 1) (.int .i64 (k0 + 2 * (k : Int) + 1))
        refine ⟨k + 1, by omega, by simp, by (try simp); try omega, ⟨_, ho.1, fun i hi => ?_⟩, (hg.trans (hown.stored (k * 2) (.int .i64 (k0 + 2 * (k : Int)))).2).trans ho.2⟩
        rcases Nat.lt_or_ge i k with h3 | h3
        · obtain ⟨g1, g2⟩ := hcs i h3
          rw [List.getElem?_set_ne (by omega), List.getElem?_set_ne (by omega), List.getElem?_set_ne (by omega), List.getElem?_set_ne (by omega)]
          exact ⟨g1, g2⟩
        · obtain rfl : i = k := by omega
          rw [List.getElem?_set_ne (by omega), List.getElem?_set_self (by omega), List.getElem?_set_self (by rw [List.length_set]; omega)]
          exact ⟨rfl, rfl⟩
      case measure => simp [intOf]; omega
    · obtain rfl : k = xs.length := by omega
      have hfl := Lib.hid (flatS_of (cs := cs) (xs := markL k0 xs.length) (by rw [markL_len]; exact hown.1) (fun i hi => by rw [markL_len] at hi; rw [markL_get k0 _ i hi]; exact hcs i hi))
      clear hcs
      go_wp2
      go_ret
      exact ⟨rfl, by unfold OwnS; rw [← hfl.out, markL_len]; exact hown, hg⟩
set_option maxHeartbeats 1000000 in
theorem heldSpanS_cells (b off cap n : Nat) (k0 : Int) (w : World) (hb : b < w.heap.size) (h : SpanAt w b off (markL k0 n)) (hl : n ≤ 4000000) (hk1 : 0 ≤ k0) (hk2 : k0 ≤ 100000000) :
    Calls Tryd.prog 9 #[.slice (some ⟨b, off, none⟩) n cap, .int .i64 k0] w fun e w' => e = .returned (.int .i64 (k0 + 2 * (n : Int))) ∧ Below w.heap.size w w' := by
  have h' : ∀ i, i < n → w.cell? ⟨b, off + i * 2, none⟩ = some (.int .i64 (k0 + 2 * (i : Int))) ∧ w.cell? ⟨b, off + i * 2 + 1, none⟩ = some (.int .i64 (k0 + 2 * (i : Int) + 1)) := fun i hi => by
    have := h i (by rw [markL_len]; exact hi)
    rwa [markL_get k0 n i hi] at this
  go_enter Tryd.func9, Tryd.ntmps9
  go_wp2
  go_loopw [1, 5] (fun s1 s5 wr => ∃ k : Nat, k ≤ n ∧ s5 = .int .i64 k ∧ s1 = .int .i64 (k0 + 2 * (k : Int)) ∧ wr = w) (fun _ s5 _ => n - (intOf s5).toNat)
  case atStart => exact ⟨0, by omega, rfl, by simp, rfl⟩
  case round =>
    obtain ⟨k, hk, rfl, rfl, rfl⟩ := hrel
    by_cases hlt : k < n
    · obtain ⟨e0, e1⟩ := h' k hlt
      go_wp2
      go_roundw
      case rel => exact ⟨k + 1, by omega, by simp, by (try simp); try omega, by trivial⟩
      case measure => simp [intOf]; omega
    · obtain rfl : k = n := by omega
      go_wp2
      go_ret
      exact ⟨rfl, Below.refl _ _⟩
theorem markSpanS_nil (a : Option Addr) (cap : Nat) (k0 : Int) (w : World) :
    Calls Tryd.prog 8 #[.slice a 0 cap, .int .i64 k0] w fun e w' => e = .returned (.int .i64 k0) ∧ w = w' := by
  go_enter Tryd.func8, Tryd.ntmps8
  go_wp2
  go_loopw [1, 5] (fun s1 s5 wr => s5 = .int .i64 0 ∧ s1 = .int .i64 k0 ∧ wr = w) (fun _ _ _ => 0)
  case atStart => exact ⟨rfl, rfl, rfl⟩
  case round =>
    obtain ⟨rfl, rfl, rfl⟩ := hrel
    go_wp2
    go_ret
    exact ⟨rfl, rfl⟩
theorem heldSpanS_nil (a : Option Addr) (cap : Nat) (k0 : Int) (w : World) :
    Calls Tryd.prog 9 #[.slice a 0 cap, .int .i64 k0] w fun e w' => e = .returned (.int .i64 k0) ∧ w = w' := by
  go_enter Tryd.func9, Tryd.ntmps9
  go_wp2
  go_loopw [1, 5] (fun s1 s5 wr => s5 = .int .i64 0 ∧ s1 = .int .i64 k0 ∧ wr = w) (fun _ _ _ => 0)
  case atStart => exact ⟨rfl, rfl, rfl⟩
  case round =>
    obtain ⟨rfl, rfl, rfl⟩ := hrel
    go_wp2
    go_ret
    exact ⟨rfl, rfl⟩
theorem markSpanS_any (base : Nat) (v : Value) (xs : List (Int × Int)) (k0 : Int) (w : World) (h : OwnS w base v xs) (hl : xs.length ≤ 4000000) (hk1 : 0 ≤ k0) (hk2 : k0 ≤ 100000000) :
    Calls Tryd.prog 8 #[v, .int .i64 k0] w fun e w' => e = .returned (.int .i64 (k0 + 2 * (xs.length : Int))) ∧ OwnS w' base v (markL k0 xs.length) ∧ w.grownBy w' v.ownBlock := by
  have h' := h
  rcases h.2 with ⟨rfl, h0⟩ | ⟨g, cap, cur, rfl, _, hg, _⟩
  · obtain rfl : xs = [] := List.length_eq_zero_iff.1 h0
    refine (markSpanS_nil none 0 k0 w).mono ?_
    rintro e w' ⟨rfl, rfl⟩
    exact ⟨by simp, h', World.grownBy.refl _ _⟩
  · exact markSpanS_cells base g cap xs k0 w h' hl hk1 hk2
theorem heldSpanS_any (v : Value) (n : Nat) (k0 : Int) (w : World) (h : RS w v (markL k0 n)) (hl : n ≤ 4000000) (hk1 : 0 ≤ k0) (hk2 : k0 ≤ 100000000) :
    Calls Tryd.prog 9 #[v, .int .i64 k0] w fun e w' => e = .returned (.int .i64 (k0 + 2 * (n : Int))) ∧ Below w.heap.size w w' := by
  rcases h with ⟨h0, a, cap, rfl⟩ | ⟨b, off, cap, rfl, hb, hs⟩
  · obtain rfl : n = 0 := by rw [← markL_len k0 n, h0]; rfl
    refine (heldSpanS_nil a cap k0 w).mono ?_
    rintro e w' ⟨rfl, rfl⟩
    exact ⟨by simp, Below.refl _ _⟩
  · rw [markL_len]
    exact heldSpanS_cells b off cap n k0 w hb hs hl hk1 hk2
end Go.Proofs.YtpinngcdojbndaaDoor
