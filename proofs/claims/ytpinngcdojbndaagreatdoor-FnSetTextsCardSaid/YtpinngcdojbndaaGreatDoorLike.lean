/- Two lists of spans compared by the law's own helper. -/
import Derived.Test.YtpinngcdojbndaaGreatDoorSpans
import Derived.Laws.StructEq
import Derived.Shelf.SlicesE.Kit
namespace Go.Proofs.YtpinngcdojbndaaGreatDoor
open Go.RowKit
theorem neq_span (x1 x2 y1 y2 : Int) (w : World) : (binOp .neq 36 (.agg #[.int .i64 x1, .int .i64 x2]) (.agg #[.int .i64 y1, .int .i64 y2])).run Tryz.prog w = .ok (.bool (!decide (x1 = y1 ∧ x2 = y2))) w := by
  have u3 := Tryz.underlying2
  have a3 := Tryz.isAgg2
  have z3 := Tryz.sizeOf2
  have hS : Tryz.prog.underlying 36 = some (.struct (Tryz.prog.fieldsOf 36)) := by kernel_rfl
  have hp : Tryz.prog.stoodInHeld 36 = false := by kernel_rfl
  rw [run_neq_struct, show (10000 : Nat) = 9999 + 1 from rfl, run_equalIn_struct w 9999 36 _ _ hS hp]
  simp only [Program.fieldsOf, Tryz.underlying36]
  go_simp
  by_cases h1 : x1 = y1 <;> by_cases h2 : x2 = y2 <;> simp [h1, h2]
theorem grd_span (op : BinOp) (a b : Operand) (xs ys : Array Value) (w : World) : (eqGuard op 36 a b (.agg xs) (.agg ys)).run Tryz.prog w = .ok () w := run_eqGuard_agg w op _ a b xs ys (by kernel_rfl)

set_option maxHeartbeats 1000000 in
theorem likeSpans9_cells (b1 o1 c1 b2 o2 c2 : Nat) (xs ys : List (Int × Int)) (w : World) (hb1 : b1 < w.heap.size) (hs1 : SpanAt w b1 o1 xs) (hb2 : b2 < w.heap.size) (hs2 : SpanAt w b2 o2 ys) (hl : xs.length ≤ 4000000000000) (hlen : xs.length = ys.length) :
    Calls Tryz.prog 14 #[.slice (some ⟨b1, o1, none⟩) xs.length c1, .slice (some ⟨b2, o2, none⟩) xs.length c2] w fun e w' => e = .returned (.bool (decide (xs = ys))) ∧ Below w.heap.size w w' := by
  have rg := cell_rg; have l2 : ∀ n : Nat, n < n + 1 + 1 := (fun _ => by omega); have l3 : ∀ n : Nat, n < n + 1 + 1 + 1 := (fun _ => by omega); have l4 : ∀ n : Nat, n < n + 1 + 1 + 1 + 1 := (fun _ => by omega)
  have hB := Below.refl w.heap.size w
  go_enter Tryz.func14, Tryz.ntmps14
  go_wp2
  go_loopw [5] (fun s5 wr => ∃ k : Nat, k ≤ xs.length ∧ s5 = .int .i64 k ∧ Hid (xs.take k = ys.take k) ∧ Below w.heap.size w wr) (fun s5 _ => xs.length - (intOf s5).toNat)
  case atStart => exact ⟨0, by omega, rfl, Lib.hid (by simp), hB⟩
  case round =>
    clear hB
    obtain ⟨k, hk, rfl, heq, hB⟩ := hrel
    by_cases hlt : k < xs.length
    · have e1 := hs1.of_cells fun o => hB.cell (p := ⟨b1, o, none⟩) hb1
      have e2 := hs2.of_cells fun o => hB.cell (p := ⟨b2, o, none⟩) hb2
      have e10 := (e1 k hlt).1
      have e11 := (e1 k hlt).2
      have z1 := bsize hB b1 hb1
      have z2 := bsize hB b2 hb2
      have e20 := (e2 k (by omega)).1
      have e21 := (e2 k (by omega)).2
      clear e1 e2
      have hp := Below.refl wr.heap.size wr
      have hab : (xs.getD k (0, 0) = ys.getD k (0, 0)) ↔ ((xs.getD k (0, 0)).1 = (ys.getD k (0, 0)).1 ∧ (xs.getD k (0, 0)).2 = (ys.getD k (0, 0)).2) := Prod.ext_iff
      generalize (xs.getD k (0, 0)).1 = a at e10 hab
      generalize (xs.getD k (0, 0)).2 = b at e11 hab
      generalize (ys.getD k (0, 0)).1 = c at e20 hab
      generalize (ys.getD k (0, 0)).2 = d at e21 hab
      have hne := neq_span a b c d
      have hgr := grd_span
      by_cases hq : a = c ∧ b = d
      · have hx : Hid (xs.getD k (0, 0) = ys.getD k (0, 0)) := Lib.hid (hab.2 hq)
        rw [show decide (a = c ∧ b = d) = true from decide_eq_true hq] at hne
        clear hab hq
        go_wp2
        (refine wp_region_quiet_below (by kernel_rfl) (by kernel_rfl) ?_; (repeat (go_big_quiet_step (fail))); refine wpQuiet_nil ?_; intro w9 hw9; have hb := below_of_regrown hw9; clear hw9; obtain ⟨hc, hf⟩ := bcell hb; have hz := bsize hb; (first | (have hB := below_tt hB hb) | (have hB := below_tt (below_al hB _) hb) | (have hB := below_tt (below_al (below_al hB _) _) hb) | (have hB := hb)); obtain ⟨hc0, hf0⟩ := bcell hB; have hz0 := bsize hB; (first | (have h2 := below_tt hp hb; obtain ⟨hc2, hf2⟩ := bcell h2; have hz2 := bsize h2) | (have h2 := below_tt (below_al hp _) hb; obtain ⟨hc2, hf2⟩ := bcell h2; have hz2 := bsize h2) | skip); have hp := hb)
        go_wp2
        go_roundw
        case rel => exact ⟨k + 1, by omega, by simp, Lib.hid (take_succ_eq heq.out hlt (by omega) hx.out), hB⟩
        case measure => simp [intOf]; omega
      · have hx : Hid (¬ xs = ys) := Lib.hid fun h => hq (hab.1 (by rw [h]))
        rw [show decide (a = c ∧ b = d) = false from decide_eq_false hq] at hne
        clear hab hq
        go_wp2
        (refine wp_region_quiet_below (by kernel_rfl) (by kernel_rfl) ?_; (repeat (go_big_quiet_step (fail))); refine wpQuiet_nil ?_; intro w9 hw9; have hb := below_of_regrown hw9; clear hw9; obtain ⟨hc, hf⟩ := bcell hb; have hz := bsize hb; (first | (have hB := below_tt hB hb) | (have hB := below_tt (below_al hB _) hb) | (have hB := below_tt (below_al (below_al hB _) _) hb) | (have hB := hb)); obtain ⟨hc0, hf0⟩ := bcell hB; have hz0 := bsize hB; (first | (have h2 := below_tt hp hb; obtain ⟨hc2, hf2⟩ := bcell h2; have hz2 := bsize h2) | (have h2 := below_tt (below_al hp _) hb; obtain ⟨hc2, hf2⟩ := bcell h2; have hz2 := bsize h2) | skip); have hp := hb)
        go_wp2
        go_ret
        exact ⟨ret_bool (by simp [hx.out]), hB⟩
    · have hx : Hid (xs = ys) := Lib.hid (by
        have h1 := heq.out
        rwa [List.take_of_length_le (by omega), List.take_of_length_le (by omega)] at h1)
      go_wp2
      go_ret
      exact ⟨ret_bool (by simp [hx.out]), hB⟩
theorem likeSpans9_nil (a b : Option Addr) (c1 c2 : Nat) (w : World) :
    Calls Tryz.prog 14 #[.slice a 0 c1, .slice b 0 c2] w fun e w' => e = .returned (.bool true) ∧ Below w.heap.size w w' := by
  have hB := Below.refl w.heap.size w
  go_enter Tryz.func14, Tryz.ntmps14
  go_wp2
  go_loopw [5] (fun s5 wr => s5 = .int .i64 0 ∧ Below w.heap.size w wr) (fun _ _ => 0)
  case atStart => exact ⟨rfl, hB⟩
  case round =>
    clear hB
    obtain ⟨rfl, hB⟩ := hrel
    go_wp2
    go_ret
    exact ⟨rfl, hB⟩
theorem likeSpans9_len (a b : Option Addr) (n m c1 c2 : Nat) (w : World) (h : n ≠ m) :
    Calls Tryz.prog 14 #[.slice a n c1, .slice b m c2] w fun e w' => e = .returned (.bool false) ∧ Below w.heap.size w w' := by
  have hB := Below.refl w.heap.size w
  have h' : ((n : Int) == (m : Int)) = false := by simp; omega
  go_enter Tryz.func14, Tryz.ntmps14
  go_wp2
  go_ret
  exact ⟨rfl, hB⟩
theorem likeSpans9_any (va vb : Value) (xs ys : List (Int × Int)) (w : World) (ha : RS w va xs) (hb : RS w vb ys) (hl : xs.length ≤ 4000000000000) (hl2 : ys.length ≤ 4000000000000) :
    Calls Tryz.prog 14 #[va, vb] w fun e w' => e = .returned (.bool (decide (xs = ys))) ∧ Below w.heap.size w w' := by
  by_cases hlen : xs.length = ys.length
  · by_cases h0 : xs.length = 0
    · obtain rfl : xs = [] := List.length_eq_zero_iff.1 h0
      obtain rfl : ys = [] := List.length_eq_zero_iff.1 (by omega)
      obtain ⟨a, c1, rfl⟩ := ha.val
      obtain ⟨b, c2, rfl⟩ := hb.val
      exact likeSpans9_nil a b c1 c2 w
    · rcases ha with ⟨rfl, _⟩ | ⟨b1, o1, c1, rfl, hb1, hs1⟩
      · simp at h0
      rcases hb with ⟨rfl, _⟩ | ⟨b2, o2, c2, rfl, hb2, hs2⟩
      · exact absurd hlen h0
      rw [← hlen]
      exact likeSpans9_cells b1 o1 c1 b2 o2 c2 xs ys w hb1 hs1 hb2 hs2 hl hlen
  · obtain ⟨a, c1, rfl⟩ := ha.val
    obtain ⟨b, c2, rfl⟩ := hb.val
    have hne : ¬ xs = ys := fun h => hlen (by rw [h])
    simp only [hne, decide_false]
    exact likeSpans9_len a b _ _ c1 c2 w hlen
end Go.Proofs.YtpinngcdojbndaaGreatDoor
