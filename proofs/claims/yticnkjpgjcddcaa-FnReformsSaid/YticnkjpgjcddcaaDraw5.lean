/- What the reference draws for the laws of days, years and calendars. -/
import Derived.Test.YticnkjpgjcddcaaDraw1
import Derived.Test.YticnkjpgjcddcaaBytes
import Derived.Laws.StructEq
namespace Go.Proofs.Yticnkjpgjcddcaa
open Go.RowKit

theorem neq_date (x1 x2 x3 y1 y2 y3 : Int) (w : World) : (binOp .neq 43 (.agg #[.int .i64 x1, .int .i64 x2, .int .i64 x3]) (.agg #[.int .i64 y1, .int .i64 y2, .int .i64 y3])).run Try.prog w = .ok (.bool (!decide (x1 = y1 ∧ x2 = y2 ∧ x3 = y3))) w := by
  have u3 := Try.underlying2
  have a3 := Try.isAgg2
  have z3 := Try.sizeOf2
  have hS : Try.prog.underlying 43 = some (.struct (Try.prog.fieldsOf 43)) := by kernel_rfl
  have hp : Try.prog.stoodInHeld 43 = false := by kernel_rfl
  rw [run_neq_struct, show (10000 : Nat) = 9999 + 1 from rfl, run_equalIn_struct w 9999 43 _ _ hS hp]
  simp only [Program.fieldsOf, Try.underlying43]
  go_simp
  by_cases h1 : x1 = y1 <;> by_cases h2 : x2 = y2 <;> by_cases h3 : x3 = y3 <;> simp [h1, h2, h3]
theorem eql_date (x1 x2 x3 y1 y2 y3 : Int) (w : World) : (binOp .eql 43 (.agg #[.int .i64 x1, .int .i64 x2, .int .i64 x3]) (.agg #[.int .i64 y1, .int .i64 y2, .int .i64 y3])).run Try.prog w = .ok (.bool (decide (x1 = y1 ∧ x2 = y2 ∧ x3 = y3))) w := by
  have u3 := Try.underlying2
  have a3 := Try.isAgg2
  have z3 := Try.sizeOf2
  have hS : Try.prog.underlying 43 = some (.struct (Try.prog.fieldsOf 43)) := by kernel_rfl
  have hp : Try.prog.stoodInHeld 43 = false := by kernel_rfl
  rw [run_eql_struct, show (10000 : Nat) = 9999 + 1 from rfl, run_equalIn_struct w 9999 43 _ _ hS hp]
  simp only [Program.fieldsOf, Try.underlying43]
  go_simp
  by_cases h1 : x1 = y1 <;> by_cases h2 : x2 = y2 <;> by_cases h3 : x3 = y3 <;> simp [h1, h2, h3]
theorem grd_date (op : BinOp) (a b : Operand) (xs ys : Array Value) (w : World) : (eqGuard op 43 a b (.agg xs) (.agg ys)).run Try.prog w = .ok () w := run_eqGuard_agg w op _ a b xs ys (by kernel_rfl)

theorem rb_al {w : World} {v : Value} {n : Nat} (h : RB w w.heap.size v n) (o : Obj) : RB (w.alloc o) (w.alloc o).heap.size v n :=
  (h.below ((Below.refl _ _).alloc (Nat.le_refl _) o)).more (by simp)
set_option maxHeartbeats 1000000 in
theorem drawOldDay_any (v : Value) (n : Nat) (w : World) (h : RB w w.heap.size v n) (hn : n ≤ 4096) :
    Calls Try.prog 34 #[v] w fun e w' => ∃ y m d : Int, e = .returned (.agg #[.int .i64 y, .int .i64 m, .int .i64 d]) ∧ Below w.heap.size w w' := by
  have hr := rb_al h (.cells #[.int .i64 0, .int .i64 0, .int .i64 0] 43)
  have hE := D3.made w 0 0 0 43
  have hA := (Below.refl w.heap.size w).alloc (Nat.le_refl _) (.cells #[.int .i64 0, .int .i64 0, .int .i64 0] 43)
  go_enter Try.func34, Try.ntmps34
  go_wp2_with fail
  refine (l01From_any v n _ hr (by omega)).mono ?_
  rintro e w1 ⟨rfl, hS, hB⟩
  have hE1 := hE.below hB
  have hB1 := hA.trans (hB.mono (by simp))
  have hne : w.heap.size ≠ w.heap.size + 1 := by omega
  simp only [World.size_alloc] at hS
  go_wp2_with fail
  refine (l01DrawDate_any hS (by omega)).mono ?_
  rintro e w2 ⟨y, m, d, rfl, hS2, hG⟩
  have hE2 := hE1.src hG hne
  have hB2 := below_gb hB1 hG hB1.size (by omega)
  have k0 := hE2.c0
  have k1 := hE2.c1
  have k2 := hE2.c2
  have f0 := hE2.fr 0
  have f1 := hE2.fr 1
  have f2 := hE2.fr 2
  clear hE hE1 hE2 hS hS2 hG hr hA hB hB1
  go_wp2_with fail
  refine bodyPost_ret (v := .agg #[.int .i64 y, .int .i64 m, .int .i64 d]) (by simp [results, Try.results34, go_sem, *]) rfl ⟨y, m, d, rfl, ?_⟩
  exact ((hB2.setCell (Nat.le_refl _) _).setCell (Nat.le_refl _) _).setCell (Nat.le_refl _) _
set_option maxHeartbeats 1000000 in
theorem drawOldDate_any (v : Value) (n : Nat) (w : World) (h : RB w w.heap.size v n) (hn : n ≤ 4096) :
    Calls Try.prog 37 #[v] w fun e w' => ∃ x : Int, e = .returned (.int .i64 x) ∧ (-1 ≤ x ∧ x ≤ 730500) ∧ Below w.heap.size w w' := by
  go_enter Try.func37, Try.ntmps37
  go_wp2_with fail
  refine (l01From_any v n _ h (by omega)).mono ?_
  rintro e w1 ⟨rfl, hS, hB⟩
  go_wp2_with fail
  refine (l01DrawDay_any hS (by omega)).mono ?_
  rintro e w2 ⟨x, rfl, hx, hS2, hG⟩
  go_wp2
  go_ret
  exact ⟨x, rfl, hx, below_gb hB hG hB.size (Nat.le_refl _)⟩
set_option maxHeartbeats 1000000 in
theorem drawWeekdayOf_any (v : Value) (n : Nat) (w : World) (h : RB w w.heap.size v n) (hn : n ≤ 4096) :
    Calls Try.prog 40 #[v] w fun e w' => ∃ x : Int, e = .returned (.int .i64 x) ∧ (-1 ≤ x ∧ x ≤ 730500) ∧ Below w.heap.size w w' := by
  go_enter Try.func40, Try.ntmps40
  go_wp2_with fail
  refine (l01From_any v n _ h (by omega)).mono ?_
  rintro e w1 ⟨rfl, hS, hB⟩
  go_wp2_with fail
  refine (l01DrawDay_any hS (by omega)).mono ?_
  rintro e w2 ⟨x, rfl, hx, hS2, hG⟩
  go_wp2
  go_ret
  exact ⟨x, rfl, hx, below_gb hB hG hB.size (Nat.le_refl _)⟩
end Go.Proofs.Yticnkjpgjcddcaa
