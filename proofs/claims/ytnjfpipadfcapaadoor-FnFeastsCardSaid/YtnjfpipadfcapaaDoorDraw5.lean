/- What the reference draws for the laws of days, years and calendars. -/
import Derived.Test.YtnjfpipadfcapaaDoorDraw1
import Derived.Test.YtnjfpipadfcapaaDoorBytes
import Derived.Laws.StructEq
namespace Go.Proofs.YtnjfpipadfcapaaDoor
open Go.RowKit

theorem neq_date (x1 x2 x3 y1 y2 y3 : Int) (w : World) : (binOp .neq 40 (.agg #[.int .i64 x1, .int .i64 x2, .int .i64 x3]) (.agg #[.int .i64 y1, .int .i64 y2, .int .i64 y3])).run Tryd.prog w = .ok (.bool (!decide (x1 = y1 ∧ x2 = y2 ∧ x3 = y3))) w := by
  have u3 := Tryd.underlying2
  have a3 := Tryd.isAgg2
  have z3 := Tryd.sizeOf2
  have hS : Tryd.prog.underlying 40 = some (.struct (Tryd.prog.fieldsOf 40)) := by kernel_rfl
  have hp : Tryd.prog.stoodInHeld 40 = false := by kernel_rfl
  rw [run_neq_struct, show (10000 : Nat) = 9999 + 1 from rfl, run_equalIn_struct w 9999 40 _ _ hS hp]
  simp only [Program.fieldsOf, Tryd.underlying40]
  go_simp
  by_cases h1 : x1 = y1 <;> by_cases h2 : x2 = y2 <;> by_cases h3 : x3 = y3 <;> simp [h1, h2, h3]
theorem eql_date (x1 x2 x3 y1 y2 y3 : Int) (w : World) : (binOp .eql 40 (.agg #[.int .i64 x1, .int .i64 x2, .int .i64 x3]) (.agg #[.int .i64 y1, .int .i64 y2, .int .i64 y3])).run Tryd.prog w = .ok (.bool (decide (x1 = y1 ∧ x2 = y2 ∧ x3 = y3))) w := by
  have u3 := Tryd.underlying2
  have a3 := Tryd.isAgg2
  have z3 := Tryd.sizeOf2
  have hS : Tryd.prog.underlying 40 = some (.struct (Tryd.prog.fieldsOf 40)) := by kernel_rfl
  have hp : Tryd.prog.stoodInHeld 40 = false := by kernel_rfl
  rw [run_eql_struct, show (10000 : Nat) = 9999 + 1 from rfl, run_equalIn_struct w 9999 40 _ _ hS hp]
  simp only [Program.fieldsOf, Tryd.underlying40]
  go_simp
  by_cases h1 : x1 = y1 <;> by_cases h2 : x2 = y2 <;> by_cases h3 : x3 = y3 <;> simp [h1, h2, h3]
theorem grd_date (op : BinOp) (a b : Operand) (xs ys : Array Value) (w : World) : (eqGuard op 40 a b (.agg xs) (.agg ys)).run Tryd.prog w = .ok () w := run_eqGuard_agg w op _ a b xs ys (by kernel_rfl)

theorem rb_al {w : World} {v : Value} {n : Nat} (h : RB w w.heap.size v n) (o : Obj) : RB (w.alloc o) (w.alloc o).heap.size v n :=
  (h.below ((Below.refl _ _).alloc (Nat.le_refl _) o)).more (by simp)
end Go.Proofs.YtnjfpipadfcapaaDoor
