/- The law of YearsWithEaster. -/
import Derived.Test.YticnkjpgjcddcaaYears
namespace Go.Proofs.Yticnkjpgjcddcaa
open Go.RowKit
theorem yearsR_len (m d a b : Int) : (yearsR m d a b).1.length ≤ 4000000 := by
  unfold yearsR
  split
  · rename_i h
    have := ywB_t h
    have := yearsL_len m d a (b - a + 1).toNat
    show (yearsL m d a (b - a + 1).toNat).length ≤ _
    omega
  · simp

set_option maxRecDepth 10000 in
set_option maxHeartbeats 4000000 in
theorem walk_FnExactYearsWithEaster (n0 : Int) (n1 : Int) (n2 : Int) (n3 : Int) (_ : I64 n0) (_ : I64 n1) (_ : I64 n2) (_ : I64 n3) (w : World) : Calls Try.prog 3 #[.int .i64 n0, .int .i64 n1, .int .i64 n2, .int .i64 n3] w (Yes w) := by
  have hB := Below.refl w.heap.size w
  have hRl : (yearsR n0 n1 n2 n3).1.length ≤ 4000000 := yearsR_len n0 n1 n2 n3
  go_enter Try.func3, Try.ntmps3
  go_wp2_with fail
  refine (sYears_any n0 n1 n2 n3 _).mono ?_
  rintro e w1 ⟨vs, rfl, os, b1⟩
  have sz1 := b1.size
  have os := OwnJn.mk' os
  have B1 := below_tt hB b1
  go_wp2_with fail
  refine (iYears_any n0 n1 n2 n3 _).mono ?_
  rintro e w2 ⟨vi, rfl, oi, b2⟩
  have os := os.below b2
  have sz2 := b2.size
  have oi := OwnJn.mk' oi
  have B2 := below_tt B1 b2
  go_wp2_with fail
  refine (eqInt64S_any _ _ (yearsR n0 n1 n2 n3).1 (yearsR n0 n1 n2 n3).1 _ oi.rs os.rs (by omega) (by omega)).mono ?_
  rintro e w3 ⟨rfl, b3⟩
  have os := os.below b3
  have oi := oi.below b3
  have sz3 := b3.size
  have B3 := below_tt B2 b3
  rw [decide_eq_true (rfl : (yearsR n0 n1 n2 n3).1 = (yearsR n0 n1 n2 n3).1)]
  go_wp2_with fail
  refine (mark_inI oi (by omega) (by omega) (by omega)).mono ?_
  rintro e w4 ⟨rfl, oim, g4⟩
  have os := os.kept oi g4 (by omega)
  have B4 := below_markI B3 oi g4 (by omega) (by omega)
  have sz4 := g4.size
  clear oi
  have oi := oim
  clear oim
  go_wp2_with fail
  refine (held_inI oi (by omega) (by omega) (by omega)).mono ?_
  rintro e w5 ⟨rfl, b5⟩
  have os := os.below b5
  have oi := oi.below b5
  have sz5 := b5.size
  have B5 := below_tt B4 b5
  go_wp2_with fail
  refine (iYears_any n0 n1 n2 n3 _).mono ?_
  rintro e w6 ⟨vh, rfl, oh, b6⟩
  have os := os.below b6
  have oi := oi.below b6
  have sz6 := b6.size
  have oh := OwnJn.mk' oh
  have B6 := below_tt B5 b6
  go_wp2_with fail
  refine (eqInt64S_any _ _ (yearsR n0 n1 n2 n3).1 (yearsR n0 n1 n2 n3).1 _ oh.rs os.rs (by omega) (by omega)).mono ?_
  rintro e w7 ⟨rfl, b7⟩
  have os := os.below b7
  have oi := oi.below b7
  have oh := oh.below b7
  have sz7 := b7.size
  have B7 := below_tt B6 b7
  rw [decide_eq_true (rfl : (yearsR n0 n1 n2 n3).1 = (yearsR n0 n1 n2 n3).1)]
  go_wp2_with fail
  refine (held_inI oi (by omega) (by omega) (by omega)).mono ?_
  rintro e w8 ⟨rfl, b8⟩
  have os := os.below b8
  have oi := oi.below b8
  have oh := oh.below b8
  have sz8 := b8.size
  have B8 := below_tt B7 b8
  go_wp2
  go_ret
  exact ⟨rfl, B8⟩
end Go.Proofs.Yticnkjpgjcddcaa
