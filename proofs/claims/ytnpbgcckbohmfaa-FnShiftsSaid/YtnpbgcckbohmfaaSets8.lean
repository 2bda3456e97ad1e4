/- Sets of days: the law of ShiftSet. -/
import Derived.Test.YtnpbgcckbohmfaaSets7
import Derived.Test.YtnpbgcckbohmfaaOwn
namespace Go.Proofs.Ytnpbgcckbohmfaa
open Go.RowKit
theorem shiftR_len (xs : List (Int × Int)) (m : Int) : (shiftR xs m).1.length ≤ 4000000 := by
  unfold shiftR
  cases hs : isSet xs
  · simp
  · have h1 := (isSet_iff.1 hs).2
    have h2 := shift_len m xs xs.length
    rw [List.take_length] at h2
    simp only [if_true]
    split
    · show (shiftL m xs).length ≤ _; omega
    · simp

set_option maxRecDepth 10000 in
set_option maxHeartbeats 4000000 in
theorem walk_FnExactShiftSet (v : Value) (xs : List (Int × Int)) (n0 : Int) {w : World} (hR0 : RS w v xs ∧ (xs.length : Int) ≤ 9223372036854775807) (_ : I64 n0) : Calls Try.prog 7 #[v, .int .i64 n0] w (Yes w) := by
  have hB := Below.refl w.heap.size w
  obtain ⟨hR0, hlen0⟩ := hR0
  obtain ⟨a0, cap0, hv0⟩ := hR0.val
  by_cases hbig : (xs.length : Int) > 1048576
  · subst hv0
    go_enter Try.func7, Try.ntmps7
    go_wp2
    go_ret
    exact ⟨rfl, hB⟩
  have hl0 : xs.length ≤ 2000000 := by omega
  have hRl : (shiftR xs n0).1.length ≤ 4000000 := shiftR_len xs n0
  go_enter Try.func7, Try.ntmps7
  subst hv0
  go_wp2_with (go_at_call 14; refine (szSpanS_any _ _ _ _ _ (by omega) (by omega) (by omega)).mono ?_; rintro e w' ⟨rfl, rfl⟩)
  refine (toSpanS_any _ xs _ hR0 (by omega)).mono ?_
  rintro e w1 ⟨rfl, p0, b1⟩
  have sz1 := b1.size
  have p0 := OwnIn.mk' p0
  have B1 := below_tt hB b1
  go_wp2_with fail
  refine (sShiftSet_any _ xs n0 _ p0.rs (by omega)).mono ?_
  rintro e w2 ⟨vs, rfl, os, b2⟩
  have p0 := p0.below b2
  have sz2 := b2.size
  have os := OwnIn.mk' os
  have B2 := below_tt B1 b2
  go_wp2_with fail
  refine (toSpanS_any _ xs _ (hR0.below B2) (by omega)).mono ?_
  rintro e w3 ⟨rfl, q0, b3⟩
  have p0 := p0.below b3
  have os := os.below b3
  have sz3 := b3.size
  have q0 := OwnIn.mk' q0
  have B3 := below_tt B2 b3
  go_wp2_with fail
  refine (iShiftSet_any _ xs n0 _ q0.rs (by omega)).mono ?_
  rintro e w4 ⟨vi, rfl, oi, b4⟩
  have p0 := p0.below b4
  have os := os.below b4
  have q0 := q0.below b4
  have sz4 := b4.size
  have oi := OwnIn.mk' oi
  have B4 := below_tt B3 b4
  go_wp2_with fail
  refine (eqSpanS_any _ _ (shiftR xs n0).1 (shiftR xs n0).1 _ oi.rs os.rs (by omega) (by omega)).mono ?_
  rintro e w5 ⟨rfl, b5⟩
  have p0 := p0.below b5
  have os := os.below b5
  have q0 := q0.below b5
  have oi := oi.below b5
  have sz5 := b5.size
  have B5 := below_tt B4 b5
  rw [decide_eq_true (rfl : (shiftR xs n0).1 = (shiftR xs n0).1)]
  go_wp2_with fail
  refine (toSpanS_any _ xs _ (hR0.below B5) (by omega)).mono ?_
  rintro e w6 ⟨rfl, r0, b6⟩
  have p0 := p0.below b6
  have os := os.below b6
  have q0 := q0.below b6
  have oi := oi.below b6
  have sz6 := b6.size
  have r0 := OwnIn.mk' r0
  have B6 := below_tt B5 b6
  go_wp2_with fail
  refine (eqSpanS_any _ _ xs xs _ q0.rs r0.rs (by omega) (by omega)).mono ?_
  rintro e w7 ⟨rfl, b7⟩
  have p0 := p0.below b7
  have os := os.below b7
  have q0 := q0.below b7
  have oi := oi.below b7
  have r0 := r0.below b7
  have sz7 := b7.size
  have B7 := below_tt B6 b7
  rw [decide_eq_true (rfl : xs = xs)]
  go_wp2_with fail
  refine (mark_in q0 (by omega) (by omega) (by omega)).mono ?_
  rintro e w8 ⟨rfl, q0m, g8⟩
  have p0 := p0.kept q0 g8 (by omega)
  have os := os.kept q0 g8 (by omega)
  have oi := oi.kept q0 g8 (by omega)
  have r0 := r0.kept q0 g8 (by omega)
  have B8 := below_mark B7 q0 g8 (by omega) (by omega)
  have sz8 := g8.size
  clear q0
  have q0 := q0m
  clear q0m
  go_wp2_with fail
  refine (eqSpanS_any _ _ (shiftR xs n0).1 (shiftR xs n0).1 _ oi.rs os.rs (by omega) (by omega)).mono ?_
  rintro e w9 ⟨rfl, b9⟩
  have p0 := p0.below b9
  have os := os.below b9
  have q0 := q0.below b9
  have oi := oi.below b9
  have r0 := r0.below b9
  have sz9 := b9.size
  have B9 := below_tt B8 b9
  rw [decide_eq_true (rfl : (shiftR xs n0).1 = (shiftR xs n0).1)]
  go_wp2_with fail
  refine (mark_in oi (by omega) (by omega) (by omega)).mono ?_
  rintro e w10 ⟨rfl, oim, g10⟩
  have p0 := p0.kept oi g10 (by omega)
  have os := os.kept oi g10 (by omega)
  have q0 := q0.kept oi g10 (by omega)
  have r0 := r0.kept oi g10 (by omega)
  have B10 := below_mark B9 oi g10 (by omega) (by omega)
  have sz10 := g10.size
  clear oi
  have oi := oim
  clear oim
  go_wp2_with fail
  refine (held_in oi (by omega) (by omega) (by omega)).mono ?_
  rintro e w11 ⟨rfl, b11⟩
  have p0 := p0.below b11
  have os := os.below b11
  have q0 := q0.below b11
  have oi := oi.below b11
  have r0 := r0.below b11
  have sz11 := b11.size
  have B11 := below_tt B10 b11
  go_wp2_with fail
  refine (toSpanS_any _ xs _ (hR0.below B11) (by omega)).mono ?_
  rintro e w12 ⟨rfl, s0, b12⟩
  have p0 := p0.below b12
  have os := os.below b12
  have q0 := q0.below b12
  have oi := oi.below b12
  have r0 := r0.below b12
  have sz12 := b12.size
  have s0 := OwnIn.mk' s0
  have B12 := below_tt B11 b12
  go_wp2_with fail
  refine (iShiftSet_any _ xs n0 _ s0.rs (by omega)).mono ?_
  rintro e w13 ⟨vh, rfl, oh, b13⟩
  have p0 := p0.below b13
  have os := os.below b13
  have q0 := q0.below b13
  have oi := oi.below b13
  have r0 := r0.below b13
  have s0 := s0.below b13
  have sz13 := b13.size
  have oh := OwnIn.mk' oh
  have B13 := below_tt B12 b13
  go_wp2_with fail
  refine (eqSpanS_any _ _ (shiftR xs n0).1 (shiftR xs n0).1 _ oh.rs os.rs (by omega) (by omega)).mono ?_
  rintro e w14 ⟨rfl, b14⟩
  have p0 := p0.below b14
  have os := os.below b14
  have q0 := q0.below b14
  have oi := oi.below b14
  have r0 := r0.below b14
  have s0 := s0.below b14
  have oh := oh.below b14
  have sz14 := b14.size
  have B14 := below_tt B13 b14
  rw [decide_eq_true (rfl : (shiftR xs n0).1 = (shiftR xs n0).1)]
  go_wp2_with fail
  refine (held_in oi (by omega) (by omega) (by omega)).mono ?_
  rintro e w15 ⟨rfl, b15⟩
  have p0 := p0.below b15
  have os := os.below b15
  have q0 := q0.below b15
  have oi := oi.below b15
  have r0 := r0.below b15
  have s0 := s0.below b15
  have oh := oh.below b15
  have sz15 := b15.size
  have B15 := below_tt B14 b15
  go_wp2
  go_ret
  exact ⟨rfl, B15⟩
end Go.Proofs.Ytnpbgcckbohmfaa
