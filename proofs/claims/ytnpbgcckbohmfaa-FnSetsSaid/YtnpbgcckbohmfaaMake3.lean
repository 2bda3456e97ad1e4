/- Sets of days: the laws of MakeSet and UniteSets. -/
import Derived.Test.YtnpbgcckbohmfaaMake2
import Derived.Test.YtnpbgcckbohmfaaMeet3
namespace Go.Proofs.Ytnpbgcckbohmfaa
open Go.RowKit
theorem makeR_len (xs : List (Int × Int)) : (makeR xs).1.length ≤ 4000000 := by
  unfold makeR
  split
  · simp
  · split
    · simp
    · exact limR_len _
theorem uniteR_len (xs ys : List (Int × Int)) : (uniteR xs ys).1.length ≤ 4000000 := by
  unfold uniteR
  split
  · split
    · exact limR_len _
    · simp
  · simp

set_option maxRecDepth 10000 in
set_option maxHeartbeats 4000000 in
theorem walk_FnExactMakeSet (v : Value) (xs : List (Int × Int)) {w : World} (hR0 : RS w v xs ∧ (xs.length : Int) ≤ 9223372036854775807)  : Calls Try.prog 10 #[v] w (Yes w) := by
  have hB := Below.refl w.heap.size w
  obtain ⟨hR0, hlen0⟩ := hR0
  obtain ⟨a0, cap0, hv0⟩ := hR0.val
  by_cases hbig : (xs.length : Int) > 1048576
  · subst hv0
    go_enter Try.func10, Try.ntmps10
    go_wp2
    go_ret
    exact ⟨rfl, hB⟩
  have hl0 : xs.length ≤ 2000000 := by omega
  have hRl : (makeR xs).1.length ≤ 4000000 := makeR_len xs
  go_enter Try.func10, Try.ntmps10
  subst hv0
  go_wp2_with (go_at_call 14; refine (szSpanS_any _ _ _ _ _ (by omega) (by omega) (by omega)).mono ?_; rintro e w' ⟨rfl, rfl⟩)
  refine (toSpanS_any _ xs _ hR0 (by omega)).mono ?_
  rintro e w1 ⟨rfl, p0, b1⟩
  have sz1 := b1.size
  have p0 := OwnIn.mk' p0
  have B1 := below_tt hB b1
  go_wp2_with fail
  refine (sMake_any _ xs _ p0.1.rs2 (by omega)).mono ?_
  rintro e w2 ⟨vs, rfl, os, b2⟩
  have p0 := p0.below b2
  have sz2 := b2.size
  have os := OwnIn.mk' os
  have B2 := below_tt B1 b2
  go_wp2_with fail
  refine (toSpanS_any _ xs _ (hR0.below B2) (by omega)).mono ?_
  rintro e w3 ⟨rfl, q0, b3⟩
  have p0 := p0.below b3
  have os := os.below b3
  have sz3 := b3.size
  have q0 := OwnIn.mk' q0
  have B3 := below_tt B2 b3
  go_wp2_with fail
  refine (iMake_any _ xs _ q0.1.rs2 (by omega)).mono ?_
  rintro e w4 ⟨vi, rfl, oi, b4⟩
  have p0 := p0.below b4
  have os := os.below b4
  have q0 := q0.below b4
  have sz4 := b4.size
  have oi := OwnIn.mk' oi
  have B4 := below_tt B3 b4
  go_wp2_with fail
  refine (eqSpanS_any _ _ (makeR xs).1 (makeR xs).1 _ oi.rs os.rs (by omega) (by omega)).mono ?_
  rintro e w5 ⟨rfl, b5⟩
  have p0 := p0.below b5
  have os := os.below b5
  have q0 := q0.below b5
  have oi := oi.below b5
  have sz5 := b5.size
  have B5 := below_tt B4 b5
  rw [decide_eq_true (rfl : (makeR xs).1 = (makeR xs).1)]
  go_wp2_with fail
  refine (toSpanS_any _ xs _ (hR0.below B5) (by omega)).mono ?_
  rintro e w6 ⟨rfl, r0, b6⟩
  have p0 := p0.below b6
  have os := os.below b6
  have q0 := q0.below b6
  have oi := oi.below b6
  have sz6 := b6.size
  have r0 := OwnIn.mk' r0
  have B6 := below_tt B5 b6
  go_wp2_with fail
  refine (eqSpanS_any _ _ xs xs _ q0.rs r0.rs (by omega) (by omega)).mono ?_
  rintro e w7 ⟨rfl, b7⟩
  have p0 := p0.below b7
  have os := os.below b7
  have q0 := q0.below b7
  have oi := oi.below b7
  have r0 := r0.below b7
  have sz7 := b7.size
  have B7 := below_tt B6 b7
  rw [decide_eq_true (rfl : xs = xs)]
  go_wp2_with fail
  refine (mark_in q0 (by omega) (by omega) (by omega)).mono ?_
  rintro e w8 ⟨rfl, q0m, g8⟩
  have p0 := p0.kept q0 g8 (by omega)
  have os := os.kept q0 g8 (by omega)
  have oi := oi.kept q0 g8 (by omega)
  have r0 := r0.kept q0 g8 (by omega)
  have B8 := below_mark B7 q0 g8 (by omega) (by omega)
  have sz8 := g8.size
  clear q0
  have q0 := q0m
  clear q0m
  go_wp2_with fail
  refine (eqSpanS_any _ _ (makeR xs).1 (makeR xs).1 _ oi.rs os.rs (by omega) (by omega)).mono ?_
  rintro e w9 ⟨rfl, b9⟩
  have p0 := p0.below b9
  have os := os.below b9
  have q0 := q0.below b9
  have oi := oi.below b9
  have r0 := r0.below b9
  have sz9 := b9.size
  have B9 := below_tt B8 b9
  rw [decide_eq_true (rfl : (makeR xs).1 = (makeR xs).1)]
  go_wp2_with fail
  refine (mark_in oi (by omega) (by omega) (by omega)).mono ?_
  rintro e w10 ⟨rfl, oim, g10⟩
  have p0 := p0.kept oi g10 (by omega)
  have os := os.kept oi g10 (by omega)
  have q0 := q0.kept oi g10 (by omega)
  have r0 := r0.kept oi g10 (by omega)
  have B10 := below_mark B9 oi g10 (by omega) (by omega)
  have sz10 := g10.size
  clear oi
  have oi := oim
  clear oim
  go_wp2_with fail
  refine (held_in oi (by omega) (by omega) (by omega)).mono ?_
  rintro e w11 ⟨rfl, b11⟩
  have p0 := p0.below b11
  have os := os.below b11
  have q0 := q0.below b11
  have oi := oi.below b11
  have r0 := r0.below b11
  have sz11 := b11.size
  have B11 := below_tt B10 b11
  go_wp2_with fail
  refine (toSpanS_any _ xs _ (hR0.below B11) (by omega)).mono ?_
  rintro e w12 ⟨rfl, s0, b12⟩
  have p0 := p0.below b12
  have os := os.below b12
  have q0 := q0.below b12
  have oi := oi.below b12
  have r0 := r0.below b12
  have sz12 := b12.size
  have s0 := OwnIn.mk' s0
  have B12 := below_tt B11 b12
  go_wp2_with fail
  refine (iMake_any _ xs _ s0.1.rs2 (by omega)).mono ?_
  rintro e w13 ⟨vh, rfl, oh, b13⟩
  have p0 := p0.below b13
  have os := os.below b13
  have q0 := q0.below b13
  have oi := oi.below b13
  have r0 := r0.below b13
  have s0 := s0.below b13
  have sz13 := b13.size
  have oh := OwnIn.mk' oh
  have B13 := below_tt B12 b13
  go_wp2_with fail
  refine (eqSpanS_any _ _ (makeR xs).1 (makeR xs).1 _ oh.rs os.rs (by omega) (by omega)).mono ?_
  rintro e w14 ⟨rfl, b14⟩
  have p0 := p0.below b14
  have os := os.below b14
  have q0 := q0.below b14
  have oi := oi.below b14
  have r0 := r0.below b14
  have s0 := s0.below b14
  have oh := oh.below b14
  have sz14 := b14.size
  have B14 := below_tt B13 b14
  rw [decide_eq_true (rfl : (makeR xs).1 = (makeR xs).1)]
  go_wp2_with fail
  refine (held_in oi (by omega) (by omega) (by omega)).mono ?_
  rintro e w15 ⟨rfl, b15⟩
  have p0 := p0.below b15
  have os := os.below b15
  have q0 := q0.below b15
  have oi := oi.below b15
  have r0 := r0.below b15
  have s0 := s0.below b15
  have oh := oh.below b15
  have sz15 := b15.size
  have B15 := below_tt B14 b15
  go_wp2
  go_ret
  exact ⟨rfl, B15⟩

set_option maxRecDepth 10000 in
set_option maxHeartbeats 4000000 in
theorem walk_FnExactUniteSets (v : Value) (xs : List (Int × Int)) (u : Value) (ys : List (Int × Int)) {w : World} (hR0 : RS w v xs ∧ (xs.length : Int) ≤ 9223372036854775807) (hR1 : RS w u ys ∧ (ys.length : Int) ≤ 9223372036854775807)  : Calls Try.prog 11 #[v, u] w (Yes w) := by
  have hB := Below.refl w.heap.size w
  obtain ⟨hR0, hlen0⟩ := hR0
  obtain ⟨a0, cap0, hv0⟩ := hR0.val
  obtain ⟨hR1, hlen1⟩ := hR1
  obtain ⟨a1, cap1, hv1⟩ := hR1.val
  by_cases hbig0 : (xs.length : Int) > 1048576
  · subst hv0 hv1
    go_enter Try.func11, Try.ntmps11
    go_wp2
    go_ret
    exact ⟨rfl, hB⟩
  by_cases hbig : (xs.length : Int) + (ys.length : Int) > 1048576
  · subst hv0 hv1
    go_enter Try.func11, Try.ntmps11
    go_wp2
    go_ret
    exact ⟨rfl, hB⟩
  have hl0 : xs.length ≤ 2000000 := by omega
  have hl1 : ys.length ≤ 2000000 := by omega
  have hRl : (uniteR xs ys).1.length ≤ 4000000 := uniteR_len xs ys
  go_enter Try.func11, Try.ntmps11
  subst hv0
  subst hv1
  go_wp2_with (go_at_call 14; refine (szSpanS_any _ _ _ _ _ (by omega) (by omega) (by omega)).mono ?_; rintro e w' ⟨rfl, rfl⟩)
  refine (toSpanS_any _ xs _ hR0 (by omega)).mono ?_
  rintro e w1 ⟨rfl, p0, b1⟩
  have sz1 := b1.size
  have p0 := OwnIn.mk' p0
  have B1 := below_tt hB b1
  go_wp2_with fail
  refine (toSpanS_any _ ys _ (hR1.below B1) (by omega)).mono ?_
  rintro e w2 ⟨rfl, p1, b2⟩
  have p0 := p0.below b2
  have sz2 := b2.size
  have p1 := OwnIn.mk' p1
  have B2 := below_tt B1 b2
  go_wp2_with fail
  refine (sUnite_any _ _ xs ys _ p0.1.rs2 p1.1.rs2 (by omega) (by omega)).mono ?_
  rintro e w3 ⟨vs, rfl, os, b3⟩
  have p0 := p0.below b3
  have p1 := p1.below b3
  have sz3 := b3.size
  have os := OwnIn.mk' os
  have B3 := below_tt B2 b3
  go_wp2_with fail
  refine (toSpanS_any _ xs _ (hR0.below B3) (by omega)).mono ?_
  rintro e w4 ⟨rfl, q0, b4⟩
  have p0 := p0.below b4
  have p1 := p1.below b4
  have os := os.below b4
  have sz4 := b4.size
  have q0 := OwnIn.mk' q0
  have B4 := below_tt B3 b4
  go_wp2_with fail
  refine (toSpanS_any _ ys _ (hR1.below B4) (by omega)).mono ?_
  rintro e w5 ⟨rfl, q1, b5⟩
  have p0 := p0.below b5
  have p1 := p1.below b5
  have os := os.below b5
  have q0 := q0.below b5
  have sz5 := b5.size
  have q1 := OwnIn.mk' q1
  have B5 := below_tt B4 b5
  go_wp2_with fail
  refine (iUnite_any _ _ xs ys _ q0.1.rs2 q1.1.rs2 (by omega) (by omega)).mono ?_
  rintro e w6 ⟨vi, rfl, oi, b6⟩
  have p0 := p0.below b6
  have p1 := p1.below b6
  have os := os.below b6
  have q0 := q0.below b6
  have q1 := q1.below b6
  have sz6 := b6.size
  have oi := OwnIn.mk' oi
  have B6 := below_tt B5 b6
  go_wp2_with fail
  refine (eqSpanS_any _ _ (uniteR xs ys).1 (uniteR xs ys).1 _ oi.rs os.rs (by omega) (by omega)).mono ?_
  rintro e w7 ⟨rfl, b7⟩
  have p0 := p0.below b7
  have p1 := p1.below b7
  have os := os.below b7
  have q0 := q0.below b7
  have q1 := q1.below b7
  have oi := oi.below b7
  have sz7 := b7.size
  have B7 := below_tt B6 b7
  rw [decide_eq_true (rfl : (uniteR xs ys).1 = (uniteR xs ys).1)]
  go_wp2_with fail
  refine (toSpanS_any _ xs _ (hR0.below B7) (by omega)).mono ?_
  rintro e w8 ⟨rfl, r0, b8⟩
  have p0 := p0.below b8
  have p1 := p1.below b8
  have os := os.below b8
  have q0 := q0.below b8
  have q1 := q1.below b8
  have oi := oi.below b8
  have sz8 := b8.size
  have r0 := OwnIn.mk' r0
  have B8 := below_tt B7 b8
  go_wp2_with fail
  refine (eqSpanS_any _ _ xs xs _ q0.rs r0.rs (by omega) (by omega)).mono ?_
  rintro e w9 ⟨rfl, b9⟩
  have p0 := p0.below b9
  have p1 := p1.below b9
  have os := os.below b9
  have q0 := q0.below b9
  have q1 := q1.below b9
  have oi := oi.below b9
  have r0 := r0.below b9
  have sz9 := b9.size
  have B9 := below_tt B8 b9
  rw [decide_eq_true (rfl : xs = xs)]
  go_wp2_with fail
  refine (toSpanS_any _ ys _ (hR1.below B9) (by omega)).mono ?_
  rintro e w10 ⟨rfl, r1, b10⟩
  have p0 := p0.below b10
  have p1 := p1.below b10
  have os := os.below b10
  have q0 := q0.below b10
  have q1 := q1.below b10
  have oi := oi.below b10
  have r0 := r0.below b10
  have sz10 := b10.size
  have r1 := OwnIn.mk' r1
  have B10 := below_tt B9 b10
  go_wp2_with fail
  refine (eqSpanS_any _ _ ys ys _ q1.rs r1.rs (by omega) (by omega)).mono ?_
  rintro e w11 ⟨rfl, b11⟩
  have p0 := p0.below b11
  have p1 := p1.below b11
  have os := os.below b11
  have q0 := q0.below b11
  have q1 := q1.below b11
  have oi := oi.below b11
  have r0 := r0.below b11
  have r1 := r1.below b11
  have sz11 := b11.size
  have B11 := below_tt B10 b11
  rw [decide_eq_true (rfl : ys = ys)]
  go_wp2_with fail
  refine (mark_in q0 (by omega) (by omega) (by omega)).mono ?_
  rintro e w12 ⟨rfl, q0m, g12⟩
  have p0 := p0.kept q0 g12 (by omega)
  have p1 := p1.kept q0 g12 (by omega)
  have os := os.kept q0 g12 (by omega)
  have q1 := q1.kept q0 g12 (by omega)
  have oi := oi.kept q0 g12 (by omega)
  have r0 := r0.kept q0 g12 (by omega)
  have r1 := r1.kept q0 g12 (by omega)
  have B12 := below_mark B11 q0 g12 (by omega) (by omega)
  have sz12 := g12.size
  clear q0
  have q0 := q0m
  clear q0m
  go_wp2_with fail
  refine (mark_in q1 (by omega) (by omega) (by omega)).mono ?_
  rintro e w13 ⟨rfl, q1m, g13⟩
  have p0 := p0.kept q1 g13 (by omega)
  have p1 := p1.kept q1 g13 (by omega)
  have os := os.kept q1 g13 (by omega)
  have q0 := q0.kept q1 g13 (by omega)
  have oi := oi.kept q1 g13 (by omega)
  have r0 := r0.kept q1 g13 (by omega)
  have r1 := r1.kept q1 g13 (by omega)
  have B13 := below_mark B12 q1 g13 (by omega) (by omega)
  have sz13 := g13.size
  clear q1
  have q1 := q1m
  clear q1m
  go_wp2_with fail
  refine (eqSpanS_any _ _ (uniteR xs ys).1 (uniteR xs ys).1 _ oi.rs os.rs (by omega) (by omega)).mono ?_
  rintro e w14 ⟨rfl, b14⟩
  have p0 := p0.below b14
  have p1 := p1.below b14
  have os := os.below b14
  have q0 := q0.below b14
  have q1 := q1.below b14
  have oi := oi.below b14
  have r0 := r0.below b14
  have r1 := r1.below b14
  have sz14 := b14.size
  have B14 := below_tt B13 b14
  rw [decide_eq_true (rfl : (uniteR xs ys).1 = (uniteR xs ys).1)]
  go_wp2_with fail
  refine (mark_in oi (by omega) (by omega) (by omega)).mono ?_
  rintro e w15 ⟨rfl, oim, g15⟩
  have p0 := p0.kept oi g15 (by omega)
  have p1 := p1.kept oi g15 (by omega)
  have os := os.kept oi g15 (by omega)
  have q0 := q0.kept oi g15 (by omega)
  have q1 := q1.kept oi g15 (by omega)
  have r0 := r0.kept oi g15 (by omega)
  have r1 := r1.kept oi g15 (by omega)
  have B15 := below_mark B14 oi g15 (by omega) (by omega)
  have sz15 := g15.size
  clear oi
  have oi := oim
  clear oim
  go_wp2_with fail
  refine (held_in oi (by omega) (by omega) (by omega)).mono ?_
  rintro e w16 ⟨rfl, b16⟩
  have p0 := p0.below b16
  have p1 := p1.below b16
  have os := os.below b16
  have q0 := q0.below b16
  have q1 := q1.below b16
  have oi := oi.below b16
  have r0 := r0.below b16
  have r1 := r1.below b16
  have sz16 := b16.size
  have B16 := below_tt B15 b16
  go_wp2_with fail
  refine (toSpanS_any _ xs _ (hR0.below B16) (by omega)).mono ?_
  rintro e w17 ⟨rfl, s0, b17⟩
  have p0 := p0.below b17
  have p1 := p1.below b17
  have os := os.below b17
  have q0 := q0.below b17
  have q1 := q1.below b17
  have oi := oi.below b17
  have r0 := r0.below b17
  have r1 := r1.below b17
  have sz17 := b17.size
  have s0 := OwnIn.mk' s0
  have B17 := below_tt B16 b17
  go_wp2_with fail
  refine (toSpanS_any _ ys _ (hR1.below B17) (by omega)).mono ?_
  rintro e w18 ⟨rfl, s1, b18⟩
  have p0 := p0.below b18
  have p1 := p1.below b18
  have os := os.below b18
  have q0 := q0.below b18
  have q1 := q1.below b18
  have oi := oi.below b18
  have r0 := r0.below b18
  have r1 := r1.below b18
  have s0 := s0.below b18
  have sz18 := b18.size
  have s1 := OwnIn.mk' s1
  have B18 := below_tt B17 b18
  go_wp2_with fail
  refine (iUnite_any _ _ xs ys _ s0.1.rs2 s1.1.rs2 (by omega) (by omega)).mono ?_
  rintro e w19 ⟨vh, rfl, oh, b19⟩
  have p0 := p0.below b19
  have p1 := p1.below b19
  have os := os.below b19
  have q0 := q0.below b19
  have q1 := q1.below b19
  have oi := oi.below b19
  have r0 := r0.below b19
  have r1 := r1.below b19
  have s0 := s0.below b19
  have s1 := s1.below b19
  have sz19 := b19.size
  have oh := OwnIn.mk' oh
  have B19 := below_tt B18 b19
  go_wp2_with fail
  refine (eqSpanS_any _ _ (uniteR xs ys).1 (uniteR xs ys).1 _ oh.rs os.rs (by omega) (by omega)).mono ?_
  rintro e w20 ⟨rfl, b20⟩
  have p0 := p0.below b20
  have p1 := p1.below b20
  have os := os.below b20
  have q0 := q0.below b20
  have q1 := q1.below b20
  have oi := oi.below b20
  have r0 := r0.below b20
  have r1 := r1.below b20
  have s0 := s0.below b20
  have s1 := s1.below b20
  have oh := oh.below b20
  have sz20 := b20.size
  have B20 := below_tt B19 b20
  rw [decide_eq_true (rfl : (uniteR xs ys).1 = (uniteR xs ys).1)]
  go_wp2_with fail
  refine (held_in oi (by omega) (by omega) (by omega)).mono ?_
  rintro e w21 ⟨rfl, b21⟩
  have p0 := p0.below b21
  have p1 := p1.below b21
  have os := os.below b21
  have q0 := q0.below b21
  have q1 := q1.below b21
  have oi := oi.below b21
  have r0 := r0.below b21
  have r1 := r1.below b21
  have s0 := s0.below b21
  have s1 := s1.below b21
  have oh := oh.below b21
  have sz21 := b21.size
  have B21 := below_tt B20 b21
  go_wp2
  go_ret
  exact ⟨rfl, B21⟩
end Go.Proofs.Ytnpbgcckbohmfaa
