/- The walk of the law FnExactReadSet. -/
import Derived.Test.YtpinngcdojbndaaDoorRead3
import Derived.Test.YtpinngcdojbndaaDoorOwn
namespace Go.Proofs.YtpinngcdojbndaaDoor
open Go.RowKit
set_option maxRecDepth 10000 in
set_option maxHeartbeats 4000000 in
theorem walk_FnExactReadSet {w : World} (hF : LF w) (s : ByteArray) (hs : s.size ≤ maxLen) : Calls Tryd.prog 3 #[.string s] w (Yes w) := by
  have hB := Below.refl w.heap.size w
  have hs' : s.size ≤ 9223372036854775807 := hs
  by_cases hb : 1048576 < s.size
  · have hd : decide ((1048576 : Int) < s.size) = true := decide_eq_true (by omega)
    go_enter Tryd.func3, Tryd.ntmps3
    go_wp2_with fail
    go_ret
    exact ⟨rfl, hB⟩
  have hd : decide ((1048576 : Int) < s.size) = false := decide_eq_false (by omega)
  have hlen := readR_len s.data.toList
  obtain ⟨RL, RE, hRR⟩ : ∃ RL RE, readR s.data.toList = (RL, RE) := ⟨_, _, rfl⟩
  rw [hRR] at hlen
  dsimp only at hlen
  have hRR := Lib.hid hRR
  go_enter Tryd.func3, Tryd.ntmps3
  go_wp2_with fail
  refine (specReadSet_any s _ (by omega)).mono ?_
  rintro e w1 ⟨vs, rfl, os, b1⟩
  rw [hRR.out] at os ⊢
  have sz1 := b1.size
  have os := OwnIn.mk' os
  have B1 := below_tt hB b1
  go_wp2_with fail
  refine (implReadSet_any (hF.below B1) s (by omega)).mono ?_
  rintro e w2 ⟨vi, rfl, oi, b2⟩
  rw [hRR.out] at oi ⊢
  have os := os.below b2
  have sz2 := b2.size
  have oi := OwnIn.mk' oi
  have B2 := below_tt B1 b2
  go_wp2_with fail
  refine (eqSpanS_any _ _ RL RL _ oi.rs os.rs (by omega) (by omega)).mono ?_
  rintro e w3 ⟨rfl, b3⟩
  have os := os.below b3
  have oi := oi.below b3
  have sz3 := b3.size
  have B3 := below_tt B2 b3
  rw [decide_eq_true (rfl : RL = RL)]
  go_wp2_with fail
  refine (mark_in oi (by omega) (by omega) (by omega)).mono ?_
  rintro e w4 ⟨rfl, oim, g4⟩
  have os := os.kept oi g4 (by omega)
  have B4 := below_mark B3 oi g4 (by omega) (by omega)
  have sz4 := g4.size
  clear oi
  have oi := oim
  clear oim
  go_wp2_with fail
  refine (held_in oi (by omega) (by omega) (by omega)).mono ?_
  rintro e w5 ⟨rfl, b5⟩
  have os := os.below b5
  have oi := oi.below b5
  have sz5 := b5.size
  have B5 := below_tt B4 b5
  go_wp2_with fail
  refine (implReadSet_any (hF.below B5) s (by omega)).mono ?_
  rintro e w6 ⟨vh, rfl, oh, b6⟩
  rw [hRR.out] at oh ⊢
  have os := os.below b6
  have oi := oi.below b6
  have sz6 := b6.size
  have oh := OwnIn.mk' oh
  have B6 := below_tt B5 b6
  go_wp2_with fail
  refine (eqSpanS_any _ _ RL RL _ oh.rs os.rs (by omega) (by omega)).mono ?_
  rintro e w7 ⟨rfl, b7⟩
  have os := os.below b7
  have oi := oi.below b7
  have oh := oh.below b7
  have sz7 := b7.size
  have B7 := below_tt B6 b7
  rw [decide_eq_true (rfl : RL = RL)]
  go_wp2_with fail
  refine (held_in oi (by omega) (by omega) (by omega)).mono ?_
  rintro e w8 ⟨rfl, b8⟩
  have os := os.below b8
  have oi := oi.below b8
  have oh := oh.below b8
  have sz8 := b8.size
  have B8 := below_tt B7 b8
  go_wp2
  go_ret
  exact ⟨rfl, B8⟩
end Go.Proofs.YtpinngcdojbndaaDoor
