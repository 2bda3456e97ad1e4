/- The walk of the law FnExactSetText. -/
import Derived.Test.YtpinngcdojbndaaDoorDoorT
namespace Go.Proofs.YtpinngcdojbndaaDoor
open Go.RowKit
set_option maxHeartbeats 1000000 in
theorem walk_FnExactSetText {w : World} (hT : Tab w) (v : Value) (xs : List (Int × Int)) (hR : RS w v xs ∧ (xs.length : Int) ≤ 9223372036854775807) : Calls Tryd.prog 4 #[v] w (Yes w) := by
  have hB := Below.refl w.heap.size w
  obtain ⟨hR, hlen⟩ := hR
  obtain ⟨a, cap, hv⟩ := hR.val
  by_cases hbig : (xs.length : Int) > 1048576
  · subst hv
    go_enter Tryd.func4, Tryd.ntmps4
    go_wp2
    go_ret
    exact ⟨rfl, hB⟩
  · have hl2 : xs.length ≤ 2000000 := by omega
    have hl4 : xs.length ≤ 4000000000000 := by omega
    obtain ⟨S, ec, hS⟩ : ∃ S ec, setTextR xs = (S, ec) := ⟨_, _, rfl⟩
    have hS2 := Lib.hid hS
    clear hS
    go_enter Tryd.func4, Tryd.ntmps4
    subst hv
    go_wp2_with (go_at_call 10; refine (szSpanS_any _ _ _ _ _ (by omega) (by omega) (by omega)).mono ?_; rintro e w' ⟨rfl, rfl⟩)
    refine (toSpanS_any _ xs _ hR hl2).mono ?_
    rintro e w1 ⟨rfl, o1, b1⟩
    go_wp2_with fail
    refine (specSetText_any _ xs _ o1.rs (by omega)).mono ?_
    rintro e w2 ⟨rfl, b2⟩
    rw [hS2.out]
    have B2 := below_tt b1 b2
    go_wp2_with fail
    refine (toSpanS_any _ xs _ (hR.below B2) hl2).mono ?_
    rintro e w3 ⟨rfl, o3, b3⟩
    have B3 := below_tt B2 b3
    go_wp2_with fail
    refine (implSetText_any (hT.below B3) o3.rs (by omega)).mono ?_
    rintro e w4 ⟨rfl, b4⟩
    rw [hS2.out]
    have B4 := below_tt B3 b4
    have o4 := o3.below b4
    go_wp2_with fail
    refine (toSpanS_any _ xs _ (hR.below B4) hl2).mono ?_
    rintro e w5 ⟨rfl, o5, b5⟩
    have B5 := below_tt B4 b5
    have o45 := o4.below b5
    go_wp2_with fail
    refine (eqSpanS_any _ _ xs xs _ o45.rs o5.rs hl4 hl4).mono ?_
    rintro e w6 ⟨rfl, b6⟩
    have B6 := below_tt B5 b6
    go_wp2
    go_ret
    exact ⟨rfl, B6⟩
end Go.Proofs.YtpinngcdojbndaaDoor
