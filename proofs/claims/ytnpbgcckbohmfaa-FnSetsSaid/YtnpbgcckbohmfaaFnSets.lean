/- The law FnSets: days of a union and of a meeting are counted together as those of both sets. -/
import Derived.Test.YtnpbgcckbohmfaaSetLaw
import Derived.Test.YtnpbgcckbohmfaaDraw2
import Derived.Test.YtnpbgcckbohmfaaLike
import Derived.Test.YtnpbgcckbohmfaaBytes
import Derived.Test.YtnpbgcckbohmfaaSets3
import Derived.Test.YtnpbgcckbohmfaaMake3
namespace Go.Proofs.Ytnpbgcckbohmfaa
open Go.RowKit

set_option maxHeartbeats 1000000 in
theorem drawUniteSets_any (v : Value) (n : Nat) (w : World) (h : RB w w.heap.size v n) (hn : n ≤ 4096) :
    Calls Try.prog 45 #[v] w fun e w' => ∃ va vb xs ys, e = .returned (.tuple #[va, vb]) ∧ OwnS w' w.heap.size va xs ∧ OwnS w' w.heap.size vb ys ∧ (xs.length ≤ 1000 ∧ ys.length ≤ 1000) ∧ Below w.heap.size w w' := by
  go_enter Try.func45, Try.ntmps45
  go_wp2_with fail
  refine (l01From_any v n _ h (by omega)).mono ?_
  rintro e w1 ⟨rfl, hS, hB⟩
  go_wp2_with fail
  refine (l02DrawPair_any hS (by omega)).mono ?_
  rintro e w2 ⟨va, vb, xs, ys, rfl, o1, o2, hl, hS2, hG⟩
  go_wp2
  go_ret2
  exact ⟨va, vb, xs, ys, rfl, o1.more hB.size, o2.more hB.size, hl, below_gb hB hG hB.size (Nat.le_refl _)⟩

theorem limR_ok {L : List (Int × Int)} (h : (limR L).2 = 0) : L.length ≤ 300 ∧ limR L = (L, 0) := by
  unfold limR at h ⊢
  split at h
  · simp at h
  · rename_i h1
    rw [if_neg h1]
    exact ⟨by omega, rfl⟩
theorem unR_ok {xs ys : List (Int × Int)} (h : (uniteR xs ys).2 = 0) : isSet xs = true ∧ isSet ys = true ∧ (uniteL (xs ++ ys)).length ≤ 300 ∧ uniteR xs ys = (uniteL (xs ++ ys), 0) := by
  unfold uniteR at h ⊢
  cases hx : isSet xs <;> cases hy : isSet ys <;> simp [hx, hy] at h ⊢
  exact limR_ok h
theorem meR_ok {xs ys : List (Int × Int)} (hx : isSet xs = true) (hy : isSet ys = true) (h : (meetR xs ys).2 = 0) : (meetL xs ys).length ≤ 300 ∧ meetR xs ys = (meetL xs ys, 0) := by
  unfold meetR at h ⊢
  simp [hx, hy] at h ⊢
  exact limR_ok h
theorem woR_ok {xs ys : List (Int × Int)} (hx : isSet xs = true) (hy : isSet ys = true) (h : (withoutR xs ys).2 = 0) : (meetL xs (restF 0 ys)).length ≤ 300 ∧ withoutR xs ys = (meetL xs (restF 0 ys), 0) := by
  unfold withoutR at h ⊢
  simp [hx, hy] at h ⊢
  exact limR_ok h
theorem count_of {xs : List (Int × Int)} (h : isSet xs = true) : countR xs = (sumTo xs xs.length, 0) := by simp [countR, h]
theorem sum_bd {xs : List (Int × Int)} (h : isSet xs = true) : 0 ≤ sumTo xs xs.length ∧ sumTo xs xs.length ≤ 300 * 730500 := by
  obtain ⟨h1, h2⟩ := isSet_ok h
  have := sumTo_bd h2 xs.length (Nat.le_refl _)
  omega

set_option maxRecDepth 10000 in
set_option maxHeartbeats 4000000 in
theorem walk_FnSets (v : Value) (n : Nat) {w : World} (hR : RB w w.heap.size v n ∧ (n : Int) ≤ 9223372036854775807) : Calls Try.prog 13 #[v] w (Yes w) := by
  have hB := Below.refl w.heap.size w
  obtain ⟨hR, hn⟩ := hR
  obtain ⟨a, cap, hv⟩ := hR.val
  by_cases hbig : (4096 : Int) < n
  · have hbig' := Lib.hid (decide_eq_true hbig)
    subst hv
    go_enter Try.func13, Try.ntmps13
    go_wp2_with fail
    refine (big_any a n cap _ hn).mono ?_
    rintro e w' ⟨rfl, rfl⟩
    rw [hbig'.out]
    go_wp2
    go_ret
    exact ⟨rfl, hB⟩
  · have hbig' := Lib.hid (decide_eq_false hbig)
    have hn2 : n ≤ 4096 := by omega
    subst hv
    go_enter Try.func13, Try.ntmps13
    go_wp2_with fail
    refine (big_any a n cap _ hn).mono ?_
    rintro e w' ⟨rfl, rfl⟩
    rw [hbig'.out]
    clear hbig hbig'
    go_wp2_with fail
    refine (drawUniteSets_any _ n _ hR hn2).mono ?_
    rintro e w1 ⟨va, vb, xs, ys, rfl, oa, ob, ⟨hlx, hly⟩, b1⟩
    have B1 := b1
    have ulen := uniteR_len xs ys
    have mlen := meetR_len xs ys
    have wlen := withoutR_len xs ys
    go_wp2_with fail
    refine (iUnite_any va vb xs ys _ oa.rs2 ob.rs2 (by omega) (by omega)).mono ?_
    rintro e w2 ⟨vu, rfl, ou, b2⟩
    have oa := oa.below b2; have ob := ob.below b2; have B2 := below_tt B1 b2
    go_wp2_with fail
    refine (sUnite_any va vb xs ys _ oa.rs2 ob.rs2 (by omega) (by omega)).mono ?_
    rintro e w3 ⟨vu2, rfl, ou2, b3⟩
    have oa := oa.below b3; have ob := ob.below b3; have B3 := below_tt B2 b3; have ou := ou.below b3
    go_wp2_with fail
    refine (iMeet_any va vb xs ys _ oa.rs ob.rs (by omega) (by omega)).mono ?_
    rintro e w4 ⟨vm, rfl, om, b4⟩
    have oa := oa.below b4; have ob := ob.below b4; have B4 := below_tt B3 b4; have ou := ou.below b4; have ou2 := ou2.below b4
    go_wp2_with fail
    refine (sMeet_any va vb xs ys _ oa.rs ob.rs (by omega) (by omega)).mono ?_
    rintro e w5 ⟨vm2, rfl, om2, b5⟩
    have oa := oa.below b5; have ob := ob.below b5; have B5 := below_tt B4 b5; have ou := ou.below b5; have ou2 := ou2.below b5; have om := om.below b5
    go_wp2_with fail
    refine (iWithout_any va vb xs ys _ oa.rs ob.rs (by omega) (by omega)).mono ?_
    rintro e w6 ⟨vw, rfl, ow, b6⟩
    have oa := oa.below b6; have ob := ob.below b6; have B6 := below_tt B5 b6; have ou := ou.below b6; have ou2 := ou2.below b6; have om := om.below b6; have om2 := om2.below b6
    go_wp2_with fail
    refine (sWithout_any va vb xs ys _ oa.rs ob.rs (by omega) (by omega)).mono ?_
    rintro e w7 ⟨vw2, rfl, ow2, b7⟩
    have oa := oa.below b7; have ob := ob.below b7; have B7 := below_tt B6 b7; have ou := ou.below b7; have ou2 := ou2.below b7; have om := om.below b7; have om2 := om2.below b7; have ow := ow.below b7
    go_wp2_with fail
    refine (likeSpans9_any vu vu2 (uniteR xs ys).1 (uniteR xs ys).1 _ ou.rs ou2.rs (by omega) (by omega)).mono ?_
    rintro e w8 ⟨rfl, b8⟩
    rw [decide_eq_true (rfl : (uniteR xs ys).1 = (uniteR xs ys).1)]
    have oa := oa.below b8; have ob := ob.below b8; have B8 := below_tt B7 b8; have ou := ou.below b8; have om := om.below b8; have om2 := om2.below b8; have ow := ow.below b8; have ow2 := ow2.below b8
    go_wp2_with fail
    refine (likeSpans9_any vm vm2 (meetR xs ys).1 (meetR xs ys).1 _ om.rs om2.rs (by omega) (by omega)).mono ?_
    rintro e w9 ⟨rfl, b9⟩
    rw [decide_eq_true (rfl : (meetR xs ys).1 = (meetR xs ys).1)]
    have oa := oa.below b9; have ob := ob.below b9; have B9 := below_tt B8 b9; have ou := ou.below b9; have om := om.below b9; have ow := ow.below b9; have ow2 := ow2.below b9
    go_wp2_with fail
    refine (likeSpans9_any vw vw2 (withoutR xs ys).1 (withoutR xs ys).1 _ ow.rs ow2.rs (by omega) (by omega)).mono ?_
    rintro e w10 ⟨rfl, b10⟩
    rw [decide_eq_true (rfl : (withoutR xs ys).1 = (withoutR xs ys).1)]
    have oa := oa.below b10; have ob := ob.below b10; have B10 := below_tt B9 b10; have ou := ou.below b10; have om := om.below b10; have ow := ow.below b10
    clear ou2 om2 ow2
    go_wp2_with fail
    refine (iIsSet_any va xs _ oa.rs (by omega)).mono ?_
    rintro e w11 ⟨rfl, b11⟩
    have oa := oa.below b11; have ob := ob.below b11; have B11 := below_tt B10 b11; have ou := ou.below b11; have om := om.below b11; have ow := ow.below b11
    go_wp2_with fail
    refine (sIsSet_any va xs _ oa.rs (by omega)).mono ?_
    rintro e w12 ⟨rfl, b12⟩
    have oa := oa.below b12; have ob := ob.below b12; have B12 := below_tt B11 b12; have ou := ou.below b12; have om := om.below b12; have ow := ow.below b12
    have hne : (isSet xs != isSet xs) = false := by simp
    by_cases hu : (uniteR xs ys).2 = 0
    · obtain ⟨sx, sy, ul, hu2⟩ := unR_ok hu
      by_cases hm : (meetR xs ys).2 = 0
      · obtain ⟨ml, hm2⟩ := meR_ok sx sy hm
        by_cases hw : (withoutR xs ys).2 = 0
        · obtain ⟨wl, hw2⟩ := woR_ok sx sy hw
          obtain ⟨su, sm, sw, e1, e2⟩ := sets_law sx sy ul ml wl
          rw [hu2] at ou
          rw [hm2] at om
          rw [hw2] at ow
          have hu3 := Lib.hid hu2
          have hm3 := Lib.hid hm2
          have hw3 := Lib.hid hw2
          have cx := Lib.hid (count_of sx)
          have cy := Lib.hid (count_of sy)
          have cu := Lib.hid (count_of su)
          have cm := Lib.hid (count_of sm)
          have cw := Lib.hid (count_of sw)
          have dx := sum_bd sx
          have dy := sum_bd sy
          have du := sum_bd su
          have dm := sum_bd sm
          have dw := sum_bd sw
          have su' := Lib.hid su
          have sm' := Lib.hid sm
          have sw' := Lib.hid sw
          clear hu hm hw hu2 hm2 hw2 su sm sw sx sy ulen mlen wlen
          rw [hu3.out, hm3.out, hw3.out]
          go_wp2_with fail
          refine (iCountDays_any va xs _ oa.rs (by omega)).mono ?_
          rintro e w13 ⟨rfl, b13⟩
          rw [cx.out]
          have ob := ob.below b13; have B13 := below_tt B12 b13; have ou := ou.below b13; have om := om.below b13; have ow := ow.below b13
          go_wp2_with fail
          refine (iCountDays_any vb ys _ ob.rs (by omega)).mono ?_
          rintro e w14 ⟨rfl, b14⟩
          rw [cy.out]
          have B14 := below_tt B13 b14; have ou := ou.below b14; have om := om.below b14; have ow := ow.below b14
          go_wp2_with fail
          refine (iCountDays_any vu _ _ ou.rs (by omega)).mono ?_
          rintro e w15 ⟨rfl, b15⟩
          rw [cu.out]
          have B15 := below_tt B14 b15; have ou := ou.below b15; have om := om.below b15; have ow := ow.below b15
          go_wp2_with fail
          refine (iCountDays_any vm _ _ om.rs (by omega)).mono ?_
          rintro e w16 ⟨rfl, b16⟩
          rw [cm.out]
          have B16 := below_tt B15 b16; have ou := ou.below b16; have om := om.below b16; have ow := ow.below b16
          go_wp2_with fail
          refine (iCountDays_any vw _ _ ow.rs (by omega)).mono ?_
          rintro e w17 ⟨rfl, b17⟩
          rw [cw.out]
          have B17 := below_tt B16 b17; have ou := ou.below b17; have om := om.below b17; have ow := ow.below b17
          go_wp2_with fail
          refine (iIsSet_any vu _ _ ou.rs (by omega)).mono ?_
          rintro e w18 ⟨rfl, b18⟩
          rw [su'.out]
          have B18 := below_tt B17 b18; have om := om.below b18; have ow := ow.below b18
          go_wp2_with fail
          refine (iIsSet_any vm _ _ om.rs (by omega)).mono ?_
          rintro e w19 ⟨rfl, b19⟩
          rw [sm'.out]
          have B19 := below_tt B18 b19; have ow := ow.below b19
          go_wp2_with fail
          refine (iIsSet_any vw _ _ ow.rs (by omega)).mono ?_
          rintro e w20 ⟨rfl, b20⟩
          rw [sw'.out]
          have B20 := below_tt B19 b20
          go_wp2_with fail
          go_ret
          exact ⟨rfl, B20⟩
        · go_wp2_with fail
          go_ret
          exact ⟨rfl, B12⟩
      · go_wp2_with fail
        go_ret
        exact ⟨rfl, B12⟩
    · go_wp2_with fail
      go_ret
      exact ⟨rfl, B12⟩
end Go.Proofs.Ytnpbgcckbohmfaa
