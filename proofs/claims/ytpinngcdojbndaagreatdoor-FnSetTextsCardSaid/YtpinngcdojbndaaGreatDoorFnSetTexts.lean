/- The law FnSetTexts: a set and its text turn into each other, and a made set holds the ends of each span it was made of. -/
import Derived.Test.YtpinngcdojbndaaGreatDoorDrawU
import Derived.Test.YtpinngcdojbndaaGreatDoorSetTextL
import Derived.Test.YtpinngcdojbndaaGreatDoorRead3
import Derived.Test.YtpinngcdojbndaaGreatDoorLike
import Derived.Test.YtpinngcdojbndaaGreatDoorMake2
import Derived.Test.YtpinngcdojbndaaGreatDoorSets4
import Derived.Test.YtpinngcdojbndaaGreatDoorBytes
import Derived.Deep.DeepCutAuto
namespace Go.Proofs.YtpinngcdojbndaaGreatDoor
open Go.RowKit

theorem makeR_len (xs : List (Int × Int)) : (makeR xs).1.length ≤ 300 := by
  unfold makeR limR
  split
  · simp
  · split
    · simp
    · split
      · simp
      · simp only; omega

set_option maxRecDepth 10000 in
set_option maxHeartbeats 8000000 in
theorem walk_FnSetTexts {w : World} (hF : LF w) (v : Value) (n : Nat) (hR : RB w w.heap.size v n ∧ (n : Int) ≤ 9223372036854775807) : Calls Tryz.prog 3 #[v] w (Yes w) := by
  have hB := Below.refl w.heap.size w
  obtain ⟨hR, hn⟩ := hR
  obtain ⟨a, cap, hv⟩ := hR.val
  by_cases hbig : (4096 : Int) < n
  · have hbig' := Lib.hid (decide_eq_true hbig)
    subst hv
    go_enter Tryz.func3, Tryz.ntmps3
    go_wp2_with fail
    refine (big_any a n cap _ hn).mono ?_
    rintro e w' ⟨rfl, rfl⟩
    rw [hbig'.out]
    go_wp2
    go_ret
    exact ⟨rfl, hB⟩
  have hbig' := Lib.hid (decide_eq_false hbig)
  have hn2 : n ≤ 4096 := by omega
  subst hv
  go_enter Tryz.func3, Tryz.ntmps3
  go_wp2_with fail
  refine (big_any a n cap _ hn).mono ?_
  rintro e w' ⟨rfl, rfl⟩
  rw [hbig'.out]
  clear hbig hbig'
  go_wp2_with fail
  refine (drawSetText_any _ n _ hR hn2).mono ?_
  rintro e w1 ⟨va, xs, rfl, oa, hlx, b1⟩
  have oa := oa.rs
  have B1 := below_tt hB b1
  have hTs := setTextR_size xs
  obtain ⟨T, bad, hT⟩ : ∃ T bad, setTextR xs = (T, bad) := ⟨_, _, rfl⟩
  rw [hT] at hTs
  have hTs : T.size ≤ 10000 := hTs
  have hT := Lib.hid hT
  go_wp2_with fail
  refine (implSetText_any (hF.below B1).tab oa (by omega)).mono ?_
  rintro e w2 ⟨rfl, b2⟩
  rw [hT.out]
  have oa := oa.below b2
  have B2 := below_tt B1 b2
  go_wp2_with fail
  refine (specSetText_any _ xs _ oa (by omega)).mono ?_
  rintro e w3 ⟨rfl, b3⟩
  rw [hT.out]
  have oa := oa.below b3
  have B3 := below_tt B2 b3
  go_wp2_with fail
  refine (drawReadSet_any _ n _ ((hR.below B3).more B3.size) hn2).mono ?_
  rintro e w4 ⟨s, rfl, hs, b4⟩
  have oa := oa.below b4
  have B4 := below_tt B3 b4
  have hXl := readR_len s.data.toList
  obtain ⟨X, one, hX⟩ : ∃ X one, readR s.data.toList = (X, one) := ⟨_, _, rfl⟩
  rw [hX] at hXl
  have hXl : X.length ≤ 300 := hXl
  have hX := Lib.hid hX
  go_wp2_with fail
  refine (implReadSet_any (hF.below B4) s (by omega)).mono ?_
  rintro e w5 ⟨vx, rfl, ox, b5⟩
  rw [hX.out] at ox ⊢
  have ox := ox.rs
  have oa := oa.below b5
  have B5 := below_tt B4 b5
  go_wp2_with fail
  refine (specReadSet_any s _ (by omega)).mono ?_
  rintro e w6 ⟨vr, rfl, o9, b6⟩
  rw [hX.out] at o9 ⊢
  have o9 := o9.rs
  have oa := oa.below b6
  have ox := ox.below b6
  have B6 := below_tt B5 b6
  go_wp2_with fail
  refine (drawMakeSet_any _ n _ ((hR.below B6).more B6.size) hn2).mono ?_
  rintro e w7 ⟨vp, ys, rfl, op, hly, b7⟩
  have op := op.rs2
  have oa := oa.below b7
  have ox := ox.below b7
  have o9 := o9.below b7
  have B7 := below_tt B6 b7
  have hMl := makeR_len ys
  obtain ⟨M, three, hM⟩ : ∃ M three, makeR ys = (M, three) := ⟨_, _, rfl⟩
  rw [hM] at hMl
  have hMl : M.length ≤ 300 := hMl
  have hM := Lib.hid hM
  go_wp2_with fail
  refine (iMake_any _ ys _ op (by omega)).mono ?_
  rintro e w8 ⟨vm, rfl, om, b8⟩
  rw [hM.out] at om ⊢
  have om := om.rs
  have oa := oa.below b8
  have ox := ox.below b8
  have o9 := o9.below b8
  have op := op.below b8
  have B8 := below_tt B7 b8
  go_wp2_with fail
  refine (sMake_any _ ys _ op (by omega)).mono ?_
  rintro e w9 ⟨vd, rfl, od, b9⟩
  rw [hM.out] at od ⊢
  have od := od.rs
  have op := op.rs
  have oa := oa.below b9
  have ox := ox.below b9
  have o9 := o9.below b9
  have op := op.below b9
  have om := om.below b9
  have B9 := below_tt B8 b9
  clear B1 B2 B3 B4 B5 B6 B7 B8 b1 b2 b3 b4 b5 b6 b7 b8 b9
  go_upto_region 12 with fail
  go_cut [94] from 65 (fun s94 wx => s94 = .bool false ∧ RS wx va xs ∧ RS wx vx X ∧ RS wx vp ys ∧ RS wx vm M ∧ Below w.heap.size w wx)
  case first =>
    go_wp2_with fail
    refine (likeSpans9_any _ _ X X _ ox o9 (by omega) (by omega)).mono ?_
    rintro e w10 ⟨rfl, b10⟩
    rw [decide_eq_true (rfl : X = X)]
    have oa := oa.below b10
    have ox := ox.below b10
    have op := op.below b10
    have om := om.below b10
    have od := od.below b10
    have B10 := below_tt B9 b10
    go_wp2_with fail
    refine (likeSpans9_any _ _ M M _ om od (by omega) (by omega)).mono ?_
    rintro e w11 ⟨rfl, b11⟩
    rw [decide_eq_true (rfl : M = M)]
    have oa := oa.below b11
    have ox := ox.below b11
    have op := op.below b11
    have om := om.below b11
    have B11 := below_tt B10 b11
    go_wp2_with fail
    go_meet
    exact ⟨rfl, oa, ox, op, om, B11⟩
  clear oa ox o9 op om od B9
  obtain ⟨rfl, oa, ox, op, om, BC⟩ := hcut
  go_upto_if 96 with fail
  go_cut [18, 19] from 97 (fun s18 s19 wx => RS wx va xs ∧ RS wx vp ys ∧ RS wx vm M ∧ Below w.heap.size w wx)
  case first =>
    by_cases z1 : one = 0
    · have hback := Lib.hid (read_text hX.out z1)
      subst z1
      go_wp2_with fail
      refine (implSetText_any (hF.below BC).tab ox (by omega)).mono ?_
      rintro e w12 ⟨rfl, b12⟩
      rw [hback.out]
      have oa := oa.below b12
      have op := op.below b12
      have om := om.below b12
      have B12 := below_tt BC b12
      go_wp2_with fail
      go_meet
      exact ⟨oa, op, om, B12⟩
    · have d2 : (one == 0) = false := by simpa using z1
      have d3 : decide (one = 0) = false := decide_eq_false z1
      go_wp2_with fail
      go_meet
      exact ⟨oa, op, om, BC⟩
  clear oa ox op om BC
  obtain ⟨oa, op, om, BC⟩ := hcut
  go_wp2_with fail
  go_loopw [20] (fun s20 wr => ∃ k : Nat, k ≤ ys.length ∧ s20 = .int .i64 k ∧ RS wr va xs ∧ RS wr vp ys ∧ RS wr vm M ∧ Below w.heap.size w wr) (fun s20 _ => ys.length - (intOf s20).toNat)
  case atStart => exact ⟨0, by omega, by simp, oa, op, om, BC⟩
  case round =>
    clear oa op om BC
    obtain ⟨j, hj, rfl, oa, op, om, hB⟩ := hrel
    obtain ⟨ar, cr, hvp⟩ := op.val
    go_upto_region 19 with fail
    go_cut [116] from 109 to 116 (fun s116 wx => s116 = .bool (decide (three = 0 ∧ j < ys.length)) ∧ wr = wx)
    case first =>
      subst hvp
      by_cases z1 : three = 0
      · subst z1
        by_cases hlt : j < ys.length
        · have d1 : decide ((j : Int) < (ys.length : Int)) = true := decide_eq_true (by omega)
          go_wp2_with fail
          go_meet
          exact ⟨by simp [hlt], rfl⟩
        · have d1 : decide ((j : Int) < (ys.length : Int)) = false := decide_eq_false (by omega)
          go_wp2_with fail
          go_meet
          exact ⟨by simp [hlt], rfl⟩
      · have d2 : (three == 0) = false := by simpa using z1
        have d3 : decide (three = 0) = false := decide_eq_false z1
        go_wp2_with fail
        go_meet
        exact ⟨by simp [z1], rfl⟩
    obtain ⟨rfl, rfl⟩ := hcut
    by_cases hgo : three = 0 ∧ j < ys.length
    · rw [decide_eq_true hgo]
      obtain ⟨z3, hlt⟩ := hgo
      obtain ⟨q1, q2⟩ := made_has hM.out z3 j hlt
      clear z3
      have q1 := Lib.hid q1
      have q2 := Lib.hid q2
      rcases op with ⟨h0, _⟩ | ⟨b0, off, cap0, hvp0, hbb, hs9⟩
      · rw [h0] at hlt; exact absurd hlt (by simp)
      have op : RS wr vp ys := Or.inr ⟨b0, off, cap0, hvp0, hbb, hs9⟩
      subst hvp0
      clear hvp
      obtain ⟨c0, c1⟩ := hs9 j hlt
      clear hs9
      obtain ⟨P, hP⟩ : ∃ P, (gS ys j).1 = P := ⟨_, rfl⟩
      obtain ⟨Q, hQ⟩ : ∃ Q, (gS ys j).2 = Q := ⟨_, rfl⟩
      rw [hP] at c0 q1
      rw [hQ] at c1 q2
      clear hP hQ
      go_wp2_with fail
      refine (iHasDay_any vm M P _ om (by omega)).mono ?_
      rintro e w21 ⟨rfl, b21⟩
      rw [q1.out]
      have oa := oa.below b21
      have op := op.below b21
      have om := om.below b21
      have c21 := (b21.cell (p := ⟨b0, off + j * 2 + 1, none⟩) hbb).trans c1
      have hB := below_tt hB b21
      go_wp2_with fail
      refine (iHasDay_any vm M Q _ om (by omega)).mono ?_
      rintro e w22 ⟨rfl, b22⟩
      rw [q2.out]
      have oa := oa.below b22
      have op := op.below b22
      have om := om.below b22
      have hB := below_tt hB b22
      go_wp2_with fail
      go_roundw
      case rel => exact ⟨j + 1, by omega, by simp, oa, op, om, hB⟩
      case measure => simp [intOf]; omega
    · rw [decide_eq_false hgo]
      clear hgo hvp op om
      by_cases zb : bad = 0
      case neg =>
        have d2 : (bad == 0) = false := by simpa using zb
        have d3 : decide (bad = 0) = false := decide_eq_false zb
        go_wp2_with fail
        go_ret
        exact ⟨rfl, hB⟩
      have hback := Lib.hid (text_read hT.out zb)
      subst zb
      go_wp2_with fail
      refine (implReadSet_any (hF.below hB) T (by omega)).mono ?_
      rintro e w31 ⟨vb, rfl, ob, b31⟩
      rw [hback.out] at ob ⊢
      have ob := ob.rs
      have oa := oa.below b31
      have B31 := below_tt hB b31
      go_wp2_with fail
      refine (likeSpans9_any _ _ xs xs _ ob oa (by omega) (by omega)).mono ?_
      rintro e w32 ⟨rfl, b32⟩
      rw [decide_eq_true (rfl : xs = xs)]
      have B32 := below_tt B31 b32
      go_wp2_with fail
      go_ret
      exact ⟨rfl, B32⟩
end Go.Proofs.YtpinngcdojbndaaGreatDoor
