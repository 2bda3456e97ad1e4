/- The law FnFeasts: a weekday behind or before a feast is at most seven days from it, and feasts that are told fall on their day. -/
import Derived.Test.YtnjfpipadfcapaaDoorDrawF
import Derived.Test.YtnjfpipadfcapaaDoorOn
import Derived.Test.YtnjfpipadfcapaaDoorRel
import Derived.Test.YtnjfpipadfcapaaDoorOne
import Derived.Test.YtnjfpipadfcapaaDoorLoc2
import Derived.Deep.DeepCutAuto
namespace Go.Proofs.YtnjfpipadfcapaaDoor
open Go.RowKit

theorem idx_nm : ∀ k : Fin 20, idxN (nms.getD k.1 ByteArray.empty) = (k.1 : Int) := by decide +kernel
theorem idx_none : idxN ByteArray.empty = -1 := by decide +kernel
theorem nm_full : ∀ k : Fin 20, ¬ (nms.getD k.1 ByteArray.empty).toList = [] := by decide +kernel
/-- The name of a number: empty, or one of a feast that is found again. -/
theorem name_back (k : Int) : (inR k 0 19 = false ∧ nmF k = ByteArray.empty ∧ namedR ByteArray.empty = (0, false)) ∨ (inR k 0 19 = true ∧ ¬ (nmF k).toList = [] ∧ namedR (nmF k) = (k, true)) := by
  cases h : inR k 0 19
  · exact Or.inl ⟨rfl, nmF_no h, by unfold namedR; rw [idx_none]; rfl⟩
  · obtain ⟨h1, h2⟩ := inR_t h
    obtain ⟨j, rfl⟩ : ∃ j : Nat, k = j := ⟨k.toNat, by omega⟩
    have hj : j < 20 := by omega
    rw [nmF_nat j hj]
    refine Or.inr ⟨rfl, nm_full ⟨j, hj⟩, ?_⟩
    have := idx_nm ⟨j, hj⟩
    dsimp only at this
    unfold namedR
    rw [this, if_neg (by omega)]
theorem rel_facts {f r d y n e : Int} (h : relR f r d y = (n, e)) (he : e = 0) : ∃ F, 0 ≤ F ∧ F ≤ 730499 ∧ feastR f y = (F, 0) ∧ weekR n = ((n + 5) % 7, 0) ∧
    ((r = 0 ∧ n = F) ∨ (r = 1 ∧ n = F - 1) ∨ (r = 2 ∧ n = F + 7) ∨ (r = 3 ∧ F < n ∧ n ≤ F + 7 ∧ (n + 5) % 7 = d) ∨ (r = 4 ∧ n < F ∧ F - 7 ≤ n ∧ (n + 5) % 7 = d)) := by
  subst he
  unfold relR at h
  split at h
  · rename_i hc
    obtain ⟨hb, hy⟩ := hc
    split at h
    · rename_i hn
      injection h with h _
      obtain ⟨hf, hr2⟩ := relB_t hb
      have q := relB2_t hr2
      have five := relI_five f r d y
      rw [h] at five hn
      have kf := inR_t hf
      have ky := inR_t hy
      have kd := feast_day kf.1 kf.2 ky.1 ky.2
      refine ⟨feastI f y, kd.1, kd.2, by unfold feastR; rw [if_pos ⟨hf, hy⟩], by unfold weekR; rw [if_pos hn], ?_⟩
      generalize feastI f y = F at five ⊢
      obtain ⟨a1, a2, a3, a4, a0⟩ := five
      obtain ⟨q1, q2, q3, q4, _⟩ := q
      rcases (show r = 0 ∨ r = 1 ∨ r = 2 ∨ r = 3 ∨ r = 4 by omega) with rfl | rfl | rfl | rfl | rfl
      · exact Or.inl ⟨rfl, a0 (by omega)⟩
      · exact Or.inr (Or.inl ⟨rfl, a1 rfl⟩)
      · exact Or.inr (Or.inr (Or.inl ⟨rfl, a2 rfl⟩))
      · have := a3 rfl
        exact Or.inr (Or.inr (Or.inr (Or.inl ⟨rfl, by omega, by omega, by omega⟩)))
      · have := a4 rfl
        exact Or.inr (Or.inr (Or.inr (Or.inr ⟨rfl, by omega, by omega, by omega⟩)))
    · simp at h
  · simp at h
theorem on_ways (n : Int) : ∃ l e, onR n = (l, e) ∧ l.length ≤ 20 ∧ (e = 0 → ∃ y m d, odateR n = ((y, m, d), 0) ∧ ∀ i, i < l.length → feastR (gI l i) y = (n, 0)) := by
  cases h : inR n 0 730499
  · exact ⟨[], 2, onR_f h, by simp, fun h => by simp at h⟩
  · obtain ⟨h1, h2⟩ := inR_t h
    have hy := dat_yr h1 h2
    refine ⟨onN n, 0, onR_t h, onN_len n, fun _ => ⟨(dat n false).1, (dat n false).2.1, (dat n false).2.2, by unfold odateR; rw [if_pos h], fun i hi => ?_⟩⟩
    have hm : gI (onN n) i ∈ onN n := by
      unfold gI
      simp only [List.getD_eq_getElem?_getD, List.getElem?_eq_getElem hi, Option.getD_some]; exact List.getElem_mem hi
    have hx := (onL_mem n (dat n false).1 (gI (onN n) i) 20).1 hm
    unfold feastR
    rw [if_pos ⟨inR_mk hx.1 (by omega), inR_mk hy.1 hy.2⟩, hx.2.2]

set_option maxRecDepth 10000 in
set_option maxHeartbeats 8000000 in
theorem walk_FnFeasts {w : World} {m : Int} (hm : w.cell? ⟨0, 0, none⟩ = some (.int .i64 m)) (v : Value) (n : Nat) (hR : RB w w.heap.size v n ∧ (n : Int) ≤ 9223372036854775807) : Calls Tryd.prog 5 #[v] w (Yes w) := by
  have hM : ML w m := ⟨hm⟩
  clear hm
  have hB := Below.refl w.heap.size w
  obtain ⟨hR, hn⟩ := hR
  obtain ⟨a, cap, hv⟩ := hR.val
  by_cases hbig : (4096 : Int) < n
  · have hbig' := Lib.hid (decide_eq_true hbig)
    subst hv
    go_enter Tryd.func5, Tryd.ntmps5
    go_wp2_with fail
    refine (big_any a n cap _ hn).mono ?_
    rintro e w' ⟨rfl, rfl⟩
    rw [hbig'.out]
    go_wp2
    go_ret
    exact ⟨rfl, hB⟩
  have hbig' := Lib.hid (decide_eq_false hbig)
  have hn2 : n ≤ 4096 := by omega
  subst hv
  go_enter Tryd.func5, Tryd.ntmps5
  go_wp2_with fail
  refine (big_any a n cap _ hn).mono ?_
  rintro e w' ⟨rfl, rfl⟩
  rw [hbig'.out]
  clear hbig hbig'
  go_wp2_with fail
  refine (drawRelatedDay_any _ n _ hR hn2).mono ?_
  rintro e w1 ⟨f, r, dd, y, rfl, b1⟩
  have B1 := below_tt hB b1
  obtain ⟨N, bad, hN⟩ : ∃ N bad, relR f r dd y = (N, bad) := ⟨_, _, rfl⟩
  have hN := Lib.hid hN
  go_wp2_with fail
  refine (implRelatedDay_any f r dd y _).mono ?_
  rintro e w2 ⟨rfl, b2⟩
  rw [hN.out]
  have B2 := below_tt B1 b2
  go_wp2_with fail
  refine (specRelatedDay_any f r dd y _).mono ?_
  rintro e w3 ⟨rfl, b3⟩
  rw [hN.out]
  have B3 := below_tt B2 b3
  go_wp2_with fail
  refine (drawFeastsOn_any _ n _ ((hR.below B3).more B3.size) hn2).mono ?_
  rintro e w4 ⟨day, rfl, hday, b4⟩
  have B4 := below_tt B3 b4
  obtain ⟨L, one, hL, hLl, hLf⟩ := on_ways day
  have hL := Lib.hid hL
  have hLf := Lib.hid hLf
  go_wp2_with fail
  refine (implFeastsOn_any day _).mono ?_
  rintro e w5 ⟨vi, rfl, oi, b5⟩
  rw [hL.out] at oi ⊢
  have oi := oi.rs
  have B5 := below_tt B4 b5
  go_wp2_with fail
  refine (specFeastsOn_any day _).mono ?_
  rintro e w6 ⟨vs, rfl, os, b6⟩
  rw [hL.out] at os ⊢
  have os := os.rs
  have oi := oi.below b6
  have B6 := below_tt B5 b6
  go_wp2_with fail
  refine (drawFeastName_any _ n _ ((hR.below B6).more B6.size) hn2).mono ?_
  rintro e w7 ⟨k, rfl, hk, b7⟩
  have oi := oi.below b7
  have os := os.below b7
  have B7 := below_tt B6 b7
  obtain ⟨nm, hnm⟩ : ∃ nm, nmF k = nm := ⟨_, rfl⟩
  have hback := name_back k
  rw [hnm] at hback
  have hnm := Lib.hid hnm
  have hback := Lib.hid hback
  go_wp2_with fail
  refine (implFeastName_any (hM.below B7) k).mono ?_
  rintro e w8 ⟨rfl, b8⟩
  rw [hnm.out]
  have oi := oi.below b8
  have os := os.below b8
  have B8 := below_tt B7 b8
  obtain ⟨x, ok, hx⟩ : ∃ x ok, namedR nm = (x, ok) := ⟨_, _, rfl⟩
  have hxh := Lib.hid hx
  go_wp2_with fail
  refine (implFeastNamed_any (hM.below B8) nm).mono ?_
  rintro e w9 ⟨rfl, b9⟩
  rw [hxh.out]
  have oi := oi.below b9
  have os := os.below b9
  have B9 := below_tt B8 b9
  go_wp2_with fail
  refine (drawFeastNamed_any _ n _ ((hR.below B9).more B9.size) hn2).mono ?_
  rintro e w10 ⟨s, rfl, b10⟩
  have oi := oi.below b10
  have os := os.below b10
  have B10 := below_tt B9 b10
  obtain ⟨z, four, hz⟩ : ∃ z four, namedR s = (z, four) := ⟨_, _, rfl⟩
  have hzh := Lib.hid hz
  clear hz hx
  go_wp2_with fail
  refine (implFeastNamed_any (hM.below B10) s).mono ?_
  rintro e w11 ⟨rfl, b11⟩
  rw [hzh.out]
  have oi := oi.below b11
  have os := os.below b11
  have B11 := below_tt B10 b11
  go_wp2_with fail
  refine (specFeastNamed_any s _).mono ?_
  rintro e w12 ⟨rfl, b12⟩
  rw [hzh.out]
  have oi := oi.below b12
  have os := os.below b12
  have B12 := below_tt B11 b12
  go_upto_region 15 with fail
  go_cut [140] from 92 (fun s140 wx => s140 = .bool false ∧ RI wx vi L ∧ Below w.heap.size w wx)
  case first =>
    go_wp2_with fail
    refine (likeInts_any _ _ L L _ oi os (by omega) (by omega)).mono ?_
    rintro e w13 ⟨rfl, b13⟩
    rw [decide_eq_true (rfl : L = L)]
    have oi := oi.below b13
    have B13 := below_tt B12 b13
    clear os
    go_wp2_with fail
    refine (specFeastName_any k _).mono ?_
    rintro e w14 ⟨rfl, b14⟩
    rw [hnm.out]
    have oi := oi.below b14
    have B14 := below_tt B13 b14
    rcases hback.out with ⟨_, e1, e2⟩ | ⟨_, e1, e2⟩
    · subst e1
      have e3 := hxh.out.symm.trans e2
      injection e3 with e4 e5
      subst e4 e5
      go_wp2_with fail
      go_meet
      exact ⟨rfl, oi, B14⟩
    · have e3 := hxh.out.symm.trans e2
      injection e3 with e4 e5
      subst e4 e5
      go_wp2_with fail
      go_meet
      exact ⟨by simp [e1], oi, B14⟩
  clear oi os B12
  obtain ⟨rfl, oi, BC⟩ := hcut
  go_wp2_with fail
  go_loopw [25] (fun s25 wr => ∃ k : Nat, k ≤ L.length ∧ s25 = .int .i64 k ∧ RI wr vi L ∧ Below w.heap.size w wr) (fun s25 _ => L.length - (intOf s25).toNat)
  case atStart => exact ⟨0, by omega, by simp, oi, BC⟩
  case round =>
    clear oi BC
    obtain ⟨j, hj, rfl, ri, hB⟩ := hrel
    obtain ⟨ar, cr, hvi⟩ := ri.val
    go_upto_region 18 with fail
    go_cut [148] from 141 to 148 (fun s148 wx => s148 = .bool (decide (one = 0 ∧ j < L.length)) ∧ wr = wx)
    case first =>
      subst hvi
      by_cases z1 : one = 0
      · subst z1
        by_cases hlt : j < L.length
        · have d1 : decide ((j : Int) < (L.length : Int)) = true := decide_eq_true (by omega)
          go_wp2_with fail
          go_meet
          exact ⟨by simp [hlt], rfl⟩
        · have d1 : decide ((j : Int) < (L.length : Int)) = false := decide_eq_false (by omega)
          go_wp2_with fail
          go_meet
          exact ⟨by simp [hlt], rfl⟩
      · have d2 : (one == 0) = false := by simpa using z1
        have d3 : decide (one = 0) = false := decide_eq_false z1
        go_wp2_with fail
        go_meet
        exact ⟨by simp [z1], rfl⟩
    obtain ⟨rfl, rfl⟩ := hcut
    by_cases hgo : one = 0 ∧ j < L.length
    · rw [decide_eq_true hgo]
      obtain ⟨rfl, hlt⟩ := hgo
      obtain ⟨y0, m0, d0, hOD, hF⟩ := hLf.out rfl
      have hFj := Lib.hid (hF j hlt)
      have hOD := Lib.hid hOD
      clear hF
      rcases ri with ⟨h0, _⟩ | ⟨b0, off, cap0, hvi0, hbb, hs⟩
      · rw [h0] at hlt; exact absurd hlt (by simp)
      have ri : RI wr vi L := Or.inr ⟨b0, off, cap0, hvi0, hbb, hs⟩
      subst hvi0
      clear hvi
      have hcj := hs j hlt
      clear hs
      obtain ⟨X, hX⟩ : ∃ X, gI L j = X := ⟨_, rfl⟩
      rw [hX] at hFj hcj
      go_wp2_with fail
      refine (implOldDate_any day _).mono ?_
      rintro e w21 ⟨rfl, b21⟩
      rw [hOD.out]
      have ri := ri.below b21
      have hc21 := (b21.cell (p := ⟨b0, off + j, none⟩) hbb).trans hcj
      have hB := below_tt hB b21
      have zb0 : b0 < w21.heap.size := Nat.lt_of_lt_of_le hbb b21.size
      have zb1 : b0 < w21.heap.size + 1 := by omega
      have rg := cell_rg; have l2 : ∀ n : Nat, n < n + 1 + 1 := (fun _ => by omega); have l3 : ∀ n : Nat, n < n + 1 + 1 + 1 := (fun _ => by omega); have l4 : ∀ n : Nat, n < n + 1 + 1 + 1 + 1 := (fun _ => by omega)
      go_wp2_with fail
      (refine wp_region_quiet_below (by kernel_rfl) (by kernel_rfl) ?_; (repeat (go_big_quiet_step ((go_at_call 21; exact Calls.regrown_of ((implFeastDay_any _ _ _).mono fun e w' ⟨he, hb⟩ => ⟨by rw [he, hFj.out], hb⟩))))); refine wpQuiet_nil ?_; intro w9 hw9; have hb := below_of_regrown hw9; clear hw9; obtain ⟨hc, hf⟩ := bcell hb; have hz := bsize hb; (first | (have hB := below_tt hB hb) | (have hB := below_tt (below_al hB _) hb) | (have hB := below_tt (below_al (below_al hB _) _) hb) | (have hB := hb)); obtain ⟨hc0, hf0⟩ := bcell hB; have hz0 := bsize hB; (first | (have h2 := below_tt hp hb; obtain ⟨hc2, hf2⟩ := bcell h2; have hz2 := bsize h2) | (have h2 := below_tt (below_al hp _) hb; obtain ⟨hc2, hf2⟩ := bcell h2; have hz2 := bsize h2) | skip); have hp := hb)
      have ri := (ri.below (below_al (Below.refl _ _) _)).below hb
      go_wp2_with fail
      go_roundw
      case rel => exact ⟨j + 1, by omega, by simp, ri, hB⟩
      case measure => simp [intOf]; omega
    · rw [decide_eq_false hgo]
      clear hgo ri hvi
      by_cases zb : bad = 0
      case neg =>
        have d2 : (bad == 0) = false := by simpa using zb
        have d3 : decide (bad = 0) = false := decide_eq_false zb
        go_wp2_with fail
        go_ret
        exact ⟨rfl, hB⟩
      obtain ⟨F, hF0, hF1, hF, hW, hrel5⟩ := rel_facts hN.out zb
      subst zb
      have hF := Lib.hid hF
      have hW := Lib.hid hW
      have hrel5 := Lib.hid hrel5
      go_wp2_with fail
      refine (implFeastDay_any f y _).mono ?_
      rintro e w31 ⟨rfl, b31⟩
      rw [hF.out]
      have B31 := below_tt hB b31
      go_wp2_with fail
      refine (implWeekdayOf_any N _).mono ?_
      rintro e w32 ⟨rfl, b32⟩
      rw [hW.out]
      have B32 := below_tt B31 b32
      rcases hrel5.out with ⟨rfl, rfl⟩ | ⟨rfl, rfl⟩ | ⟨rfl, rfl⟩ | ⟨rfl, h1, h2, rfl⟩ | ⟨rfl, h1, h2, rfl⟩
      · go_wp2_with fail
        go_ret
        exact ⟨rfl, B32⟩
      · go_wp2_with fail
        go_ret
        exact ⟨rfl, B32⟩
      · go_wp2_with fail
        go_ret
        exact ⟨rfl, B32⟩
      · have d1 : decide (F < N) = true := decide_eq_true h1
        have d2 : decide (N ≤ F + 7) = true := decide_eq_true h2
        go_wp2_with fail
        go_ret
        exact ⟨rfl, B32⟩
      · have d1 : decide (N < F) = true := decide_eq_true h1
        have d2 : decide (F - 7 ≤ N) = true := decide_eq_true h2
        go_wp2_with fail
        go_ret
        exact ⟨rfl, B32⟩
end Go.Proofs.YtnjfpipadfcapaaDoor
