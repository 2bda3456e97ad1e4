/- The law FnFeastDays: no feast is nearer than the nearest one, the next one is on the day that is told. -/
import Derived.Test.YticnkjpgjcddcaaDraw9
import Derived.Test.YticnkjpgjcddcaaFDL
import Derived.Test.YticnkjpgjcddcaaNear2
import Derived.Test.YticnkjpgjcddcaaFD2
import Derived.Test.YticnkjpgjcddcaaLikeI
import Derived.Test.YticnkjpgjcddcaaLike
import Derived.Test.YticnkjpgjcddcaaFnDays
namespace Go.Proofs.Yticnkjpgjcddcaa
open Go.RowKit

theorem fd_ways (f r d a b : Int) : ∃ L ec, fdR f r d a b = (L, ec) ∧ L.length ≤ 4000000 ∧ (ec = 0 → relB f r d = true ∧
    ∀ k, k < L.length → a ≤ (gS L k).1 ∧ (gS L k).2 ≤ b ∧ 0 ≤ (gS L k).1 ∧ (gS L k).1 ≤ 730499 ∧ ∃ y, 1 ≤ y ∧ y ≤ 2000 ∧ (dat (gS L k).1 false).1 - 1 ≤ y ∧ y ≤ (dat (gS L k).1 false).1 + 1 ∧ relR f r d y = ((gS L k).1, 0)) := by
  cases h : fdB f r d a b
  · exact ⟨[], 2, fdR_no h, by simp, fun h => by simp at h⟩
  · obtain ⟨L, h1, h2, h3, h4⟩ := fd_facts h
    exact ⟨L, 0, h1, h2, fun _ => ⟨h3, h4⟩⟩
theorem on_ex {n x : Int} (h1 : 0 ≤ n) (h2 : n ≤ 730499) (h : x ∈ onN n) : ∃ l, onR n = (l, 0) ∧ x ∈ l ∧ l.length ≤ 20 := ⟨_, onR_day h1 h2, h, onN_len n⟩
/-- A span's two cells. -/
structure D2 (w : World) (b o : Nat) (F T : Int) : Prop where
  lt : b < w.heap.size
  c0 : w.cell? ⟨b, o, none⟩ = some (.int .i64 F)
  c1 : w.cell? ⟨b, o + 1, none⟩ = some (.int .i64 T)
theorem D2.below {w w' : World} {b o : Nat} {F T : Int} (h : D2 w b o F T) (hb : Below w.heap.size w w') : D2 w' b o F T :=
  ⟨Nat.lt_of_lt_of_le h.lt hb.size, (hb.cell (p := ⟨b, o, none⟩) h.lt).trans h.c0, (hb.cell (p := ⟨b, o + 1, none⟩) h.lt).trans h.c1⟩
theorem D2.al {w : World} {b o : Nat} {F T : Int} (h : D2 w b o F T) (u : Obj) : D2 (w.alloc u) b o F T := h.below ((Below.refl _ _).alloc (Nat.le_refl _) u)

set_option maxRecDepth 10000 in
set_option maxHeartbeats 8000000 in
theorem walk_FnFeastDays (v : Value) (n : Nat) {w : World} (hR : RB w w.heap.size v n ∧ (n : Int) ≤ 9223372036854775807) : Calls Try.prog 14 #[v] w (Yes w) := by
  have hB := Below.refl w.heap.size w
  obtain ⟨hR, hn⟩ := hR
  obtain ⟨a, cap, hv⟩ := hR.val
  by_cases hbig : (4096 : Int) < n
  · have hbig' := Lib.hid (decide_eq_true hbig)
    subst hv
    go_enter Try.func14, Try.ntmps14
    go_wp2_with fail
    refine (big_any a n cap _ hn).mono ?_
    rintro e w' ⟨rfl, rfl⟩
    rw [hbig'.out]
    go_wp2
    go_ret
    exact ⟨rfl, hB⟩
  have hbig' := Lib.hid (decide_eq_false hbig)
  have hn2 : n ≤ 4096 := by omega
  subst hv
  go_enter Try.func14, Try.ntmps14
  go_wp2_with fail
  refine (big_any a n cap _ hn).mono ?_
  rintro e w' ⟨rfl, rfl⟩
  rw [hbig'.out]
  clear hbig hbig'
  go_wp2_with fail
  refine (drawFeastDays_any _ n _ hR hn2).mono ?_
  rintro e w1 ⟨f, r, dd, fa, fb, rfl, b1⟩
  have B1 := below_tt hB b1
  obtain ⟨L, ec, hL, hLl, hLf⟩ := fd_ways f r dd fa fb
  have hL := Lib.hid hL
  have hLf := Lib.hid hLf
  go_wp2_with fail
  refine (implFeastDays_any f r dd fa fb _).mono ?_
  rintro e w2 ⟨vi, rfl, oi, b2⟩
  rw [hL.out] at oi ⊢
  have oi := OwnS.rs oi
  have B2 := below_tt B1 b2
  go_wp2_with fail
  refine (specFeastDays_any f r dd fa fb _).mono ?_
  rintro e w3 ⟨vs, rfl, os, b3⟩
  rw [hL.out] at os ⊢
  have os := OwnS.rs os
  have oi := oi.below b3
  have B3 := below_tt B2 b3
  go_wp2_with fail
  refine (drawNearestFeast_any _ n _ ((hR.below B3).more B3.size) hn2).mono ?_
  rintro e w4 ⟨n1, rfl, hn1, b4⟩
  have oi := oi.below b4
  have os := os.below b4
  have B4 := below_tt B3 b4
  obtain ⟨hn11, hn12⟩ := hn1
  obtain ⟨kk, aw, e1, hN⟩ : ∃ kk aw e1, nearR n1 = (kk, aw, e1) := ⟨_, _, _, rfl⟩
  have hNh := Lib.hid hN
  clear hN
  go_wp2_with fail
  refine (implNearestFeast_any n1 _).mono ?_
  rintro e w5 ⟨rfl, b5⟩
  rw [hNh.out]
  have oi := oi.below b5
  have os := os.below b5
  have B5 := below_tt B4 b5
  go_wp2_with fail
  refine (specNearestFeast_any n1 _).mono ?_
  rintro e w6 ⟨rfl, b6⟩
  rw [hNh.out]
  have oi := oi.below b6
  have os := os.below b6
  have B6 := below_tt B5 b6
  go_wp2_with fail
  refine (drawNextFeast_any _ n _ ((hR.below B6).more B6.size) hn2).mono ?_
  rintro e w7 ⟨m1, rfl, hm1, b7⟩
  have oi := oi.below b7
  have os := os.below b7
  have B7 := below_tt B6 b7
  obtain ⟨hm11, hm12⟩ := hm1
  obtain ⟨dn, x, e2, hM⟩ : ∃ dn x e2, nextR m1 = (dn, x, e2) := ⟨_, _, _, rfl⟩
  have hMh := Lib.hid hM
  clear hM
  go_wp2_with fail
  refine (implNextFeast_any m1 _).mono ?_
  rintro e w8 ⟨rfl, b8⟩
  rw [hMh.out]
  have oi := oi.below b8
  have os := os.below b8
  have B8 := below_tt B7 b8
  go_wp2_with fail
  refine (specNextFeast_any m1 _).mono ?_
  rintro e w9 ⟨rfl, b9⟩
  rw [hMh.out]
  have oi := oi.below b9
  have os := os.below b9
  have B9 := below_tt B8 b9
  go_wp2_with fail
  refine (likeSpans9_any _ _ L L _ oi os (by omega) (by omega)).mono ?_
  rintro e w10 ⟨rfl, b10⟩
  rw [decide_eq_true (rfl : L = L)]
  have oi := oi.below b10
  have os := os.below b10
  have B10 := below_tt B9 b10
  clear os
  go_upto_if 133 with fail
  go_cut [26, 27] from 134 (fun s26 s27 wx => RS wx vi L ∧ Below w.heap.size w wx)
  case first =>
    by_cases z2 : e2 = 0
    · subst z2
      obtain ⟨g1, g2, g3, g4, g5⟩ := next_facts hMh.out rfl
      clear g5
      obtain ⟨lx, hO, hmem, hlen⟩ := on_ex (by omega) g3 g4
      have hO := Lib.hid hO
      clear g4
      go_wp2_with fail
      refine (implFeastsOn_any (dn) _).mono ?_
      rintro e w11 ⟨vl, rfl, ol, b11⟩
      rw [hO.out] at ol ⊢
      have oi := oi.below b11
      have B11 := below_tt B10 b11
      go_wp2_with fail
      refine (hasInt_any vl lx x _ ol.rs (by omega)).mono ?_
      rintro e w12 ⟨rfl, b12⟩
      rw [decide_eq_true hmem]
      have oi := oi.below b12
      have B12 := below_tt B11 b12
      have d1 : decide (dn < m1) = false := decide_eq_false (by omega)
      by_cases z1 : e1 = 0
      · subst z1
        by_cases znm : n1 = m1
        · subst znm
          have hmax := near_next hNh.out hMh.out
          have nf := near_facts hNh.out rfl
          have f1 := nf.1
          have f2 := nf.2.1
          have f3 := nf.2.2.1
          have f4 := nf.2.2.2.1
          clear nf
          obtain ⟨A, hA⟩ : ∃ A, max aw (-aw) = A := ⟨_, rfl⟩
          rw [hA] at hmax
          have hA2 : (if aw < -aw then -aw else aw) = A := by split <;> omega
          have d2 : decide (dn - n1 < A) = false := decide_eq_false (by omega)
          go_wp2_with fail
          go_meet
          exact ⟨oi, B12⟩
        · have d2 : (n1 == m1) = false := by simpa using znm
          have d3 : decide (n1 = m1) = false := decide_eq_false znm
          go_wp2_with fail
          go_meet
          exact ⟨oi, B12⟩
      · have d2 : (e1 == 0) = false := by simpa using z1
        have d3 : decide (e1 = 0) = false := decide_eq_false z1
        go_wp2_with fail
        go_meet
        exact ⟨oi, B12⟩
    · have d2 : (e2 == 0) = false := by simpa using z2
      have d3 : decide (e2 = 0) = false := decide_eq_false z2
      go_wp2_with fail
      go_meet
      exact ⟨oi, B10⟩
  clear oi B10
  obtain ⟨oi, BC⟩ := hcut
  go_upto_region 20 with fail
  go_cut [182] from 169 (fun s182 wx => s182 = .bool (decide (e1 = 0)) ∧ RS wx vi L ∧ Below w.heap.size w wx)
  case first =>
    by_cases z1 : e1 = 0
    · subst z1
      have nf := near_facts hNh.out rfl
      have f1 := nf.1
      have f2 := nf.2.1
      have f3 := nf.2.2.1
      have f4 := nf.2.2.2.1
      clear nf
      have d1 : decide (0 ≤ n1 - aw) = true := decide_eq_true f3
      have d2 : decide (n1 - aw ≤ 730499) = true := decide_eq_true f4
      have sw : IntKind.i64.wrap (n1 - aw) = n1 - aw := IntWalk.i64_in _ (by omega)
      go_wp2_with fail
      go_meet
      exact ⟨by simp, oi, BC⟩
    · have d2 : (e1 == 0) = false := by simpa using z1
      have d3 : decide (e1 = 0) = false := decide_eq_false z1
      go_wp2_with fail
      go_meet
      exact ⟨by simp [z1], oi, BC⟩
  clear oi BC
  obtain ⟨rfl, oi, BC⟩ := hcut
  go_upto_if 182 with fail
  go_cut [28, 29] from 183 (fun s28 s29 wx => RS wx vi L ∧ Below w.heap.size w wx)
  case first =>
    by_cases z1 : e1 = 0
    · subst z1
      have nf := near_facts hNh.out rfl
      have f1 := nf.1
      have f2 := nf.2.1
      have f3 := nf.2.2.1
      have f4 := nf.2.2.2.1
      have f5 := nf.2.2.2.2.1
      clear nf
      obtain ⟨lx, hO, hmem, hlen⟩ := on_ex f3 f4 f5
      have hO := Lib.hid hO
      clear f5
      have d1 : decide (0 ≤ n1 - aw) = true := decide_eq_true f3
      have d2 : decide (n1 - aw ≤ 730499) = true := decide_eq_true f4
      have sw : IntKind.i64.wrap (n1 - aw) = n1 - aw := IntWalk.i64_in _ (by omega)
      go_wp2_with fail
      refine (implFeastsOn_any (n1 - aw) _).mono ?_
      rintro e w21 ⟨vl, rfl, ol, b21⟩
      rw [hO.out] at ol ⊢
      have oi := oi.below b21
      have B21 := below_tt BC b21
      go_wp2_with fail
      refine (hasInt_any vl lx kk _ ol.rs (by omega)).mono ?_
      rintro e w22 ⟨rfl, b22⟩
      rw [decide_eq_true hmem]
      have oi := oi.below b22
      have B22 := below_tt B21 b22
      go_wp2_with fail
      go_meet
      exact ⟨oi, B22⟩
    · have d2 : (e1 == 0) = false := by simpa using z1
      have d3 : decide (e1 = 0) = false := decide_eq_false z1
      go_wp2_with fail
      go_meet
      exact ⟨oi, BC⟩
  clear oi BC hNh hMh
  obtain ⟨oi, BC⟩ := hcut
  by_cases zc : ec = 0
  case neg =>
    have d2 : (ec == 0) = false := by simpa using zc
    have d3 : decide (ec = 0) = false := decide_eq_false zc
    go_wp2_with fail
    go_ret
    exact ⟨rfl, BC⟩
  obtain ⟨hrb, hLk⟩ := hLf.out zc
  clear hLf
  subst zc
  have hLk := Lib.hid hLk
  have hrb := Lib.hid hrb
  go_wp2_with fail
  go_loopw [30] (fun s30 wr => ∃ k : Nat, k ≤ L.length ∧ s30 = .int .i64 k ∧ RS wr vi L ∧ Below w.heap.size w wr) (fun s30 _ => L.length - (intOf s30).toNat)
  case atStart => exact ⟨0, by omega, by simp, oi, BC⟩
  case round =>
    clear oi BC
    obtain ⟨k, hk, rfl, ri, hB⟩ := hrel
    by_cases hlt : k < L.length
    · rcases ri with ⟨h0, _⟩ | ⟨b0, off, cap0, hvi, hbb, hs⟩
      · rw [h0] at hlt; exact absurd hlt (by simp)
      have ri : RS wr vi L := Or.inr ⟨b0, off, cap0, hvi, hbb, hs⟩
      subst hvi
      obtain ⟨q1, q2, q3, q4, y0, y1, y2, y3, y4, y5⟩ := hLk.out k hlt
      have P : D2 wr b0 (off + k * 2) (gS L k).1 (gS L k).2 := ⟨hbb, (hs k hlt).1, (hs k hlt).2⟩
      generalize (gS L k).1 = F at *
      generalize (gS L k).2 = T at *
      clear hs
      have hOD := Lib.hid (odateR_t q3 q4)
      have hyF := dat_yr q3 q4
      obtain ⟨Y, hYe⟩ : ∃ Y, dat F false = Y := ⟨_, rfl⟩
      rw [hYe] at hOD y3 y4 hyF
      clear hYe
      obtain ⟨Y, M, D0⟩ := Y
      dsimp only at y3 y4 hyF
      have y5 := Lib.hid y5
      obtain ⟨hyF1, hyF2⟩ := hyF
      have Pc0 := P.c0
      go_wp2_with fail
      refine (implOldDate_any F _).mono ?_
      rintro e w31 ⟨rfl, b31⟩
      rw [hOD.out]
      have ri := ri.below b31
      have P := P.below b31
      have B31 := below_tt hB b31
      have ri := ri.below (below_al (Below.refl _ _) (.cells #[.int .i64 Y, .int .i64 M, .int .i64 D0] 43))
      have P := P.al (.cells #[.int .i64 Y, .int .i64 M, .int .i64 D0] 43)
      have D := D3.made w31 Y M D0 43
      have B31 := below_al B31 (.cells #[.int .i64 Y, .int .i64 M, .int .i64 D0] 43)
      have Dc0 := D.c0
      obtain ⟨lo, hlo⟩ : ∃ lo, max 1 (Y - 1) = lo := ⟨_, rfl⟩
      have hlo2 : (if 1 < Y - 1 then Y - 1 else 1) = lo := by split <;> omega
      obtain ⟨up, hup⟩ : ∃ up, min 2000 (Y + 1) = up := ⟨_, rfl⟩
      have hup2 : (if Y + 1 < 2000 then Y + 1 else 2000) = up := by split <;> omega
      have l1 : 1 ≤ lo := by omega
      have l2 : lo ≤ y0 := by omega
      have l3 : y0 ≤ up := by omega
      have l4 : up ≤ 2000 := by omega
      go_wp2_with fail
      go_loopw [33, 34] (fun s33 s34 wq => ∃ (z : Int) (fd : Bool), lo ≤ z ∧ z ≤ up + 1 ∧ s34 = .int .i64 z ∧ s33 = .bool fd ∧ Hid (y0 < z → fd = true) ∧ RS wq (.slice (some ⟨b0, off, none⟩) L.length cap0) L ∧ D2 wq b0 (off + k * 2) F T ∧ D3 wq w31.heap.size Y M D0 ∧ Below w.heap.size w wq) (fun _ s34 _ => (2010 - intOf s34).toNat)
      case atStart => exact ⟨lo, false, by omega, by omega, by simp, rfl, Lib.hid (fun h => by omega), ri, P, D, B31⟩
      case round =>
        clear ri P D B31 Pc0 Dc0
        obtain ⟨z, fd, hz1, hz2, rfl, rfl, hfd, ri, P, D, hB⟩ := hrel
        have Dc0 := D.c0
        have Pc0 := P.c0
        have Pc1 := P.c1
        by_cases hzu : z ≤ up
        · have d0 : decide (z ≤ up) = true := decide_eq_true hzu
          obtain ⟨o, ei, hro⟩ := rel_ways f r dd z
          have hroh := Lib.hid hro
          go_wp2_with fail
          refine (implRelatedDay_any f r dd z _).mono ?_
          rintro e w41 ⟨rfl, b41⟩
          rw [hroh.out]
          have ri := ri.below b41
          have P := P.below b41
          have D := D.below b41
          have B41 := below_tt hB b41
          have Dc0 := D.c0
          have Pc0 := P.c0
          cases fd
          · have hge : z ≤ y0 := by
              by_cases q : y0 < z
              · exact absurd (hfd.out q) (by simp)
              · omega
            by_cases hzy : z = y0
            · have hoe : (o, ei) = (F, 0) := by have h9 := y5.out; rw [← hzy] at h9; exact hro.symm.trans h9
              injection hoe with ho1 ho2
              subst ho1 ho2
              clear hro hroh hzy
              go_wp2_with fail
              go_roundw
              case rel => exact ⟨z + 1, true, by omega, by omega, by simp, rfl, Lib.hid (fun _ => rfl), ri, P, D, B41⟩
              case measure => simp [intOf]; omega
            · clear hro hroh
              by_cases zei : ei = 0
              · subst zei
                by_cases zo : o = F
                · subst zo
                  go_wp2_with fail
                  go_roundw
                  case rel => exact ⟨z + 1, true, by omega, by omega, by simp, rfl, Lib.hid (fun _ => rfl), ri, P, D, B41⟩
                  case measure => simp [intOf]; omega
                · have d4 : (o == F) = false := by simpa using zo
                  have d5 : decide (o = F) = false := decide_eq_false zo
                  go_wp2_with fail
                  go_roundw
                  case rel => exact ⟨z + 1, false, by omega, by omega, by simp, rfl, Lib.hid (fun hq => by omega), ri, P, D, B41⟩
                  case measure => simp [intOf]; omega
              · have d4 : (ei == 0) = false := by simpa using zei
                have d5 : decide (ei = 0) = false := decide_eq_false zei
                go_wp2_with fail
                go_roundw
                case rel => exact ⟨z + 1, false, by omega, by omega, by simp, rfl, Lib.hid (fun hq => by omega), ri, P, D, B41⟩
                case measure => simp [intOf]; omega
          · clear hro hroh
            go_wp2_with fail
            go_roundw
            case rel => exact ⟨z + 1, true, by omega, by omega, by simp, rfl, Lib.hid (fun _ => rfl), ri, P, D, B41⟩
            case measure => simp [intOf]; omega
        · have d0 : decide (z ≤ up) = false := decide_eq_false hzu
          obtain rfl : fd = true := hfd.out (by omega)
          have d6 : decide (F < fa) = false := decide_eq_false (by omega)
          have d7 : decide (fb < T) = false := decide_eq_false (by omega)
          go_wp2_with fail
          go_roundw
          case rel => exact ⟨k + 1, by omega, by simp, ri, hB⟩
          case measure => simp [intOf]; omega
    · obtain rfl : k = L.length := by omega
      obtain ⟨aa, capp, hvi⟩ := ri.val
      subst hvi
      go_wp2_with fail
      go_ret
      exact ⟨rfl, hB⟩
end Go.Proofs.Yticnkjpgjcddcaa
