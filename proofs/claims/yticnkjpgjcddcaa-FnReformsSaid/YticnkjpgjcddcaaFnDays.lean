/- The law FnDays: old dates and days determine each other, weekdays come again after seven days. -/
import Derived.Test.YticnkjpgjcddcaaDraw5
import Derived.Test.YticnkjpgjcddcaaLoc2
import Derived.Test.YticnkjpgjcddcaaOne
namespace Go.Proofs.Yticnkjpgjcddcaa
open Go.RowKit

theorem dayR_f {y m d : Int} (h : valid y m d false = false) : dayR y m d false = (0, 1) := by unfold dayR; rw [h]; rfl
theorem dayR_t {y m d : Int} (h : valid y m d false = true) : dayR y m d false = (num y m d false, 0) := by unfold dayR; rw [h]; rfl
theorem num_day {y m d : Int} (h : valid y m d false = true) : 0 ≤ num y m d false ∧ num y m d false ≤ 730499 := by
  have a := num_bd h
  have v := valid_t h
  have b := nyear_mono false (a := 1) (b := y) (by omega) (by omega)
  have c := nyear_mono false (a := y + 1) (b := 2001) (by omega) (by omega)
  have e := nyear_ends
  omega
theorem odateR_t {k : Int} (h : 0 ≤ k) (h2 : k ≤ 730499) : odateR k = (dat k false, 0) := by unfold odateR; rw [if_pos (inR_mk h h2)]
theorem odateR_f {k : Int} (h : ¬ (0 ≤ k ∧ k ≤ 730499)) : odateR k = ((0, 0, 0), 2) := by unfold odateR; rw [inR_not (by omega)]; rfl
theorem odate_back {y m d : Int} (h : valid y m d false = true) : odateR (num y m d false) = ((y, m, d), 0) := by
  have a := num_day h
  rw [odateR_t a.1 a.2, dat_of ⟨h, rfl⟩]
theorem dat_back {k : Int} (h : 0 ≤ k) (h2 : k ≤ 730499) : dayR (dat k false).1 (dat k false).2.1 (dat k false).2.2 false = (k, 0) := by
  have e := nyear_ends
  have a := dat_is (n := k) (f := false) (by omega) (by omega)
  rw [dayR_t a.1, a.2]
theorem weekR_t {k : Int} (h : 0 ≤ k) (h2 : k ≤ 730499) : weekR k = ((k + 5) % 7, 0) := by unfold weekR; rw [if_pos (inR_mk h h2)]
theorem week7 {k : Int} (h : 0 ≤ k) (h2 : k + 7 ≤ 730499) : weekR (k + 7) = ((k + 5) % 7, 0) := by
  rw [weekR_t (by omega) h2, show (k + 7 + 5) % 7 = (k + 5) % 7 by omega]
theorem week1 {k : Int} (h : 0 ≤ k) (h2 : k + 1 ≤ 730499) : weekR (k + 1) = (((k + 5) % 7 + 1) % 7, 0) := by
  rw [weekR_t (by omega) h2, show (k + 1 + 5) % 7 = ((k + 5) % 7 + 1) % 7 by omega]
theorem weekR_f {k : Int} (h : ¬ (0 ≤ k ∧ k ≤ 730499)) : weekR k = (0, 2) := by unfold weekR; rw [inR_not (by omega)]; rfl

set_option maxRecDepth 10000 in
set_option maxHeartbeats 8000000 in
theorem walk_FnDays (v : Value) (n : Nat) {w : World} (hR : RB w w.heap.size v n ∧ (n : Int) ≤ 9223372036854775807) : Calls Try.prog 9 #[v] w (Yes w) := by
  have hB := Below.refl w.heap.size w
  obtain ⟨hR, hn⟩ := hR
  obtain ⟨a, cap, hv⟩ := hR.val
  by_cases hbig : (4096 : Int) < n
  · have hbig' := Lib.hid (decide_eq_true hbig)
    subst hv
    go_enter Try.func9, Try.ntmps9
    go_wp2_with fail
    refine (big_any a n cap _ hn).mono ?_
    rintro e w' ⟨rfl, rfl⟩
    rw [hbig'.out]
    go_wp2
    go_ret
    exact ⟨rfl, hB⟩
  have hbig' := Lib.hid (decide_eq_false hbig)
  have hn2 : n ≤ 4096 := by omega
  subst hv
  go_enter Try.func9, Try.ntmps9
  go_wp2_with fail
  refine (big_any a n cap _ hn).mono ?_
  rintro e w' ⟨rfl, rfl⟩
  rw [hbig'.out]
  clear hbig hbig'
  go_wp2_with fail
  refine (drawOldDay_any _ n _ hR hn2).mono ?_
  rintro e w1 ⟨y, m, d, rfl, b1⟩
  have B1 := below_tt hB b1
  have D := D3.made w1 y m d 43
  have B1 := below_al B1 (.cells #[.int .i64 y, .int .i64 m, .int .i64 d] 43)
  by_cases hv : valid y m d false = true
  · have hV := Lib.hid hv
    have hD := Lib.hid (dayR_t hV.out)
    have hT := Lib.hid (odate_back hv)
    clear hv
    go_wp2_with fail
    refine (implOldDay_any y m d _).mono ?_
    rintro e w2 ⟨rfl, b2⟩
    rw [hD.out]
    have D := D.below b2
    have B2 := below_tt B1 b2
    have Dc0 := D.c0
    have Dc1 := D.c1
    have Dc2 := D.c2
    go_wp2_with fail
    refine (specOldDay_any y m d _).mono ?_
    rintro e w3 ⟨rfl, b3⟩
    rw [hD.out]
    have D := D.below b3
    have B3 := below_tt B2 b3
    clear Dc0 Dc1 Dc2
    go_wp2_with fail
    refine (drawOldDate_any _ n _ ((hR.below B3).more B3.size) hn2).mono ?_
    rintro e w4 ⟨k, rfl, hk, b4⟩
    have D := D.below b4
    have B4 := below_tt B3 b4
    by_cases hkk : 0 ≤ k ∧ k ≤ 730499
    · have hO := Lib.hid (odateR_t hkk.1 hkk.2)
      have hQ := Lib.hid (dat_back hkk.1 hkk.2)
      generalize dat k false = E at hO hQ
      obtain ⟨e1, e2, e3⟩ := E
      go_wp2_with fail
      refine (implOldDate_any k _).mono ?_
      rintro e w5 ⟨rfl, b5⟩
      rw [hO.out]
      have D := D.below b5
      have B5 := below_tt B4 b5
      have D := D.al (.cells #[.int .i64 e1, .int .i64 e2, .int .i64 e3] 43)
      have E1 := D3.made w5 e1 e2 e3 43
      have B5 := below_al B5 (.cells #[.int .i64 e1, .int .i64 e2, .int .i64 e3] 43)
      go_wp2_with fail
      refine (specOldDate_any k _).mono ?_
      rintro e w6 ⟨rfl, b6⟩
      rw [hO.out]
      have D := D.below b6
      have E1 := E1.below b6
      have B6 := below_tt B5 b6
      have D := D.al (.cells #[.int .i64 e1, .int .i64 e2, .int .i64 e3] 43)
      have E1 := E1.al (.cells #[.int .i64 e1, .int .i64 e2, .int .i64 e3] 43)
      have E2 := D3.made w6 e1 e2 e3 43
      have B6 := below_al B6 (.cells #[.int .i64 e1, .int .i64 e2, .int .i64 e3] 43)
      go_wp2_with fail
      refine (drawWeekdayOf_any _ n _ ((hR.below B6).more B6.size) hn2).mono ?_
      rintro e w7 ⟨q, rfl, hq, b7⟩
      have D := D.below b7
      have E1 := E1.below b7
      have E2 := E2.below b7
      have B7 := below_tt B6 b7
      go_wp2_with fail
      refine (implWeekdayOf_any q _).mono ?_
      rintro e w8 ⟨rfl, b8⟩
      have D := D.below b8
      have E1 := E1.below b8
      have E2 := E2.below b8
      have B8 := below_tt B7 b8
      go_wp2_with fail
      refine (specWeekdayOf_any q _).mono ?_
      rintro e w9 ⟨rfl, b9⟩
      have D := D.below b9
      have E1 := E1.below b9
      have E2 := E2.below b9
      have B9 := below_tt B8 b9
      have nd := neq_date
      have gd := grd_date
      have Dc0 := D.c0
      have Dc1 := D.c1
      have Dc2 := D.c2
      have E1c0 := E1.c0
      have E1c1 := E1.c1
      have E1c2 := E1.c2
      have E2c0 := E2.c0
      have E2c1 := E2.c1
      have E2c2 := E2.c2
      go_wp2_with fail
      refine (implIsOldDate_is hV.out _).mono ?_
      rintro e w10 ⟨rfl, b10⟩
      have D := D.below b10
      have E1 := E1.below b10
      have E2 := E2.below b10
      have B10 := below_tt B9 b10
      by_cases hqq : 0 ≤ q ∧ q ≤ 730499
      · have hW := Lib.hid (weekR_t hqq.1 hqq.2)
        rw [hW.out]
        clear hW
        by_cases h7 : q + 7 ≤ 730499
        · have h7a := Lib.hid (week7 hqq.1 h7)
          have h7b := Lib.hid (week1 hqq.1 (show q + 1 ≤ 730499 by omega))
          go_wp2_with fail
          refine (implWeekdayOf_any (q + 7) _).mono ?_
          rintro e w11 ⟨rfl, b11⟩
          rw [h7a.out]
          have D := D.below b11
          have E1 := E1.below b11
          have E2 := E2.below b11
          have B11 := below_tt B10 b11
          go_wp2_with fail
          refine (implWeekdayOf_any (q + 1) _).mono ?_
          rintro e w12 ⟨rfl, b12⟩
          rw [h7b.out]
          have D := D.below b12
          have E1 := E1.below b12
          have E2 := E2.below b12
          have B12 := below_tt B11 b12
          clear h7a h7b
          have Dc0 := D.c0
          have Dc1 := D.c1
          have Dc2 := D.c2
          have E1c0 := E1.c0
          have E1c1 := E1.c1
          have E1c2 := E1.c2
          have E2c0 := E2.c0
          have E2c1 := E2.c1
          have E2c2 := E2.c2
          go_wp2_with fail
          refine (implOldDay_any e1 e2 e3 _).mono ?_
          rintro e w13 ⟨rfl, b13⟩
          rw [hQ.out]
          have D := D.below b13
          have E1 := E1.below b13
          have E2 := E2.below b13
          have B13 := below_tt B12 b13
          go_wp2_with fail
          refine (implOldDate_any (num y m d false) _).mono ?_
          rintro e w14 ⟨rfl, b14⟩
          rw [hT.out]
          have D := D.below b14
          have E1 := E1.below b14
          have E2 := E2.below b14
          have B14 := below_tt B13 b14
          have D := D.al (.cells #[.int .i64 y, .int .i64 m, .int .i64 d] 43)
          have E1 := E1.al (.cells #[.int .i64 y, .int .i64 m, .int .i64 d] 43)
          have E2 := E2.al (.cells #[.int .i64 y, .int .i64 m, .int .i64 d] 43)
          have F := D3.made w14 y m d 43
          have B14 := below_al B14 (.cells #[.int .i64 y, .int .i64 m, .int .i64 d] 43)
          have Dc0 := D.c0
          have Dc1 := D.c1
          have Dc2 := D.c2
          have E1c0 := E1.c0
          have E1c1 := E1.c1
          have E1c2 := E1.c2
          have E2c0 := E2.c0
          have E2c1 := E2.c1
          have E2c2 := E2.c2
          have Fc0 := F.c0
          have Fc1 := F.c1
          have Fc2 := F.c2
          have ed := eql_date
          go_wp2_with fail
          go_ret
          exact ⟨rfl, B14⟩
        · have Dc0 := D.c0
          have Dc1 := D.c1
          have Dc2 := D.c2
          have E1c0 := E1.c0
          have E1c1 := E1.c1
          have E1c2 := E1.c2
          have E2c0 := E2.c0
          have E2c1 := E2.c1
          have E2c2 := E2.c2
          go_wp2_with fail
          refine (implOldDay_any e1 e2 e3 _).mono ?_
          rintro e w11 ⟨rfl, b11⟩
          rw [hQ.out]
          have D := D.below b11
          have E1 := E1.below b11
          have E2 := E2.below b11
          have B11 := below_tt B10 b11
          go_wp2_with fail
          refine (implOldDate_any (num y m d false) _).mono ?_
          rintro e w12 ⟨rfl, b12⟩
          rw [hT.out]
          have D := D.below b12
          have E1 := E1.below b12
          have E2 := E2.below b12
          have B12 := below_tt B11 b12
          have D := D.al (.cells #[.int .i64 y, .int .i64 m, .int .i64 d] 43)
          have E1 := E1.al (.cells #[.int .i64 y, .int .i64 m, .int .i64 d] 43)
          have E2 := E2.al (.cells #[.int .i64 y, .int .i64 m, .int .i64 d] 43)
          have F := D3.made w12 y m d 43
          have B12 := below_al B12 (.cells #[.int .i64 y, .int .i64 m, .int .i64 d] 43)
          have Dc0 := D.c0
          have Dc1 := D.c1
          have Dc2 := D.c2
          have E1c0 := E1.c0
          have E1c1 := E1.c1
          have E1c2 := E1.c2
          have E2c0 := E2.c0
          have E2c1 := E2.c1
          have E2c2 := E2.c2
          have Fc0 := F.c0
          have Fc1 := F.c1
          have Fc2 := F.c2
          have ed := eql_date
          go_wp2_with fail
          go_ret
          exact ⟨rfl, B12⟩
      · have hW := Lib.hid (weekR_f hqq)
        rw [hW.out]
        clear hW
        have Dc0 := D.c0
        have Dc1 := D.c1
        have Dc2 := D.c2
        have E1c0 := E1.c0
        have E1c1 := E1.c1
        have E1c2 := E1.c2
        have E2c0 := E2.c0
        have E2c1 := E2.c1
        have E2c2 := E2.c2
        go_wp2_with fail
        refine (implOldDay_any e1 e2 e3 _).mono ?_
        rintro e w11 ⟨rfl, b11⟩
        rw [hQ.out]
        have D := D.below b11
        have E1 := E1.below b11
        have E2 := E2.below b11
        have B11 := below_tt B10 b11
        go_wp2_with fail
        refine (implOldDate_any (num y m d false) _).mono ?_
        rintro e w12 ⟨rfl, b12⟩
        rw [hT.out]
        have D := D.below b12
        have E1 := E1.below b12
        have E2 := E2.below b12
        have B12 := below_tt B11 b12
        have D := D.al (.cells #[.int .i64 y, .int .i64 m, .int .i64 d] 43)
        have E1 := E1.al (.cells #[.int .i64 y, .int .i64 m, .int .i64 d] 43)
        have E2 := E2.al (.cells #[.int .i64 y, .int .i64 m, .int .i64 d] 43)
        have F := D3.made w12 y m d 43
        have B12 := below_al B12 (.cells #[.int .i64 y, .int .i64 m, .int .i64 d] 43)
        have Dc0 := D.c0
        have Dc1 := D.c1
        have Dc2 := D.c2
        have E1c0 := E1.c0
        have E1c1 := E1.c1
        have E1c2 := E1.c2
        have E2c0 := E2.c0
        have E2c1 := E2.c1
        have E2c2 := E2.c2
        have Fc0 := F.c0
        have Fc1 := F.c1
        have Fc2 := F.c2
        have ed := eql_date
        go_wp2_with fail
        go_ret
        exact ⟨rfl, B12⟩
    · have hO := Lib.hid (odateR_f hkk)
      go_wp2_with fail
      refine (implOldDate_any k _).mono ?_
      rintro e w5 ⟨rfl, b5⟩
      rw [hO.out]
      have D := D.below b5
      have B5 := below_tt B4 b5
      have D := D.al (.cells #[.int .i64 0, .int .i64 0, .int .i64 0] 43)
      have E1 := D3.made w5 0 0 0 43
      have B5 := below_al B5 (.cells #[.int .i64 0, .int .i64 0, .int .i64 0] 43)
      go_wp2_with fail
      refine (specOldDate_any k _).mono ?_
      rintro e w6 ⟨rfl, b6⟩
      rw [hO.out]
      have D := D.below b6
      have E1 := E1.below b6
      have B6 := below_tt B5 b6
      have D := D.al (.cells #[.int .i64 0, .int .i64 0, .int .i64 0] 43)
      have E1 := E1.al (.cells #[.int .i64 0, .int .i64 0, .int .i64 0] 43)
      have E2 := D3.made w6 0 0 0 43
      have B6 := below_al B6 (.cells #[.int .i64 0, .int .i64 0, .int .i64 0] 43)
      go_wp2_with fail
      refine (drawWeekdayOf_any _ n _ ((hR.below B6).more B6.size) hn2).mono ?_
      rintro e w7 ⟨q, rfl, hq, b7⟩
      have D := D.below b7
      have E1 := E1.below b7
      have E2 := E2.below b7
      have B7 := below_tt B6 b7
      go_wp2_with fail
      refine (implWeekdayOf_any q _).mono ?_
      rintro e w8 ⟨rfl, b8⟩
      have D := D.below b8
      have E1 := E1.below b8
      have E2 := E2.below b8
      have B8 := below_tt B7 b8
      go_wp2_with fail
      refine (specWeekdayOf_any q _).mono ?_
      rintro e w9 ⟨rfl, b9⟩
      have D := D.below b9
      have E1 := E1.below b9
      have E2 := E2.below b9
      have B9 := below_tt B8 b9
      have nd := neq_date
      have gd := grd_date
      have Dc0 := D.c0
      have Dc1 := D.c1
      have Dc2 := D.c2
      have E1c0 := E1.c0
      have E1c1 := E1.c1
      have E1c2 := E1.c2
      have E2c0 := E2.c0
      have E2c1 := E2.c1
      have E2c2 := E2.c2
      go_wp2_with fail
      refine (implIsOldDate_is hV.out _).mono ?_
      rintro e w10 ⟨rfl, b10⟩
      have D := D.below b10
      have E1 := E1.below b10
      have E2 := E2.below b10
      have B10 := below_tt B9 b10
      by_cases hqq : 0 ≤ q ∧ q ≤ 730499
      · have hW := Lib.hid (weekR_t hqq.1 hqq.2)
        rw [hW.out]
        clear hW
        by_cases h7 : q + 7 ≤ 730499
        · have h7a := Lib.hid (week7 hqq.1 h7)
          have h7b := Lib.hid (week1 hqq.1 (show q + 1 ≤ 730499 by omega))
          go_wp2_with fail
          refine (implWeekdayOf_any (q + 7) _).mono ?_
          rintro e w11 ⟨rfl, b11⟩
          rw [h7a.out]
          have D := D.below b11
          have E1 := E1.below b11
          have E2 := E2.below b11
          have B11 := below_tt B10 b11
          go_wp2_with fail
          refine (implWeekdayOf_any (q + 1) _).mono ?_
          rintro e w12 ⟨rfl, b12⟩
          rw [h7b.out]
          have D := D.below b12
          have E1 := E1.below b12
          have E2 := E2.below b12
          have B12 := below_tt B11 b12
          clear h7a h7b
          go_wp2_with fail
          refine (implOldDate_any (num y m d false) _).mono ?_
          rintro e w13 ⟨rfl, b13⟩
          rw [hT.out]
          have D := D.below b13
          have E1 := E1.below b13
          have E2 := E2.below b13
          have B13 := below_tt B12 b13
          have D := D.al (.cells #[.int .i64 y, .int .i64 m, .int .i64 d] 43)
          have E1 := E1.al (.cells #[.int .i64 y, .int .i64 m, .int .i64 d] 43)
          have E2 := E2.al (.cells #[.int .i64 y, .int .i64 m, .int .i64 d] 43)
          have F := D3.made w13 y m d 43
          have B13 := below_al B13 (.cells #[.int .i64 y, .int .i64 m, .int .i64 d] 43)
          have Dc0 := D.c0
          have Dc1 := D.c1
          have Dc2 := D.c2
          have E1c0 := E1.c0
          have E1c1 := E1.c1
          have E1c2 := E1.c2
          have E2c0 := E2.c0
          have E2c1 := E2.c1
          have E2c2 := E2.c2
          have Fc0 := F.c0
          have Fc1 := F.c1
          have Fc2 := F.c2
          have ed := eql_date
          go_wp2_with fail
          go_ret
          exact ⟨rfl, B13⟩
        · go_wp2_with fail
          refine (implOldDate_any (num y m d false) _).mono ?_
          rintro e w11 ⟨rfl, b11⟩
          rw [hT.out]
          have D := D.below b11
          have E1 := E1.below b11
          have E2 := E2.below b11
          have B11 := below_tt B10 b11
          have D := D.al (.cells #[.int .i64 y, .int .i64 m, .int .i64 d] 43)
          have E1 := E1.al (.cells #[.int .i64 y, .int .i64 m, .int .i64 d] 43)
          have E2 := E2.al (.cells #[.int .i64 y, .int .i64 m, .int .i64 d] 43)
          have F := D3.made w11 y m d 43
          have B11 := below_al B11 (.cells #[.int .i64 y, .int .i64 m, .int .i64 d] 43)
          have Dc0 := D.c0
          have Dc1 := D.c1
          have Dc2 := D.c2
          have E1c0 := E1.c0
          have E1c1 := E1.c1
          have E1c2 := E1.c2
          have E2c0 := E2.c0
          have E2c1 := E2.c1
          have E2c2 := E2.c2
          have Fc0 := F.c0
          have Fc1 := F.c1
          have Fc2 := F.c2
          have ed := eql_date
          go_wp2_with fail
          go_ret
          exact ⟨rfl, B11⟩
      · have hW := Lib.hid (weekR_f hqq)
        rw [hW.out]
        clear hW
        go_wp2_with fail
        refine (implOldDate_any (num y m d false) _).mono ?_
        rintro e w11 ⟨rfl, b11⟩
        rw [hT.out]
        have D := D.below b11
        have E1 := E1.below b11
        have E2 := E2.below b11
        have B11 := below_tt B10 b11
        have D := D.al (.cells #[.int .i64 y, .int .i64 m, .int .i64 d] 43)
        have E1 := E1.al (.cells #[.int .i64 y, .int .i64 m, .int .i64 d] 43)
        have E2 := E2.al (.cells #[.int .i64 y, .int .i64 m, .int .i64 d] 43)
        have F := D3.made w11 y m d 43
        have B11 := below_al B11 (.cells #[.int .i64 y, .int .i64 m, .int .i64 d] 43)
        have Dc0 := D.c0
        have Dc1 := D.c1
        have Dc2 := D.c2
        have E1c0 := E1.c0
        have E1c1 := E1.c1
        have E1c2 := E1.c2
        have E2c0 := E2.c0
        have E2c1 := E2.c1
        have E2c2 := E2.c2
        have Fc0 := F.c0
        have Fc1 := F.c1
        have Fc2 := F.c2
        have ed := eql_date
        go_wp2_with fail
        go_ret
        exact ⟨rfl, B11⟩
  · have hV := Lib.hid (show valid y m d false = false by simpa using hv)
    have hD := Lib.hid (dayR_f hV.out)
    clear hv
    go_wp2_with fail
    refine (implOldDay_any y m d _).mono ?_
    rintro e w2 ⟨rfl, b2⟩
    rw [hD.out]
    have D := D.below b2
    have B2 := below_tt B1 b2
    have Dc0 := D.c0
    have Dc1 := D.c1
    have Dc2 := D.c2
    go_wp2_with fail
    refine (specOldDay_any y m d _).mono ?_
    rintro e w3 ⟨rfl, b3⟩
    rw [hD.out]
    have D := D.below b3
    have B3 := below_tt B2 b3
    clear Dc0 Dc1 Dc2
    go_wp2_with fail
    refine (drawOldDate_any _ n _ ((hR.below B3).more B3.size) hn2).mono ?_
    rintro e w4 ⟨k, rfl, hk, b4⟩
    have D := D.below b4
    have B4 := below_tt B3 b4
    by_cases hkk : 0 ≤ k ∧ k ≤ 730499
    · have hO := Lib.hid (odateR_t hkk.1 hkk.2)
      have hQ := Lib.hid (dat_back hkk.1 hkk.2)
      generalize dat k false = E at hO hQ
      obtain ⟨e1, e2, e3⟩ := E
      go_wp2_with fail
      refine (implOldDate_any k _).mono ?_
      rintro e w5 ⟨rfl, b5⟩
      rw [hO.out]
      have D := D.below b5
      have B5 := below_tt B4 b5
      have D := D.al (.cells #[.int .i64 e1, .int .i64 e2, .int .i64 e3] 43)
      have E1 := D3.made w5 e1 e2 e3 43
      have B5 := below_al B5 (.cells #[.int .i64 e1, .int .i64 e2, .int .i64 e3] 43)
      go_wp2_with fail
      refine (specOldDate_any k _).mono ?_
      rintro e w6 ⟨rfl, b6⟩
      rw [hO.out]
      have D := D.below b6
      have E1 := E1.below b6
      have B6 := below_tt B5 b6
      have D := D.al (.cells #[.int .i64 e1, .int .i64 e2, .int .i64 e3] 43)
      have E1 := E1.al (.cells #[.int .i64 e1, .int .i64 e2, .int .i64 e3] 43)
      have E2 := D3.made w6 e1 e2 e3 43
      have B6 := below_al B6 (.cells #[.int .i64 e1, .int .i64 e2, .int .i64 e3] 43)
      go_wp2_with fail
      refine (drawWeekdayOf_any _ n _ ((hR.below B6).more B6.size) hn2).mono ?_
      rintro e w7 ⟨q, rfl, hq, b7⟩
      have D := D.below b7
      have E1 := E1.below b7
      have E2 := E2.below b7
      have B7 := below_tt B6 b7
      go_wp2_with fail
      refine (implWeekdayOf_any q _).mono ?_
      rintro e w8 ⟨rfl, b8⟩
      have D := D.below b8
      have E1 := E1.below b8
      have E2 := E2.below b8
      have B8 := below_tt B7 b8
      go_wp2_with fail
      refine (specWeekdayOf_any q _).mono ?_
      rintro e w9 ⟨rfl, b9⟩
      have D := D.below b9
      have E1 := E1.below b9
      have E2 := E2.below b9
      have B9 := below_tt B8 b9
      have nd := neq_date
      have gd := grd_date
      have Dc0 := D.c0
      have Dc1 := D.c1
      have Dc2 := D.c2
      have E1c0 := E1.c0
      have E1c1 := E1.c1
      have E1c2 := E1.c2
      have E2c0 := E2.c0
      have E2c1 := E2.c1
      have E2c2 := E2.c2
      go_wp2_with fail
      refine (implIsOldDate_is hV.out _).mono ?_
      rintro e w10 ⟨rfl, b10⟩
      have D := D.below b10
      have E1 := E1.below b10
      have E2 := E2.below b10
      have B10 := below_tt B9 b10
      by_cases hqq : 0 ≤ q ∧ q ≤ 730499
      · have hW := Lib.hid (weekR_t hqq.1 hqq.2)
        rw [hW.out]
        clear hW
        by_cases h7 : q + 7 ≤ 730499
        · have h7a := Lib.hid (week7 hqq.1 h7)
          have h7b := Lib.hid (week1 hqq.1 (show q + 1 ≤ 730499 by omega))
          go_wp2_with fail
          refine (implWeekdayOf_any (q + 7) _).mono ?_
          rintro e w11 ⟨rfl, b11⟩
          rw [h7a.out]
          have D := D.below b11
          have E1 := E1.below b11
          have E2 := E2.below b11
          have B11 := below_tt B10 b11
          go_wp2_with fail
          refine (implWeekdayOf_any (q + 1) _).mono ?_
          rintro e w12 ⟨rfl, b12⟩
          rw [h7b.out]
          have D := D.below b12
          have E1 := E1.below b12
          have E2 := E2.below b12
          have B12 := below_tt B11 b12
          clear h7a h7b
          have Dc0 := D.c0
          have Dc1 := D.c1
          have Dc2 := D.c2
          have E1c0 := E1.c0
          have E1c1 := E1.c1
          have E1c2 := E1.c2
          have E2c0 := E2.c0
          have E2c1 := E2.c1
          have E2c2 := E2.c2
          go_wp2_with fail
          refine (implOldDay_any e1 e2 e3 _).mono ?_
          rintro e w13 ⟨rfl, b13⟩
          rw [hQ.out]
          have D := D.below b13
          have E1 := E1.below b13
          have E2 := E2.below b13
          have B13 := below_tt B12 b13
          go_wp2_with fail
          go_ret
          exact ⟨rfl, B13⟩
        · have Dc0 := D.c0
          have Dc1 := D.c1
          have Dc2 := D.c2
          have E1c0 := E1.c0
          have E1c1 := E1.c1
          have E1c2 := E1.c2
          have E2c0 := E2.c0
          have E2c1 := E2.c1
          have E2c2 := E2.c2
          go_wp2_with fail
          refine (implOldDay_any e1 e2 e3 _).mono ?_
          rintro e w11 ⟨rfl, b11⟩
          rw [hQ.out]
          have D := D.below b11
          have E1 := E1.below b11
          have E2 := E2.below b11
          have B11 := below_tt B10 b11
          go_wp2_with fail
          go_ret
          exact ⟨rfl, B11⟩
      · have hW := Lib.hid (weekR_f hqq)
        rw [hW.out]
        clear hW
        have Dc0 := D.c0
        have Dc1 := D.c1
        have Dc2 := D.c2
        have E1c0 := E1.c0
        have E1c1 := E1.c1
        have E1c2 := E1.c2
        have E2c0 := E2.c0
        have E2c1 := E2.c1
        have E2c2 := E2.c2
        go_wp2_with fail
        refine (implOldDay_any e1 e2 e3 _).mono ?_
        rintro e w11 ⟨rfl, b11⟩
        rw [hQ.out]
        have D := D.below b11
        have E1 := E1.below b11
        have E2 := E2.below b11
        have B11 := below_tt B10 b11
        go_wp2_with fail
        go_ret
        exact ⟨rfl, B11⟩
    · have hO := Lib.hid (odateR_f hkk)
      go_wp2_with fail
      refine (implOldDate_any k _).mono ?_
      rintro e w5 ⟨rfl, b5⟩
      rw [hO.out]
      have D := D.below b5
      have B5 := below_tt B4 b5
      have D := D.al (.cells #[.int .i64 0, .int .i64 0, .int .i64 0] 43)
      have E1 := D3.made w5 0 0 0 43
      have B5 := below_al B5 (.cells #[.int .i64 0, .int .i64 0, .int .i64 0] 43)
      go_wp2_with fail
      refine (specOldDate_any k _).mono ?_
      rintro e w6 ⟨rfl, b6⟩
      rw [hO.out]
      have D := D.below b6
      have E1 := E1.below b6
      have B6 := below_tt B5 b6
      have D := D.al (.cells #[.int .i64 0, .int .i64 0, .int .i64 0] 43)
      have E1 := E1.al (.cells #[.int .i64 0, .int .i64 0, .int .i64 0] 43)
      have E2 := D3.made w6 0 0 0 43
      have B6 := below_al B6 (.cells #[.int .i64 0, .int .i64 0, .int .i64 0] 43)
      go_wp2_with fail
      refine (drawWeekdayOf_any _ n _ ((hR.below B6).more B6.size) hn2).mono ?_
      rintro e w7 ⟨q, rfl, hq, b7⟩
      have D := D.below b7
      have E1 := E1.below b7
      have E2 := E2.below b7
      have B7 := below_tt B6 b7
      go_wp2_with fail
      refine (implWeekdayOf_any q _).mono ?_
      rintro e w8 ⟨rfl, b8⟩
      have D := D.below b8
      have E1 := E1.below b8
      have E2 := E2.below b8
      have B8 := below_tt B7 b8
      go_wp2_with fail
      refine (specWeekdayOf_any q _).mono ?_
      rintro e w9 ⟨rfl, b9⟩
      have D := D.below b9
      have E1 := E1.below b9
      have E2 := E2.below b9
      have B9 := below_tt B8 b9
      have nd := neq_date
      have gd := grd_date
      have Dc0 := D.c0
      have Dc1 := D.c1
      have Dc2 := D.c2
      have E1c0 := E1.c0
      have E1c1 := E1.c1
      have E1c2 := E1.c2
      have E2c0 := E2.c0
      have E2c1 := E2.c1
      have E2c2 := E2.c2
      go_wp2_with fail
      refine (implIsOldDate_is hV.out _).mono ?_
      rintro e w10 ⟨rfl, b10⟩
      have D := D.below b10
      have E1 := E1.below b10
      have E2 := E2.below b10
      have B10 := below_tt B9 b10
      by_cases hqq : 0 ≤ q ∧ q ≤ 730499
      · have hW := Lib.hid (weekR_t hqq.1 hqq.2)
        rw [hW.out]
        clear hW
        by_cases h7 : q + 7 ≤ 730499
        · have h7a := Lib.hid (week7 hqq.1 h7)
          have h7b := Lib.hid (week1 hqq.1 (show q + 1 ≤ 730499 by omega))
          go_wp2_with fail
          refine (implWeekdayOf_any (q + 7) _).mono ?_
          rintro e w11 ⟨rfl, b11⟩
          rw [h7a.out]
          have D := D.below b11
          have E1 := E1.below b11
          have E2 := E2.below b11
          have B11 := below_tt B10 b11
          go_wp2_with fail
          refine (implWeekdayOf_any (q + 1) _).mono ?_
          rintro e w12 ⟨rfl, b12⟩
          rw [h7b.out]
          have D := D.below b12
          have E1 := E1.below b12
          have E2 := E2.below b12
          have B12 := below_tt B11 b12
          clear h7a h7b
          go_wp2_with fail
          go_ret
          exact ⟨rfl, B12⟩
        · go_wp2_with fail
          go_ret
          exact ⟨rfl, B10⟩
      · have hW := Lib.hid (weekR_f hqq)
        rw [hW.out]
        clear hW
        go_wp2_with fail
        go_ret
        exact ⟨rfl, B10⟩
end Go.Proofs.Yticnkjpgjcddcaa
