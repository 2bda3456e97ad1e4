/- The law FnReforms: a reform skips at most fourteen dates, the same local date of one place is the same day. -/
import Derived.Test.YticnkjpgjcddcaaDraw8
import Derived.Test.YticnkjpgjcddcaaCalL
import Derived.Test.YticnkjpgjcddcaaLoc3
import Derived.Test.YticnkjpgjcddcaaDays
namespace Go.Proofs.Yticnkjpgjcddcaa
open Go.RowKit

set_option maxRecDepth 10000 in
set_option maxHeartbeats 8000000 in
theorem walk_FnReforms (v : Value) (n : Nat) {w : World} (hR : RB w w.heap.size v n ∧ (n : Int) ≤ 9223372036854775807) : Calls Try.prog 13 #[v] w (Yes w) := by
  have hB := Below.refl w.heap.size w
  obtain ⟨hR, hn⟩ := hR
  obtain ⟨a, cap, hv⟩ := hR.val
  by_cases hbig : (4096 : Int) < n
  · have hbig' := Lib.hid (decide_eq_true hbig)
    subst hv
    go_enter Try.func13, Try.ntmps13
    go_wp2_with fail
    refine (big_any a n cap _ hn).mono ?_
    rintro e w' ⟨rfl, rfl⟩
    rw [hbig'.out]
    go_wp2
    go_ret
    exact ⟨rfl, hB⟩
  have hbig' := Lib.hid (decide_eq_false hbig)
  have hn2 : n ≤ 4096 := by omega
  subst hv
  go_enter Try.func13, Try.ntmps13
  go_wp2_with fail
  refine (big_any a n cap _ hn).mono ?_
  rintro e w' ⟨rfl, rfl⟩
  rw [hbig'.out]
  clear hbig hbig'
  go_wp2_with fail
  refine (drawSkippedDates_any _ n _ hR hn2).mono ?_
  rintro e w1 ⟨c, rfl, hc, b1⟩
  have B1 := below_tt hB b1
  have C := D1.made w1 c 54
  have B1 := below_al B1 (.cells #[.int .i64 c] 54)
  obtain ⟨sk, es, hS⟩ : ∃ sk es, skipR c = (sk, es) := ⟨_, _, rfl⟩
  have hSb := skip_t hS
  have hS := Lib.hid hS
  have Cc0 := C.c0
  go_wp2_with fail
  refine (implSkippedDates_any c _).mono ?_
  rintro e w2 ⟨rfl, b2⟩
  rw [hS.out]
  have C := C.below b2
  have B2 := below_tt B1 b2
  have Cc0 := C.c0
  go_wp2_with fail
  refine (specSkippedDates_any c _).mono ?_
  rintro e w3 ⟨rfl, b3⟩
  rw [hS.out]
  have C := C.below b3
  have B3 := below_tt B2 b3
  go_wp2_with fail
  refine (drawDaysOfYear_any _ n _ ((hR.below B3).more B3.size) hn2).mono ?_
  rintro e w4 ⟨x, yr, rfl, hx, hyr, b4⟩
  have C := C.below b4
  have B4 := below_tt B3 b4
  have C := C.al (.cells #[.int .i64 x] 54)
  have X := D1.made w4 x 54
  have B4 := below_al B4 (.cells #[.int .i64 x] 54)
  obtain ⟨dn, en, hN, hNb⟩ := days_t x yr
  have hN := Lib.hid hN
  have Cc0 := C.c0
  have Xc0 := X.c0
  go_wp2_with fail
  refine (implDaysOfYear_any x yr _).mono ?_
  rintro e w5 ⟨rfl, b5⟩
  rw [hN.out]
  have C := C.below b5
  have X := X.below b5
  have B5 := below_tt B4 b5
  have Cc0 := C.c0
  have Xc0 := X.c0
  go_wp2_with fail
  refine (specDaysOfYear_any x yr _).mono ?_
  rintro e w6 ⟨rfl, b6⟩
  rw [hN.out]
  have C := C.below b6
  have X := X.below b6
  have B6 := below_tt B5 b6
  go_wp2_with fail
  refine (drawSameDay_any _ n _ ((hR.below B6).more B6.size) hn2).mono ?_
  rintro e w7 ⟨ca, y, m, d, cb, p, q, r, rfl, b7⟩
  have C := C.below b7
  have X := X.below b7
  have B7 := below_tt B6 b7
  have C := C.al (.cells #[.int .i64 ca] 54)
  have X := X.al (.cells #[.int .i64 ca] 54)
  have A := D1.made w7 ca 54
  have B7 := below_al B7 (.cells #[.int .i64 ca] 54)
  have C := C.al (.cells #[.int .i64 y, .int .i64 m, .int .i64 d] 43)
  have X := X.al (.cells #[.int .i64 y, .int .i64 m, .int .i64 d] 43)
  have A := A.al (.cells #[.int .i64 y, .int .i64 m, .int .i64 d] 43)
  have D := D3.made (w7.alloc (.cells #[.int .i64 ca] 54)) y m d 43
  simp only [World.size_alloc] at D
  have B7 := below_al B7 (.cells #[.int .i64 y, .int .i64 m, .int .i64 d] 43)
  have C := C.al (.cells #[.int .i64 cb] 54)
  have X := X.al (.cells #[.int .i64 cb] 54)
  have A := A.al (.cells #[.int .i64 cb] 54)
  have D := D.al (.cells #[.int .i64 cb] 54)
  have B := D1.made ((w7.alloc (.cells #[.int .i64 ca] 54)).alloc (.cells #[.int .i64 y, .int .i64 m, .int .i64 d] 43)) cb 54
  simp only [World.size_alloc] at B
  have B7 := below_al B7 (.cells #[.int .i64 cb] 54)
  have C := C.al (.cells #[.int .i64 p, .int .i64 q, .int .i64 r] 43)
  have X := X.al (.cells #[.int .i64 p, .int .i64 q, .int .i64 r] 43)
  have A := A.al (.cells #[.int .i64 p, .int .i64 q, .int .i64 r] 43)
  have D := D.al (.cells #[.int .i64 p, .int .i64 q, .int .i64 r] 43)
  have B := B.al (.cells #[.int .i64 p, .int .i64 q, .int .i64 r] 43)
  have E := D3.made (((w7.alloc (.cells #[.int .i64 ca] 54)).alloc (.cells #[.int .i64 y, .int .i64 m, .int .i64 d] 43)).alloc (.cells #[.int .i64 cb] 54)) p q r 43
  simp only [World.size_alloc] at E
  have B7 := below_al B7 (.cells #[.int .i64 p, .int .i64 q, .int .i64 r] 43)
  rcases same_t ca y m d cb p q r with ⟨bb, hM, hM2, hM3⟩ | ⟨ee, hM, hne⟩
  · have hM := Lib.hid hM
    have hM2 := Lib.hid hM2
    have hM3 := Lib.hid hM3
    have Cc0 := C.c0
    have Xc0 := X.c0
    have Ac0 := A.c0
    have Dc0 := D.c0
    have Dc1 := D.c1
    have Dc2 := D.c2
    have Bc0 := B.c0
    have Ec0 := E.c0
    have Ec1 := E.c1
    have Ec2 := E.c2
    go_wp2_with fail
    refine (implSameDay_any ca y m d cb p q r _).mono ?_
    rintro e w8 ⟨rfl, b8⟩
    rw [hM.out]
    have C := C.below b8
    have X := X.below b8
    have A := A.below b8
    have D := D.below b8
    have B := B.below b8
    have E := E.below b8
    have B8 := below_tt B7 b8
    have Cc0 := C.c0
    have Xc0 := X.c0
    have Ac0 := A.c0
    have Dc0 := D.c0
    have Dc1 := D.c1
    have Dc2 := D.c2
    have Bc0 := B.c0
    have Ec0 := E.c0
    have Ec1 := E.c1
    have Ec2 := E.c2
    go_wp2_with fail
    refine (specSameDay_any ca y m d cb p q r _).mono ?_
    rintro e w9 ⟨rfl, b9⟩
    rw [hM.out]
    have C := C.below b9
    have X := X.below b9
    have A := A.below b9
    have D := D.below b9
    have B := B.below b9
    have E := E.below b9
    have B9 := below_tt B8 b9
    have Cc0 := C.c0
    have Xc0 := X.c0
    have Ac0 := A.c0
    have Dc0 := D.c0
    have Dc1 := D.c1
    have Dc2 := D.c2
    have Bc0 := B.c0
    have Ec0 := E.c0
    have Ec1 := E.c1
    have Ec2 := E.c2
    go_wp2_with fail
    refine (implSameDay_any cb p q r ca y m d _).mono ?_
    rintro e w10 ⟨rfl, b10⟩
    rw [hM2.out]
    have C := C.below b10
    have X := X.below b10
    have A := A.below b10
    have D := D.below b10
    have B := B.below b10
    have E := E.below b10
    have B10 := below_tt B9 b10
    have Cc0 := C.c0
    have Xc0 := X.c0
    have Ac0 := A.c0
    have Dc0 := D.c0
    have Dc1 := D.c1
    have Dc2 := D.c2
    have Bc0 := B.c0
    have Ec0 := E.c0
    have Ec1 := E.c1
    have Ec2 := E.c2
    go_wp2_with fail
    refine (implSameDay_any ca y m d ca y m d _).mono ?_
    rintro e w11 ⟨rfl, b11⟩
    rw [hM3.out]
    have C := C.below b11
    have X := X.below b11
    have A := A.below b11
    have D := D.below b11
    have B := B.below b11
    have E := E.below b11
    have B11 := below_tt B10 b11
    clear C X A D B E
    by_cases ze : es = 0
    · obtain ⟨sb1, sb2⟩ := hSb ze
      subst ze
      have f1 : decide (1 ≤ sk) = true := decide_eq_true sb1
      have f2 : decide (sk ≤ 14) = true := decide_eq_true sb2
      by_cases zn : en = 0
      · have nb := hNb zn
        subst zn
        have f3 : decide (dn ≤ 366) = true := decide_eq_true nb
        go_wp2_with fail
        go_ret
        exact ⟨rfl, B11⟩
      · have f3 : (en == 0) = false := by simpa using zn
        have f4 : decide (en = 0) = false := decide_eq_false zn
        go_wp2_with fail
        go_ret
        exact ⟨rfl, B11⟩
    · have f1 : (es == 0) = false := by simpa using ze
      have f2 : decide (es = 0) = false := decide_eq_false ze
      by_cases zn : en = 0
      · have nb := hNb zn
        subst zn
        have f3 : decide (dn ≤ 366) = true := decide_eq_true nb
        go_wp2_with fail
        go_ret
        exact ⟨rfl, B11⟩
      · have f3 : (en == 0) = false := by simpa using zn
        have f4 : decide (en = 0) = false := decide_eq_false zn
        go_wp2_with fail
        go_ret
        exact ⟨rfl, B11⟩
  · have hM := Lib.hid hM
    have dn1 : (ee == 0) = false := by simpa using hne
    have dn2 : decide (ee = 0) = false := decide_eq_false hne
    have Cc0 := C.c0
    have Xc0 := X.c0
    have Ac0 := A.c0
    have Dc0 := D.c0
    have Dc1 := D.c1
    have Dc2 := D.c2
    have Bc0 := B.c0
    have Ec0 := E.c0
    have Ec1 := E.c1
    have Ec2 := E.c2
    go_wp2_with fail
    refine (implSameDay_any ca y m d cb p q r _).mono ?_
    rintro e w8 ⟨rfl, b8⟩
    rw [hM.out]
    have C := C.below b8
    have X := X.below b8
    have A := A.below b8
    have D := D.below b8
    have B := B.below b8
    have E := E.below b8
    have B8 := below_tt B7 b8
    have Cc0 := C.c0
    have Xc0 := X.c0
    have Ac0 := A.c0
    have Dc0 := D.c0
    have Dc1 := D.c1
    have Dc2 := D.c2
    have Bc0 := B.c0
    have Ec0 := E.c0
    have Ec1 := E.c1
    have Ec2 := E.c2
    go_wp2_with fail
    refine (specSameDay_any ca y m d cb p q r _).mono ?_
    rintro e w9 ⟨rfl, b9⟩
    rw [hM.out]
    have C := C.below b9
    have X := X.below b9
    have A := A.below b9
    have D := D.below b9
    have B := B.below b9
    have E := E.below b9
    have B9 := below_tt B8 b9
    have Cc0 := C.c0
    have Xc0 := X.c0
    have Ac0 := A.c0
    have Dc0 := D.c0
    have Dc1 := D.c1
    have Dc2 := D.c2
    have Bc0 := B.c0
    have Ec0 := E.c0
    have Ec1 := E.c1
    have Ec2 := E.c2
    clear C X A D B E
    by_cases ze : es = 0
    · obtain ⟨sb1, sb2⟩ := hSb ze
      subst ze
      have f1 : decide (1 ≤ sk) = true := decide_eq_true sb1
      have f2 : decide (sk ≤ 14) = true := decide_eq_true sb2
      by_cases zn : en = 0
      · have nb := hNb zn
        subst zn
        have f3 : decide (dn ≤ 366) = true := decide_eq_true nb
        go_wp2_with fail
        go_ret
        exact ⟨rfl, B9⟩
      · have f3 : (en == 0) = false := by simpa using zn
        have f4 : decide (en = 0) = false := decide_eq_false zn
        go_wp2_with fail
        go_ret
        exact ⟨rfl, B9⟩
    · have f1 : (es == 0) = false := by simpa using ze
      have f2 : decide (es = 0) = false := decide_eq_false ze
      by_cases zn : en = 0
      · have nb := hNb zn
        subst zn
        have f3 : decide (dn ≤ 366) = true := decide_eq_true nb
        go_wp2_with fail
        go_ret
        exact ⟨rfl, B9⟩
      · have f3 : (en == 0) = false := by simpa using zn
        have f4 : decide (en = 0) = false := decide_eq_false zn
        go_wp2_with fail
        go_ret
        exact ⟨rfl, B9⟩
end Go.Proofs.Yticnkjpgjcddcaa
