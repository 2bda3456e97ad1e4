/- The law FnCalendars: each day has one local date, and is found from it. -/
import Derived.Test.YticnkjpgjcddcaaDraw7
import Derived.Test.YticnkjpgjcddcaaCalL
import Derived.Test.YticnkjpgjcddcaaLoc3
namespace Go.Proofs.Yticnkjpgjcddcaa
open Go.RowKit

set_option maxRecDepth 10000 in
set_option maxHeartbeats 8000000 in
theorem walk_FnCalendars (v : Value) (n : Nat) {w : World} (hR : RB w w.heap.size v n ∧ (n : Int) ≤ 9223372036854775807) : Calls Try.prog 12 #[v] w (Yes w) := by
  have hB := Below.refl w.heap.size w
  obtain ⟨hR, hn⟩ := hR
  obtain ⟨a, cap, hv⟩ := hR.val
  by_cases hbig : (4096 : Int) < n
  · have hbig' := Lib.hid (decide_eq_true hbig)
    subst hv
    go_enter Try.func12, Try.ntmps12
    go_wp2_with fail
    refine (big_any a n cap _ hn).mono ?_
    rintro e w' ⟨rfl, rfl⟩
    rw [hbig'.out]
    go_wp2
    go_ret
    exact ⟨rfl, hB⟩
  have hbig' := Lib.hid (decide_eq_false hbig)
  have hn2 : n ≤ 4096 := by omega
  subst hv
  go_enter Try.func12, Try.ntmps12
  go_wp2_with fail
  refine (big_any a n cap _ hn).mono ?_
  rintro e w' ⟨rfl, rfl⟩
  rw [hbig'.out]
  clear hbig hbig'
  go_wp2_with fail
  refine (drawLocalDate_any _ n _ hR hn2).mono ?_
  rintro e w1 ⟨c, n1, rfl, hc, hn1, b1⟩
  have B1 := below_tt hB b1
  have C := D1.made w1 c 54
  have B1 := below_al B1 (.cells #[.int .i64 c] 54)
  have nd := neq_date
  have gd := grd_date
  obtain ⟨cb, hcb⟩ : ∃ cb, calB c = cb := ⟨_, rfl⟩
  have hcb := Lib.hid hcb
  rcases ldate_ways c n1 with ⟨p, q, r, hA⟩ | ⟨ea, hA, hne⟩
  · have hAB := Lib.hid (ldate_back hA)
    have hA := Lib.hid hA
    have Cc0 := C.c0
    go_wp2_with fail
    refine (implLocalDate_any c n1 _).mono ?_
    rintro e w2 ⟨rfl, b2⟩
    rw [hA.out]
    have C := C.below b2
    have B2 := below_tt B1 b2
    have C := C.al (.cells #[.int .i64 p, .int .i64 q, .int .i64 r] 43)
    have D := D3.made w2 p q r 43
    have B2 := below_al B2 (.cells #[.int .i64 p, .int .i64 q, .int .i64 r] 43)
    have Cc0 := C.c0
    have Dc0 := D.c0
    have Dc1 := D.c1
    have Dc2 := D.c2
    go_wp2_with fail
    refine (specLocalDate_any c n1 _).mono ?_
    rintro e w3 ⟨rfl, b3⟩
    rw [hA.out]
    have C := C.below b3
    have D := D.below b3
    have B3 := below_tt B2 b3
    have C := C.al (.cells #[.int .i64 p, .int .i64 q, .int .i64 r] 43)
    have D := D.al (.cells #[.int .i64 p, .int .i64 q, .int .i64 r] 43)
    have G := D3.made w3 p q r 43
    have B3 := below_al B3 (.cells #[.int .i64 p, .int .i64 q, .int .i64 r] 43)
    go_wp2_with fail
    refine (drawLocalDay_any _ n _ ((hR.below B3).more B3.size) hn2).mono ?_
    rintro e w4 ⟨x, y, m, d, rfl, hx, b4⟩
    have C := C.below b4
    have D := D.below b4
    have G := G.below b4
    have B4 := below_tt B3 b4
    have C := C.al (.cells #[.int .i64 x] 54)
    have D := D.al (.cells #[.int .i64 x] 54)
    have G := G.al (.cells #[.int .i64 x] 54)
    have X := D1.made w4 x 54
    have B4 := below_al B4 (.cells #[.int .i64 x] 54)
    have C := C.al (.cells #[.int .i64 y, .int .i64 m, .int .i64 d] 43)
    have D := D.al (.cells #[.int .i64 y, .int .i64 m, .int .i64 d] 43)
    have G := G.al (.cells #[.int .i64 y, .int .i64 m, .int .i64 d] 43)
    have X := X.al (.cells #[.int .i64 y, .int .i64 m, .int .i64 d] 43)
    have E := D3.made (w4.alloc (.cells #[.int .i64 x] 54)) y m d 43
    simp only [World.size_alloc] at E
    have B4 := below_al B4 (.cells #[.int .i64 y, .int .i64 m, .int .i64 d] 43)
    rcases three_ways x y m d with ⟨k, hL, hI⟩ | ⟨hL, hI⟩ | ⟨hL, hI⟩
    · have hLB := Lib.hid (lday_back hL)
      have hL := Lib.hid hL
      have hI := Lib.hid hI
      have Cc0 := C.c0
      have Dc0 := D.c0
      have Dc1 := D.c1
      have Dc2 := D.c2
      have Gc0 := G.c0
      have Gc1 := G.c1
      have Gc2 := G.c2
      have Xc0 := X.c0
      have Ec0 := E.c0
      have Ec1 := E.c1
      have Ec2 := E.c2
      go_wp2_with fail
      refine (implLocalDay_any x y m d _).mono ?_
      rintro e w5 ⟨rfl, b5⟩
      rw [hL.out]
      have C := C.below b5
      have D := D.below b5
      have G := G.below b5
      have X := X.below b5
      have E := E.below b5
      have B5 := below_tt B4 b5
      have Cc0 := C.c0
      have Dc0 := D.c0
      have Dc1 := D.c1
      have Dc2 := D.c2
      have Gc0 := G.c0
      have Gc1 := G.c1
      have Gc2 := G.c2
      have Xc0 := X.c0
      have Ec0 := E.c0
      have Ec1 := E.c1
      have Ec2 := E.c2
      go_wp2_with fail
      refine (specLocalDay_any x y m d _).mono ?_
      rintro e w6 ⟨rfl, b6⟩
      rw [hL.out]
      have C := C.below b6
      have D := D.below b6
      have G := G.below b6
      have X := X.below b6
      have E := E.below b6
      have B6 := below_tt B5 b6
      have Cc0 := C.c0
      have Dc0 := D.c0
      have Dc1 := D.c1
      have Dc2 := D.c2
      have Gc0 := G.c0
      have Gc1 := G.c1
      have Gc2 := G.c2
      have Xc0 := X.c0
      have Ec0 := E.c0
      have Ec1 := E.c1
      have Ec2 := E.c2
      go_wp2_with fail
      refine (implIsLocal_any x y m d _).mono ?_
      rintro e w7 ⟨rfl, b7⟩
      rw [hI.out]
      have C := C.below b7
      have D := D.below b7
      have G := G.below b7
      have X := X.below b7
      have E := E.below b7
      have B7 := below_tt B6 b7
      have Cc0 := C.c0
      have Dc0 := D.c0
      have Dc1 := D.c1
      have Dc2 := D.c2
      have Gc0 := G.c0
      have Gc1 := G.c1
      have Gc2 := G.c2
      have Xc0 := X.c0
      have Ec0 := E.c0
      have Ec1 := E.c1
      have Ec2 := E.c2
      go_wp2_with fail
      refine (specIsLocal_any x y m d _).mono ?_
      rintro e w8 ⟨rfl, b8⟩
      rw [hI.out]
      have C := C.below b8
      have D := D.below b8
      have G := G.below b8
      have X := X.below b8
      have E := E.below b8
      have B8 := below_tt B7 b8
      have Cc0 := C.c0
      have Dc0 := D.c0
      have Dc1 := D.c1
      have Dc2 := D.c2
      have Gc0 := G.c0
      have Gc1 := G.c1
      have Gc2 := G.c2
      have Xc0 := X.c0
      have Ec0 := E.c0
      have Ec1 := E.c1
      have Ec2 := E.c2
      have rg := cell_rg
      have Clt := C.lt
      have Dlt := D.lt
      have Glt := G.lt
      have Xlt := X.lt
      have Elt := E.lt
      go_wp2_with fail
      (refine wp_region_quiet_below (by kernel_rfl) (by kernel_rfl) ?_; (repeat (go_big_quiet_step (first | (go_at_call 71; exact Calls.regrown_of (implIsCalendar_is hcb.out _)) | (go_at_call 72; exact Calls.regrown_of (specIsCalendar_is hcb.out _))))); refine wpQuiet_nil ?_; intro w9 hw9; have b9 := below_of_regrown hw9; clear hw9)
      have C := C.below b9
      have D := D.below b9
      have G := G.below b9
      have X := X.below b9
      have E := E.below b9
      have B9 := below_tt B8 b9
      have Cc0 := C.c0
      have Dc0 := D.c0
      have Dc1 := D.c1
      have Dc2 := D.c2
      have Gc0 := G.c0
      have Gc1 := G.c1
      have Gc2 := G.c2
      have Xc0 := X.c0
      have Ec0 := E.c0
      have Ec1 := E.c1
      have Ec2 := E.c2
      go_wp2_with fail
      refine (implLocalDate_any x k _).mono ?_
      rintro e w10 ⟨rfl, b10⟩
      rw [hLB.out]
      have C := C.below b10
      have D := D.below b10
      have G := G.below b10
      have X := X.below b10
      have E := E.below b10
      have B10 := below_tt B9 b10
      have C := C.al (.cells #[.int .i64 y, .int .i64 m, .int .i64 d] 43)
      have D := D.al (.cells #[.int .i64 y, .int .i64 m, .int .i64 d] 43)
      have G := G.al (.cells #[.int .i64 y, .int .i64 m, .int .i64 d] 43)
      have X := X.al (.cells #[.int .i64 y, .int .i64 m, .int .i64 d] 43)
      have E := E.al (.cells #[.int .i64 y, .int .i64 m, .int .i64 d] 43)
      have F := D3.made w10 y m d 43
      have B10 := below_al B10 (.cells #[.int .i64 y, .int .i64 m, .int .i64 d] 43)
      have Cc0 := C.c0
      have Dc0 := D.c0
      have Dc1 := D.c1
      have Dc2 := D.c2
      have Gc0 := G.c0
      have Gc1 := G.c1
      have Gc2 := G.c2
      have Xc0 := X.c0
      have Ec0 := E.c0
      have Ec1 := E.c1
      have Ec2 := E.c2
      have Fc0 := F.c0
      have Fc1 := F.c1
      have Fc2 := F.c2
      go_wp2_with fail
      refine (implLocalDay_any c p q r _).mono ?_
      rintro e w11 ⟨rfl, b11⟩
      rw [hAB.out]
      have C := C.below b11
      have D := D.below b11
      have G := G.below b11
      have X := X.below b11
      have E := E.below b11
      have F := F.below b11
      have B11 := below_tt B10 b11
      go_wp2_with fail
      go_ret
      exact ⟨rfl, B11⟩
    · have hL := Lib.hid hL
      have hI := Lib.hid hI
      have Cc0 := C.c0
      have Dc0 := D.c0
      have Dc1 := D.c1
      have Dc2 := D.c2
      have Gc0 := G.c0
      have Gc1 := G.c1
      have Gc2 := G.c2
      have Xc0 := X.c0
      have Ec0 := E.c0
      have Ec1 := E.c1
      have Ec2 := E.c2
      go_wp2_with fail
      refine (implLocalDay_any x y m d _).mono ?_
      rintro e w5 ⟨rfl, b5⟩
      rw [hL.out]
      have C := C.below b5
      have D := D.below b5
      have G := G.below b5
      have X := X.below b5
      have E := E.below b5
      have B5 := below_tt B4 b5
      have Cc0 := C.c0
      have Dc0 := D.c0
      have Dc1 := D.c1
      have Dc2 := D.c2
      have Gc0 := G.c0
      have Gc1 := G.c1
      have Gc2 := G.c2
      have Xc0 := X.c0
      have Ec0 := E.c0
      have Ec1 := E.c1
      have Ec2 := E.c2
      go_wp2_with fail
      refine (specLocalDay_any x y m d _).mono ?_
      rintro e w6 ⟨rfl, b6⟩
      rw [hL.out]
      have C := C.below b6
      have D := D.below b6
      have G := G.below b6
      have X := X.below b6
      have E := E.below b6
      have B6 := below_tt B5 b6
      have Cc0 := C.c0
      have Dc0 := D.c0
      have Dc1 := D.c1
      have Dc2 := D.c2
      have Gc0 := G.c0
      have Gc1 := G.c1
      have Gc2 := G.c2
      have Xc0 := X.c0
      have Ec0 := E.c0
      have Ec1 := E.c1
      have Ec2 := E.c2
      go_wp2_with fail
      refine (implIsLocal_any x y m d _).mono ?_
      rintro e w7 ⟨rfl, b7⟩
      rw [hI.out]
      have C := C.below b7
      have D := D.below b7
      have G := G.below b7
      have X := X.below b7
      have E := E.below b7
      have B7 := below_tt B6 b7
      have Cc0 := C.c0
      have Dc0 := D.c0
      have Dc1 := D.c1
      have Dc2 := D.c2
      have Gc0 := G.c0
      have Gc1 := G.c1
      have Gc2 := G.c2
      have Xc0 := X.c0
      have Ec0 := E.c0
      have Ec1 := E.c1
      have Ec2 := E.c2
      go_wp2_with fail
      refine (specIsLocal_any x y m d _).mono ?_
      rintro e w8 ⟨rfl, b8⟩
      rw [hI.out]
      have C := C.below b8
      have D := D.below b8
      have G := G.below b8
      have X := X.below b8
      have E := E.below b8
      have B8 := below_tt B7 b8
      have Cc0 := C.c0
      have Dc0 := D.c0
      have Dc1 := D.c1
      have Dc2 := D.c2
      have Gc0 := G.c0
      have Gc1 := G.c1
      have Gc2 := G.c2
      have Xc0 := X.c0
      have Ec0 := E.c0
      have Ec1 := E.c1
      have Ec2 := E.c2
      have rg := cell_rg
      have Clt := C.lt
      have Dlt := D.lt
      have Glt := G.lt
      have Xlt := X.lt
      have Elt := E.lt
      go_wp2_with fail
      (refine wp_region_quiet_below (by kernel_rfl) (by kernel_rfl) ?_; (repeat (go_big_quiet_step (first | (go_at_call 71; exact Calls.regrown_of (implIsCalendar_is hcb.out _)) | (go_at_call 72; exact Calls.regrown_of (specIsCalendar_is hcb.out _))))); refine wpQuiet_nil ?_; intro w9 hw9; have b9 := below_of_regrown hw9; clear hw9)
      have C := C.below b9
      have D := D.below b9
      have G := G.below b9
      have X := X.below b9
      have E := E.below b9
      have B9 := below_tt B8 b9
      have Cc0 := C.c0
      have Dc0 := D.c0
      have Dc1 := D.c1
      have Dc2 := D.c2
      have Gc0 := G.c0
      have Gc1 := G.c1
      have Gc2 := G.c2
      have Xc0 := X.c0
      have Ec0 := E.c0
      have Ec1 := E.c1
      have Ec2 := E.c2
      go_wp2_with fail
      refine (implLocalDay_any c p q r _).mono ?_
      rintro e w10 ⟨rfl, b10⟩
      rw [hAB.out]
      have C := C.below b10
      have D := D.below b10
      have G := G.below b10
      have X := X.below b10
      have E := E.below b10
      have B10 := below_tt B9 b10
      go_wp2_with fail
      go_ret
      exact ⟨rfl, B10⟩
    · have hL := Lib.hid hL
      have hI := Lib.hid hI
      have Cc0 := C.c0
      have Dc0 := D.c0
      have Dc1 := D.c1
      have Dc2 := D.c2
      have Gc0 := G.c0
      have Gc1 := G.c1
      have Gc2 := G.c2
      have Xc0 := X.c0
      have Ec0 := E.c0
      have Ec1 := E.c1
      have Ec2 := E.c2
      go_wp2_with fail
      refine (implLocalDay_any x y m d _).mono ?_
      rintro e w5 ⟨rfl, b5⟩
      rw [hL.out]
      have C := C.below b5
      have D := D.below b5
      have G := G.below b5
      have X := X.below b5
      have E := E.below b5
      have B5 := below_tt B4 b5
      have Cc0 := C.c0
      have Dc0 := D.c0
      have Dc1 := D.c1
      have Dc2 := D.c2
      have Gc0 := G.c0
      have Gc1 := G.c1
      have Gc2 := G.c2
      have Xc0 := X.c0
      have Ec0 := E.c0
      have Ec1 := E.c1
      have Ec2 := E.c2
      go_wp2_with fail
      refine (specLocalDay_any x y m d _).mono ?_
      rintro e w6 ⟨rfl, b6⟩
      rw [hL.out]
      have C := C.below b6
      have D := D.below b6
      have G := G.below b6
      have X := X.below b6
      have E := E.below b6
      have B6 := below_tt B5 b6
      have Cc0 := C.c0
      have Dc0 := D.c0
      have Dc1 := D.c1
      have Dc2 := D.c2
      have Gc0 := G.c0
      have Gc1 := G.c1
      have Gc2 := G.c2
      have Xc0 := X.c0
      have Ec0 := E.c0
      have Ec1 := E.c1
      have Ec2 := E.c2
      go_wp2_with fail
      refine (implIsLocal_any x y m d _).mono ?_
      rintro e w7 ⟨rfl, b7⟩
      rw [hI.out]
      have C := C.below b7
      have D := D.below b7
      have G := G.below b7
      have X := X.below b7
      have E := E.below b7
      have B7 := below_tt B6 b7
      have Cc0 := C.c0
      have Dc0 := D.c0
      have Dc1 := D.c1
      have Dc2 := D.c2
      have Gc0 := G.c0
      have Gc1 := G.c1
      have Gc2 := G.c2
      have Xc0 := X.c0
      have Ec0 := E.c0
      have Ec1 := E.c1
      have Ec2 := E.c2
      go_wp2_with fail
      refine (specIsLocal_any x y m d _).mono ?_
      rintro e w8 ⟨rfl, b8⟩
      rw [hI.out]
      have C := C.below b8
      have D := D.below b8
      have G := G.below b8
      have X := X.below b8
      have E := E.below b8
      have B8 := below_tt B7 b8
      have Cc0 := C.c0
      have Dc0 := D.c0
      have Dc1 := D.c1
      have Dc2 := D.c2
      have Gc0 := G.c0
      have Gc1 := G.c1
      have Gc2 := G.c2
      have Xc0 := X.c0
      have Ec0 := E.c0
      have Ec1 := E.c1
      have Ec2 := E.c2
      have rg := cell_rg
      have Clt := C.lt
      have Dlt := D.lt
      have Glt := G.lt
      have Xlt := X.lt
      have Elt := E.lt
      go_wp2_with fail
      (refine wp_region_quiet_below (by kernel_rfl) (by kernel_rfl) ?_; (repeat (go_big_quiet_step (first | (go_at_call 71; exact Calls.regrown_of (implIsCalendar_is hcb.out _)) | (go_at_call 72; exact Calls.regrown_of (specIsCalendar_is hcb.out _))))); refine wpQuiet_nil ?_; intro w9 hw9; have b9 := below_of_regrown hw9; clear hw9)
      have C := C.below b9
      have D := D.below b9
      have G := G.below b9
      have X := X.below b9
      have E := E.below b9
      have B9 := below_tt B8 b9
      have Cc0 := C.c0
      have Dc0 := D.c0
      have Dc1 := D.c1
      have Dc2 := D.c2
      have Gc0 := G.c0
      have Gc1 := G.c1
      have Gc2 := G.c2
      have Xc0 := X.c0
      have Ec0 := E.c0
      have Ec1 := E.c1
      have Ec2 := E.c2
      go_wp2_with fail
      refine (implLocalDay_any c p q r _).mono ?_
      rintro e w10 ⟨rfl, b10⟩
      rw [hAB.out]
      have C := C.below b10
      have D := D.below b10
      have G := G.below b10
      have X := X.below b10
      have E := E.below b10
      have B10 := below_tt B9 b10
      go_wp2_with fail
      go_ret
      exact ⟨rfl, B10⟩
  · have dn1 : (ea == 0) = false := by simpa using hne
    have dn2 : decide (ea = 0) = false := decide_eq_false hne
    have hA := Lib.hid hA
    have Cc0 := C.c0
    go_wp2_with fail
    refine (implLocalDate_any c n1 _).mono ?_
    rintro e w2 ⟨rfl, b2⟩
    rw [hA.out]
    have C := C.below b2
    have B2 := below_tt B1 b2
    have C := C.al (.cells #[.int .i64 0, .int .i64 0, .int .i64 0] 43)
    have D := D3.made w2 0 0 0 43
    have B2 := below_al B2 (.cells #[.int .i64 0, .int .i64 0, .int .i64 0] 43)
    have Cc0 := C.c0
    have Dc0 := D.c0
    have Dc1 := D.c1
    have Dc2 := D.c2
    go_wp2_with fail
    refine (specLocalDate_any c n1 _).mono ?_
    rintro e w3 ⟨rfl, b3⟩
    rw [hA.out]
    have C := C.below b3
    have D := D.below b3
    have B3 := below_tt B2 b3
    have C := C.al (.cells #[.int .i64 0, .int .i64 0, .int .i64 0] 43)
    have D := D.al (.cells #[.int .i64 0, .int .i64 0, .int .i64 0] 43)
    have G := D3.made w3 0 0 0 43
    have B3 := below_al B3 (.cells #[.int .i64 0, .int .i64 0, .int .i64 0] 43)
    go_wp2_with fail
    refine (drawLocalDay_any _ n _ ((hR.below B3).more B3.size) hn2).mono ?_
    rintro e w4 ⟨x, y, m, d, rfl, hx, b4⟩
    have C := C.below b4
    have D := D.below b4
    have G := G.below b4
    have B4 := below_tt B3 b4
    have C := C.al (.cells #[.int .i64 x] 54)
    have D := D.al (.cells #[.int .i64 x] 54)
    have G := G.al (.cells #[.int .i64 x] 54)
    have X := D1.made w4 x 54
    have B4 := below_al B4 (.cells #[.int .i64 x] 54)
    have C := C.al (.cells #[.int .i64 y, .int .i64 m, .int .i64 d] 43)
    have D := D.al (.cells #[.int .i64 y, .int .i64 m, .int .i64 d] 43)
    have G := G.al (.cells #[.int .i64 y, .int .i64 m, .int .i64 d] 43)
    have X := X.al (.cells #[.int .i64 y, .int .i64 m, .int .i64 d] 43)
    have E := D3.made (w4.alloc (.cells #[.int .i64 x] 54)) y m d 43
    simp only [World.size_alloc] at E
    have B4 := below_al B4 (.cells #[.int .i64 y, .int .i64 m, .int .i64 d] 43)
    rcases three_ways x y m d with ⟨k, hL, hI⟩ | ⟨hL, hI⟩ | ⟨hL, hI⟩
    · have hLB := Lib.hid (lday_back hL)
      have hL := Lib.hid hL
      have hI := Lib.hid hI
      have Cc0 := C.c0
      have Dc0 := D.c0
      have Dc1 := D.c1
      have Dc2 := D.c2
      have Gc0 := G.c0
      have Gc1 := G.c1
      have Gc2 := G.c2
      have Xc0 := X.c0
      have Ec0 := E.c0
      have Ec1 := E.c1
      have Ec2 := E.c2
      go_wp2_with fail
      refine (implLocalDay_any x y m d _).mono ?_
      rintro e w5 ⟨rfl, b5⟩
      rw [hL.out]
      have C := C.below b5
      have D := D.below b5
      have G := G.below b5
      have X := X.below b5
      have E := E.below b5
      have B5 := below_tt B4 b5
      have Cc0 := C.c0
      have Dc0 := D.c0
      have Dc1 := D.c1
      have Dc2 := D.c2
      have Gc0 := G.c0
      have Gc1 := G.c1
      have Gc2 := G.c2
      have Xc0 := X.c0
      have Ec0 := E.c0
      have Ec1 := E.c1
      have Ec2 := E.c2
      go_wp2_with fail
      refine (specLocalDay_any x y m d _).mono ?_
      rintro e w6 ⟨rfl, b6⟩
      rw [hL.out]
      have C := C.below b6
      have D := D.below b6
      have G := G.below b6
      have X := X.below b6
      have E := E.below b6
      have B6 := below_tt B5 b6
      have Cc0 := C.c0
      have Dc0 := D.c0
      have Dc1 := D.c1
      have Dc2 := D.c2
      have Gc0 := G.c0
      have Gc1 := G.c1
      have Gc2 := G.c2
      have Xc0 := X.c0
      have Ec0 := E.c0
      have Ec1 := E.c1
      have Ec2 := E.c2
      go_wp2_with fail
      refine (implIsLocal_any x y m d _).mono ?_
      rintro e w7 ⟨rfl, b7⟩
      rw [hI.out]
      have C := C.below b7
      have D := D.below b7
      have G := G.below b7
      have X := X.below b7
      have E := E.below b7
      have B7 := below_tt B6 b7
      have Cc0 := C.c0
      have Dc0 := D.c0
      have Dc1 := D.c1
      have Dc2 := D.c2
      have Gc0 := G.c0
      have Gc1 := G.c1
      have Gc2 := G.c2
      have Xc0 := X.c0
      have Ec0 := E.c0
      have Ec1 := E.c1
      have Ec2 := E.c2
      go_wp2_with fail
      refine (specIsLocal_any x y m d _).mono ?_
      rintro e w8 ⟨rfl, b8⟩
      rw [hI.out]
      have C := C.below b8
      have D := D.below b8
      have G := G.below b8
      have X := X.below b8
      have E := E.below b8
      have B8 := below_tt B7 b8
      have Cc0 := C.c0
      have Dc0 := D.c0
      have Dc1 := D.c1
      have Dc2 := D.c2
      have Gc0 := G.c0
      have Gc1 := G.c1
      have Gc2 := G.c2
      have Xc0 := X.c0
      have Ec0 := E.c0
      have Ec1 := E.c1
      have Ec2 := E.c2
      have rg := cell_rg
      have Clt := C.lt
      have Dlt := D.lt
      have Glt := G.lt
      have Xlt := X.lt
      have Elt := E.lt
      go_wp2_with fail
      (refine wp_region_quiet_below (by kernel_rfl) (by kernel_rfl) ?_; (repeat (go_big_quiet_step (first | (go_at_call 71; exact Calls.regrown_of (implIsCalendar_is hcb.out _)) | (go_at_call 72; exact Calls.regrown_of (specIsCalendar_is hcb.out _))))); refine wpQuiet_nil ?_; intro w9 hw9; have b9 := below_of_regrown hw9; clear hw9)
      have C := C.below b9
      have D := D.below b9
      have G := G.below b9
      have X := X.below b9
      have E := E.below b9
      have B9 := below_tt B8 b9
      have Cc0 := C.c0
      have Dc0 := D.c0
      have Dc1 := D.c1
      have Dc2 := D.c2
      have Gc0 := G.c0
      have Gc1 := G.c1
      have Gc2 := G.c2
      have Xc0 := X.c0
      have Ec0 := E.c0
      have Ec1 := E.c1
      have Ec2 := E.c2
      go_wp2_with fail
      refine (implLocalDate_any x k _).mono ?_
      rintro e w10 ⟨rfl, b10⟩
      rw [hLB.out]
      have C := C.below b10
      have D := D.below b10
      have G := G.below b10
      have X := X.below b10
      have E := E.below b10
      have B10 := below_tt B9 b10
      have C := C.al (.cells #[.int .i64 y, .int .i64 m, .int .i64 d] 43)
      have D := D.al (.cells #[.int .i64 y, .int .i64 m, .int .i64 d] 43)
      have G := G.al (.cells #[.int .i64 y, .int .i64 m, .int .i64 d] 43)
      have X := X.al (.cells #[.int .i64 y, .int .i64 m, .int .i64 d] 43)
      have E := E.al (.cells #[.int .i64 y, .int .i64 m, .int .i64 d] 43)
      have F := D3.made w10 y m d 43
      have B10 := below_al B10 (.cells #[.int .i64 y, .int .i64 m, .int .i64 d] 43)
      have Cc0 := C.c0
      have Dc0 := D.c0
      have Dc1 := D.c1
      have Dc2 := D.c2
      have Gc0 := G.c0
      have Gc1 := G.c1
      have Gc2 := G.c2
      have Xc0 := X.c0
      have Ec0 := E.c0
      have Ec1 := E.c1
      have Ec2 := E.c2
      have Fc0 := F.c0
      have Fc1 := F.c1
      have Fc2 := F.c2
      go_wp2_with fail
      go_ret
      exact ⟨rfl, B10⟩
    · have hL := Lib.hid hL
      have hI := Lib.hid hI
      have Cc0 := C.c0
      have Dc0 := D.c0
      have Dc1 := D.c1
      have Dc2 := D.c2
      have Gc0 := G.c0
      have Gc1 := G.c1
      have Gc2 := G.c2
      have Xc0 := X.c0
      have Ec0 := E.c0
      have Ec1 := E.c1
      have Ec2 := E.c2
      go_wp2_with fail
      refine (implLocalDay_any x y m d _).mono ?_
      rintro e w5 ⟨rfl, b5⟩
      rw [hL.out]
      have C := C.below b5
      have D := D.below b5
      have G := G.below b5
      have X := X.below b5
      have E := E.below b5
      have B5 := below_tt B4 b5
      have Cc0 := C.c0
      have Dc0 := D.c0
      have Dc1 := D.c1
      have Dc2 := D.c2
      have Gc0 := G.c0
      have Gc1 := G.c1
      have Gc2 := G.c2
      have Xc0 := X.c0
      have Ec0 := E.c0
      have Ec1 := E.c1
      have Ec2 := E.c2
      go_wp2_with fail
      refine (specLocalDay_any x y m d _).mono ?_
      rintro e w6 ⟨rfl, b6⟩
      rw [hL.out]
      have C := C.below b6
      have D := D.below b6
      have G := G.below b6
      have X := X.below b6
      have E := E.below b6
      have B6 := below_tt B5 b6
      have Cc0 := C.c0
      have Dc0 := D.c0
      have Dc1 := D.c1
      have Dc2 := D.c2
      have Gc0 := G.c0
      have Gc1 := G.c1
      have Gc2 := G.c2
      have Xc0 := X.c0
      have Ec0 := E.c0
      have Ec1 := E.c1
      have Ec2 := E.c2
      go_wp2_with fail
      refine (implIsLocal_any x y m d _).mono ?_
      rintro e w7 ⟨rfl, b7⟩
      rw [hI.out]
      have C := C.below b7
      have D := D.below b7
      have G := G.below b7
      have X := X.below b7
      have E := E.below b7
      have B7 := below_tt B6 b7
      have Cc0 := C.c0
      have Dc0 := D.c0
      have Dc1 := D.c1
      have Dc2 := D.c2
      have Gc0 := G.c0
      have Gc1 := G.c1
      have Gc2 := G.c2
      have Xc0 := X.c0
      have Ec0 := E.c0
      have Ec1 := E.c1
      have Ec2 := E.c2
      go_wp2_with fail
      refine (specIsLocal_any x y m d _).mono ?_
      rintro e w8 ⟨rfl, b8⟩
      rw [hI.out]
      have C := C.below b8
      have D := D.below b8
      have G := G.below b8
      have X := X.below b8
      have E := E.below b8
      have B8 := below_tt B7 b8
      have Cc0 := C.c0
      have Dc0 := D.c0
      have Dc1 := D.c1
      have Dc2 := D.c2
      have Gc0 := G.c0
      have Gc1 := G.c1
      have Gc2 := G.c2
      have Xc0 := X.c0
      have Ec0 := E.c0
      have Ec1 := E.c1
      have Ec2 := E.c2
      have rg := cell_rg
      have Clt := C.lt
      have Dlt := D.lt
      have Glt := G.lt
      have Xlt := X.lt
      have Elt := E.lt
      go_wp2_with fail
      (refine wp_region_quiet_below (by kernel_rfl) (by kernel_rfl) ?_; (repeat (go_big_quiet_step (first | (go_at_call 71; exact Calls.regrown_of (implIsCalendar_is hcb.out _)) | (go_at_call 72; exact Calls.regrown_of (specIsCalendar_is hcb.out _))))); refine wpQuiet_nil ?_; intro w9 hw9; have b9 := below_of_regrown hw9; clear hw9)
      have C := C.below b9
      have D := D.below b9
      have G := G.below b9
      have X := X.below b9
      have E := E.below b9
      have B9 := below_tt B8 b9
      have Cc0 := C.c0
      have Dc0 := D.c0
      have Dc1 := D.c1
      have Dc2 := D.c2
      have Gc0 := G.c0
      have Gc1 := G.c1
      have Gc2 := G.c2
      have Xc0 := X.c0
      have Ec0 := E.c0
      have Ec1 := E.c1
      have Ec2 := E.c2
      go_wp2_with fail
      go_ret
      exact ⟨rfl, B9⟩
    · have hL := Lib.hid hL
      have hI := Lib.hid hI
      have Cc0 := C.c0
      have Dc0 := D.c0
      have Dc1 := D.c1
      have Dc2 := D.c2
      have Gc0 := G.c0
      have Gc1 := G.c1
      have Gc2 := G.c2
      have Xc0 := X.c0
      have Ec0 := E.c0
      have Ec1 := E.c1
      have Ec2 := E.c2
      go_wp2_with fail
      refine (implLocalDay_any x y m d _).mono ?_
      rintro e w5 ⟨rfl, b5⟩
      rw [hL.out]
      have C := C.below b5
      have D := D.below b5
      have G := G.below b5
      have X := X.below b5
      have E := E.below b5
      have B5 := below_tt B4 b5
      have Cc0 := C.c0
      have Dc0 := D.c0
      have Dc1 := D.c1
      have Dc2 := D.c2
      have Gc0 := G.c0
      have Gc1 := G.c1
      have Gc2 := G.c2
      have Xc0 := X.c0
      have Ec0 := E.c0
      have Ec1 := E.c1
      have Ec2 := E.c2
      go_wp2_with fail
      refine (specLocalDay_any x y m d _).mono ?_
      rintro e w6 ⟨rfl, b6⟩
      rw [hL.out]
      have C := C.below b6
      have D := D.below b6
      have G := G.below b6
      have X := X.below b6
      have E := E.below b6
      have B6 := below_tt B5 b6
      have Cc0 := C.c0
      have Dc0 := D.c0
      have Dc1 := D.c1
      have Dc2 := D.c2
      have Gc0 := G.c0
      have Gc1 := G.c1
      have Gc2 := G.c2
      have Xc0 := X.c0
      have Ec0 := E.c0
      have Ec1 := E.c1
      have Ec2 := E.c2
      go_wp2_with fail
      refine (implIsLocal_any x y m d _).mono ?_
      rintro e w7 ⟨rfl, b7⟩
      rw [hI.out]
      have C := C.below b7
      have D := D.below b7
      have G := G.below b7
      have X := X.below b7
      have E := E.below b7
      have B7 := below_tt B6 b7
      have Cc0 := C.c0
      have Dc0 := D.c0
      have Dc1 := D.c1
      have Dc2 := D.c2
      have Gc0 := G.c0
      have Gc1 := G.c1
      have Gc2 := G.c2
      have Xc0 := X.c0
      have Ec0 := E.c0
      have Ec1 := E.c1
      have Ec2 := E.c2
      go_wp2_with fail
      refine (specIsLocal_any x y m d _).mono ?_
      rintro e w8 ⟨rfl, b8⟩
      rw [hI.out]
      have C := C.below b8
      have D := D.below b8
      have G := G.below b8
      have X := X.below b8
      have E := E.below b8
      have B8 := below_tt B7 b8
      have Cc0 := C.c0
      have Dc0 := D.c0
      have Dc1 := D.c1
      have Dc2 := D.c2
      have Gc0 := G.c0
      have Gc1 := G.c1
      have Gc2 := G.c2
      have Xc0 := X.c0
      have Ec0 := E.c0
      have Ec1 := E.c1
      have Ec2 := E.c2
      have rg := cell_rg
      have Clt := C.lt
      have Dlt := D.lt
      have Glt := G.lt
      have Xlt := X.lt
      have Elt := E.lt
      go_wp2_with fail
      (refine wp_region_quiet_below (by kernel_rfl) (by kernel_rfl) ?_; (repeat (go_big_quiet_step (first | (go_at_call 71; exact Calls.regrown_of (implIsCalendar_is hcb.out _)) | (go_at_call 72; exact Calls.regrown_of (specIsCalendar_is hcb.out _))))); refine wpQuiet_nil ?_; intro w9 hw9; have b9 := below_of_regrown hw9; clear hw9)
      have C := C.below b9
      have D := D.below b9
      have G := G.below b9
      have X := X.below b9
      have E := E.below b9
      have B9 := below_tt B8 b9
      have Cc0 := C.c0
      have Dc0 := D.c0
      have Dc1 := D.c1
      have Dc2 := D.c2
      have Gc0 := G.c0
      have Gc1 := G.c1
      have Gc2 := G.c2
      have Xc0 := X.c0
      have Ec0 := E.c0
      have Ec1 := E.c1
      have Ec2 := E.c2
      go_wp2_with fail
      go_ret
      exact ⟨rfl, B9⟩
end Go.Proofs.Yticnkjpgjcddcaa
