/- The law FnEasters: Easter is the first Sunday behind the full moon, in the old calendar from March 22 to April 25. -/
import Derived.Test.YticnkjpgjcddcaaDraw7
import Derived.Test.YticnkjpgjcddcaaOne
import Derived.Test.YticnkjpgjcddcaaLoc3
import Derived.Test.YticnkjpgjcddcaaYears
import Derived.Test.YticnkjpgjcddcaaFnLetters
namespace Go.Proofs.Yticnkjpgjcddcaa
open Go.RowKit

set_option maxRecDepth 100000 in
set_option maxHeartbeats 4000000 in
theorem newEasters : ∀ k : Nat, k < 418 → ((neaster (1583 + k) + 5) % 7 = 6 ∧ valid (1583 + k) (nem (1583 + k)) (ned (1583 + k)) true = true ∧ 3 ≤ nem (1583 + (k : Int)) ∧ nem (1583 + (k : Int)) ≤ 4) := by decide +kernel
theorem new_t {y : Int} (h : inR y 1583 2000 = true) : ∃ m p q, neastR y = (m, 0) ∧ weekR m = (6, 0) ∧ ndateR m = ((y, p, q), 0) ∧ 3 ≤ p ∧ p ≤ 4 := by
  obtain ⟨y1, y2⟩ := inR_t h
  obtain ⟨k, rfl⟩ : ∃ k : Nat, y = 1583 + k := ⟨(y - 1583).toNat, by omega⟩
  obtain ⟨h1, h2, h3, h4⟩ := newEasters k (by omega)
  have hb := num_bd h2
  have e := nyear_ends
  have a := nyear_mono true (a := 1) (b := 1583 + k) (by omega) (by omega)
  have c := nyear_mono true (a := 1583 + k + 1) (b := 2001) (by omega) (by omega)
  have hd : dat (neaster (1583 + k)) true = (1583 + (k : Int), nem (1583 + k), ned (1583 + k)) := dat_of ⟨h2, rfl⟩
  have hn : neaster (1583 + k) = num (1583 + k) (nem (1583 + k)) (ned (1583 + k)) true := rfl
  rw [← hn] at hb
  refine ⟨neaster (1583 + k), nem (1583 + k), ned (1583 + k), by unfold neastR; rw [if_pos h], by rw [weekR_t (by omega) (by omega), h1], ?_, h3, h4⟩
  unfold ndateR
  rw [if_pos (inR_mk (by omega) (by omega)), hd]
theorem new_f {y : Int} (h : inR y 1583 2000 = false) : neastR y = (0, 2) := by unfold neastR; rw [h]; rfl
theorem num_m (y m d : Int) : num y m d false = nyear y false + cum y m false + d - 1 := by unfold num; omega
theorem moon28 (y : Int) : moon y ≤ 28 := by
  unfold moon
  have : y % 19 = 0 ∨ y % 19 = 1 ∨ y % 19 = 2 ∨ y % 19 = 3 ∨ y % 19 = 4 ∨ y % 19 = 5 ∨ y % 19 = 6 ∨ y % 19 = 7 ∨ y % 19 = 8 ∨ y % 19 = 9 ∨ y % 19 = 10 ∨ y % 19 = 11 ∨ y % 19 = 12 ∨ y % 19 = 13 ∨ y % 19 = 14 ∨ y % 19 = 15 ∨ y % 19 = 16 ∨ y % 19 = 17 ∨ y % 19 = 18 := by omega
  rcases this with h | h | h | h | h | h | h | h | h | h | h | h | h | h | h | h | h | h | h <;> rw [h] <;> decide
theorem sunday_arith {y p o s c n1 n3 : Int} (c3 : c = if decide (y % 4 = 0) = true then 60 else 59) (hny : n1 = 365 * (y - 1) + (y - 1) / 4) (h3 : n3 = n1 + c + 21 - 1) (hs : s = p + ((2 * (y % 4) + 4 * (y % 7) - p + 34) % 7) + 114) (ho : o = n3 + (s - 113)) : (o + 5) % 7 = 6 := by
  obtain ⟨i, r, hi, hr⟩ : ∃ i r, y = 4 * i + r ∧ (r = 0 ∨ r = 1 ∨ r = 2 ∨ r = 3) := ⟨y / 4, y % 4, by omega, by omega⟩
  obtain ⟨j, b, hj, hb⟩ : ∃ j b, y = 7 * j + b ∧ (b = 0 ∨ b = 1 ∨ b = 2 ∨ b = 3 ∨ b = 4 ∨ b = 5 ∨ b = 6) := ⟨y / 7, y % 7, by omega, by omega⟩
  have h4 : y % 4 = r := by omega
  have h7 : y % 7 = b := by omega
  have hc : c = if r = 0 then 60 else 59 := by rw [c3, h4]; simp
  have hm : (y - 1) / 4 = if r = 0 then i - 1 else i := by split <;> omega
  rw [h4, h7] at hs
  rw [hm] at hny
  clear c3 hm h4 h7
  obtain ⟨q, hq⟩ : ∃ q, (2 * r + 4 * b - p + 34) % 7 = q := ⟨_, rfl⟩
  rw [hq] at hs
  rcases hr with rfl | rfl | rfl | rfl <;> rcases hb with rfl | rfl | rfl | rfl | rfl | rfl | rfl <;> simp at hc hny <;> omega
theorem old_t {y : Int} (h : inR y 1 2000 = true) : ∃ n t m d, oeastR y = (n, 0) ∧ termR y = (t, 0) ∧ weekR n = (6, 0) ∧ odateR n = ((y, m, d), 0) ∧ ((m = 3 ∧ 22 ≤ d) ∨ (m = 4 ∧ d ≤ 25)) ∧ t < n ∧ n ≤ t + 7 ∧ 0 ≤ n ∧ n ≤ 730499 := by
  obtain ⟨y1, y2⟩ := inR_t h
  have hs := oes_bd y y1
  have hp := moon_bd y y1
  have hb := oe_bd y1 y2
  have e := nyear_ends
  have hd := oe_dat y1 y2
  have hny : nyear y false = 365 * (y - 1) + (y - 1) / 4 := by unfold nyear; simp
  have hlp : leap y false = decide (y % 4 = 0) := by unfold leap; simp
  have c3 := cum3 y
  have c4 : cum y 4 false = cum y 3 false + 31 := by
    have a := cum_succ y 3 false (by omega)
    have e1 : mlen y 3 false = 31 := by simp [mlen]
    have f : cum y (3 + 1) false = cum y 4 false := rfl
    omega
  have hn : oeaster y = num y 3 21 false + (oes y - 113) := by
    show num y (oem y) (oed y) false = _
    have hm : oem y = 3 ∨ oem y = 4 := by unfold oem; omega
    rw [num_m, num_m]
    rcases hm with hm | hm
    · rw [hm]; have : oed y = oes y - 92 := by unfold oed; unfold oem at hm; omega
      omega
    · rw [hm]; have : oed y = oes y - 123 := by unfold oed; unfold oem at hm; omega
      omega
  have ho : oes y = moon y + ((2 * (y % 4) + 4 * (y % 7) - moon y + 34) % 7) + 114 := rfl
  have h21 := num_m y 3 21
  refine ⟨oeaster y, num y 3 21 false + moon y, oem y, oed y, by unfold oeastR; rw [if_pos h], by unfold termR; rw [if_pos h], ?_, ?_, ?_, by omega, by omega, by omega, by omega⟩
  · rw [weekR_t (by omega) (by omega)]
    have : (oeaster y + 5) % 7 = 6 := by
      rw [hlp] at c3
      exact sunday_arith c3 hny h21 ho hn
    rw [this]
  · rw [odateR_t (by omega) (by omega), hd]
  · have := moon28 y; unfold oem oed; omega
theorem old_f {y : Int} (h : inR y 1 2000 = false) : oeastR y = (0, 2) ∧ termR y = (0, 2) := by unfold oeastR termR; rw [h]; exact ⟨rfl, rfl⟩

set_option maxRecDepth 10000 in
set_option maxHeartbeats 8000000 in
theorem walk_FnEasters (v : Value) (n : Nat) {w : World} (hR : RB w w.heap.size v n ∧ (n : Int) ≤ 9223372036854775807) : Calls Try.prog 11 #[v] w (Yes w) := by
  have hB := Below.refl w.heap.size w
  obtain ⟨hR, hn⟩ := hR
  obtain ⟨a, cap, hv⟩ := hR.val
  by_cases hbig : (4096 : Int) < n
  · have hbig' := Lib.hid (decide_eq_true hbig)
    subst hv
    go_enter Try.func11, Try.ntmps11
    go_wp2_with fail
    refine (big_any a n cap _ hn).mono ?_
    rintro e w' ⟨rfl, rfl⟩
    rw [hbig'.out]
    go_wp2
    go_ret
    exact ⟨rfl, hB⟩
  have hbig' := Lib.hid (decide_eq_false hbig)
  have hn2 : n ≤ 4096 := by omega
  subst hv
  go_enter Try.func11, Try.ntmps11
  go_wp2_with fail
  refine (big_any a n cap _ hn).mono ?_
  rintro e w' ⟨rfl, rfl⟩
  rw [hbig'.out]
  clear hbig hbig'
  go_wp2_with fail
  refine (drawOldEaster_any _ n _ hR hn2).mono ?_
  rintro e w1 ⟨y, rfl, hy, b1⟩
  have B1 := below_tt hB b1
  by_cases hyy : inR y 1 2000 = true
  · obtain ⟨N, T, m, d, hN, hT, hWN, hDN, hE, hlt1, hlt2, hN1, hN2⟩ := old_t hyy
    clear hyy
    have hN := Lib.hid hN
    have hT := Lib.hid hT
    have hWN := Lib.hid hWN
    have hDN := Lib.hid hDN
    go_wp2_with fail
    refine (implOldEaster_any y _).mono ?_
    rintro e w2 ⟨rfl, b2⟩
    rw [hN.out]
    have B2 := below_tt B1 b2
    go_wp2_with fail
    refine (specOldEaster_any y _).mono ?_
    rintro e w3 ⟨rfl, b3⟩
    rw [hN.out]
    have B3 := below_tt B2 b3
    go_wp2_with fail
    refine (implEasterTerm_any y _).mono ?_
    rintro e w4 ⟨rfl, b4⟩
    rw [hT.out]
    have B4 := below_tt B3 b4
    go_wp2_with fail
    refine (specEasterTerm_any y _).mono ?_
    rintro e w5 ⟨rfl, b5⟩
    rw [hT.out]
    have B5 := below_tt B4 b5
    go_wp2_with fail
    refine (drawNewEaster_any _ n _ ((hR.below B5).more B5.size) hn2).mono ?_
    rintro e w6 ⟨z, rfl, hz, b6⟩
    have B6 := below_tt B5 b6
    obtain ⟨hz1, hz2⟩ := hz
    by_cases hzz : inR z 1583 2000 = true
    · obtain ⟨M, p, q, hM, hWM, hDM, hp1, hp2⟩ := new_t hzz
      clear hzz
      have hM := Lib.hid hM
      have hWM := Lib.hid hWM
      have hDM := Lib.hid hDM
      go_wp2_with fail
      refine (implNewEaster_any z _).mono ?_
      rintro e w7 ⟨rfl, b7⟩
      rw [hM.out]
      have B7 := below_tt B6 b7
      go_wp2_with fail
      refine (specNewEaster_any z _).mono ?_
      rintro e w8 ⟨rfl, b8⟩
      rw [hM.out]
      have B8 := below_tt B7 b8
      go_wp2_with fail
      refine (drawLocalEaster_any _ n _ ((hR.below B8).more B8.size) hn2).mono ?_
      rintro e w9 ⟨c, x, rfl, hc, hx, b9⟩
      have B9 := below_tt B8 b9
      have C := D1.made w9 c 54
      have B9 := below_al B9 (.cells #[.int .i64 c] 54)
      have Cc0 := C.c0
      go_wp2_with fail
      refine (implLocalEaster_any c x _).mono ?_
      rintro e w10 ⟨rfl, b10⟩
      have C := C.below b10
      have B10 := below_tt B9 b10
      have Cc0 := C.c0
      go_wp2_with fail
      refine (specLocalEaster_any c x _).mono ?_
      rintro e w11 ⟨rfl, b11⟩
      have C := C.below b11
      have B11 := below_tt B10 b11
      go_wp2_with fail
      refine (implWeekdayOf_any M _).mono ?_
      rintro e w12 ⟨rfl, b12⟩
      rw [hWM.out]
      have C := C.below b12
      have B12 := below_tt B11 b12
      go_wp2_with fail
      refine (implNewDate_any M _).mono ?_
      rintro e w13 ⟨rfl, b13⟩
      rw [hDM.out]
      have C := C.below b13
      have B13 := below_tt B12 b13
      have C := C.al (.cells #[.int .i64 z, .int .i64 p, .int .i64 q] 43)
      have D := D3.made w13 z p q 43
      have B13 := below_al B13 (.cells #[.int .i64 z, .int .i64 p, .int .i64 q] 43)
      have Cc0 := C.c0
      have Dc0 := D.c0
      have Dc1 := D.c1
      have Dc2 := D.c2
      have hnp1 : decide (p < 3) = false := decide_eq_false (by omega)
      have hnp2 : decide (4 < p) = false := decide_eq_false (by omega)
      go_wp2_with fail
      refine (implWeekdayOf_any N _).mono ?_
      rintro e w14 ⟨rfl, b14⟩
      rw [hWN.out]
      have C := C.below b14
      have D := D.below b14
      have B14 := below_tt B13 b14
      go_wp2_with fail
      refine (implOldDate_any N _).mono ?_
      rintro e w15 ⟨rfl, b15⟩
      rw [hDN.out]
      have C := C.below b15
      have D := D.below b15
      have B15 := below_tt B14 b15
      have C := C.al (.cells #[.int .i64 y, .int .i64 m, .int .i64 d] 43)
      have D := D.al (.cells #[.int .i64 y, .int .i64 m, .int .i64 d] 43)
      have E := D3.made w15 y m d 43
      have B15 := below_al B15 (.cells #[.int .i64 y, .int .i64 m, .int .i64 d] 43)
      have Cc0 := C.c0
      have Dc0 := D.c0
      have Dc1 := D.c1
      have Dc2 := D.c2
      have Ec0 := E.c0
      have Ec1 := E.c1
      have Ec2 := E.c2
      have q1 : decide (T < N) = true := decide_eq_true hlt1
      have q2 : decide (N ≤ T + 7) = true := decide_eq_true hlt2
      rcases hE with ⟨rfl, hd⟩ | ⟨rfl, hd⟩
      · have q3 : decide (22 ≤ d) = true := decide_eq_true hd
        go_wp2_with fail
        go_ret
        exact ⟨rfl, B15⟩
      · have q3 : decide (d ≤ 25) = true := decide_eq_true hd
        go_wp2_with fail
        go_ret
        exact ⟨rfl, B15⟩
    · have hM := Lib.hid (new_f (show inR z 1583 2000 = false by simpa using hzz))
      clear hzz
      go_wp2_with fail
      refine (implNewEaster_any z _).mono ?_
      rintro e w7 ⟨rfl, b7⟩
      rw [hM.out]
      have B7 := below_tt B6 b7
      go_wp2_with fail
      refine (specNewEaster_any z _).mono ?_
      rintro e w8 ⟨rfl, b8⟩
      rw [hM.out]
      have B8 := below_tt B7 b8
      go_wp2_with fail
      refine (drawLocalEaster_any _ n _ ((hR.below B8).more B8.size) hn2).mono ?_
      rintro e w9 ⟨c, x, rfl, hc, hx, b9⟩
      have B9 := below_tt B8 b9
      have C := D1.made w9 c 54
      have B9 := below_al B9 (.cells #[.int .i64 c] 54)
      have Cc0 := C.c0
      go_wp2_with fail
      refine (implLocalEaster_any c x _).mono ?_
      rintro e w10 ⟨rfl, b10⟩
      have C := C.below b10
      have B10 := below_tt B9 b10
      have Cc0 := C.c0
      go_wp2_with fail
      refine (specLocalEaster_any c x _).mono ?_
      rintro e w11 ⟨rfl, b11⟩
      have C := C.below b11
      have B11 := below_tt B10 b11
      go_wp2_with fail
      refine (implWeekdayOf_any N _).mono ?_
      rintro e w12 ⟨rfl, b12⟩
      rw [hWN.out]
      have C := C.below b12
      have B12 := below_tt B11 b12
      go_wp2_with fail
      refine (implOldDate_any N _).mono ?_
      rintro e w13 ⟨rfl, b13⟩
      rw [hDN.out]
      have C := C.below b13
      have B13 := below_tt B12 b13
      have C := C.al (.cells #[.int .i64 y, .int .i64 m, .int .i64 d] 43)
      have E := D3.made w13 y m d 43
      have B13 := below_al B13 (.cells #[.int .i64 y, .int .i64 m, .int .i64 d] 43)
      have Cc0 := C.c0
      have Ec0 := E.c0
      have Ec1 := E.c1
      have Ec2 := E.c2
      have q1 : decide (T < N) = true := decide_eq_true hlt1
      have q2 : decide (N ≤ T + 7) = true := decide_eq_true hlt2
      rcases hE with ⟨rfl, hd⟩ | ⟨rfl, hd⟩
      · have q3 : decide (22 ≤ d) = true := decide_eq_true hd
        go_wp2_with fail
        go_ret
        exact ⟨rfl, B13⟩
      · have q3 : decide (d ≤ 25) = true := decide_eq_true hd
        go_wp2_with fail
        go_ret
        exact ⟨rfl, B13⟩
  · have hyy : inR y 1 2000 = false := by simpa using hyy
    have hN := Lib.hid (old_f hyy).1
    have hT := Lib.hid (old_f hyy).2
    clear hyy
    go_wp2_with fail
    refine (implOldEaster_any y _).mono ?_
    rintro e w2 ⟨rfl, b2⟩
    rw [hN.out]
    have B2 := below_tt B1 b2
    go_wp2_with fail
    refine (specOldEaster_any y _).mono ?_
    rintro e w3 ⟨rfl, b3⟩
    rw [hN.out]
    have B3 := below_tt B2 b3
    go_wp2_with fail
    refine (implEasterTerm_any y _).mono ?_
    rintro e w4 ⟨rfl, b4⟩
    rw [hT.out]
    have B4 := below_tt B3 b4
    go_wp2_with fail
    refine (specEasterTerm_any y _).mono ?_
    rintro e w5 ⟨rfl, b5⟩
    rw [hT.out]
    have B5 := below_tt B4 b5
    go_wp2_with fail
    refine (drawNewEaster_any _ n _ ((hR.below B5).more B5.size) hn2).mono ?_
    rintro e w6 ⟨z, rfl, hz, b6⟩
    have B6 := below_tt B5 b6
    obtain ⟨hz1, hz2⟩ := hz
    by_cases hzz : inR z 1583 2000 = true
    · obtain ⟨M, p, q, hM, hWM, hDM, hp1, hp2⟩ := new_t hzz
      clear hzz
      have hM := Lib.hid hM
      have hWM := Lib.hid hWM
      have hDM := Lib.hid hDM
      go_wp2_with fail
      refine (implNewEaster_any z _).mono ?_
      rintro e w7 ⟨rfl, b7⟩
      rw [hM.out]
      have B7 := below_tt B6 b7
      go_wp2_with fail
      refine (specNewEaster_any z _).mono ?_
      rintro e w8 ⟨rfl, b8⟩
      rw [hM.out]
      have B8 := below_tt B7 b8
      go_wp2_with fail
      refine (drawLocalEaster_any _ n _ ((hR.below B8).more B8.size) hn2).mono ?_
      rintro e w9 ⟨c, x, rfl, hc, hx, b9⟩
      have B9 := below_tt B8 b9
      have C := D1.made w9 c 54
      have B9 := below_al B9 (.cells #[.int .i64 c] 54)
      have Cc0 := C.c0
      go_wp2_with fail
      refine (implLocalEaster_any c x _).mono ?_
      rintro e w10 ⟨rfl, b10⟩
      have C := C.below b10
      have B10 := below_tt B9 b10
      have Cc0 := C.c0
      go_wp2_with fail
      refine (specLocalEaster_any c x _).mono ?_
      rintro e w11 ⟨rfl, b11⟩
      have C := C.below b11
      have B11 := below_tt B10 b11
      go_wp2_with fail
      refine (implWeekdayOf_any M _).mono ?_
      rintro e w12 ⟨rfl, b12⟩
      rw [hWM.out]
      have C := C.below b12
      have B12 := below_tt B11 b12
      go_wp2_with fail
      refine (implNewDate_any M _).mono ?_
      rintro e w13 ⟨rfl, b13⟩
      rw [hDM.out]
      have C := C.below b13
      have B13 := below_tt B12 b13
      have C := C.al (.cells #[.int .i64 z, .int .i64 p, .int .i64 q] 43)
      have D := D3.made w13 z p q 43
      have B13 := below_al B13 (.cells #[.int .i64 z, .int .i64 p, .int .i64 q] 43)
      have Cc0 := C.c0
      have Dc0 := D.c0
      have Dc1 := D.c1
      have Dc2 := D.c2
      have hnp1 : decide (p < 3) = false := decide_eq_false (by omega)
      have hnp2 : decide (4 < p) = false := decide_eq_false (by omega)
      go_wp2_with fail
      go_ret
      exact ⟨rfl, B13⟩
    · have hM := Lib.hid (new_f (show inR z 1583 2000 = false by simpa using hzz))
      clear hzz
      go_wp2_with fail
      refine (implNewEaster_any z _).mono ?_
      rintro e w7 ⟨rfl, b7⟩
      rw [hM.out]
      have B7 := below_tt B6 b7
      go_wp2_with fail
      refine (specNewEaster_any z _).mono ?_
      rintro e w8 ⟨rfl, b8⟩
      rw [hM.out]
      have B8 := below_tt B7 b8
      go_wp2_with fail
      refine (drawLocalEaster_any _ n _ ((hR.below B8).more B8.size) hn2).mono ?_
      rintro e w9 ⟨c, x, rfl, hc, hx, b9⟩
      have B9 := below_tt B8 b9
      have C := D1.made w9 c 54
      have B9 := below_al B9 (.cells #[.int .i64 c] 54)
      have Cc0 := C.c0
      go_wp2_with fail
      refine (implLocalEaster_any c x _).mono ?_
      rintro e w10 ⟨rfl, b10⟩
      have C := C.below b10
      have B10 := below_tt B9 b10
      have Cc0 := C.c0
      go_wp2_with fail
      refine (specLocalEaster_any c x _).mono ?_
      rintro e w11 ⟨rfl, b11⟩
      have C := C.below b11
      have B11 := below_tt B10 b11
      go_wp2_with fail
      go_ret
      exact ⟨rfl, B11⟩
end Go.Proofs.Yticnkjpgjcddcaa
