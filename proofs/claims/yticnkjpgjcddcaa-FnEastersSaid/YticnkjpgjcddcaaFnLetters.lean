/- The law FnLetters: the days with the Sunday letters are Sundays, years with an Easter have it. -/
import Derived.Test.YticnkjpgjcddcaaDraw6
import Derived.Test.YticnkjpgjcddcaaOne
import Derived.Test.YticnkjpgjcddcaaYears2
import Derived.Test.YticnkjpgjcddcaaLikeI
import Derived.Test.YticnkjpgjcddcaaFnDays
namespace Go.Proofs.Yticnkjpgjcddcaa
open Go.RowKit

theorem lett_f {y : Int} (h : inR y 1 2000 = false) : lettR y = (0, 0, 2) ∧ goldR y = (0, 2) := by unfold lettR goldR; rw [h]; exact ⟨rfl, rfl⟩
theorem gold_t {y : Int} (h : inR y 1 2000 = true) : ∃ g, goldR y = (g, 0) ∧ 1 ≤ g ∧ g ≤ 19 := by
  unfold goldR; rw [if_pos h]
  exact ⟨_, rfl, by omega, by omega⟩
theorem cum3 (y : Int) : cum y 3 false = if leap y false = true then 60 else 59 := by
  have a := cum_succ y 1 false (by omega); have b := cum_succ y 2 false (by omega)
  have e0 := cum_one y false
  have e1 : mlen y 1 false = 31 := by simp [mlen]
  have e2 : mlen y 2 false = if leap y false = true then 29 else 28 := by simp [mlen]
  have f1 : cum y (1 + 1) false = cum y 2 false := rfl
  have f2 : cum y (2 + 1) false = cum y 3 false := rfl
  rw [e2] at b
  split at b <;> split <;> simp_all <;> omega
theorem lett_t {y : Int} (h : inR y 1 2000 = true) : ∃ a b X Y, lettR y = (a, b, 0) ∧ (0 ≤ a ∧ a ≤ 6) ∧ (0 ≤ b ∧ b ≤ 6) ∧ dayR y 1 (1 + a) false = (X, 0) ∧ dayR y 3 (1 + (b + 4) % 7) false = (Y, 0) ∧ weekR X = (6, 0) ∧ weekR Y = (6, 0) := by
  obtain ⟨y1, y2⟩ := inR_t h
  have hn := nyear_lo y false y1 (by omega)
  have hs := nyear_mono false (a := y + 1) (b := 2001) (by omega) (by omega)
  have hs2 := nyear_succ y false y1
  have he := nyear_ends
  have hl : 0 ≤ letter y ∧ letter y ≤ 6 := by unfold letter; omega
  have hw : (nyear y false + letter y + 5) % 7 = 6 := by unfold letter; omega
  have hs3 : nyear y false + 365 ≤ nyear (y + 1) false := by rw [hs2]; split <;> omega
  have n1 : num y 1 (1 + letter y) false = nyear y false + letter y := by unfold num; rw [cum_one]; omega
  have v1 : valid y 1 (1 + letter y) false = true := valid_mk y1 y2 (by omega) (by omega) (by omega) (by simp [mlen]; omega)
  have c3 := cum3 y
  unfold lettR
  rw [if_pos h]
  cases hlp : leap y false
  · rw [hlp] at c3
    have n3 : num y 3 (1 + (letter y + 4) % 7) false = nyear y false + 59 + (letter y + 4) % 7 := by unfold num; rw [c3]; simp; omega
    have v3 : valid y 3 (1 + (letter y + 4) % 7) false = true := valid_mk y1 y2 (by omega) (by omega) (by omega) (by simp [mlen]; omega)
    refine ⟨letter y, letter y, _, _, by simp, hl, hl, dayR_t v1, dayR_t v3, ?_, ?_⟩
    · rw [n1, weekR_t (by omega) (by omega), hw]
    · rw [n3, weekR_t (by omega) (by omega)]
      have : (nyear y false + 59 + (letter y + 4) % 7 + 5) % 7 = 6 := by omega
      rw [this]
  · rw [hlp] at c3
    have n3 : num y 3 (1 + ((letter y + 6) % 7 + 4) % 7) false = nyear y false + 60 + ((letter y + 6) % 7 + 4) % 7 := by unfold num; rw [c3]; simp; omega
    have v3 : valid y 3 (1 + ((letter y + 6) % 7 + 4) % 7) false = true := valid_mk y1 y2 (by omega) (by omega) (by omega) (by simp [mlen]; omega)
    refine ⟨letter y, (letter y + 6) % 7, _, _, by simp, hl, by omega, dayR_t v1, dayR_t v3, ?_, ?_⟩
    · rw [n1, weekR_t (by omega) (by omega), hw]
    · rw [n3, weekR_t (by omega) (by omega)]
      have : (nyear y false + 60 + ((letter y + 6) % 7 + 4) % 7 + 5) % 7 = 6 := by omega
      rw [this]
theorem years_t {m d a b : Int} (h : ywB m d a b = true) : ∃ L, yearsR m d a b = (L, 0) ∧ L.length ≤ 4000000 ∧ ∀ k, k < L.length → oeastR (gI L k) = (oeaster (gI L k), 0) ∧ odateR (oeaster (gI L k)) = ((gI L k, m, d), 0) := by
  have hl := yearsR_len m d a b
  obtain ⟨a1, a2, a3, a4, a5⟩ := ywB_t h
  have e : yearsR m d a b = (yearsL m d a (b - a + 1).toNat, 0) := by unfold yearsR; rw [if_pos h]
  rw [e] at hl ⊢
  refine ⟨_, rfl, hl, fun k hk => ?_⟩
  have hm : gI (yearsL m d a (b - a + 1).toNat) k ∈ yearsL m d a (b - a + 1).toNat := by
    unfold gI
    simp only [List.getD_eq_getElem?_getD, List.getElem?_eq_getElem hk, Option.getD_some]; exact List.getElem_mem hk
  generalize gI (yearsL m d a (b - a + 1).toNat) k = z at hm ⊢
  obtain ⟨b1, b2, b3, b4⟩ := yearsL_mem hm
  have o := oe_bd (y := z) (by omega) (by omega)
  have e := nyear_ends
  constructor
  · unfold oeastR; rw [if_pos (inR_mk (by omega) (by omega))]
  · rw [odateR_t (by omega) (by omega), oe_dat (by omega) (by omega), b3, b4]

set_option maxRecDepth 10000 in
set_option maxHeartbeats 8000000 in
theorem walk_FnLetters (v : Value) (n : Nat) {w : World} (hR : RB w w.heap.size v n ∧ (n : Int) ≤ 9223372036854775807) : Calls Try.prog 10 #[v] w (Yes w) := by
  have hB := Below.refl w.heap.size w
  obtain ⟨hR, hn⟩ := hR
  obtain ⟨a, cap, hv⟩ := hR.val
  by_cases hbig : (4096 : Int) < n
  · have hbig' := Lib.hid (decide_eq_true hbig)
    subst hv
    go_enter Try.func10, Try.ntmps10
    go_wp2_with fail
    refine (big_any a n cap _ hn).mono ?_
    rintro e w' ⟨rfl, rfl⟩
    rw [hbig'.out]
    go_wp2
    go_ret
    exact ⟨rfl, hB⟩
  have hbig' := Lib.hid (decide_eq_false hbig)
  have hn2 : n ≤ 4096 := by omega
  subst hv
  go_enter Try.func10, Try.ntmps10
  go_wp2_with fail
  refine (big_any a n cap _ hn).mono ?_
  rintro e w' ⟨rfl, rfl⟩
  rw [hbig'.out]
  clear hbig hbig'
  go_wp2_with fail
  refine (drawSundayLetters_any _ n _ hR hn2).mono ?_
  rintro e w1 ⟨y, rfl, hy, b1⟩
  have B1 := below_tt hB b1
  obtain ⟨hy1, hy2⟩ := hy
  by_cases hy : inR y 1 2000 = true
  · have hyy := Lib.hid hy
    obtain ⟨a, b, X, Y, hL, ha, hb, hX, hY1, hWX, hWY⟩ := lett_t hy
    obtain ⟨g, hG, hg1, hg2⟩ := gold_t hy
    clear hy
    obtain ⟨ha1, ha2⟩ := ha
    obtain ⟨hb1, hb2⟩ := hb
    have hL := Lib.hid hL
    have hX := Lib.hid hX
    have hY1 := Lib.hid hY1
    have hWX := Lib.hid hWX
    have hWY := Lib.hid hWY
    have hG := Lib.hid hG
    go_wp2_with fail
    refine (implSundayLetters_any y _).mono ?_
    rintro e w2 ⟨rfl, b2⟩
    rw [hL.out]
    have B2 := below_tt B1 b2
    go_wp2_with fail
    refine (specSundayLetters_any y _).mono ?_
    rintro e w3 ⟨rfl, b3⟩
    rw [hL.out]
    have B3 := below_tt B2 b3
    go_wp2_with fail
    refine (implGoldenNumber_any y _).mono ?_
    rintro e w4 ⟨rfl, b4⟩
    rw [hG.out]
    have B4 := below_tt B3 b4
    go_wp2_with fail
    refine (specGoldenNumber_any y _).mono ?_
    rintro e w5 ⟨rfl, b5⟩
    rw [hG.out]
    have B5 := below_tt B4 b5
    go_wp2_with fail
    refine (drawYearsWithEaster_any _ n _ ((hR.below B5).more B5.size) hn2).mono ?_
    rintro e w6 ⟨m, d, f, u, rfl, b6⟩
    have B6 := below_tt B5 b6
    by_cases hyw : ywB m d f u = true
    · obtain ⟨L, hY, hLl, hLz⟩ := years_t hyw
      have hY := Lib.hid hY
      have hLz := Lib.hid hLz
      clear hyw
      go_wp2_with fail
      refine (iYears_any m d f u _).mono ?_
      rintro e w7 ⟨vi, rfl, oi, b7⟩
      rw [hY.out] at oi ⊢
      have B7 := below_tt B6 b7
      go_wp2_with fail
      refine (sYears_any m d f u _).mono ?_
      rintro e w8 ⟨vs, rfl, os, b8⟩
      rw [hY.out] at os ⊢
      have oi := oi.below b8
      have B8 := below_tt B7 b8
      go_wp2_with fail
      refine (likeInts_any _ _ L L _ oi.rs os.rs (by (try simp); try omega) (by (try simp); try omega)).mono ?_
      rintro e w9 ⟨rfl, b9⟩
      rw [decide_eq_true (rfl : L = L)]
      have oi := oi.below b9
      have os := os.below b9
      have B9 := below_tt B8 b9
      have ri := oi.rs
      clear oi os
      have hBl := B9
      go_wp2_with fail
      go_loopw [22] (fun s22 wr => ∃ k : Nat, k ≤ L.length ∧ s22 = .int .i64 k ∧ RI wr vi L ∧ Below w.heap.size w wr) (fun s22 _ => L.length - (intOf s22).toNat)
      case atStart => exact ⟨0, by omega, by simp, ri, hBl⟩
      case round =>
        clear hBl
        obtain ⟨k, hk, rfl, ri, hB⟩ := hrel
        by_cases hlt : k < L.length
        · obtain ⟨hz1, hz2⟩ := hLz.out k hlt
          rcases ri with ⟨h0, _⟩ | ⟨b0, off, cap0, hvi, hbb, hs⟩
          · rw [h0] at hlt; exact absurd hlt (by simp)
          have ri : RI wr vi L := Or.inr ⟨b0, off, cap0, hvi, hbb, hs⟩
          have c0 := hs k hlt
          generalize gI L k = z at hz1 hz2 c0
          have hz1 := Lib.hid hz1
          have hz2 := Lib.hid hz2
          clear hs
          subst hvi
          go_wp2_with fail
          refine (implOldEaster_any z _).mono ?_
          rintro e w10 ⟨rfl, b10⟩
          rw [hz1.out]
          have ri := ri.below b10
          have B10 := below_tt hB b10
          clear c0
          go_wp2_with fail
          refine (implOldDate_any (oeaster z) _).mono ?_
          rintro e w11 ⟨rfl, b11⟩
          rw [hz2.out]
          have ri := ri.below b11
          have B11 := below_tt B10 b11
          have ri := ri.below (below_al (Below.refl _ _) (.cells #[.int .i64 z, .int .i64 m, .int .i64 d] 43))
          have D := D3.made w11 z m d 43
          have B11 := below_al B11 (.cells #[.int .i64 z, .int .i64 m, .int .i64 d] 43)
          have Dc0 := D.c0
          have Dc1 := D.c1
          have Dc2 := D.c2
          go_wp2_with fail
          go_roundw
          case rel => exact ⟨k + 1, by omega, by simp, ri, B11⟩
          case measure => simp [intOf]; omega
        · obtain rfl : k = L.length := by omega
          obtain ⟨aa, capp, hvi⟩ := ri.val
          subst hvi
          go_wp2_with fail
          refine (implOldDay_any y 1 (1 + a) _).mono ?_
          rintro e w10 ⟨rfl, b10⟩
          rw [hX.out]
          have B10 := below_tt hB b10
          go_wp2_with fail
          refine (implOldDay_any y 3 (1 + (b + 4) % 7) _).mono ?_
          rintro e w11 ⟨rfl, b11⟩
          rw [hY1.out]
          have B11 := below_tt B10 b11
          go_wp2_with fail
          refine (implWeekdayOf_any X _).mono ?_
          rintro e w12 ⟨rfl, b12⟩
          rw [hWX.out]
          have B12 := below_tt B11 b12
          go_wp2_with fail
          refine (implWeekdayOf_any Y _).mono ?_
          rintro e w13 ⟨rfl, b13⟩
          rw [hWY.out]
          have B13 := below_tt B12 b13
          go_wp2_with fail
          go_ret
          exact ⟨rfl, B13⟩
    · have hY := Lib.hid (yearsR_no (show ywB m d f u = false by simpa using hyw))
      clear hyw
      go_wp2_with fail
      refine (iYears_any m d f u _).mono ?_
      rintro e w7 ⟨vi, rfl, oi, b7⟩
      rw [hY.out] at oi ⊢
      have B7 := below_tt B6 b7
      go_wp2_with fail
      refine (sYears_any m d f u _).mono ?_
      rintro e w8 ⟨vs, rfl, os, b8⟩
      rw [hY.out] at os ⊢
      have oi := oi.below b8
      have B8 := below_tt B7 b8
      go_wp2_with fail
      refine (likeInts_any _ _ ([] : List Int) ([] : List Int) _ oi.rs os.rs (by (try simp); try omega) (by (try simp); try omega)).mono ?_
      rintro e w9 ⟨rfl, b9⟩
      rw [decide_eq_true (rfl : ([] : List Int) = ([] : List Int))]
      have oi := oi.below b9
      have os := os.below b9
      have B9 := below_tt B8 b9
      have ri := oi.rs
      clear oi os
      have hBl := B9
      go_wp2_with fail
      go_loopw [22] (fun s22 wr => s22 = .int .i64 0 ∧ Below w.heap.size w wr) (fun _ _ => 0)
      case atStart => exact ⟨rfl, hBl⟩
      case round =>
        clear hBl
        obtain ⟨rfl, hB⟩ := hrel
        go_wp2_with fail
        refine (implOldDay_any y 1 (1 + a) _).mono ?_
        rintro e w10 ⟨rfl, b10⟩
        rw [hX.out]
        have B10 := below_tt hB b10
        go_wp2_with fail
        refine (implOldDay_any y 3 (1 + (b + 4) % 7) _).mono ?_
        rintro e w11 ⟨rfl, b11⟩
        rw [hY1.out]
        have B11 := below_tt B10 b11
        go_wp2_with fail
        refine (implWeekdayOf_any X _).mono ?_
        rintro e w12 ⟨rfl, b12⟩
        rw [hWX.out]
        have B12 := below_tt B11 b12
        go_wp2_with fail
        refine (implWeekdayOf_any Y _).mono ?_
        rintro e w13 ⟨rfl, b13⟩
        rw [hWY.out]
        have B13 := below_tt B12 b13
        go_wp2_with fail
        go_ret
        exact ⟨rfl, B13⟩
  · have hy : inR y 1 2000 = false := by simpa using hy
    have hL := Lib.hid (lett_f hy).1
    have hG := Lib.hid (lett_f hy).2
    clear hy
    go_wp2_with fail
    refine (implSundayLetters_any y _).mono ?_
    rintro e w2 ⟨rfl, b2⟩
    rw [hL.out]
    have B2 := below_tt B1 b2
    go_wp2_with fail
    refine (specSundayLetters_any y _).mono ?_
    rintro e w3 ⟨rfl, b3⟩
    rw [hL.out]
    have B3 := below_tt B2 b3
    go_wp2_with fail
    refine (implGoldenNumber_any y _).mono ?_
    rintro e w4 ⟨rfl, b4⟩
    rw [hG.out]
    have B4 := below_tt B3 b4
    go_wp2_with fail
    refine (specGoldenNumber_any y _).mono ?_
    rintro e w5 ⟨rfl, b5⟩
    rw [hG.out]
    have B5 := below_tt B4 b5
    go_wp2_with fail
    refine (drawYearsWithEaster_any _ n _ ((hR.below B5).more B5.size) hn2).mono ?_
    rintro e w6 ⟨m, d, f, u, rfl, b6⟩
    have B6 := below_tt B5 b6
    by_cases hyw : ywB m d f u = true
    · obtain ⟨L, hY, hLl, hLz⟩ := years_t hyw
      have hY := Lib.hid hY
      have hLz := Lib.hid hLz
      clear hyw
      go_wp2_with fail
      refine (iYears_any m d f u _).mono ?_
      rintro e w7 ⟨vi, rfl, oi, b7⟩
      rw [hY.out] at oi ⊢
      have B7 := below_tt B6 b7
      go_wp2_with fail
      refine (sYears_any m d f u _).mono ?_
      rintro e w8 ⟨vs, rfl, os, b8⟩
      rw [hY.out] at os ⊢
      have oi := oi.below b8
      have B8 := below_tt B7 b8
      go_wp2_with fail
      refine (likeInts_any _ _ L L _ oi.rs os.rs (by (try simp); try omega) (by (try simp); try omega)).mono ?_
      rintro e w9 ⟨rfl, b9⟩
      rw [decide_eq_true (rfl : L = L)]
      have oi := oi.below b9
      have os := os.below b9
      have B9 := below_tt B8 b9
      have ri := oi.rs
      clear oi os
      have hBl := B9
      go_wp2_with fail
      go_loopw [22] (fun s22 wr => ∃ k : Nat, k ≤ L.length ∧ s22 = .int .i64 k ∧ RI wr vi L ∧ Below w.heap.size w wr) (fun s22 _ => L.length - (intOf s22).toNat)
      case atStart => exact ⟨0, by omega, by simp, ri, hBl⟩
      case round =>
        clear hBl
        obtain ⟨k, hk, rfl, ri, hB⟩ := hrel
        by_cases hlt : k < L.length
        · obtain ⟨hz1, hz2⟩ := hLz.out k hlt
          rcases ri with ⟨h0, _⟩ | ⟨b0, off, cap0, hvi, hbb, hs⟩
          · rw [h0] at hlt; exact absurd hlt (by simp)
          have ri : RI wr vi L := Or.inr ⟨b0, off, cap0, hvi, hbb, hs⟩
          have c0 := hs k hlt
          generalize gI L k = z at hz1 hz2 c0
          have hz1 := Lib.hid hz1
          have hz2 := Lib.hid hz2
          clear hs
          subst hvi
          go_wp2_with fail
          refine (implOldEaster_any z _).mono ?_
          rintro e w10 ⟨rfl, b10⟩
          rw [hz1.out]
          have ri := ri.below b10
          have B10 := below_tt hB b10
          clear c0
          go_wp2_with fail
          refine (implOldDate_any (oeaster z) _).mono ?_
          rintro e w11 ⟨rfl, b11⟩
          rw [hz2.out]
          have ri := ri.below b11
          have B11 := below_tt B10 b11
          have ri := ri.below (below_al (Below.refl _ _) (.cells #[.int .i64 z, .int .i64 m, .int .i64 d] 43))
          have D := D3.made w11 z m d 43
          have B11 := below_al B11 (.cells #[.int .i64 z, .int .i64 m, .int .i64 d] 43)
          have Dc0 := D.c0
          have Dc1 := D.c1
          have Dc2 := D.c2
          go_wp2_with fail
          go_roundw
          case rel => exact ⟨k + 1, by omega, by simp, ri, B11⟩
          case measure => simp [intOf]; omega
        · obtain rfl : k = L.length := by omega
          obtain ⟨aa, capp, hvi⟩ := ri.val
          subst hvi
          go_wp2_with fail
          go_ret
          exact ⟨rfl, hB⟩
    · have hY := Lib.hid (yearsR_no (show ywB m d f u = false by simpa using hyw))
      clear hyw
      go_wp2_with fail
      refine (iYears_any m d f u _).mono ?_
      rintro e w7 ⟨vi, rfl, oi, b7⟩
      rw [hY.out] at oi ⊢
      have B7 := below_tt B6 b7
      go_wp2_with fail
      refine (sYears_any m d f u _).mono ?_
      rintro e w8 ⟨vs, rfl, os, b8⟩
      rw [hY.out] at os ⊢
      have oi := oi.below b8
      have B8 := below_tt B7 b8
      go_wp2_with fail
      refine (likeInts_any _ _ ([] : List Int) ([] : List Int) _ oi.rs os.rs (by (try simp); try omega) (by (try simp); try omega)).mono ?_
      rintro e w9 ⟨rfl, b9⟩
      rw [decide_eq_true (rfl : ([] : List Int) = ([] : List Int))]
      have oi := oi.below b9
      have os := os.below b9
      have B9 := below_tt B8 b9
      have ri := oi.rs
      clear oi os
      have hBl := B9
      go_wp2_with fail
      go_loopw [22] (fun s22 wr => s22 = .int .i64 0 ∧ Below w.heap.size w wr) (fun _ _ => 0)
      case atStart => exact ⟨rfl, hBl⟩
      case round =>
        clear hBl
        obtain ⟨rfl, hB⟩ := hrel
        go_wp2_with fail
        go_ret
        exact ⟨rfl, hB⟩
end Go.Proofs.Yticnkjpgjcddcaa
