/- The law FnShifts: a set moved by days, its k-th day, whether a day is in it, how many days it has. -/
import Derived.Test.YtnpbgcckbohmfaaShiftLaw
import Derived.Test.YtnpbgcckbohmfaaDraw3
import Derived.Test.YtnpbgcckbohmfaaDice
import Derived.Test.YtnpbgcckbohmfaaLike
import Derived.Test.YtnpbgcckbohmfaaBytes
import Derived.Test.YtnpbgcckbohmfaaSets8
namespace Go.Proofs.Ytnpbgcckbohmfaa
open Go.RowKit

set_option maxRecDepth 10000 in
set_option maxHeartbeats 4000000 in
theorem walk_FnShifts (v : Value) (n : Nat) {w : World} (hR : RB w w.heap.size v n ∧ (n : Int) ≤ 9223372036854775807) : Calls Try.prog 12 #[v] w (Yes w) := by
  have hB := Below.refl w.heap.size w
  obtain ⟨hR, hn⟩ := hR
  obtain ⟨a, cap, hv⟩ := hR.val
  by_cases hbig : (4096 : Int) < n
  · have hbig' := Lib.hid (decide_eq_true hbig)
    subst hv
    go_enter Try.func12, Try.ntmps12
    go_wp2_with fail
    refine (big_any a n cap _ hn).mono ?_
    rintro e w' ⟨rfl, rfl⟩
    rw [hbig'.out]
    go_wp2
    go_ret
    exact ⟨rfl, hB⟩
  · have hbig' := Lib.hid (decide_eq_false hbig)
    have hn2 : n ≤ 4096 := by omega
    subst hv
    go_enter Try.func12, Try.ntmps12
    go_wp2_with fail
    refine (big_any a n cap _ hn).mono ?_
    rintro e w' ⟨rfl, rfl⟩
    rw [hbig'.out]
    clear hbig hbig'
    go_wp2_with fail
    refine (drawShiftSet_any _ n _ hR hn2).mono ?_
    rintro e w1 ⟨va, xs, m, rfl, oa, ⟨hlx, hm1, hm2⟩, B1⟩
    have slen := shiftR_len xs m
    go_wp2_with fail
    refine (iShiftSet_any va xs m _ oa.rs (by omega)).mono ?_
    rintro e w2 ⟨vs, rfl, os, b2⟩
    have oa := oa.below b2; have B2 := below_tt B1 b2
    go_wp2_with fail
    refine (sShiftSet_any va xs m _ oa.rs (by omega)).mono ?_
    rintro e w3 ⟨vs2, rfl, os2, b3⟩
    have oa := oa.below b3; have B3 := below_tt B2 b3; have os := os.below b3
    go_wp2_with fail
    refine (drawNthDay_any _ n _ ((hR.below B3).more B3.size) hn2).mono ?_
    rintro e w4 ⟨vc, zs, k, rfl, oc, ⟨hlz, hk1, hk2⟩, b4⟩
    have oa := oa.below b4; have B4 := below_tt B3 b4; have os := os.below b4; have os2 := os2.below b4
    go_wp2_with fail
    refine (iNthDay_any vc zs k _ oc.rs (by omega)).mono ?_
    rintro e w5 ⟨rfl, b5⟩
    have oa := oa.below b5; have B5 := below_tt B4 b5; have os := os.below b5; have os2 := os2.below b5; have oc := oc.below b5
    go_wp2_with fail
    refine (sNthDay_any vc zs k _ oc.rs (by omega)).mono ?_
    rintro e w6 ⟨rfl, b6⟩
    have oa := oa.below b6; have B6 := below_tt B5 b6; have os := os.below b6; have os2 := os2.below b6; have oc := oc.below b6
    go_wp2_with fail
    refine (drawHasDay_any _ n _ ((hR.below B6).more B6.size) hn2).mono ?_
    rintro e w7 ⟨vd, ds, d, rfl, od, ⟨hld, hd1, hd2⟩, b7⟩
    have oa := oa.below b7; have B7 := below_tt B6 b7; have os := os.below b7; have os2 := os2.below b7; have oc := oc.below b7
    go_wp2_with fail
    refine (iHasDay_any vd ds d _ od.rs (by omega)).mono ?_
    rintro e w8 ⟨rfl, b8⟩
    have oa := oa.below b8; have B8 := below_tt B7 b8; have os := os.below b8; have os2 := os2.below b8; have oc := oc.below b8; have od := od.below b8
    go_wp2_with fail
    refine (sHasDay_any vd ds d _ od.rs (by omega)).mono ?_
    rintro e w9 ⟨rfl, b9⟩
    have oa := oa.below b9; have B9 := below_tt B8 b9; have os := os.below b9; have os2 := os2.below b9; have oc := oc.below b9
    go_wp2_with fail
    refine (drawCountDays_any _ n _ ((hR.below B9).more B9.size) hn2).mono ?_
    rintro e w10 ⟨vf, fs, rfl, of, hlf, b10⟩
    have oa := oa.below b10; have B10 := below_tt B9 b10; have os := os.below b10; have os2 := os2.below b10; have oc := oc.below b10
    go_wp2_with fail
    refine (iCountDays_any vf fs _ of.rs (by omega)).mono ?_
    rintro e w11 ⟨rfl, b11⟩
    have oa := oa.below b11; have B11 := below_tt B10 b11; have os := os.below b11; have os2 := os2.below b11; have oc := oc.below b11; have of := of.below b11
    go_wp2_with fail
    refine (sCountDays_any vf fs _ of.rs (by omega)).mono ?_
    rintro e w12 ⟨rfl, b12⟩
    have oa := oa.below b12; have B12 := below_tt B11 b12; have os := os.below b12; have os2 := os2.below b12; have oc := oc.below b12
    go_wp2_with fail
    refine (likeSpans9_any vs vs2 (shiftR xs m).1 (shiftR xs m).1 _ os.rs os2.rs (by omega) (by omega)).mono ?_
    rintro e w13 ⟨rfl, b13⟩
    rw [decide_eq_true (rfl : (shiftR xs m).1 = (shiftR xs m).1)]
    have oa := oa.below b13; have B13 := below_tt B12 b13; have os := os.below b13; have oc := oc.below b13
    clear os2
    have hne : ((hasR ds d).1 != (hasR ds d).1) = false := by simp
    have hR13 := hR.below B13
    by_cases hc : (nthR zs k).2 = 0
    · obtain ⟨hc2, sz, hk3, hk4⟩ := nthR_ok hc
      obtain ⟨e1, e2⟩ := nth_law sz hk3 hk4
      have hc3 := Lib.hid hc2
      have e1' := Lib.hid e1
      rw [hc3.out]
      clear hc hc2 e1 hc3 sz hk4
      go_wp2_with fail
      refine (iHasDay_any vc zs (nthL zs k) _ oc.rs (by omega)).mono ?_
      rintro e w14 ⟨rfl, b14⟩
      rw [e1'.out]
      clear e1'
      have oa := oa.below b14; have B14 := below_tt B13 b14; have os := os.below b14; have oc := oc.below b14
      by_cases hk0 : 0 < k
      · obtain ⟨e3, e4⟩ := e2 hk0
        have e3' := Lib.hid e3
        clear e2 e3
        go_wp2_with fail
        refine (iNthDay_any vc zs (k - 1) _ oc.rs (by omega)).mono ?_
        rintro e w15 ⟨rfl, b15⟩
        rw [e3'.out]
        clear e3'
        have oa := oa.below b15; have B15 := below_tt B14 b15; have os := os.below b15
        generalize nthL zs (k - 1) = p1 at e4 ⊢
        generalize nthL zs k = p0 at e4 ⊢
        by_cases hb : (shiftR xs m).2 = 0
        · obtain ⟨hb2, sx, m1, m2⟩ := shiftR_ok hb
          have hb3 := Lib.hid hb2
          rw [hb2] at os
          rw [hb3.out]
          have hset := Lib.hid (shift_set m sx)
          have hx300 := (isSet_norm sx).2.2
          have sx2 := Lib.hid sx
          clear hb hb2 sx hb3 slen
          rcases Nat.eq_zero_or_pos xs.length with hz | hz
          · obtain rfl : xs = [] := List.length_eq_zero_iff.1 hz
            obtain ⟨aa, ca, rfl⟩ := oa.rs.val
            go_wp2_with fail
            go_ret
            exact ⟨rfl, B15⟩
          · obtain ⟨b0, off, ca, rfl, hb0, hat⟩ : ∃ b off cap, va = .slice (some ⟨b, off, none⟩) xs.length cap ∧ b < w15.heap.size ∧ SpanAt w15 b off xs := by
              rcases oa.rs with ⟨h0, _⟩ | h
              · rw [h0] at hz; simp at hz
              · exact h
            have hzi : (0 : Int) < (xs.length : Int) := by omega
            go_wp2_with fail
            refine (roll_any _ n 203 _ ((hR.below B15).more B15.size) (by omega) (by omega)).mono ?_
            rintro e wr ⟨rfl, hD, bD⟩
            have hosne := os.ne
            have os := os.below bD
            have BD := below_tt B15 bD
            have hsz := B15.size
            have hsz2 := bD.size
            have hat2 : SpanAt wr b0 off xs := hat.of_cells fun o => bD.cell (p := ⟨b0, o, none⟩) hb0
            go_wp2_with fail
            refine (below_any (xs.length : Int) hD (by omega) (by omega) (by omega)).mono ?_
            rintro e wq ⟨y, rfl, ⟨y0, y1⟩, hD2, gD⟩
            obtain ⟨i, rfl⟩ : ∃ i : Nat, y = i := ⟨y.toNat, by omega⟩
            have hi : i < xs.length := by omega
            have hat3 : SpanAt wq b0 off xs := hat2.of_cells fun o => World.cell?_of_block (a := ⟨b0, o, none⟩) (gD.block b0 (Nat.lt_of_lt_of_le hb0 hsz2) (fun e => by injection e with e; omega))
            have os := os.kept gD (Or.inr hosne)
            have BQ := below_gb BD gD (by omega) (by omega)
            have e10 := (hat3 i hi).1
            have hfb := (set_days2 sx2.out hi)
            have hfh : Hid (∀ f, (gS xs i).1 = f → 0 ≤ f + m → f + m ≤ 730499 → hasR (shiftL m xs) (f + m) = (true, 0)) := fun f hf h0 h1 => shift_has sx2.out hi hf h0 h1
            generalize (gS xs i).1 = f at e10 hfh hfb
            obtain ⟨hfb1, hfb2⟩ := hfb
            clear hat hat2 hat3 gD hD hD2 hosne y0 y1
            by_cases r1 : f + m < 0
            · go_wp2_with fail
              go_ret
              exact ⟨rfl, BQ⟩
            by_cases r2 : 730499 < f + m
            · go_wp2_with fail
              go_ret
              exact ⟨rfl, BQ⟩
            have hfx := Lib.hid (hfh.out f rfl (by omega) (by omega))
            have hx3 := (isSet_norm hset.out).2.2
            clear hfh
            go_wp2_with fail
            refine (iHasDay_any vs (shiftL m xs) (f + m) _ os.rs (by omega)).mono ?_
            rintro e wa ⟨rfl, bA⟩
            rw [hfx.out]
            have os := os.below bA
            have BA := below_tt BQ bA
            go_wp2_with fail
            refine (iIsSet_any vs (shiftL m xs) _ os.rs (by omega)).mono ?_
            rintro e wb ⟨rfl, bB⟩
            rw [hset.out]
            have BB := below_tt BA bB
            go_wp2_with fail
            go_ret
            exact ⟨rfl, BB⟩
        · go_wp2_with fail
          go_ret
          exact ⟨rfl, B15⟩
      · clear e2
        generalize nthL zs k = p0
        by_cases hb : (shiftR xs m).2 = 0
        · obtain ⟨hb2, sx, m1, m2⟩ := shiftR_ok hb
          have hb3 := Lib.hid hb2
          rw [hb2] at os
          rw [hb3.out]
          have hset := Lib.hid (shift_set m sx)
          have hx300 := (isSet_norm sx).2.2
          have sx2 := Lib.hid sx
          clear hb hb2 sx hb3 slen
          rcases Nat.eq_zero_or_pos xs.length with hz | hz
          · obtain rfl : xs = [] := List.length_eq_zero_iff.1 hz
            obtain ⟨aa, ca, rfl⟩ := oa.rs.val
            go_wp2_with fail
            go_ret
            exact ⟨rfl, B14⟩
          · obtain ⟨b0, off, ca, rfl, hb0, hat⟩ : ∃ b off cap, va = .slice (some ⟨b, off, none⟩) xs.length cap ∧ b < w14.heap.size ∧ SpanAt w14 b off xs := by
              rcases oa.rs with ⟨h0, _⟩ | h
              · rw [h0] at hz; simp at hz
              · exact h
            have hzi : (0 : Int) < (xs.length : Int) := by omega
            go_wp2_with fail
            refine (roll_any _ n 203 _ ((hR.below B14).more B14.size) (by omega) (by omega)).mono ?_
            rintro e wr ⟨rfl, hD, bD⟩
            have hosne := os.ne
            have os := os.below bD
            have BD := below_tt B14 bD
            have hsz := B14.size
            have hsz2 := bD.size
            have hat2 : SpanAt wr b0 off xs := hat.of_cells fun o => bD.cell (p := ⟨b0, o, none⟩) hb0
            go_wp2_with fail
            refine (below_any (xs.length : Int) hD (by omega) (by omega) (by omega)).mono ?_
            rintro e wq ⟨y, rfl, ⟨y0, y1⟩, hD2, gD⟩
            obtain ⟨i, rfl⟩ : ∃ i : Nat, y = i := ⟨y.toNat, by omega⟩
            have hi : i < xs.length := by omega
            have hat3 : SpanAt wq b0 off xs := hat2.of_cells fun o => World.cell?_of_block (a := ⟨b0, o, none⟩) (gD.block b0 (Nat.lt_of_lt_of_le hb0 hsz2) (fun e => by injection e with e; omega))
            have os := os.kept gD (Or.inr hosne)
            have BQ := below_gb BD gD (by omega) (by omega)
            have e10 := (hat3 i hi).1
            have hfb := (set_days2 sx2.out hi)
            have hfh : Hid (∀ f, (gS xs i).1 = f → 0 ≤ f + m → f + m ≤ 730499 → hasR (shiftL m xs) (f + m) = (true, 0)) := fun f hf h0 h1 => shift_has sx2.out hi hf h0 h1
            generalize (gS xs i).1 = f at e10 hfh hfb
            obtain ⟨hfb1, hfb2⟩ := hfb
            clear hat hat2 hat3 gD hD hD2 hosne y0 y1
            by_cases r1 : f + m < 0
            · go_wp2_with fail
              go_ret
              exact ⟨rfl, BQ⟩
            by_cases r2 : 730499 < f + m
            · go_wp2_with fail
              go_ret
              exact ⟨rfl, BQ⟩
            have hfx := Lib.hid (hfh.out f rfl (by omega) (by omega))
            have hx3 := (isSet_norm hset.out).2.2
            clear hfh
            go_wp2_with fail
            refine (iHasDay_any vs (shiftL m xs) (f + m) _ os.rs (by omega)).mono ?_
            rintro e wa ⟨rfl, bA⟩
            rw [hfx.out]
            have os := os.below bA
            have BA := below_tt BQ bA
            go_wp2_with fail
            refine (iIsSet_any vs (shiftL m xs) _ os.rs (by omega)).mono ?_
            rintro e wb ⟨rfl, bB⟩
            rw [hset.out]
            have BB := below_tt BA bB
            go_wp2_with fail
            go_ret
            exact ⟨rfl, BB⟩
        · go_wp2_with fail
          go_ret
          exact ⟨rfl, B14⟩
    · 
      by_cases hb : (shiftR xs m).2 = 0
      · obtain ⟨hb2, sx, m1, m2⟩ := shiftR_ok hb
        have hb3 := Lib.hid hb2
        rw [hb2] at os
        rw [hb3.out]
        have hset := Lib.hid (shift_set m sx)
        have hx300 := (isSet_norm sx).2.2
        have sx2 := Lib.hid sx
        clear hb hb2 sx hb3 slen
        rcases Nat.eq_zero_or_pos xs.length with hz | hz
        · obtain rfl : xs = [] := List.length_eq_zero_iff.1 hz
          obtain ⟨aa, ca, rfl⟩ := oa.rs.val
          go_wp2_with fail
          go_ret
          exact ⟨rfl, B13⟩
        · obtain ⟨b0, off, ca, rfl, hb0, hat⟩ : ∃ b off cap, va = .slice (some ⟨b, off, none⟩) xs.length cap ∧ b < w13.heap.size ∧ SpanAt w13 b off xs := by
            rcases oa.rs with ⟨h0, _⟩ | h
            · rw [h0] at hz; simp at hz
            · exact h
          have hzi : (0 : Int) < (xs.length : Int) := by omega
          go_wp2_with fail
          refine (roll_any _ n 203 _ ((hR.below B13).more B13.size) (by omega) (by omega)).mono ?_
          rintro e wr ⟨rfl, hD, bD⟩
          have hosne := os.ne
          have os := os.below bD
          have BD := below_tt B13 bD
          have hsz := B13.size
          have hsz2 := bD.size
          have hat2 : SpanAt wr b0 off xs := hat.of_cells fun o => bD.cell (p := ⟨b0, o, none⟩) hb0
          go_wp2_with fail
          refine (below_any (xs.length : Int) hD (by omega) (by omega) (by omega)).mono ?_
          rintro e wq ⟨y, rfl, ⟨y0, y1⟩, hD2, gD⟩
          obtain ⟨i, rfl⟩ : ∃ i : Nat, y = i := ⟨y.toNat, by omega⟩
          have hi : i < xs.length := by omega
          have hat3 : SpanAt wq b0 off xs := hat2.of_cells fun o => World.cell?_of_block (a := ⟨b0, o, none⟩) (gD.block b0 (Nat.lt_of_lt_of_le hb0 hsz2) (fun e => by injection e with e; omega))
          have os := os.kept gD (Or.inr hosne)
          have BQ := below_gb BD gD (by omega) (by omega)
          have e10 := (hat3 i hi).1
          have hfb := (set_days2 sx2.out hi)
          have hfh : Hid (∀ f, (gS xs i).1 = f → 0 ≤ f + m → f + m ≤ 730499 → hasR (shiftL m xs) (f + m) = (true, 0)) := fun f hf h0 h1 => shift_has sx2.out hi hf h0 h1
          generalize (gS xs i).1 = f at e10 hfh hfb
          obtain ⟨hfb1, hfb2⟩ := hfb
          clear hat hat2 hat3 gD hD hD2 hosne y0 y1
          by_cases r1 : f + m < 0
          · go_wp2_with fail
            go_ret
            exact ⟨rfl, BQ⟩
          by_cases r2 : 730499 < f + m
          · go_wp2_with fail
            go_ret
            exact ⟨rfl, BQ⟩
          have hfx := Lib.hid (hfh.out f rfl (by omega) (by omega))
          have hx3 := (isSet_norm hset.out).2.2
          clear hfh
          go_wp2_with fail
          refine (iHasDay_any vs (shiftL m xs) (f + m) _ os.rs (by omega)).mono ?_
          rintro e wa ⟨rfl, bA⟩
          rw [hfx.out]
          have os := os.below bA
          have BA := below_tt BQ bA
          go_wp2_with fail
          refine (iIsSet_any vs (shiftL m xs) _ os.rs (by omega)).mono ?_
          rintro e wb ⟨rfl, bB⟩
          rw [hset.out]
          have BB := below_tt BA bB
          go_wp2_with fail
          go_ret
          exact ⟨rfl, BB⟩
      · go_wp2_with fail
        go_ret
        exact ⟨rfl, B13⟩
end Go.Proofs.Ytnpbgcckbohmfaa
