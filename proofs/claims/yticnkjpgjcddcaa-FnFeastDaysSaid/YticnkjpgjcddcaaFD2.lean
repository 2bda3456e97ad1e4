/- The days with a relation to a feast: the reference, and the law. -/
import Derived.Test.YticnkjpgjcddcaaFD
namespace Go.Proofs.Yticnkjpgjcddcaa
open Go.RowKit

set_option maxRecDepth 100000 in
set_option maxHeartbeats 8000000 in
theorem l05Set_any {f r d a b : Int} (w : World) (hy : fdB f r d a b = true) :
    Calls Try.prog 109 #[.int .i64 f, .int .i64 r, .int .i64 d, .int .i64 a, .int .i64 b] w fun e w' => ∃ v, e = .returned v ∧ OwnS w' w.heap.size v (uniteL (fdL f r d a b)) ∧ Below w.heap.size w w' := by
  have rg := cell_rg; have l2 : ∀ n : Nat, n < n + 1 + 1 := (fun _ => by omega); have l3 : ∀ n : Nat, n < n + 1 + 1 + 1 := (fun _ => by omega); have l4 : ∀ n : Nat, n < n + 1 + 1 + 1 + 1 := (fun _ => by omega)
  have hB := Below.refl w.heap.size w
  obtain ⟨hrel, k1, k2, k3, k4⟩ := fdB_t hy
  clear hy
  obtain ⟨p1, p2⟩ := relB_t hrel
  obtain ⟨_, _, d1, d2, _⟩ := relB2_t p2
  obtain ⟨f1, f2⟩ := inR_t p1
  have hya := dat_yr k1 (show a ≤ 730499 by omega)
  have hyb := dat_yr (show 0 ≤ b by omega) k3
  have hfew := years_few k1 k2 k3 k4
  have hna := yr_of k1 (show a ≤ 730499 by omega)
  have hnb := yr_of (show 0 ≤ b by omega) k3
  have hle : (dat a false).1 ≤ (dat b false).1 := by
    by_cases q : (dat a false).1 ≤ (dat b false).1
    · exact q
    · have := nyear_mono false (a := (dat b false).1 + 1) (b := (dat a false).1) (by omega) (by omega)
      omega
  clear hna hnb
  have hDa : ∀ W : World, _ := fun W => l01Old_any k1 (by omega) W
  have hDb : ∀ W : World, _ := fun W => l01Old_any (by omega) k3 W
  have HV : Hid (fdL f r d a b = daysL f r d a b (max 1 ((dat a false).1 - 1)) (min 2000 ((dat b false).1 + 1) - max 1 ((dat a false).1 - 1) + 1).toNat) := rfl
  have hlo : loY a = max 1 ((dat a false).1 - 1) := rfl
  have hhi : hiY b = min 2000 ((dat b false).1 + 1) := rfl
  rw [hlo, hhi] at hfew
  clear hlo hhi
  generalize (dat a false).1 = ya at hDa hya HV hfew hle
  generalize (dat a false).2.1 = ma at hDa
  generalize (dat a false).2.2 = da at hDa
  generalize (dat b false).1 = yb at hDb hyb HV hfew hle
  generalize (dat b false).2.1 = mb at hDb
  generalize (dat b false).2.2 = db at hDb
  obtain ⟨ya1, ya2⟩ := hya
  obtain ⟨yb1, yb2⟩ := hyb
  have hmx : (if 1 < ya - 1 then ya - 1 else 1) = max 1 (ya - 1) := by split <;> omega
  have hmn : (if yb + 1 < 2000 then yb + 1 else 2000) = min 2000 (yb + 1) := by split <;> omega
  have hlo1 : 1 ≤ max 1 (ya - 1) := by omega
  have hup1 : min 2000 (yb + 1) ≤ 2000 := by omega
  have hlu : max 1 (ya - 1) ≤ min 2000 (yb + 1) := by omega
  obtain ⟨lo, hmx2⟩ : ∃ lo, max 1 (ya - 1) = lo := ⟨_, rfl⟩
  obtain ⟨up, hmn2⟩ : ∃ up, min 2000 (yb + 1) = up := ⟨_, rfl⟩
  rw [hmx2] at hmx hlo1 HV hfew hlu
  rw [hmn2] at hmn hup1 HV hfew hlu
  obtain ⟨kk, hkk⟩ : ∃ kk, (up - lo + 1).toNat = kk := ⟨_, rfl⟩
  rw [hkk] at HV hfew
  clear hrel p1
  have fy := fd_year
  go_enter Try.func109, Try.ntmps109
  go_wp2_with fail
  refine (hDa _).mono ?_
  rintro e w1 ⟨rfl, b1⟩
  have hO0 := OwnS.made w (Nat.le_refl w.heap.size)
  have hO := hO0.below b1
  have B1 := below_tt (below_al hB _) b1
  clear hO0 b1 hB hDa
  go_wp2_with fail
  go_loopw [11, 12] (fun s12 s13 wr => ∃ k : Nat, k ≤ kk ∧ s13 = .int .i64 (lo + k) ∧ OwnS wr w.heap.size s12 (daysL f r d a b lo k) ∧ Below w.heap.size w wr) (fun _ s13 _ => (2010 - intOf s13).toNat)
  case atStart => exact ⟨0, by omega, by simp, hO, B1⟩
  case round =>
    clear hO B1
    obtain ⟨k, hk, rfl, hO, hB⟩ := hrel
    go_wp2_with fail
    refine (hDb _).mono ?_
    rintro e w2 ⟨rfl, b2⟩
    have hO2 := hO.below b2
    have B2 := below_tt hB b2
    clear hO hB b2
    by_cases hlt : k < kk
    · have e0 : decide (lo + (k : Int) ≤ up) = true := decide_eq_true (by omega)
      have hl := daysL_len f r d a b lo k
      have hS : Hid (daysL f r d a b lo (k + 1) = daysL f r d a b lo k ++ (if inR (relI f r d (lo + k)) a b = true then [(relI f r d (lo + k), relI f r d (lo + k))] else [])) := rfl
      have hfy := feast_day f1 f2 (show 1 ≤ lo + (k : Int) by omega) (show lo + (k : Int) ≤ 2000 by omega)
      have hro : relI f r d (lo + k) = relO r d (feastI f (lo + k)) := rfl
      have hrb := relO_bd (n := feastI f (lo + k)) p2
      rw [← hro] at hrb
      clear hro
      go_wp2_with fail
      refine (l05Related_any f r d (lo + k) _ f1 f2 (by omega) (by omega) d1 d2).mono ?_
      rintro e w3 ⟨rfl, b3⟩
      have hO3 := hO2.below b3
      have B3 := below_tt B2 b3
      clear hO2 B2 b3
      generalize relI f r d (lo + k) = q at hS hrb ⊢
      generalize feastI f (lo + k) = q2 at hrb hfy
      obtain ⟨hrb1, hrb2⟩ := hrb
      obtain ⟨hfy1, hfy2⟩ := hfy
      cases hi : inR q a b
      · have hI := Lib.hid hi
        rw [hi] at hS
        clear hi
        go_wp2_with fail
        refine (l01In_is hI.out _).mono ?_
        rintro e w4 ⟨rfl, rfl⟩
        go_wp2_with fail
        go_roundw
        case rel => exact ⟨k + 1, by omega, by simp; omega, by rw [hS.out]; simpa using hO3, B3⟩
        case measure => simp [intOf]; omega
      · have hI := Lib.hid hi
        rw [hi, if_pos rfl] at hS
        clear hi
        go_wp2_with fail
        refine (l01In_is hI.out _).mono ?_
        rintro e w4 ⟨rfl, rfl⟩
        go_wp2_with (at_builtin; refine app_span (w0 := w) (p := q) (q := q) (xs := daysL f r d a b lo k) (by (repeat' (first | (with_reducible exact Below.refl _ _) | (with_reducible assumption) | (with_reducible refine below_al ?_ _) | (with_reducible refine Below.drew ?_) | (with_reducible refine Below.setCell ?_ (by first | exact Nat.le_refl _ | (dsimp only; omega) | (simp; omega)) _) | (with_reducible refine below_drewN ?_ _) | (with_reducible refine below_tt ?_ (by assumption))))) (by first | exact (hO3.alloc _) | exact (hO3.alloc _).drew | exact ((hO3.alloc _).alloc _) | exact ((hO3.alloc _).alloc _).drew) (by omega) rfl _ _ rfl rfl rfl (by simp [go_sem]) (by simp [go_sem]) ?_; intro v6 w6 hO6 hB6 _)
        go_roundw
        case rel => exact ⟨k + 1, by omega, by simp; omega, by rw [hS.out]; exact hO6, hB6⟩
        case measure => simp [intOf]; omega
    · obtain rfl : kk = k := by omega
      have e0 : decide (lo + (kk : Int) ≤ up) = false := decide_eq_false (by omega)
      rw [← HV.out] at hO2
      have hall := fdL_all (f := f) (r := r) (d := d) (a := a) (b := b) (by omega) (by omega)
      have hlen : (fdL f r d a b).length ≤ 300 := fdL_len k1 k2 k3 k4
      have hul := unite_len (fdL f r d a b)
      go_wp2_with fail
      refine (l02Make_any _ (fdL f r d a b) _ hO2.rs2 (by omega) hall.1).mono ?_
      rintro e w3 ⟨v3, rfl, hO3, b3⟩
      have B3 := below_tt B2 b3
      have hO4 := OwnS.more hO3 B2.size
      go_wp2_with fail
      go_ret
      exact ⟨_, rfl, hO4, B3⟩
theorem fdB_s {f r d a b M : Int} (ha : inR a 0 730499 = true) (hM : M = 730499 ∧ 730499 ≤ a + 73000 ∨ M = a + 73000 ∧ a + 73000 < 730499) : fdB f r d a b = (relB f r d && inR b a M) := by
  have h := inR_t ha
  unfold fdB
  rw [ha]
  cases relB f r d
  · simp
  · rw [Bool.eq_iff_iff]
    unfold inR
    simp
    omega
set_option maxRecDepth 100000 in
set_option maxHeartbeats 4000000 in
theorem specFeastDays_any (f r d a b : Int) (w : World) :
    Calls Try.prog 28 #[.int .i64 f, .int .i64 r, .int .i64 d, .int .i64 a, .int .i64 b] w fun e w' => ∃ v, e = .returned (.tuple #[v, .int .i64 (fdR f r d a b).2]) ∧ OwnS w' w.heap.size v (fdR f r d a b).1 ∧ Below w.heap.size w w' := by
  have rg := cell_rg; have l2 : ∀ n : Nat, n < n + 1 + 1 := (fun _ => by omega); have l3 : ∀ n : Nat, n < n + 1 + 1 + 1 := (fun _ => by omega); have l4 : ∀ n : Nat, n < n + 1 + 1 + 1 + 1 := (fun _ => by omega)
  have hB := Below.refl w.heap.size w
  cases hf : inR f 0 19
  · rw [fdR_no (by unfold fdB relB; rw [hf]; rfl)]
    have h1 := Lib.hid hf
    clear hf
    go_enter Try.func28, Try.ntmps28
    go_wp2_with (first | (go_at_call 95; refine (l05Feast_is h1.out _).mono ?_; rintro e w' ⟨rfl, rfl⟩) | (go_at_call 96; refine (l05Relation_is h2.out _).mono ?_; rintro e w' ⟨rfl, rfl⟩) | (go_at_call 98; refine (l01Day_is h3.out _).mono ?_; rintro e w' ⟨rfl, rfl⟩) | (go_at_call 88; refine (l01In_is h4.out _).mono ?_; rintro e w' ⟨rfl, rfl⟩))
    go_ret2
    exact ⟨_, rfl, OwnS.nil _ _, by (repeat' (first | (with_reducible exact Below.refl _ _) | (with_reducible assumption) | (with_reducible refine below_al ?_ _) | (with_reducible refine Below.drew ?_) | (with_reducible refine Below.setCell ?_ (by first | exact Nat.le_refl _ | (dsimp only; omega) | (simp; omega)) _) | (with_reducible refine below_drewN ?_ _) | (with_reducible refine below_tt ?_ (by assumption))))⟩
  cases hr : relB2 r d
  · rw [fdR_no (by unfold fdB relB; rw [hf, hr]; rfl)]
    have h1 := Lib.hid hf
    have h2 := Lib.hid hr
    clear hf hr
    go_enter Try.func28, Try.ntmps28
    go_wp2_with (first | (go_at_call 95; refine (l05Feast_is h1.out _).mono ?_; rintro e w' ⟨rfl, rfl⟩) | (go_at_call 96; refine (l05Relation_is h2.out _).mono ?_; rintro e w' ⟨rfl, rfl⟩) | (go_at_call 98; refine (l01Day_is h3.out _).mono ?_; rintro e w' ⟨rfl, rfl⟩) | (go_at_call 88; refine (l01In_is h4.out _).mono ?_; rintro e w' ⟨rfl, rfl⟩))
    go_ret2
    exact ⟨_, rfl, OwnS.nil _ _, by (repeat' (first | (with_reducible exact Below.refl _ _) | (with_reducible assumption) | (with_reducible refine below_al ?_ _) | (with_reducible refine Below.drew ?_) | (with_reducible refine Below.setCell ?_ (by first | exact Nat.le_refl _ | (dsimp only; omega) | (simp; omega)) _) | (with_reducible refine below_drewN ?_ _) | (with_reducible refine below_tt ?_ (by assumption))))⟩
  cases ha : inR a 0 730499
  · rw [fdR_no (by unfold fdB; rw [ha]; simp)]
    have h1 := Lib.hid hf
    have h2 := Lib.hid hr
    have h3 := Lib.hid ha
    clear hf hr ha
    go_enter Try.func28, Try.ntmps28
    go_wp2_with (first | (go_at_call 95; refine (l05Feast_is h1.out _).mono ?_; rintro e w' ⟨rfl, rfl⟩) | (go_at_call 96; refine (l05Relation_is h2.out _).mono ?_; rintro e w' ⟨rfl, rfl⟩) | (go_at_call 98; refine (l01Day_is h3.out _).mono ?_; rintro e w' ⟨rfl, rfl⟩) | (go_at_call 88; refine (l01In_is h4.out _).mono ?_; rintro e w' ⟨rfl, rfl⟩))
    go_ret2
    exact ⟨_, rfl, OwnS.nil _ _, by (repeat' (first | (with_reducible exact Below.refl _ _) | (with_reducible assumption) | (with_reducible refine below_al ?_ _) | (with_reducible refine Below.drew ?_) | (with_reducible refine Below.setCell ?_ (by first | exact Nat.le_refl _ | (dsimp only; omega) | (simp; omega)) _) | (with_reducible refine below_drewN ?_ _) | (with_reducible refine below_tt ?_ (by assumption))))⟩
  obtain ⟨M, hM⟩ : ∃ M, M = 730499 ∧ 730499 ≤ a + 73000 ∨ M = a + 73000 ∧ a + 73000 < 730499 := by
    by_cases q : a + 73000 < 730499
    · exact ⟨_, Or.inr ⟨rfl, q⟩⟩
    · exact ⟨_, Or.inl ⟨rfl, by omega⟩⟩
  have hs := fdB_s (f := f) (r := r) (d := d) (b := b) ha hM
  have hrel : relB f r d = true := by unfold relB; rw [hf, hr]; rfl
  rw [hrel, Bool.true_and] at hs
  obtain ⟨a1, a2⟩ := inR_t ha
  have hmn : (if a + 73000 < 730499 then a + 73000 else 730499) = M := by split <;> omega
  have hmn2 : min 730499 (a + 73000) = M := by omega
  have h1 := Lib.hid hf
  have h2 := Lib.hid hr
  have h3 := Lib.hid ha
  clear hf hr ha hrel hM
  cases hb : inR b a M
  · have h4 := Lib.hid hb
    rw [hb] at hs
    rw [fdR_no hs]
    clear hb hs
    go_enter Try.func28, Try.ntmps28
    go_wp2_with (first | (go_at_call 95; refine (l05Feast_is h1.out _).mono ?_; rintro e w' ⟨rfl, rfl⟩) | (go_at_call 96; refine (l05Relation_is h2.out _).mono ?_; rintro e w' ⟨rfl, rfl⟩) | (go_at_call 98; refine (l01Day_is h3.out _).mono ?_; rintro e w' ⟨rfl, rfl⟩) | (go_at_call 88; refine (l01In_is h4.out _).mono ?_; rintro e w' ⟨rfl, rfl⟩))
    go_ret2
    exact ⟨_, rfl, OwnS.nil _ _, by (repeat' (first | (with_reducible exact Below.refl _ _) | (with_reducible assumption) | (with_reducible refine below_al ?_ _) | (with_reducible refine Below.drew ?_) | (with_reducible refine Below.setCell ?_ (by first | exact Nat.le_refl _ | (dsimp only; omega) | (simp; omega)) _) | (with_reducible refine below_drewN ?_ _) | (with_reducible refine below_tt ?_ (by assumption))))⟩
  · have h4 := Lib.hid hb
    rw [hb] at hs
    rw [fdR_t hs]
    have h5 := Lib.hid hs
    clear hb hs
    go_enter Try.func28, Try.ntmps28
    go_wp2_with (first | (go_at_call 95; refine (l05Feast_is h1.out _).mono ?_; rintro e w' ⟨rfl, rfl⟩) | (go_at_call 96; refine (l05Relation_is h2.out _).mono ?_; rintro e w' ⟨rfl, rfl⟩) | (go_at_call 98; refine (l01Day_is h3.out _).mono ?_; rintro e w' ⟨rfl, rfl⟩) | (go_at_call 88; refine (l01In_is h4.out _).mono ?_; rintro e w' ⟨rfl, rfl⟩))
    refine (l05Set_any _ h5.out).mono ?_
    rintro e w1 ⟨v, rfl, hO, b1⟩
    go_wp2_with fail
    go_ret2
    exact ⟨_, rfl, hO, b1⟩

set_option maxRecDepth 10000 in
set_option maxHeartbeats 4000000 in
theorem walk_FnExactFeastDays (n0 : Int) (n1 : Int) (n2 : Int) (n3 : Int) (n4 : Int)  (_ : I64 n0) (_ : I64 n1) (_ : I64 n2) (_ : I64 n3) (_ : I64 n4) (w : World) : Calls Try.prog 8 #[.int .i64 n0, .int .i64 n1, .int .i64 n2, .int .i64 n3, .int .i64 n4] w (Yes w) := by
  have hB := Below.refl w.heap.size w
  have hRl : (fdR n0 n1 n2 n3 n4).1.length ≤ 4000000 := fdR_len n0 n1 n2 n3 n4
  go_enter Try.func8, Try.ntmps8
  go_wp2_with fail
  refine (specFeastDays_any n0 n1 n2 n3 n4 _).mono ?_
  rintro e w1 ⟨vs, rfl, os, b1⟩
  have sz1 := b1.size
  have os := OwnIn.mk' os
  have B1 := below_tt hB b1
  go_wp2_with fail
  refine (implFeastDays_any n0 n1 n2 n3 n4 _).mono ?_
  rintro e w2 ⟨vi, rfl, oi, b2⟩
  have os := os.below b2
  have sz2 := b2.size
  have oi := OwnIn.mk' oi
  have B2 := below_tt B1 b2
  go_wp2_with fail
  refine (eqSpanS_any _ _ (fdR n0 n1 n2 n3 n4).1 (fdR n0 n1 n2 n3 n4).1 _ oi.rs os.rs (by omega) (by omega)).mono ?_
  rintro e w3 ⟨rfl, b3⟩
  have os := os.below b3
  have oi := oi.below b3
  have sz3 := b3.size
  have B3 := below_tt B2 b3
  rw [decide_eq_true (rfl : (fdR n0 n1 n2 n3 n4).1 = (fdR n0 n1 n2 n3 n4).1)]
  go_wp2_with fail
  refine (mark_in oi (by omega) (by omega) (by omega)).mono ?_
  rintro e w4 ⟨rfl, oim, g4⟩
  have os := os.kept oi g4 (by omega)
  have B4 := below_mark B3 oi g4 (by omega) (by omega)
  have sz4 := g4.size
  clear oi
  have oi := oim
  clear oim
  go_wp2_with fail
  refine (held_in oi (by omega) (by omega) (by omega)).mono ?_
  rintro e w5 ⟨rfl, b5⟩
  have os := os.below b5
  have oi := oi.below b5
  have sz5 := b5.size
  have B5 := below_tt B4 b5
  go_wp2_with fail
  refine (implFeastDays_any n0 n1 n2 n3 n4 _).mono ?_
  rintro e w6 ⟨vh, rfl, oh, b6⟩
  have os := os.below b6
  have oi := oi.below b6
  have sz6 := b6.size
  have oh := OwnIn.mk' oh
  have B6 := below_tt B5 b6
  go_wp2_with fail
  refine (eqSpanS_any _ _ (fdR n0 n1 n2 n3 n4).1 (fdR n0 n1 n2 n3 n4).1 _ oh.rs os.rs (by omega) (by omega)).mono ?_
  rintro e w7 ⟨rfl, b7⟩
  have os := os.below b7
  have oi := oi.below b7
  have oh := oh.below b7
  have sz7 := b7.size
  have B7 := below_tt B6 b7
  rw [decide_eq_true (rfl : (fdR n0 n1 n2 n3 n4).1 = (fdR n0 n1 n2 n3 n4).1)]
  go_wp2_with fail
  refine (held_in oi (by omega) (by omega) (by omega)).mono ?_
  rintro e w8 ⟨rfl, b8⟩
  have os := os.below b8
  have oi := oi.below b8
  have oh := oh.below b8
  have sz8 := b8.size
  have B8 := below_tt B7 b8
  go_wp2
  go_ret
  exact ⟨rfl, B8⟩
end Go.Proofs.Yticnkjpgjcddcaa
