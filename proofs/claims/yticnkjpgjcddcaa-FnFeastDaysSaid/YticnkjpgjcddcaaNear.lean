/- The nearest feast: both sides, and the law. -/
import Derived.Test.YticnkjpgjcddcaaOn
namespace Go.Proofs.Yticnkjpgjcddcaa
open Go.RowKit

def stepN (n : Int) (p : Int × Int) (f d : Int) : Int × Int :=
  if p.1 < 0 ∨ max (d - n) (n - d) < max (p.2 - n) (n - p.2) ∨ (max (d - n) (n - d) = max (p.2 - n) (n - p.2) ∧ d < p.2) then (f, d) else p
def nearK (n y : Int) (p : Int × Int) : Nat → Int × Int
  | 0 => p
  | k + 1 => stepN n (nearK n y p k) k (feastI k y)
def nearM (n a : Int) : Nat → Int × Int
  | 0 => (-1, 0)
  | j + 1 => if inR (a + j) 1 2000 = true then nearK n (a + j) (nearM n a j) 20 else nearM n a j
def nearN (n : Int) : Int × Int := nearM n ((dat n false).1 - 1) 3
def nearR (n : Int) : Int × Int × Int := if inR n 0 730499 = true then ((nearN n).1, n - (nearN n).2, 0) else (0, 0, 2)
theorem nearR_f {n : Int} (h : inR n 0 730499 = false) : nearR n = (0, 0, 2) := by unfold nearR; rw [h]; rfl
theorem nearR_t {n : Int} (h : inR n 0 730499 = true) : nearR n = ((nearN n).1, n - (nearN n).2, 0) := by unfold nearR; rw [if_pos h]
def InvN (p : Int × Int) (y : Int) (k : Nat) : Prop :=
  p = (-1, 0) ∨ (0 ≤ p.1 ∧ p.1 ≤ 19 ∧ 0 ≤ p.2 ∧ p.2 ≤ 730499 ∧ p.2 < nyear (y + 1) false ∧ (p.2 < nyear y false ∨ p.1 < k))
theorem stepN_yes {n b a f d : Int} (h : b < 0 ∨ max (d - n) (n - d) < max (a - n) (n - a) ∨ (max (d - n) (n - d) = max (a - n) (n - a) ∧ d < a)) : stepN n (b, a) f d = (f, d) := by unfold stepN; rw [if_pos h]
theorem stepN_no {n b a f d : Int} (h : ¬ (b < 0 ∨ max (d - n) (n - d) < max (a - n) (n - a) ∨ (max (d - n) (n - d) = max (a - n) (n - a) ∧ d < a))) : stepN n (b, a) f d = (b, a) := by unfold stepN; rw [if_neg h]
theorem nearK_succ (n y : Int) (p : Int × Int) (k : Nat) : nearK n y p (k + 1) = stepN n (nearK n y p k) k (feastI k y) := rfl
theorem invN_step {n y : Int} {p : Int × Int} {k : Nat} (h : InvN p y k) (hk : k < 20) (y1 : 1 ≤ y) (y2 : y ≤ 2000) : InvN (stepN n p k (feastI k y)) y (k + 1) := by
  have a := feast_in (f := (k : Int)) (y := y) (by omega) (by omega) y1 y2
  have b := feast_day (f := (k : Int)) (y := y) (by omega) (by omega) y1 y2
  unfold stepN
  split
  · exact Or.inr ⟨by show (0 : Int) ≤ k; omega, by show (k : Int) ≤ 19; omega, b.1, b.2, a.2, Or.inr (by show (k : Int) < _; omega)⟩
  · rcases h with h | ⟨h1, h2, h3, h4, h5, h6⟩
    · exact Or.inl h
    · exact Or.inr ⟨h1, h2, h3, h4, h5, by omega⟩
theorem invN_year {y : Int} {p : Int × Int} {k : Nat} (h : InvN p y k) (y1 : 0 ≤ y) (y2 : y ≤ 2001) : InvN p (y + 1) 0 := by
  rcases h with h | ⟨h1, h2, h3, h4, h5, h6⟩
  · exact Or.inl h
  · have := nyear_mono false (a := y + 1) (b := y + 1 + 1) (by omega) (by omega)
    exact Or.inr ⟨h1, h2, h3, h4, by omega, Or.inl h5⟩
theorem invN_more {y : Int} {p : Int × Int} {k : Nat} (h : InvN p y 0) : InvN p y k := by
  rcases h with h | ⟨h1, h2, h3, h4, h5, h6⟩
  · exact Or.inl h
  · exact Or.inr ⟨h1, h2, h3, h4, h5, by omega⟩
theorem invN_bd {y : Int} {b a : Int} {k : Nat} (h : InvN (b, a) y k) : -1 ≤ b ∧ b ≤ 19 ∧ 0 ≤ a ∧ a ≤ 730499 := by
  rcases h with h | ⟨h1, h2, h3, h4, h5, h6⟩
  · injection h with h1 h2; omega
  · dsimp only at h1 h2 h3 h4; omega
theorem invN_no {y : Int} {b a : Int} {k : Nat} (h : InvN (b, a) y k) (hb : b < 0) : b = -1 ∧ a = 0 := by
  rcases h with h | ⟨h1, _⟩
  · injection h with h1 h2; exact ⟨h1, h2⟩
  · dsimp only at h1; omega
theorem invN_same {y : Int} {b a : Int} {k : Nat} (h : InvN (b, a) y k) (hk : k < 20) (y1 : 1 ≤ y) (y2 : y ≤ 2000) (e : feastI k y = a) (hb : 0 ≤ b) : b < k := by
  have f := feast_in (f := (k : Int)) (y := y) (by omega) (by omega) y1 y2
  rcases h with h | ⟨h1, h2, h3, h4, h5, h6⟩
  · injection h with h1 h2; omega
  · dsimp only at h6; omega
theorem nearM_go {n a : Int} {j : Nat} (h : inR (a + j) 1 2000 = true) : nearM n a (j + 1) = nearK n (a + j) (nearM n a j) 20 := by rw [nearM, if_pos h]
theorem nearM_skip {n a : Int} {j : Nat} (h : inR (a + j) 1 2000 = false) : nearM n a (j + 1) = nearM n a j := by rw [nearM, if_neg (by rw [h]; simp)]
theorem stepN_pos {n : Int} {p : Int × Int} {f d : Int} (hf : 0 ≤ f) : 0 ≤ (stepN n p f d).1 := by
  unfold stepN; split
  · exact hf
  · omega
theorem nearN_pos {n : Int} (h1 : 0 ≤ n) (h2 : n ≤ 730499) : 0 ≤ (nearN n).1 := by
  have hy := dat_yr h1 h2
  unfold nearN
  generalize (dat n false).1 = y at hy
  have a2 : 0 ≤ (nearM n (y - 1) 2).1 := by
    rw [nearM_go (j := 1) (inR_mk (by simp; omega) (by simp; omega))]
    exact stepN_pos (by omega)
  cases h : inR (y - 1 + (2 : Nat)) 1 2000
  · rw [nearM_skip (j := 2) h]; exact a2
  · rw [nearM_go (j := 2) h]; exact stepN_pos (by omega)
theorem fld_yr (y m d : Int) (w : World) : (Instr.field 43 (.agg #[.int .i64 y, .int .i64 m, .int .i64 d]) 0).run Try.prog w = .ok (.int .i64 y) w := by kernel_rfl
theorem distance_any (a b : Int) (w : World) (h1 : -10000000 ≤ a) (h2 : a ≤ 10000000) (h3 : -10000000 ≤ b) (h4 : b ≤ 10000000) :
    Calls Try.prog 106 #[.int .i64 a, .int .i64 b] w fun e w' => e = .returned (.int .i64 (max (a - b) (b - a))) ∧ w = w' := by
  go_enter Try.func106, Try.ntmps106
  go_wp2_with fail
  all_goals (go_ret; exact ⟨ret_int (by omega), rfl⟩)

set_option maxRecDepth 100000 in
set_option maxHeartbeats 8000000 in
theorem implNearestFeast_any (n : Int) (w : World) :
    Calls Try.prog 23 #[.int .i64 n] w fun e w' => e = .returned (.tuple #[.int .i64 (nearR n).1, .int .i64 (nearR n).2.1, .int .i64 (nearR n).2.2]) ∧ Below w.heap.size w w' := by
  cases hi : inR n 0 730499
  · rw [nearR_f hi]
    have h1 := Lib.hid hi
    clear hi
    go_enter Try.func23, Try.ntmps23
    go_wp2_with (go_at_call 104; refine (isDay_is h1.out _).mono ?_; rintro e w' ⟨rfl, rfl⟩)
    go_ret3
    exact ⟨rfl, Below.refl _ _⟩
  rw [nearR_t hi]
  have h1 := Lib.hid hi
  obtain ⟨k1, k2⟩ := inR_t hi
  clear hi
  have hy := dat_yr k1 k2
  have HV : Hid (nearN n = nearM n ((dat n false).1 - 1) 3) := rfl
  rw [HV.out]
  clear HV
  have hD : ∀ W : World, _ := fun W => idateOf_any k1 k2 W
  generalize (dat n false).1 = y at hy hD ⊢
  generalize (dat n false).2.1 = mm at hD
  generalize (dat n false).2.2 = dd at hD
  obtain ⟨y1, y2⟩ := hy
  obtain ⟨R, hR⟩ : ∃ R, nearM n (y - 1) 3 = R := ⟨_, rfl⟩
  have hRR := Lib.hid hR
  rw [hR]
  clear hR
  have rg := cell_rg; have l2 : ∀ n : Nat, n < n + 1 + 1 := (fun _ => by omega); have l3 : ∀ n : Nat, n < n + 1 + 1 + 1 := (fun _ => by omega); have l4 : ∀ n : Nat, n < n + 1 + 1 + 1 + 1 := (fun _ => by omega)
  have hB := Below.refl w.heap.size w
  go_enter Try.func23, Try.ntmps23
  go_wp2_with fail
  refine (isDay_is h1.out _).mono ?_
  rintro e w0 ⟨rfl, rfl⟩
  go_wp2_with fail
  refine (hD _).mono ?_
  rintro e w1 ⟨rfl, b1⟩
  have B1 := below_tt hB b1
  clear b1 hB h1 hD
  have fy := fld_yr y mm dd
  go_wp2_with fail
  clear fy
  go_loopw [5, 6, 8] (fun s5 s6 s8 wr => ∃ (j : Nat) (b a : Int), j ≤ 3 ∧ s8 = .int .i64 (y - 1 + j) ∧ s5 = .int .i64 b ∧ s6 = .int .i64 a ∧ Hid (nearM n (y - 1) j = (b, a)) ∧ InvN (b, a) (y - 1 + j) 0 ∧ Below w.heap.size w wr) (fun _ _ s8 _ => (y + 2 - intOf s8).toNat)
  case atStart => exact ⟨0, -1, 0, by omega, by simp, rfl, rfl, Lib.hid rfl, Or.inl rfl, B1⟩
  case round =>
    clear B1
    obtain ⟨j, b0, a0, hj, rfl, rfl, rfl, hm, hI, hB⟩ := hrel
    by_cases hlt : j < 3
    · have e0 : decide (y - 1 + (j : Int) ≤ y + 1) = true := decide_eq_true (by omega)
      cases hv : inR (y - 1 + j) 1 2000
      · have hV := Lib.hid hv
        have hS := Lib.hid (nearM_skip (n := n) hv)
        have hI2 := invN_year hI (by omega) (by omega)
        have bb := invN_bd hI
        clear hv hI
        go_wp2_with fail
        go_loopw [5, 6, 27] (fun s5 s6 s27 wr => ∃ k : Nat, k ≤ 20 ∧ s27 = .int .i64 k ∧ s5 = .int .i64 b0 ∧ s6 = .int .i64 a0 ∧ Below w.heap.size w wr) (fun _ _ s27 _ => (20 - intOf s27).toNat)
        case atStart => exact ⟨0, by omega, by simp, rfl, rfl, hB⟩
        case round =>
          clear hB
          obtain ⟨k, hk, rfl, rfl, rfl, hB⟩ := hrel
          by_cases hlk : k < 20
          · go_wp2_with fail
            refine (isYear_is hV.out _).mono ?_
            rintro e w2 ⟨rfl, rfl⟩
            go_wp2_with fail
            go_roundw
            case rel => exact ⟨k + 1, by omega, by simp, rfl, rfl, hB⟩
            case measure => simp [intOf]; omega
          · obtain rfl : k = 20 := by omega
            go_wp2_with fail
            go_roundw
            case rel => exact ⟨j + 1, b0, a0, by omega, by simp; omega, rfl, rfl, Lib.hid (hS.out.trans hm.out), by rw [show y - 1 + ((j + 1 : Nat) : Int) = y - 1 + j + 1 by omega]; exact hI2, hB⟩
            case measure => simp [intOf]; omega
      · have hV := Lib.hid hv
        have hS := Lib.hid (nearM_go (n := n) hv)
        obtain ⟨v1, v2⟩ := inR_t hv
        clear hv
        rw [hm.out] at hS
        go_wp2_with fail
        go_loopw [5, 6, 27] (fun s5 s6 s27 wr => ∃ (k : Nat) (b a : Int), k ≤ 20 ∧ s27 = .int .i64 k ∧ s5 = .int .i64 b ∧ s6 = .int .i64 a ∧ Hid (nearK n (y - 1 + j) (b0, a0) k = (b, a)) ∧ InvN (b, a) (y - 1 + j) k ∧ Below w.heap.size w wr) (fun _ _ s27 _ => (20 - intOf s27).toNat)
        case atStart => exact ⟨0, b0, a0, by omega, by simp, rfl, rfl, Lib.hid rfl, hI, hB⟩
        case round =>
          clear hB hI
          obtain ⟨k, b, a, hk, rfl, rfl, rfl, hK, hI, hB⟩ := hrel
          by_cases hlk : k < 20
          · have hI2 := invN_step (n := n) hI hlk v1 v2
            have hK2 := Lib.hid ((nearK_succ n (y - 1 + j) (b0, a0) k).trans (by rw [hK.out]))
            obtain ⟨bb1, bb2, bb3, bb4⟩ := invN_bd hI
            have fd := feast_day (f := (k : Int)) (y := y - 1 + j) (by omega) (by omega) v1 v2
            go_wp2_with fail
            refine (isYear_is hV.out _).mono ?_
            rintro e w2 ⟨rfl, rfl⟩
            go_wp2_with fail
            refine (feastDay_any (k : Int) (y - 1 + j) _ (by omega) (by omega) v1 v2).mono ?_
            rintro e w3 ⟨rfl, b3⟩
            have B3 := below_tt hB b3
            clear b3 hB hI
            generalize feastI k (y - 1 + j) = q at hI2 hK2 fd ⊢
            obtain ⟨fd1, fd2⟩ := fd
            have hd := Lib.hid (inR_mk fd1 fd2)
            go_wp2_with fail
            refine (distance_any q n _ (by omega) (by omega) (by omega) (by omega)).mono ?_
            rintro e w4 ⟨rfl, rfl⟩
            go_wp2_with fail
            refine (distance_any a n _ (by omega) (by omega) (by omega) (by omega)).mono ?_
            rintro e w5 ⟨rfl, rfl⟩
            go_wp2_with fail
            refine (isDay_is hd.out _).mono ?_
            rintro e w6 ⟨rfl, rfl⟩
            obtain ⟨g, hg⟩ : ∃ g, max (q - n) (n - q) = g := ⟨_, rfl⟩
            obtain ⟨l, hl⟩ : ∃ l, max (a - n) (n - a) = l := ⟨_, rfl⟩
            rw [hg, hl]
            by_cases hb : b < 0
            · have e1 : decide (b < 0) = true := decide_eq_true (by omega)
              have hs := Lib.hid (stepN_yes (n := n) (b := b) (a := a) (f := k) (d := q) (by rw [hg, hl]; omega))
              rw [hs.out] at hI2 hK2
              clear hg hl hs
              go_wp2_with fail
              go_roundw
              case rel => exact ⟨k + 1, k, q, by omega, by simp, rfl, rfl, hK2, hI2, B3⟩
              case measure => simp [intOf]; omega
            by_cases c1 : g < l
            · have e1 : decide (b < 0) = false := decide_eq_false (by omega)
              have e2 : decide (g < l) = true := decide_eq_true (by omega)
              have hs := Lib.hid (stepN_yes (n := n) (b := b) (a := a) (f := k) (d := q) (by rw [hg, hl]; omega))
              rw [hs.out] at hI2 hK2
              clear hg hl hs
              go_wp2_with fail
              go_roundw
              case rel => exact ⟨k + 1, k, q, by omega, by simp, rfl, rfl, hK2, hI2, B3⟩
              case measure => simp [intOf]; omega
            by_cases c2 : g = l
            case neg =>
              have e1 : decide (b < 0) = false := decide_eq_false (by omega)
              have e2 : decide (g < l) = false := decide_eq_false (by omega)
              have e3 : decide (g = l) = false := decide_eq_false (by omega)
              have e3' : (g == l) = false := by simpa using (show ¬ g = l by omega)
              have hs := Lib.hid (stepN_no (n := n) (b := b) (a := a) (f := k) (d := q) (by rw [hg, hl]; omega))
              rw [hs.out] at hI2 hK2
              clear hg hl hs
              go_wp2_with fail
              go_roundw
              case rel => exact ⟨k + 1, b, a, by omega, by simp, rfl, rfl, hK2, hI2, B3⟩
              case measure => simp [intOf]; omega
            by_cases c3 : q < a
            · have e1 : decide (b < 0) = false := decide_eq_false (by omega)
              have e2 : decide (g < l) = false := decide_eq_false (by omega)
              have e3 : decide (g = l) = true := decide_eq_true (by omega)
              have e3' : (g == l) = true := by simpa using (show g = l by omega)
              have e4 : decide (q < a) = true := decide_eq_true (by omega)
              have hs := Lib.hid (stepN_yes (n := n) (b := b) (a := a) (f := k) (d := q) (by rw [hg, hl]; omega))
              rw [hs.out] at hI2 hK2
              clear hg hl hs
              go_wp2_with fail
              go_roundw
              case rel => exact ⟨k + 1, k, q, by omega, by simp, rfl, rfl, hK2, hI2, B3⟩
              case measure => simp [intOf]; omega
            · have e1 : decide (b < 0) = false := decide_eq_false (by omega)
              have e2 : decide (g < l) = false := decide_eq_false (by omega)
              have e3 : decide (g = l) = true := decide_eq_true (by omega)
              have e3' : (g == l) = true := by simpa using (show g = l by omega)
              have e4 : decide (q < a) = false := decide_eq_false (by omega)
              have hs := Lib.hid (stepN_no (n := n) (b := b) (a := a) (f := k) (d := q) (by rw [hg, hl]; omega))
              rw [hs.out] at hI2 hK2
              clear hg hl hs
              go_wp2_with fail
              go_roundw
              case rel => exact ⟨k + 1, b, a, by omega, by simp, rfl, rfl, hK2, hI2, B3⟩
              case measure => simp [intOf]; omega
          · obtain rfl : k = 20 := by omega
            have hI2 := invN_year hI (by omega) (by omega)
            go_wp2_with fail
            go_roundw
            case rel => exact ⟨j + 1, b, a, by omega, by simp; omega, rfl, rfl, Lib.hid (hS.out.trans hK.out), by rw [show y - 1 + ((j + 1 : Nat) : Int) = y - 1 + j + 1 by omega]; exact hI2, hB⟩
            case measure => simp [intOf]; omega
    · obtain rfl : j = 3 := by omega
      have bb := invN_bd hI
      have hN := Lib.hid (hm.out.symm.trans hRR.out)
      go_wp2
      go_ret3
      exact ⟨by rw [← hN.out]; rfl, hB⟩
end Go.Proofs.Yticnkjpgjcddcaa
