/- The nearest feast: the reference, and the law. -/
import Derived.Test.YticnkjpgjcddcaaNear
namespace Go.Proofs.Yticnkjpgjcddcaa
open Go.RowKit

/-- How the reference holds the state. -/
def SpN (n b a b6 a7 : Int) (fd : Bool) : Prop := (b = -1 ∧ a = 0 ∧ b6 = 0 ∧ a7 = 0 ∧ fd = false) ∨ (b = b6 ∧ 0 ≤ b ∧ a7 = n - a ∧ fd = true)
set_option maxRecDepth 100000 in
set_option maxHeartbeats 8000000 in
theorem specNearestFeast_any (n : Int) (w : World) :
    Calls Try.prog 22 #[.int .i64 n] w fun e w' => e = .returned (.tuple #[.int .i64 (nearR n).1, .int .i64 (nearR n).2.1, .int .i64 (nearR n).2.2]) ∧ Below w.heap.size w w' := by
  cases hi : inR n 0 730499
  · rw [nearR_f hi]
    have h1 := Lib.hid hi
    clear hi
    go_enter Try.func22, Try.ntmps22
    go_wp2_with (go_at_call 98; refine (l01Day_is h1.out _).mono ?_; rintro e w' ⟨rfl, rfl⟩)
    go_ret3
    exact ⟨rfl, Below.refl _ _⟩
  rw [nearR_t hi]
  have h1 := Lib.hid hi
  obtain ⟨k1, k2⟩ := inR_t hi
  clear hi
  have hy := dat_yr k1 k2
  have hpos := nearN_pos k1 k2
  have HV : Hid (nearN n = nearM n ((dat n false).1 - 1) 3) := rfl
  rw [HV.out] at hpos ⊢
  clear HV
  have hD : ∀ W : World, _ := fun W => l01Old_any k1 k2 W
  generalize (dat n false).1 = y at hy hD hpos ⊢
  generalize (dat n false).2.1 = mm at hD
  generalize (dat n false).2.2 = dd at hD
  obtain ⟨y1, y2⟩ := hy
  obtain ⟨R, hR⟩ : ∃ R, nearM n (y - 1) 3 = R := ⟨_, rfl⟩
  have hRR := Lib.hid hR
  rw [hR] at hpos ⊢
  clear hR
  have rg := cell_rg; have l2 : ∀ n : Nat, n < n + 1 + 1 := (fun _ => by omega); have l3 : ∀ n : Nat, n < n + 1 + 1 + 1 := (fun _ => by omega); have l4 : ∀ n : Nat, n < n + 1 + 1 + 1 + 1 := (fun _ => by omega)
  have hB := Below.refl w.heap.size w
  obtain ⟨lo, hlo⟩ : ∃ lo, (lo = 1 ∧ y = 1) ∨ (lo = y - 1 ∧ 2 ≤ y) := by
    by_cases q : y = 1
    · exact ⟨1, Or.inl ⟨rfl, q⟩⟩
    · exact ⟨_, Or.inr ⟨rfl, by omega⟩⟩
  have hst : Hid (nearM n (y - 1) (lo - (y - 1)).toNat = (-1, 0)) := by
    rcases hlo with ⟨rfl, rfl⟩ | ⟨rfl, _⟩
    · exact nearM_skip (j := 0) (by decide)
    · rw [show (y - 1 - (y - 1)).toNat = 0 by omega]; exact Lib.hid rfl
  have hen : Hid (∀ hi : Int, ((hi = 2001 ∧ y = 2000) ∨ (hi = y + 2 ∧ y ≤ 1999)) → nearM n (y - 1) (hi - (y - 1)).toNat = R) := by
    refine Lib.hid fun hi hh => ?_
    rw [← hRR.out]
    rcases hh with ⟨rfl, rfl⟩ | ⟨rfl, _⟩
    · exact (nearM_skip (n := n) (a := 2000 - 1) (j := 2) (by decide)).symm
    · rw [show (y + 2 - (y - 1)).toNat = 3 by omega]
  clear hRR
  have hmx : (if 1 < y - 1 then y - 1 else 1) = lo := by split <;> omega
  have fy := fld_yr y mm dd
  obtain ⟨up, hup⟩ : ∃ up, (up = 2001 ∧ y = 2000) ∨ (up = y + 2 ∧ y ≤ 1999) := by
    by_cases q : y = 2000
    · exact ⟨_, Or.inl ⟨rfl, q⟩⟩
    · exact ⟨_, Or.inr ⟨rfl, by omega⟩⟩
  have hend := Lib.hid (hen.out up hup)
  have hmn : (if y + 1 < 2000 then y + 1 else 2000) = up - 1 := by split <;> omega
  clear hen
  go_enter Try.func22, Try.ntmps22
  go_wp2_with fail
  refine (l01Day_is h1.out _).mono ?_
  rintro e w0 ⟨rfl, rfl⟩
  go_wp2_with fail
  refine (hD _).mono ?_
  rintro e w1 ⟨rfl, b1⟩
  have B1 := below_tt hB b1
  clear b1 hB h1 hD
  go_wp2_with fail
  clear fy
  go_loopw [6, 7, 8, 9] (fun s6 s7 s8 s9 wr => ∃ (z b a b6 a7 : Int) (fd : Bool), lo ≤ z ∧ z ≤ up ∧ s9 = .int .i64 z ∧ s6 = .int .i64 b6 ∧ s7 = .int .i64 a7 ∧ s8 = .bool fd ∧ Hid (nearM n (y - 1) (z - (y - 1)).toNat = (b, a)) ∧ SpN n b a b6 a7 fd ∧ InvN (b, a) z 0 ∧ Below w.heap.size w wr) (fun _ _ _ s9 _ => (2010 - intOf s9).toNat)
  case atStart => exact ⟨lo, -1, 0, 0, 0, false, by omega, by omega, by simp, rfl, rfl, rfl, hst, Or.inl ⟨rfl, rfl, rfl, rfl, rfl⟩, Or.inl rfl, B1⟩
  case round =>
    clear B1 hst
    obtain ⟨z, b0, a0, b60, a70, fd0, hz1, hz2, rfl, rfl, rfl, rfl, hm, hE, hI, hB⟩ := hrel
    by_cases hlt : z < up
    · have e0 : decide (z ≤ up - 1) = true := decide_eq_true (by omega)
      have v1 : 1 ≤ z := by omega
      have v2 : z ≤ 2000 := by omega
      have hS := Lib.hid (nearM_go (n := n) (a := y - 1) (j := (z - (y - 1)).toNat) (inR_mk (by omega) (by omega)))
      rw [hm.out, show (y - 1 + ((z - (y - 1)).toNat : Int)) = z by omega, show (z - (y - 1)).toNat + 1 = (z + 1 - (y - 1)).toNat by omega] at hS
      go_wp2_with fail
      go_loopw [6, 7, 8, 10] (fun s6 s7 s8 s10 wr => ∃ (k : Nat) (b a b6 a7 : Int) (fd : Bool), k ≤ 20 ∧ s10 = .int .i64 k ∧ s6 = .int .i64 b6 ∧ s7 = .int .i64 a7 ∧ s8 = .bool fd ∧ Hid (nearK n z (b0, a0) k = (b, a)) ∧ SpN n b a b6 a7 fd ∧ InvN (b, a) z k ∧ Below w.heap.size w wr) (fun _ _ _ s10 _ => (20 - intOf s10).toNat)
      case atStart => exact ⟨0, b0, a0, b60, a70, fd0, by omega, by simp, rfl, rfl, rfl, Lib.hid rfl, hE, hI, hB⟩
      case round =>
        clear hB hI hE
        obtain ⟨k, b, a, b6, a7, fd, hk, rfl, rfl, rfl, rfl, hK, hE, hI, hB⟩ := hrel
        by_cases hlk : k < 20
        · have hI2 := invN_step (n := n) hI hlk v1 v2
          have hK2 := Lib.hid ((nearK_succ n z (b0, a0) k).trans (by rw [hK.out]))
          obtain ⟨bb1, bb2, bb3, bb4⟩ := invN_bd hI
          have fdd := feast_day (f := (k : Int)) (y := z) (by omega) (by omega) v1 v2
          have hsame := fun e hb => invN_same hI hlk v1 v2 e hb
          go_wp2_with fail
          refine (l05Day_any (k : Int) z _ (by omega) (by omega) v1 v2).mono ?_
          rintro e w3 ⟨rfl, b3⟩
          have B3 := below_tt hB b3
          clear b3 hB hI
          generalize feastI k z = q at hI2 hK2 fdd hsame ⊢
          obtain ⟨fd1, fd2⟩ := fdd
          obtain ⟨D, hD⟩ : ∃ D, (if n - q < -(n - q) then -(n - q) else n - q) = D := ⟨_, rfl⟩
          obtain ⟨A, hA⟩ : ∃ A, (if a7 < -a7 then -a7 else a7) = A := ⟨_, rfl⟩
          have hD2 := Lib.hid (show D = max (n - q) (-(n - q)) by rw [← hD]; split <;> omega)
          have hA2 := Lib.hid (show A = max a7 (-a7) by rw [← hA]; split <;> omega)
          rcases hE with ⟨hb1, ha1, hb6, ha7, rfl⟩ | ⟨hb1, hb0, ha7, rfl⟩
          · have hb : b < 0 := by omega
            have ab1 : -800000 ≤ a7 := by omega
            have ab2 : a7 ≤ 800000 := by omega
            have hDD := hD2.out
            have hAA := hA2.out
            by_cases c1 : D < A
            · exfalso; omega
            by_cases c2 : D = A
            case neg =>
              have e2 : decide (D < A) = false := decide_eq_false (by omega)
              have e3 : decide (D = A) = false := decide_eq_false (by omega)
              have e3' : (D == A) = false := by simpa using (show ¬ D = A by omega)
              have hs := Lib.hid (stepN_yes (n := n) (b := b) (a := a) (f := k) (d := q) (by omega))
              rw [hs.out] at hI2 hK2
              clear hs hsame hDD hAA
              have h8 := Lib.hid hb1
              have h7 := Lib.hid ha7
              clear hb1 ha7 ha1 hb6
              go_wp2_with fail
              go_roundw
              case rel => exact ⟨k + 1, k, q, k, n - q, true, by omega, by simp, rfl, rfl, rfl, hK2, Or.inr ⟨rfl, by omega, rfl, rfl⟩, hI2, B3⟩
              case measure => simp [intOf]; omega
            by_cases c3 : a7 < n - q
            · exfalso; omega
            by_cases c4 : n - q = a7
            case neg => exfalso; omega
            have hk6 : ¬ (k : Int) < b6 := by omega
            have e2 : decide (D < A) = false := decide_eq_false (by omega)
            have e3 : decide (D = A) = true := decide_eq_true (by omega)
            have e3' : (D == A) = true := by simpa using (show D = A by omega)
            have e4 : decide (a7 < n - q) = false := decide_eq_false (by omega)
            have e5 : decide (n - q = a7) = true := decide_eq_true (by omega)
            have e5' : (n - q == a7) = true := by simpa using (show n - q = a7 by omega)
            have e6 : decide ((k : Int) < b6) = false := decide_eq_false (by omega)
            have hs := Lib.hid (stepN_yes (n := n) (b := b) (a := a) (f := k) (d := q) (by omega))
            rw [hs.out] at hI2 hK2
            clear hs hsame hDD hAA
            have h8 := Lib.hid hb1
            have h7 := Lib.hid ha7
            clear hb1 ha7 ha1 hb6 c2 c4
            go_wp2_with fail
            go_roundw
            case rel => exact ⟨k + 1, k, q, k, n - q, true, by omega, by simp, rfl, rfl, rfl, hK2, Or.inr ⟨rfl, by omega, rfl, rfl⟩, hI2, B3⟩
            case measure => simp [intOf]; omega
          · have hb : 0 ≤ b := by omega
            have ab1 : -800000 ≤ a7 := by omega
            have ab2 : a7 ≤ 800000 := by omega
            have hDD := hD2.out
            have hAA := hA2.out
            by_cases c1 : D < A
            · have e2 : decide (D < A) = true := decide_eq_true (by omega)
              have hs := Lib.hid (stepN_yes (n := n) (b := b) (a := a) (f := k) (d := q) (by omega))
              rw [hs.out] at hI2 hK2
              clear hs hsame hDD hAA
              have h8 := Lib.hid hb1
              have h7 := Lib.hid ha7
              clear hb1 ha7
              go_wp2_with fail
              go_roundw
              case rel => exact ⟨k + 1, k, q, k, n - q, true, by omega, by simp, rfl, rfl, rfl, hK2, Or.inr ⟨rfl, by omega, rfl, rfl⟩, hI2, B3⟩
              case measure => simp [intOf]; omega
            by_cases c2 : D = A
            case neg =>
              have e2 : decide (D < A) = false := decide_eq_false (by omega)
              have e3 : decide (D = A) = false := decide_eq_false (by omega)
              have e3' : (D == A) = false := by simpa using (show ¬ D = A by omega)
              have hs := Lib.hid (stepN_no (n := n) (b := b) (a := a) (f := k) (d := q) (by omega))
              rw [hs.out] at hI2 hK2
              clear hs hsame hDD hAA
              have h8 := Lib.hid hb1
              have h7 := Lib.hid ha7
              clear hb1 ha7
              go_wp2_with fail
              go_roundw
              case rel => exact ⟨k + 1, b, a, _, _, _, by omega, by simp, rfl, rfl, rfl, hK2, Or.inr ⟨h8.out, hb0, h7.out, rfl⟩, hI2, B3⟩
              case measure => simp [intOf]; omega
            by_cases c3 : a7 < n - q
            · have e2 : decide (D < A) = false := decide_eq_false (by omega)
              have e3 : decide (D = A) = true := decide_eq_true (by omega)
              have e3' : (D == A) = true := by simpa using (show D = A by omega)
              have e4 : decide (a7 < n - q) = true := decide_eq_true (by omega)
              have hs := Lib.hid (stepN_yes (n := n) (b := b) (a := a) (f := k) (d := q) (by omega))
              rw [hs.out] at hI2 hK2
              clear hs hsame hDD hAA
              have h8 := Lib.hid hb1
              have h7 := Lib.hid ha7
              clear hb1 ha7 c2
              go_wp2_with fail
              go_roundw
              case rel => exact ⟨k + 1, k, q, k, n - q, true, by omega, by simp, rfl, rfl, rfl, hK2, Or.inr ⟨rfl, by omega, rfl, rfl⟩, hI2, B3⟩
              case measure => simp [intOf]; omega
            by_cases c4 : n - q = a7
            case neg =>
              have e2 : decide (D < A) = false := decide_eq_false (by omega)
              have e3 : decide (D = A) = true := decide_eq_true (by omega)
              have e3' : (D == A) = true := by simpa using (show D = A by omega)
              have e4 : decide (a7 < n - q) = false := decide_eq_false (by omega)
              have e5 : decide (n - q = a7) = false := decide_eq_false (by omega)
              have e5' : (n - q == a7) = false := by simpa using (show ¬ n - q = a7 by omega)
              have hs := Lib.hid (stepN_no (n := n) (b := b) (a := a) (f := k) (d := q) (by omega))
              rw [hs.out] at hI2 hK2
              clear hs hsame hDD hAA
              have h8 := Lib.hid hb1
              have h7 := Lib.hid ha7
              clear hb1 ha7 c2
              go_wp2_with fail
              go_roundw
              case rel => exact ⟨k + 1, b, a, _, _, _, by omega, by simp, rfl, rfl, rfl, hK2, Or.inr ⟨h8.out, hb0, h7.out, rfl⟩, hI2, B3⟩
              case measure => simp [intOf]; omega
            have hk6 : ¬ (k : Int) < b6 := by have := hsame (by omega) hb; omega
            have e2 : decide (D < A) = false := decide_eq_false (by omega)
            have e3 : decide (D = A) = true := decide_eq_true (by omega)
            have e3' : (D == A) = true := by simpa using (show D = A by omega)
            have e4 : decide (a7 < n - q) = false := decide_eq_false (by omega)
            have e5 : decide (n - q = a7) = true := decide_eq_true (by omega)
            have e5' : (n - q == a7) = true := by simpa using (show n - q = a7 by omega)
            have e6 : decide ((k : Int) < b6) = false := decide_eq_false (by omega)
            have hs := Lib.hid (stepN_no (n := n) (b := b) (a := a) (f := k) (d := q) (by omega))
            rw [hs.out] at hI2 hK2
            clear hs hsame hDD hAA
            have h8 := Lib.hid hb1
            have h7 := Lib.hid ha7
            clear hb1 ha7 c2 c4
            go_wp2_with fail
            go_roundw
            case rel => exact ⟨k + 1, b, a, _, _, _, by omega, by simp, rfl, rfl, rfl, hK2, Or.inr ⟨h8.out, hb0, h7.out, rfl⟩, hI2, B3⟩
            case measure => simp [intOf]; omega
        · obtain rfl : k = 20 := by omega
          have hI2 := invN_year hI (by omega) (by omega)
          go_wp2_with fail
          go_roundw
          case rel => exact ⟨z + 1, b, a, b6, a7, fd, by omega, by omega, by simp, rfl, rfl, rfl, Lib.hid (hS.out.trans hK.out), hE, hI2, hB⟩
          case measure => simp [intOf]; omega
    · obtain rfl : z = up := by omega
      have hN := Lib.hid (hend.out.symm.trans hm.out)
      have hb : 0 ≤ b0 := by have := hN.out; rw [this] at hpos; exact hpos
      clear hpos hend
      rcases hE with ⟨hb1, ha1, hb6, ha7, rfl⟩ | ⟨hb1, hb0, ha7, rfl⟩
      · omega
      have h7 := Lib.hid ha7
      have h8 := Lib.hid hb1
      clear ha7 hb1 hmx
      go_wp2_with fail
      go_ret3
      exact ⟨by rw [hN.out]; show _ = Ending.returned (.tuple #[.int .i64 b0, .int .i64 (n - a0), .int .i64 0]); rw [← h7.out, h8.out]; rfl, hB⟩
theorem walk_FnExactNearestFeast (n : Int) (_ : I64 n) (w : World) : Calls Try.prog 5 #[.int .i64 n] w (Yes w) := by
  have rg := cell_rg; have l2 : ∀ n : Nat, n < n + 1 + 1 := (fun _ => by omega); have l3 : ∀ n : Nat, n < n + 1 + 1 + 1 := (fun _ => by omega); have l4 : ∀ n : Nat, n < n + 1 + 1 + 1 + 1 := (fun _ => by omega)
  go_enter Try.func5, Try.ntmps5
  go_wp2_with (first | (go_at_call 22; (refine (specNearestFeast_any _ _).mono ?_; rintro e w' ⟨rfl, hb⟩; obtain ⟨hc, hf⟩ := bcell hb; have hz := bsize hb; (first | (have hB := below_tt hB hb) | (have hB := below_tt (below_al hB _) hb) | (have hB := below_tt (below_al (below_al hB _) _) hb) | (have hB := hb)); obtain ⟨hc0, hf0⟩ := bcell hB; have hz0 := bsize hB; (first | (have h2 := below_tt hp hb; obtain ⟨hc2, hf2⟩ := bcell h2; have hz2 := bsize h2) | (have h2 := below_tt (below_al hp _) hb; obtain ⟨hc2, hf2⟩ := bcell h2; have hz2 := bsize h2) | skip); have hp := hb)) | (go_at_call 23; (refine (implNearestFeast_any _ _).mono ?_; rintro e w' ⟨rfl, hb⟩; obtain ⟨hc, hf⟩ := bcell hb; have hz := bsize hb; (first | (have hB := below_tt hB hb) | (have hB := below_tt (below_al hB _) hb) | (have hB := below_tt (below_al (below_al hB _) _) hb) | (have hB := hb)); obtain ⟨hc0, hf0⟩ := bcell hB; have hz0 := bsize hB; (first | (have h2 := below_tt hp hb; obtain ⟨hc2, hf2⟩ := bcell h2; have hz2 := bsize h2) | (have h2 := below_tt (below_al hp _) hb; obtain ⟨hc2, hf2⟩ := bcell h2; have hz2 := bsize h2) | skip); have hp := hb)))
  go_ret
  exact ⟨rfl, by (repeat' (first | (with_reducible exact Below.refl _ _) | (with_reducible assumption) | (with_reducible refine below_al ?_ _) | (with_reducible refine Below.drew ?_) | (with_reducible refine Below.setCell ?_ (by first | exact Nat.le_refl _ | (dsimp only; omega) | (simp; omega)) _) | (with_reducible refine below_drewN ?_ _) | (with_reducible refine below_tt ?_ (by assumption))))⟩
end Go.Proofs.Yticnkjpgjcddcaa
