/- The exported functions of local dates, on both sides. -/
import Derived.Test.YticnkjpgjcddcaaLocal
import Derived.Deep.RegionHeld3
namespace Go.Proofs.Yticnkjpgjcddcaa
open Go.RowKit

theorem codeR_one {c y m d : Int} (h : ¬ codeR c y m d = 0) : codeR c y m d = 1 := by unfold codeR at *; split <;> simp_all
theorem codeR_any (c y m d : Int) : codeR c y m d = codeR c y m d := rfl
def islocR (c y m d : Int) : Bool × Int := if codeR c y m d = 0 then ((locR c y m d).2, 0) else (false, 1)
def sameR (c y m d c' y' m' d' : Int) : Bool × Int :=
  if codeR c y m d = 0 ∧ codeR c' y' m' d' = 0 then (if (locR c y m d).2 = true ∧ (locR c' y' m' d').2 = true then (decide ((locR c y m d).1 = (locR c' y' m' d').1), 0) else (false, 4)) else (false, 1)
theorem localDay_is {c y m d n : Int} {b : Bool} (h : locR c y m d = (n, b)) (w : World) :
    Calls Try.prog 137 #[.agg #[.int .i64 c], .agg #[.int .i64 y, .int .i64 m, .int .i64 d]] w fun e w' => e = .returned (.tuple #[.int .i64 n, .bool b]) ∧ Below w.heap.size w w' := by
  have := localDay_any c y m d w
  rwa [h] at this

theorem implLocalDay_any (c y m d : Int) (w : World) :
    Calls Try.prog 67 #[.agg #[.int .i64 c], .agg #[.int .i64 y, .int .i64 m, .int .i64 d]] w fun e w' => e = .returned (.tuple #[.int .i64 (ldayR c y m d).1, .int .i64 (ldayR c y m d).2]) ∧ Below w.heap.size w w' := by
  have rg := cell_rg; have l2 : ∀ n : Nat, n < n + 1 + 1 := (fun _ => by omega); have l3 : ∀ n : Nat, n < n + 1 + 1 + 1 := (fun _ => by omega); have l4 : ∀ n : Nat, n < n + 1 + 1 + 1 + 1 := (fun _ => by omega)
  obtain ⟨n, b, hl⟩ : ∃ n b, locR c y m d = (n, b) := ⟨_, _, rfl⟩
  by_cases hk : codeR c y m d = 0
  · cases b
    · have hv : ldayR c y m d = (0, 4) := by simp [ldayR, hk, hl]
      have h1 := Lib.hid hk
      have h2 := Lib.hid hl
      clear hk hl
      have HV := Lib.hid hv
      go_enter Try.func67, Try.ntmps67
      clear hv
      go_wp2_with (first | (go_at_call 136; (refine (checkLocal_is h1.out _).mono ?_; rintro e w' ⟨rfl, hb⟩; obtain ⟨hc, hf⟩ := bcell hb; have hz := bsize hb; (first | (have hB := below_tt hB hb) | (have hB := below_tt (below_al hB _) hb) | (have hB := below_tt (below_al (below_al hB _) _) hb) | (have hB := hb)); obtain ⟨hc0, hf0⟩ := bcell hB; have hz0 := bsize hB; (first | (have h2 := below_tt hp hb; obtain ⟨hc2, hf2⟩ := bcell h2; have hz2 := bsize h2) | (have h2 := below_tt (below_al hp _) hb; obtain ⟨hc2, hf2⟩ := bcell h2; have hz2 := bsize h2) | skip); have hp := hb)) | (go_at_call 137; (refine (localDay_is h2.out _).mono ?_; rintro e w' ⟨rfl, hb⟩; obtain ⟨hc, hf⟩ := bcell hb; have hz := bsize hb; (first | (have hB := below_tt hB hb) | (have hB := below_tt (below_al hB _) hb) | (have hB := below_tt (below_al (below_al hB _) _) hb) | (have hB := hb)); obtain ⟨hc0, hf0⟩ := bcell hB; have hz0 := bsize hB; (first | (have h2 := below_tt hp hb; obtain ⟨hc2, hf2⟩ := bcell h2; have hz2 := bsize h2) | (have h2 := below_tt (below_al hp _) hb; obtain ⟨hc2, hf2⟩ := bcell h2; have hz2 := bsize h2) | skip); have hp := hb)))
      go_ret2
      exact ⟨by rw [HV.out]; rfl, by (repeat' (first | (with_reducible exact Below.refl _ _) | (with_reducible assumption) | (with_reducible refine below_al ?_ _) | (with_reducible refine Below.drew ?_) | (with_reducible refine Below.setCell ?_ (by first | exact Nat.le_refl _ | (dsimp only; omega) | (simp; omega)) _) | (with_reducible refine below_drewN ?_ _) | (with_reducible refine below_tt ?_ (by assumption))))⟩
    · have hv : ldayR c y m d = (n, 0) := by simp [ldayR, hk, hl]
      have h1 := Lib.hid hk
      have h2 := Lib.hid hl
      clear hk hl
      have HV := Lib.hid hv
      go_enter Try.func67, Try.ntmps67
      clear hv
      go_wp2_with (first | (go_at_call 136; (refine (checkLocal_is h1.out _).mono ?_; rintro e w' ⟨rfl, hb⟩; obtain ⟨hc, hf⟩ := bcell hb; have hz := bsize hb; (first | (have hB := below_tt hB hb) | (have hB := below_tt (below_al hB _) hb) | (have hB := below_tt (below_al (below_al hB _) _) hb) | (have hB := hb)); obtain ⟨hc0, hf0⟩ := bcell hB; have hz0 := bsize hB; (first | (have h2 := below_tt hp hb; obtain ⟨hc2, hf2⟩ := bcell h2; have hz2 := bsize h2) | (have h2 := below_tt (below_al hp _) hb; obtain ⟨hc2, hf2⟩ := bcell h2; have hz2 := bsize h2) | skip); have hp := hb)) | (go_at_call 137; (refine (localDay_is h2.out _).mono ?_; rintro e w' ⟨rfl, hb⟩; obtain ⟨hc, hf⟩ := bcell hb; have hz := bsize hb; (first | (have hB := below_tt hB hb) | (have hB := below_tt (below_al hB _) hb) | (have hB := below_tt (below_al (below_al hB _) _) hb) | (have hB := hb)); obtain ⟨hc0, hf0⟩ := bcell hB; have hz0 := bsize hB; (first | (have h2 := below_tt hp hb; obtain ⟨hc2, hf2⟩ := bcell h2; have hz2 := bsize h2) | (have h2 := below_tt (below_al hp _) hb; obtain ⟨hc2, hf2⟩ := bcell h2; have hz2 := bsize h2) | skip); have hp := hb)))
      go_ret2
      exact ⟨by rw [HV.out]; rfl, by (repeat' (first | (with_reducible exact Below.refl _ _) | (with_reducible assumption) | (with_reducible refine below_al ?_ _) | (with_reducible refine Below.drew ?_) | (with_reducible refine Below.setCell ?_ (by first | exact Nat.le_refl _ | (dsimp only; omega) | (simp; omega)) _) | (with_reducible refine below_drewN ?_ _) | (with_reducible refine below_tt ?_ (by assumption))))⟩
  · have hv : ldayR c y m d = (0, 1) := by simp [ldayR, hk]
    · have h1 := Lib.hid (codeR_one hk)
      have h2 := Lib.hid hl
      clear hk hl
      have HV := Lib.hid hv
      go_enter Try.func67, Try.ntmps67
      clear hv
      go_wp2_with (first | (go_at_call 136; (refine (checkLocal_is h1.out _).mono ?_; rintro e w' ⟨rfl, hb⟩; obtain ⟨hc, hf⟩ := bcell hb; have hz := bsize hb; (first | (have hB := below_tt hB hb) | (have hB := below_tt (below_al hB _) hb) | (have hB := below_tt (below_al (below_al hB _) _) hb) | (have hB := hb)); obtain ⟨hc0, hf0⟩ := bcell hB; have hz0 := bsize hB; (first | (have h2 := below_tt hp hb; obtain ⟨hc2, hf2⟩ := bcell h2; have hz2 := bsize h2) | (have h2 := below_tt (below_al hp _) hb; obtain ⟨hc2, hf2⟩ := bcell h2; have hz2 := bsize h2) | skip); have hp := hb)) | (go_at_call 137; (refine (localDay_is h2.out _).mono ?_; rintro e w' ⟨rfl, hb⟩; obtain ⟨hc, hf⟩ := bcell hb; have hz := bsize hb; (first | (have hB := below_tt hB hb) | (have hB := below_tt (below_al hB _) hb) | (have hB := below_tt (below_al (below_al hB _) _) hb) | (have hB := hb)); obtain ⟨hc0, hf0⟩ := bcell hB; have hz0 := bsize hB; (first | (have h2 := below_tt hp hb; obtain ⟨hc2, hf2⟩ := bcell h2; have hz2 := bsize h2) | (have h2 := below_tt (below_al hp _) hb; obtain ⟨hc2, hf2⟩ := bcell h2; have hz2 := bsize h2) | skip); have hp := hb)))
      go_ret2
      exact ⟨by rw [HV.out]; rfl, by (repeat' (first | (with_reducible exact Below.refl _ _) | (with_reducible assumption) | (with_reducible refine below_al ?_ _) | (with_reducible refine Below.drew ?_) | (with_reducible refine Below.setCell ?_ (by first | exact Nat.le_refl _ | (dsimp only; omega) | (simp; omega)) _) | (with_reducible refine below_drewN ?_ _) | (with_reducible refine below_tt ?_ (by assumption))))⟩

theorem implIsLocal_any (c y m d : Int) (w : World) :
    Calls Try.prog 69 #[.agg #[.int .i64 c], .agg #[.int .i64 y, .int .i64 m, .int .i64 d]] w fun e w' => e = .returned (.tuple #[.bool (islocR c y m d).1, .int .i64 (islocR c y m d).2]) ∧ Below w.heap.size w w' := by
  have rg := cell_rg; have l2 : ∀ n : Nat, n < n + 1 + 1 := (fun _ => by omega); have l3 : ∀ n : Nat, n < n + 1 + 1 + 1 := (fun _ => by omega); have l4 : ∀ n : Nat, n < n + 1 + 1 + 1 + 1 := (fun _ => by omega)
  obtain ⟨n, b, hl⟩ : ∃ n b, locR c y m d = (n, b) := ⟨_, _, rfl⟩
  by_cases hk : codeR c y m d = 0
  · cases b
    · have hv : islocR c y m d = (false, 0) := by simp [islocR, hk, hl]
      have h1 := Lib.hid hk
      have h2 := Lib.hid hl
      clear hk hl
      have HV := Lib.hid hv
      go_enter Try.func69, Try.ntmps69
      clear hv
      go_wp2_with (first | (go_at_call 136; (refine (checkLocal_is h1.out _).mono ?_; rintro e w' ⟨rfl, hb⟩; obtain ⟨hc, hf⟩ := bcell hb; have hz := bsize hb; (first | (have hB := below_tt hB hb) | (have hB := below_tt (below_al hB _) hb) | (have hB := below_tt (below_al (below_al hB _) _) hb) | (have hB := hb)); obtain ⟨hc0, hf0⟩ := bcell hB; have hz0 := bsize hB; (first | (have h2 := below_tt hp hb; obtain ⟨hc2, hf2⟩ := bcell h2; have hz2 := bsize h2) | (have h2 := below_tt (below_al hp _) hb; obtain ⟨hc2, hf2⟩ := bcell h2; have hz2 := bsize h2) | skip); have hp := hb)) | (go_at_call 137; (refine (localDay_is h2.out _).mono ?_; rintro e w' ⟨rfl, hb⟩; obtain ⟨hc, hf⟩ := bcell hb; have hz := bsize hb; (first | (have hB := below_tt hB hb) | (have hB := below_tt (below_al hB _) hb) | (have hB := below_tt (below_al (below_al hB _) _) hb) | (have hB := hb)); obtain ⟨hc0, hf0⟩ := bcell hB; have hz0 := bsize hB; (first | (have h2 := below_tt hp hb; obtain ⟨hc2, hf2⟩ := bcell h2; have hz2 := bsize h2) | (have h2 := below_tt (below_al hp _) hb; obtain ⟨hc2, hf2⟩ := bcell h2; have hz2 := bsize h2) | skip); have hp := hb)))
      go_ret2
      exact ⟨by rw [HV.out]; rfl, by (repeat' (first | (with_reducible exact Below.refl _ _) | (with_reducible assumption) | (with_reducible refine below_al ?_ _) | (with_reducible refine Below.drew ?_) | (with_reducible refine Below.setCell ?_ (by first | exact Nat.le_refl _ | (dsimp only; omega) | (simp; omega)) _) | (with_reducible refine below_drewN ?_ _) | (with_reducible refine below_tt ?_ (by assumption))))⟩
    · have hv : islocR c y m d = (true, 0) := by simp [islocR, hk, hl]
      have h1 := Lib.hid hk
      have h2 := Lib.hid hl
      clear hk hl
      have HV := Lib.hid hv
      go_enter Try.func69, Try.ntmps69
      clear hv
      go_wp2_with (first | (go_at_call 136; (refine (checkLocal_is h1.out _).mono ?_; rintro e w' ⟨rfl, hb⟩; obtain ⟨hc, hf⟩ := bcell hb; have hz := bsize hb; (first | (have hB := below_tt hB hb) | (have hB := below_tt (below_al hB _) hb) | (have hB := below_tt (below_al (below_al hB _) _) hb) | (have hB := hb)); obtain ⟨hc0, hf0⟩ := bcell hB; have hz0 := bsize hB; (first | (have h2 := below_tt hp hb; obtain ⟨hc2, hf2⟩ := bcell h2; have hz2 := bsize h2) | (have h2 := below_tt (below_al hp _) hb; obtain ⟨hc2, hf2⟩ := bcell h2; have hz2 := bsize h2) | skip); have hp := hb)) | (go_at_call 137; (refine (localDay_is h2.out _).mono ?_; rintro e w' ⟨rfl, hb⟩; obtain ⟨hc, hf⟩ := bcell hb; have hz := bsize hb; (first | (have hB := below_tt hB hb) | (have hB := below_tt (below_al hB _) hb) | (have hB := below_tt (below_al (below_al hB _) _) hb) | (have hB := hb)); obtain ⟨hc0, hf0⟩ := bcell hB; have hz0 := bsize hB; (first | (have h2 := below_tt hp hb; obtain ⟨hc2, hf2⟩ := bcell h2; have hz2 := bsize h2) | (have h2 := below_tt (below_al hp _) hb; obtain ⟨hc2, hf2⟩ := bcell h2; have hz2 := bsize h2) | skip); have hp := hb)))
      go_ret2
      exact ⟨by rw [HV.out]; rfl, by (repeat' (first | (with_reducible exact Below.refl _ _) | (with_reducible assumption) | (with_reducible refine below_al ?_ _) | (with_reducible refine Below.drew ?_) | (with_reducible refine Below.setCell ?_ (by first | exact Nat.le_refl _ | (dsimp only; omega) | (simp; omega)) _) | (with_reducible refine below_drewN ?_ _) | (with_reducible refine below_tt ?_ (by assumption))))⟩
  · have hv : islocR c y m d = (false, 1) := by simp [islocR, hk]
    · have h1 := Lib.hid (codeR_one hk)
      have h2 := Lib.hid hl
      clear hk hl
      have HV := Lib.hid hv
      go_enter Try.func69, Try.ntmps69
      clear hv
      go_wp2_with (first | (go_at_call 136; (refine (checkLocal_is h1.out _).mono ?_; rintro e w' ⟨rfl, hb⟩; obtain ⟨hc, hf⟩ := bcell hb; have hz := bsize hb; (first | (have hB := below_tt hB hb) | (have hB := below_tt (below_al hB _) hb) | (have hB := below_tt (below_al (below_al hB _) _) hb) | (have hB := hb)); obtain ⟨hc0, hf0⟩ := bcell hB; have hz0 := bsize hB; (first | (have h2 := below_tt hp hb; obtain ⟨hc2, hf2⟩ := bcell h2; have hz2 := bsize h2) | (have h2 := below_tt (below_al hp _) hb; obtain ⟨hc2, hf2⟩ := bcell h2; have hz2 := bsize h2) | skip); have hp := hb)) | (go_at_call 137; (refine (localDay_is h2.out _).mono ?_; rintro e w' ⟨rfl, hb⟩; obtain ⟨hc, hf⟩ := bcell hb; have hz := bsize hb; (first | (have hB := below_tt hB hb) | (have hB := below_tt (below_al hB _) hb) | (have hB := below_tt (below_al (below_al hB _) _) hb) | (have hB := hb)); obtain ⟨hc0, hf0⟩ := bcell hB; have hz0 := bsize hB; (first | (have h2 := below_tt hp hb; obtain ⟨hc2, hf2⟩ := bcell h2; have hz2 := bsize h2) | (have h2 := below_tt (below_al hp _) hb; obtain ⟨hc2, hf2⟩ := bcell h2; have hz2 := bsize h2) | skip); have hp := hb)))
      go_ret2
      exact ⟨by rw [HV.out]; rfl, by (repeat' (first | (with_reducible exact Below.refl _ _) | (with_reducible assumption) | (with_reducible refine below_al ?_ _) | (with_reducible refine Below.drew ?_) | (with_reducible refine Below.setCell ?_ (by first | exact Nat.le_refl _ | (dsimp only; omega) | (simp; omega)) _) | (with_reducible refine below_drewN ?_ _) | (with_reducible refine below_tt ?_ (by assumption))))⟩

theorem implSameDay_any (c y m d c' y' m' d' : Int) (w : World) :
    Calls Try.prog 80 #[.agg #[.int .i64 c], .agg #[.int .i64 y, .int .i64 m, .int .i64 d], .agg #[.int .i64 c'], .agg #[.int .i64 y', .int .i64 m', .int .i64 d']] w fun e w' => e = .returned (.tuple #[.bool (sameR c y m d c' y' m' d').1, .int .i64 (sameR c y m d c' y' m' d').2]) ∧ Below w.heap.size w w' := by
  have rg := cell_rg; have l2 : ∀ n : Nat, n < n + 1 + 1 := (fun _ => by omega); have l3 : ∀ n : Nat, n < n + 1 + 1 + 1 := (fun _ => by omega); have l4 : ∀ n : Nat, n < n + 1 + 1 + 1 + 1 := (fun _ => by omega)
  obtain ⟨n, b, hl⟩ : ∃ n b, locR c y m d = (n, b) := ⟨_, _, rfl⟩
  obtain ⟨n', b', hl'⟩ : ∃ n b, locR c' y' m' d' = (n, b) := ⟨_, _, rfl⟩
  have u2 := Lib.hid hl
  have v2 := Lib.hid hl'
  by_cases hk : codeR c y m d = 0
  · by_cases hk' : codeR c' y' m' d' = 0
    · have h1a := hk
      have k1a := hk'
      by_cases hb : b = true ∧ b' = true
      · have hv : sameR c y m d c' y' m' d' = (decide (n = n'), 0) := by simp [sameR, hk, hk', hl, hl', hb]
        obtain ⟨rfl, rfl⟩ := hb
        clear hk hk' hl hl'
        have h1 := Lib.hid h1a
        have k1 := Lib.hid k1a
        have HV := Lib.hid hv
        clear hv h1a k1a
        go_enter Try.func80, Try.ntmps80
        go_wp2_with (first | (go_at_call 136; (refine (checkLocal_is (by first | exact h1.out | exact k1.out) _).mono ?_; rintro e w' ⟨rfl, hb⟩; obtain ⟨hc, hf⟩ := bcell hb; have hz := bsize hb; (first | (have hB := below_tt hB hb) | (have hB := below_tt (below_al hB _) hb) | (have hB := below_tt (below_al (below_al hB _) _) hb) | (have hB := hb)); obtain ⟨hc0, hf0⟩ := bcell hB; have hz0 := bsize hB; (first | (have h2 := below_tt hp hb; obtain ⟨hc2, hf2⟩ := bcell h2; have hz2 := bsize h2) | (have h2 := below_tt (below_al hp _) hb; obtain ⟨hc2, hf2⟩ := bcell h2; have hz2 := bsize h2) | skip); have hp := hb)) | (go_at_call 137; (refine (localDay_is (by first | exact u2.out | exact v2.out) _).mono ?_; rintro e w' ⟨rfl, hb⟩; obtain ⟨hc, hf⟩ := bcell hb; have hz := bsize hb; (first | (have hB := below_tt hB hb) | (have hB := below_tt (below_al hB _) hb) | (have hB := below_tt (below_al (below_al hB _) _) hb) | (have hB := hb)); obtain ⟨hc0, hf0⟩ := bcell hB; have hz0 := bsize hB; (first | (have h2 := below_tt hp hb; obtain ⟨hc2, hf2⟩ := bcell h2; have hz2 := bsize h2) | (have h2 := below_tt (below_al hp _) hb; obtain ⟨hc2, hf2⟩ := bcell h2; have hz2 := bsize h2) | skip); have hp := hb)))
        go_ret2
        exact ⟨by rw [HV.out]; dsimp only; congr 2, by (repeat' (first | (with_reducible exact Below.refl _ _) | (with_reducible assumption) | (with_reducible refine below_al ?_ _) | (with_reducible refine Below.drew ?_) | (with_reducible refine Below.setCell ?_ (by first | exact Nat.le_refl _ | (dsimp only; omega) | (simp; omega)) _) | (with_reducible refine below_drewN ?_ _) | (with_reducible refine below_tt ?_ (by assumption))))⟩
      · have hv : sameR c y m d c' y' m' d' = (false, 4) := by
          cases b <;> cases b' <;> simp_all [sameR]
        clear hk hk' hl hl'
        cases b <;> cases b' <;> first | (exfalso; exact hb ⟨rfl, rfl⟩) | skip
        all_goals clear hb
        all_goals
          have h1 := Lib.hid h1a
          have k1 := Lib.hid k1a
          have HV := Lib.hid hv
          clear hv h1a k1a
          go_enter Try.func80, Try.ntmps80
          go_wp2_with (first | (go_at_call 136; (refine (checkLocal_is (by first | exact h1.out | exact k1.out) _).mono ?_; rintro e w' ⟨rfl, hb⟩; obtain ⟨hc, hf⟩ := bcell hb; have hz := bsize hb; (first | (have hB := below_tt hB hb) | (have hB := below_tt (below_al hB _) hb) | (have hB := below_tt (below_al (below_al hB _) _) hb) | (have hB := hb)); obtain ⟨hc0, hf0⟩ := bcell hB; have hz0 := bsize hB; (first | (have h2 := below_tt hp hb; obtain ⟨hc2, hf2⟩ := bcell h2; have hz2 := bsize h2) | (have h2 := below_tt (below_al hp _) hb; obtain ⟨hc2, hf2⟩ := bcell h2; have hz2 := bsize h2) | skip); have hp := hb)) | (go_at_call 137; (refine (localDay_is (by first | exact u2.out | exact v2.out) _).mono ?_; rintro e w' ⟨rfl, hb⟩; obtain ⟨hc, hf⟩ := bcell hb; have hz := bsize hb; (first | (have hB := below_tt hB hb) | (have hB := below_tt (below_al hB _) hb) | (have hB := below_tt (below_al (below_al hB _) _) hb) | (have hB := hb)); obtain ⟨hc0, hf0⟩ := bcell hB; have hz0 := bsize hB; (first | (have h2 := below_tt hp hb; obtain ⟨hc2, hf2⟩ := bcell h2; have hz2 := bsize h2) | (have h2 := below_tt (below_al hp _) hb; obtain ⟨hc2, hf2⟩ := bcell h2; have hz2 := bsize h2) | skip); have hp := hb)))
          go_ret2
          exact ⟨by rw [HV.out]; rfl, by (repeat' (first | (with_reducible exact Below.refl _ _) | (with_reducible assumption) | (with_reducible refine below_al ?_ _) | (with_reducible refine Below.drew ?_) | (with_reducible refine Below.setCell ?_ (by first | exact Nat.le_refl _ | (dsimp only; omega) | (simp; omega)) _) | (with_reducible refine below_drewN ?_ _) | (with_reducible refine below_tt ?_ (by assumption))))⟩
    · have hv : sameR c y m d c' y' m' d' = (false, 1) := by simp [sameR, hk']
      have h1a := hk
      have k1a := codeR_one hk'
      clear hk hk' hl hl'
      have h1 := Lib.hid h1a
      have k1 := Lib.hid k1a
      have HV := Lib.hid hv
      clear hv h1a k1a
      go_enter Try.func80, Try.ntmps80
      go_wp2_with (first | (go_at_call 136; (refine (checkLocal_is (by first | exact h1.out | exact k1.out) _).mono ?_; rintro e w' ⟨rfl, hb⟩; obtain ⟨hc, hf⟩ := bcell hb; have hz := bsize hb; (first | (have hB := below_tt hB hb) | (have hB := below_tt (below_al hB _) hb) | (have hB := below_tt (below_al (below_al hB _) _) hb) | (have hB := hb)); obtain ⟨hc0, hf0⟩ := bcell hB; have hz0 := bsize hB; (first | (have h2 := below_tt hp hb; obtain ⟨hc2, hf2⟩ := bcell h2; have hz2 := bsize h2) | (have h2 := below_tt (below_al hp _) hb; obtain ⟨hc2, hf2⟩ := bcell h2; have hz2 := bsize h2) | skip); have hp := hb)) | (go_at_call 137; (refine (localDay_is (by first | exact u2.out | exact v2.out) _).mono ?_; rintro e w' ⟨rfl, hb⟩; obtain ⟨hc, hf⟩ := bcell hb; have hz := bsize hb; (first | (have hB := below_tt hB hb) | (have hB := below_tt (below_al hB _) hb) | (have hB := below_tt (below_al (below_al hB _) _) hb) | (have hB := hb)); obtain ⟨hc0, hf0⟩ := bcell hB; have hz0 := bsize hB; (first | (have h2 := below_tt hp hb; obtain ⟨hc2, hf2⟩ := bcell h2; have hz2 := bsize h2) | (have h2 := below_tt (below_al hp _) hb; obtain ⟨hc2, hf2⟩ := bcell h2; have hz2 := bsize h2) | skip); have hp := hb)))
      go_ret2
      exact ⟨by rw [HV.out]; rfl, by (repeat' (first | (with_reducible exact Below.refl _ _) | (with_reducible assumption) | (with_reducible refine below_al ?_ _) | (with_reducible refine Below.drew ?_) | (with_reducible refine Below.setCell ?_ (by first | exact Nat.le_refl _ | (dsimp only; omega) | (simp; omega)) _) | (with_reducible refine below_drewN ?_ _) | (with_reducible refine below_tt ?_ (by assumption))))⟩
  · have hv : sameR c y m d c' y' m' d' = (false, 1) := by simp [sameR, hk]
    · by_cases hk' : codeR c' y' m' d' = 0
      all_goals
        have h1a := codeR_one hk
        have k1a := codeR_any c' y' m' d'
        clear hk hk' hl hl'
        have h1 := Lib.hid h1a
        have k1 := Lib.hid k1a
        have HV := Lib.hid hv
        clear hv h1a k1a
        go_enter Try.func80, Try.ntmps80
        go_wp2_with (first | (go_at_call 136; (refine (checkLocal_is (by first | exact h1.out | exact k1.out) _).mono ?_; rintro e w' ⟨rfl, hb⟩; obtain ⟨hc, hf⟩ := bcell hb; have hz := bsize hb; (first | (have hB := below_tt hB hb) | (have hB := below_tt (below_al hB _) hb) | (have hB := below_tt (below_al (below_al hB _) _) hb) | (have hB := hb)); obtain ⟨hc0, hf0⟩ := bcell hB; have hz0 := bsize hB; (first | (have h2 := below_tt hp hb; obtain ⟨hc2, hf2⟩ := bcell h2; have hz2 := bsize h2) | (have h2 := below_tt (below_al hp _) hb; obtain ⟨hc2, hf2⟩ := bcell h2; have hz2 := bsize h2) | skip); have hp := hb)) | (go_at_call 137; (refine (localDay_is (by first | exact u2.out | exact v2.out) _).mono ?_; rintro e w' ⟨rfl, hb⟩; obtain ⟨hc, hf⟩ := bcell hb; have hz := bsize hb; (first | (have hB := below_tt hB hb) | (have hB := below_tt (below_al hB _) hb) | (have hB := below_tt (below_al (below_al hB _) _) hb) | (have hB := hb)); obtain ⟨hc0, hf0⟩ := bcell hB; have hz0 := bsize hB; (first | (have h2 := below_tt hp hb; obtain ⟨hc2, hf2⟩ := bcell h2; have hz2 := bsize h2) | (have h2 := below_tt (below_al hp _) hb; obtain ⟨hc2, hf2⟩ := bcell h2; have hz2 := bsize h2) | skip); have hp := hb)))
        go_ret2
        exact ⟨by rw [HV.out]; rfl, by (repeat' (first | (with_reducible exact Below.refl _ _) | (with_reducible assumption) | (with_reducible refine below_al ?_ _) | (with_reducible refine Below.drew ?_) | (with_reducible refine Below.setCell ?_ (by first | exact Nat.le_refl _ | (dsimp only; omega) | (simp; omega)) _) | (with_reducible refine below_drewN ?_ _) | (with_reducible refine below_tt ?_ (by assumption))))⟩
theorem l03Day_is {c y m d n : Int} {b : Bool} (h : locR c y m d = (n, b)) (w : World) :
    Calls Try.prog 139 #[.agg #[.int .i64 c], .agg #[.int .i64 y, .int .i64 m, .int .i64 d]] w fun e w' => e = .returned (.tuple #[.int .i64 n, .bool b]) ∧ Below w.heap.size w w' := by
  have := l03Day_any c y m d w
  rwa [h] at this

theorem specLocalDay_any (c y m d : Int) (w : World) :
    Calls Try.prog 68 #[.agg #[.int .i64 c], .agg #[.int .i64 y, .int .i64 m, .int .i64 d]] w fun e w' => e = .returned (.tuple #[.int .i64 (ldayR c y m d).1, .int .i64 (ldayR c y m d).2]) ∧ Below w.heap.size w w' := by
  have rg := cell_rg; have l2 : ∀ n : Nat, n < n + 1 + 1 := (fun _ => by omega); have l3 : ∀ n : Nat, n < n + 1 + 1 + 1 := (fun _ => by omega); have l4 : ∀ n : Nat, n < n + 1 + 1 + 1 + 1 := (fun _ => by omega)
  obtain ⟨n, b, hl⟩ : ∃ n b, locR c y m d = (n, b) := ⟨_, _, rfl⟩
  by_cases hk : codeR c y m d = 0
  · cases b
    · have hv : ldayR c y m d = (0, 4) := by simp [ldayR, hk, hl]
      have h1 := Lib.hid hk
      have h2 := Lib.hid hl
      clear hk hl
      have HV := Lib.hid hv
      go_enter Try.func68, Try.ntmps68
      clear hv
      go_wp2_with (first | (go_at_call 138; (refine (l03Code_is h1.out _).mono ?_; rintro e w' ⟨rfl, hb⟩; obtain ⟨hc, hf⟩ := bcell hb; have hz := bsize hb; (first | (have hB := below_tt hB hb) | (have hB := below_tt (below_al hB _) hb) | (have hB := below_tt (below_al (below_al hB _) _) hb) | (have hB := hb)); obtain ⟨hc0, hf0⟩ := bcell hB; have hz0 := bsize hB; (first | (have h2 := below_tt hp hb; obtain ⟨hc2, hf2⟩ := bcell h2; have hz2 := bsize h2) | (have h2 := below_tt (below_al hp _) hb; obtain ⟨hc2, hf2⟩ := bcell h2; have hz2 := bsize h2) | skip); have hp := hb)) | (go_at_call 139; (refine (l03Day_is h2.out _).mono ?_; rintro e w' ⟨rfl, hb⟩; obtain ⟨hc, hf⟩ := bcell hb; have hz := bsize hb; (first | (have hB := below_tt hB hb) | (have hB := below_tt (below_al hB _) hb) | (have hB := below_tt (below_al (below_al hB _) _) hb) | (have hB := hb)); obtain ⟨hc0, hf0⟩ := bcell hB; have hz0 := bsize hB; (first | (have h2 := below_tt hp hb; obtain ⟨hc2, hf2⟩ := bcell h2; have hz2 := bsize h2) | (have h2 := below_tt (below_al hp _) hb; obtain ⟨hc2, hf2⟩ := bcell h2; have hz2 := bsize h2) | skip); have hp := hb)))
      go_ret2
      exact ⟨by rw [HV.out]; rfl, by (repeat' (first | (with_reducible exact Below.refl _ _) | (with_reducible assumption) | (with_reducible refine below_al ?_ _) | (with_reducible refine Below.drew ?_) | (with_reducible refine Below.setCell ?_ (by first | exact Nat.le_refl _ | (dsimp only; omega) | (simp; omega)) _) | (with_reducible refine below_drewN ?_ _) | (with_reducible refine below_tt ?_ (by assumption))))⟩
    · have hv : ldayR c y m d = (n, 0) := by simp [ldayR, hk, hl]
      have h1 := Lib.hid hk
      have h2 := Lib.hid hl
      clear hk hl
      have HV := Lib.hid hv
      go_enter Try.func68, Try.ntmps68
      clear hv
      go_wp2_with (first | (go_at_call 138; (refine (l03Code_is h1.out _).mono ?_; rintro e w' ⟨rfl, hb⟩; obtain ⟨hc, hf⟩ := bcell hb; have hz := bsize hb; (first | (have hB := below_tt hB hb) | (have hB := below_tt (below_al hB _) hb) | (have hB := below_tt (below_al (below_al hB _) _) hb) | (have hB := hb)); obtain ⟨hc0, hf0⟩ := bcell hB; have hz0 := bsize hB; (first | (have h2 := below_tt hp hb; obtain ⟨hc2, hf2⟩ := bcell h2; have hz2 := bsize h2) | (have h2 := below_tt (below_al hp _) hb; obtain ⟨hc2, hf2⟩ := bcell h2; have hz2 := bsize h2) | skip); have hp := hb)) | (go_at_call 139; (refine (l03Day_is h2.out _).mono ?_; rintro e w' ⟨rfl, hb⟩; obtain ⟨hc, hf⟩ := bcell hb; have hz := bsize hb; (first | (have hB := below_tt hB hb) | (have hB := below_tt (below_al hB _) hb) | (have hB := below_tt (below_al (below_al hB _) _) hb) | (have hB := hb)); obtain ⟨hc0, hf0⟩ := bcell hB; have hz0 := bsize hB; (first | (have h2 := below_tt hp hb; obtain ⟨hc2, hf2⟩ := bcell h2; have hz2 := bsize h2) | (have h2 := below_tt (below_al hp _) hb; obtain ⟨hc2, hf2⟩ := bcell h2; have hz2 := bsize h2) | skip); have hp := hb)))
      go_ret2
      exact ⟨by rw [HV.out]; rfl, by (repeat' (first | (with_reducible exact Below.refl _ _) | (with_reducible assumption) | (with_reducible refine below_al ?_ _) | (with_reducible refine Below.drew ?_) | (with_reducible refine Below.setCell ?_ (by first | exact Nat.le_refl _ | (dsimp only; omega) | (simp; omega)) _) | (with_reducible refine below_drewN ?_ _) | (with_reducible refine below_tt ?_ (by assumption))))⟩
  · have hv : ldayR c y m d = (0, 1) := by simp [ldayR, hk]
    · have h1 := Lib.hid (codeR_one hk)
      have h2 := Lib.hid hl
      clear hk hl
      have HV := Lib.hid hv
      go_enter Try.func68, Try.ntmps68
      clear hv
      go_wp2_with (first | (go_at_call 138; (refine (l03Code_is h1.out _).mono ?_; rintro e w' ⟨rfl, hb⟩; obtain ⟨hc, hf⟩ := bcell hb; have hz := bsize hb; (first | (have hB := below_tt hB hb) | (have hB := below_tt (below_al hB _) hb) | (have hB := below_tt (below_al (below_al hB _) _) hb) | (have hB := hb)); obtain ⟨hc0, hf0⟩ := bcell hB; have hz0 := bsize hB; (first | (have h2 := below_tt hp hb; obtain ⟨hc2, hf2⟩ := bcell h2; have hz2 := bsize h2) | (have h2 := below_tt (below_al hp _) hb; obtain ⟨hc2, hf2⟩ := bcell h2; have hz2 := bsize h2) | skip); have hp := hb)) | (go_at_call 139; (refine (l03Day_is h2.out _).mono ?_; rintro e w' ⟨rfl, hb⟩; obtain ⟨hc, hf⟩ := bcell hb; have hz := bsize hb; (first | (have hB := below_tt hB hb) | (have hB := below_tt (below_al hB _) hb) | (have hB := below_tt (below_al (below_al hB _) _) hb) | (have hB := hb)); obtain ⟨hc0, hf0⟩ := bcell hB; have hz0 := bsize hB; (first | (have h2 := below_tt hp hb; obtain ⟨hc2, hf2⟩ := bcell h2; have hz2 := bsize h2) | (have h2 := below_tt (below_al hp _) hb; obtain ⟨hc2, hf2⟩ := bcell h2; have hz2 := bsize h2) | skip); have hp := hb)))
      go_ret2
      exact ⟨by rw [HV.out]; rfl, by (repeat' (first | (with_reducible exact Below.refl _ _) | (with_reducible assumption) | (with_reducible refine below_al ?_ _) | (with_reducible refine Below.drew ?_) | (with_reducible refine Below.setCell ?_ (by first | exact Nat.le_refl _ | (dsimp only; omega) | (simp; omega)) _) | (with_reducible refine below_drewN ?_ _) | (with_reducible refine below_tt ?_ (by assumption))))⟩

theorem specIsLocal_any (c y m d : Int) (w : World) :
    Calls Try.prog 70 #[.agg #[.int .i64 c], .agg #[.int .i64 y, .int .i64 m, .int .i64 d]] w fun e w' => e = .returned (.tuple #[.bool (islocR c y m d).1, .int .i64 (islocR c y m d).2]) ∧ Below w.heap.size w w' := by
  have rg := cell_rg; have l2 : ∀ n : Nat, n < n + 1 + 1 := (fun _ => by omega); have l3 : ∀ n : Nat, n < n + 1 + 1 + 1 := (fun _ => by omega); have l4 : ∀ n : Nat, n < n + 1 + 1 + 1 + 1 := (fun _ => by omega)
  obtain ⟨n, b, hl⟩ : ∃ n b, locR c y m d = (n, b) := ⟨_, _, rfl⟩
  by_cases hk : codeR c y m d = 0
  · cases b
    · have hv : islocR c y m d = (false, 0) := by simp [islocR, hk, hl]
      have h1 := Lib.hid hk
      have h2 := Lib.hid hl
      clear hk hl
      have HV := Lib.hid hv
      go_enter Try.func70, Try.ntmps70
      clear hv
      go_wp2_with (first | (go_at_call 138; (refine (l03Code_is h1.out _).mono ?_; rintro e w' ⟨rfl, hb⟩; obtain ⟨hc, hf⟩ := bcell hb; have hz := bsize hb; (first | (have hB := below_tt hB hb) | (have hB := below_tt (below_al hB _) hb) | (have hB := below_tt (below_al (below_al hB _) _) hb) | (have hB := hb)); obtain ⟨hc0, hf0⟩ := bcell hB; have hz0 := bsize hB; (first | (have h2 := below_tt hp hb; obtain ⟨hc2, hf2⟩ := bcell h2; have hz2 := bsize h2) | (have h2 := below_tt (below_al hp _) hb; obtain ⟨hc2, hf2⟩ := bcell h2; have hz2 := bsize h2) | skip); have hp := hb)) | (go_at_call 139; (refine (l03Day_is h2.out _).mono ?_; rintro e w' ⟨rfl, hb⟩; obtain ⟨hc, hf⟩ := bcell hb; have hz := bsize hb; (first | (have hB := below_tt hB hb) | (have hB := below_tt (below_al hB _) hb) | (have hB := below_tt (below_al (below_al hB _) _) hb) | (have hB := hb)); obtain ⟨hc0, hf0⟩ := bcell hB; have hz0 := bsize hB; (first | (have h2 := below_tt hp hb; obtain ⟨hc2, hf2⟩ := bcell h2; have hz2 := bsize h2) | (have h2 := below_tt (below_al hp _) hb; obtain ⟨hc2, hf2⟩ := bcell h2; have hz2 := bsize h2) | skip); have hp := hb)))
      go_ret2
      exact ⟨by rw [HV.out]; rfl, by (repeat' (first | (with_reducible exact Below.refl _ _) | (with_reducible assumption) | (with_reducible refine below_al ?_ _) | (with_reducible refine Below.drew ?_) | (with_reducible refine Below.setCell ?_ (by first | exact Nat.le_refl _ | (dsimp only; omega) | (simp; omega)) _) | (with_reducible refine below_drewN ?_ _) | (with_reducible refine below_tt ?_ (by assumption))))⟩
    · have hv : islocR c y m d = (true, 0) := by simp [islocR, hk, hl]
      have h1 := Lib.hid hk
      have h2 := Lib.hid hl
      clear hk hl
      have HV := Lib.hid hv
      go_enter Try.func70, Try.ntmps70
      clear hv
      go_wp2_with (first | (go_at_call 138; (refine (l03Code_is h1.out _).mono ?_; rintro e w' ⟨rfl, hb⟩; obtain ⟨hc, hf⟩ := bcell hb; have hz := bsize hb; (first | (have hB := below_tt hB hb) | (have hB := below_tt (below_al hB _) hb) | (have hB := below_tt (below_al (below_al hB _) _) hb) | (have hB := hb)); obtain ⟨hc0, hf0⟩ := bcell hB; have hz0 := bsize hB; (first | (have h2 := below_tt hp hb; obtain ⟨hc2, hf2⟩ := bcell h2; have hz2 := bsize h2) | (have h2 := below_tt (below_al hp _) hb; obtain ⟨hc2, hf2⟩ := bcell h2; have hz2 := bsize h2) | skip); have hp := hb)) | (go_at_call 139; (refine (l03Day_is h2.out _).mono ?_; rintro e w' ⟨rfl, hb⟩; obtain ⟨hc, hf⟩ := bcell hb; have hz := bsize hb; (first | (have hB := below_tt hB hb) | (have hB := below_tt (below_al hB _) hb) | (have hB := below_tt (below_al (below_al hB _) _) hb) | (have hB := hb)); obtain ⟨hc0, hf0⟩ := bcell hB; have hz0 := bsize hB; (first | (have h2 := below_tt hp hb; obtain ⟨hc2, hf2⟩ := bcell h2; have hz2 := bsize h2) | (have h2 := below_tt (below_al hp _) hb; obtain ⟨hc2, hf2⟩ := bcell h2; have hz2 := bsize h2) | skip); have hp := hb)))
      go_ret2
      exact ⟨by rw [HV.out]; rfl, by (repeat' (first | (with_reducible exact Below.refl _ _) | (with_reducible assumption) | (with_reducible refine below_al ?_ _) | (with_reducible refine Below.drew ?_) | (with_reducible refine Below.setCell ?_ (by first | exact Nat.le_refl _ | (dsimp only; omega) | (simp; omega)) _) | (with_reducible refine below_drewN ?_ _) | (with_reducible refine below_tt ?_ (by assumption))))⟩
  · have hv : islocR c y m d = (false, 1) := by simp [islocR, hk]
    · have h1 := Lib.hid (codeR_one hk)
      have h2 := Lib.hid hl
      clear hk hl
      have HV := Lib.hid hv
      go_enter Try.func70, Try.ntmps70
      clear hv
      go_wp2_with (first | (go_at_call 138; (refine (l03Code_is h1.out _).mono ?_; rintro e w' ⟨rfl, hb⟩; obtain ⟨hc, hf⟩ := bcell hb; have hz := bsize hb; (first | (have hB := below_tt hB hb) | (have hB := below_tt (below_al hB _) hb) | (have hB := below_tt (below_al (below_al hB _) _) hb) | (have hB := hb)); obtain ⟨hc0, hf0⟩ := bcell hB; have hz0 := bsize hB; (first | (have h2 := below_tt hp hb; obtain ⟨hc2, hf2⟩ := bcell h2; have hz2 := bsize h2) | (have h2 := below_tt (below_al hp _) hb; obtain ⟨hc2, hf2⟩ := bcell h2; have hz2 := bsize h2) | skip); have hp := hb)) | (go_at_call 139; (refine (l03Day_is h2.out _).mono ?_; rintro e w' ⟨rfl, hb⟩; obtain ⟨hc, hf⟩ := bcell hb; have hz := bsize hb; (first | (have hB := below_tt hB hb) | (have hB := below_tt (below_al hB _) hb) | (have hB := below_tt (below_al (below_al hB _) _) hb) | (have hB := hb)); obtain ⟨hc0, hf0⟩ := bcell hB; have hz0 := bsize hB; (first | (have h2 := below_tt hp hb; obtain ⟨hc2, hf2⟩ := bcell h2; have hz2 := bsize h2) | (have h2 := below_tt (below_al hp _) hb; obtain ⟨hc2, hf2⟩ := bcell h2; have hz2 := bsize h2) | skip); have hp := hb)))
      go_ret2
      exact ⟨by rw [HV.out]; rfl, by (repeat' (first | (with_reducible exact Below.refl _ _) | (with_reducible assumption) | (with_reducible refine below_al ?_ _) | (with_reducible refine Below.drew ?_) | (with_reducible refine Below.setCell ?_ (by first | exact Nat.le_refl _ | (dsimp only; omega) | (simp; omega)) _) | (with_reducible refine below_drewN ?_ _) | (with_reducible refine below_tt ?_ (by assumption))))⟩

theorem specSameDay_any (c y m d c' y' m' d' : Int) (w : World) :
    Calls Try.prog 81 #[.agg #[.int .i64 c], .agg #[.int .i64 y, .int .i64 m, .int .i64 d], .agg #[.int .i64 c'], .agg #[.int .i64 y', .int .i64 m', .int .i64 d']] w fun e w' => e = .returned (.tuple #[.bool (sameR c y m d c' y' m' d').1, .int .i64 (sameR c y m d c' y' m' d').2]) ∧ Below w.heap.size w w' := by
  have rg := cell_rg; have l2 : ∀ n : Nat, n < n + 1 + 1 := (fun _ => by omega); have l3 : ∀ n : Nat, n < n + 1 + 1 + 1 := (fun _ => by omega); have l4 : ∀ n : Nat, n < n + 1 + 1 + 1 + 1 := (fun _ => by omega)
  obtain ⟨n, b, hl⟩ : ∃ n b, locR c y m d = (n, b) := ⟨_, _, rfl⟩
  obtain ⟨n', b', hl'⟩ : ∃ n b, locR c' y' m' d' = (n, b) := ⟨_, _, rfl⟩
  have u2 := Lib.hid hl
  have v2 := Lib.hid hl'
  by_cases hk : codeR c y m d = 0
  · by_cases hk' : codeR c' y' m' d' = 0
    · have h1a := hk
      have k1a := hk'
      by_cases hb : b = true ∧ b' = true
      · have hv : sameR c y m d c' y' m' d' = (decide (n = n'), 0) := by simp [sameR, hk, hk', hl, hl', hb]
        obtain ⟨rfl, rfl⟩ := hb
        clear hk hk' hl hl'
        have h1 := Lib.hid h1a
        have k1 := Lib.hid k1a
        have HV := Lib.hid hv
        clear hv h1a k1a
        go_enter Try.func81, Try.ntmps81
        go_wp2_with (first | (go_at_call 138; (refine (l03Code_is (by first | exact h1.out | exact k1.out) _).mono ?_; rintro e w' ⟨rfl, hb⟩; obtain ⟨hc, hf⟩ := bcell hb; have hz := bsize hb; (first | (have hB := below_tt hB hb) | (have hB := below_tt (below_al hB _) hb) | (have hB := below_tt (below_al (below_al hB _) _) hb) | (have hB := hb)); obtain ⟨hc0, hf0⟩ := bcell hB; have hz0 := bsize hB; (first | (have h2 := below_tt hp hb; obtain ⟨hc2, hf2⟩ := bcell h2; have hz2 := bsize h2) | (have h2 := below_tt (below_al hp _) hb; obtain ⟨hc2, hf2⟩ := bcell h2; have hz2 := bsize h2) | skip); have hp := hb)) | (go_at_call 139; (refine (l03Day_is (by first | exact u2.out | exact v2.out) _).mono ?_; rintro e w' ⟨rfl, hb⟩; obtain ⟨hc, hf⟩ := bcell hb; have hz := bsize hb; (first | (have hB := below_tt hB hb) | (have hB := below_tt (below_al hB _) hb) | (have hB := below_tt (below_al (below_al hB _) _) hb) | (have hB := hb)); obtain ⟨hc0, hf0⟩ := bcell hB; have hz0 := bsize hB; (first | (have h2 := below_tt hp hb; obtain ⟨hc2, hf2⟩ := bcell h2; have hz2 := bsize h2) | (have h2 := below_tt (below_al hp _) hb; obtain ⟨hc2, hf2⟩ := bcell h2; have hz2 := bsize h2) | skip); have hp := hb)))
        go_ret2
        exact ⟨by rw [HV.out]; dsimp only; congr 2, by (repeat' (first | (with_reducible exact Below.refl _ _) | (with_reducible assumption) | (with_reducible refine below_al ?_ _) | (with_reducible refine Below.drew ?_) | (with_reducible refine Below.setCell ?_ (by first | exact Nat.le_refl _ | (dsimp only; omega) | (simp; omega)) _) | (with_reducible refine below_drewN ?_ _) | (with_reducible refine below_tt ?_ (by assumption))))⟩
      · have hv : sameR c y m d c' y' m' d' = (false, 4) := by
          cases b <;> cases b' <;> simp_all [sameR]
        clear hk hk' hl hl'
        cases b <;> cases b' <;> first | (exfalso; exact hb ⟨rfl, rfl⟩) | skip
        all_goals clear hb
        all_goals
          have h1 := Lib.hid h1a
          have k1 := Lib.hid k1a
          have HV := Lib.hid hv
          clear hv h1a k1a
          go_enter Try.func81, Try.ntmps81
          go_wp2_with (first | (go_at_call 138; (refine (l03Code_is (by first | exact h1.out | exact k1.out) _).mono ?_; rintro e w' ⟨rfl, hb⟩; obtain ⟨hc, hf⟩ := bcell hb; have hz := bsize hb; (first | (have hB := below_tt hB hb) | (have hB := below_tt (below_al hB _) hb) | (have hB := below_tt (below_al (below_al hB _) _) hb) | (have hB := hb)); obtain ⟨hc0, hf0⟩ := bcell hB; have hz0 := bsize hB; (first | (have h2 := below_tt hp hb; obtain ⟨hc2, hf2⟩ := bcell h2; have hz2 := bsize h2) | (have h2 := below_tt (below_al hp _) hb; obtain ⟨hc2, hf2⟩ := bcell h2; have hz2 := bsize h2) | skip); have hp := hb)) | (go_at_call 139; (refine (l03Day_is (by first | exact u2.out | exact v2.out) _).mono ?_; rintro e w' ⟨rfl, hb⟩; obtain ⟨hc, hf⟩ := bcell hb; have hz := bsize hb; (first | (have hB := below_tt hB hb) | (have hB := below_tt (below_al hB _) hb) | (have hB := below_tt (below_al (below_al hB _) _) hb) | (have hB := hb)); obtain ⟨hc0, hf0⟩ := bcell hB; have hz0 := bsize hB; (first | (have h2 := below_tt hp hb; obtain ⟨hc2, hf2⟩ := bcell h2; have hz2 := bsize h2) | (have h2 := below_tt (below_al hp _) hb; obtain ⟨hc2, hf2⟩ := bcell h2; have hz2 := bsize h2) | skip); have hp := hb)))
          go_ret2
          exact ⟨by rw [HV.out]; rfl, by (repeat' (first | (with_reducible exact Below.refl _ _) | (with_reducible assumption) | (with_reducible refine below_al ?_ _) | (with_reducible refine Below.drew ?_) | (with_reducible refine Below.setCell ?_ (by first | exact Nat.le_refl _ | (dsimp only; omega) | (simp; omega)) _) | (with_reducible refine below_drewN ?_ _) | (with_reducible refine below_tt ?_ (by assumption))))⟩
    · have hv : sameR c y m d c' y' m' d' = (false, 1) := by simp [sameR, hk']
      have h1a := hk
      have k1a := codeR_one hk'
      clear hk hk' hl hl'
      have h1 := Lib.hid h1a
      have k1 := Lib.hid k1a
      have HV := Lib.hid hv
      clear hv h1a k1a
      go_enter Try.func81, Try.ntmps81
      go_wp2_with (first | (go_at_call 138; (refine (l03Code_is (by first | exact h1.out | exact k1.out) _).mono ?_; rintro e w' ⟨rfl, hb⟩; obtain ⟨hc, hf⟩ := bcell hb; have hz := bsize hb; (first | (have hB := below_tt hB hb) | (have hB := below_tt (below_al hB _) hb) | (have hB := below_tt (below_al (below_al hB _) _) hb) | (have hB := hb)); obtain ⟨hc0, hf0⟩ := bcell hB; have hz0 := bsize hB; (first | (have h2 := below_tt hp hb; obtain ⟨hc2, hf2⟩ := bcell h2; have hz2 := bsize h2) | (have h2 := below_tt (below_al hp _) hb; obtain ⟨hc2, hf2⟩ := bcell h2; have hz2 := bsize h2) | skip); have hp := hb)) | (go_at_call 139; (refine (l03Day_is (by first | exact u2.out | exact v2.out) _).mono ?_; rintro e w' ⟨rfl, hb⟩; obtain ⟨hc, hf⟩ := bcell hb; have hz := bsize hb; (first | (have hB := below_tt hB hb) | (have hB := below_tt (below_al hB _) hb) | (have hB := below_tt (below_al (below_al hB _) _) hb) | (have hB := hb)); obtain ⟨hc0, hf0⟩ := bcell hB; have hz0 := bsize hB; (first | (have h2 := below_tt hp hb; obtain ⟨hc2, hf2⟩ := bcell h2; have hz2 := bsize h2) | (have h2 := below_tt (below_al hp _) hb; obtain ⟨hc2, hf2⟩ := bcell h2; have hz2 := bsize h2) | skip); have hp := hb)))
      go_ret2
      exact ⟨by rw [HV.out]; rfl, by (repeat' (first | (with_reducible exact Below.refl _ _) | (with_reducible assumption) | (with_reducible refine below_al ?_ _) | (with_reducible refine Below.drew ?_) | (with_reducible refine Below.setCell ?_ (by first | exact Nat.le_refl _ | (dsimp only; omega) | (simp; omega)) _) | (with_reducible refine below_drewN ?_ _) | (with_reducible refine below_tt ?_ (by assumption))))⟩
  · have hv : sameR c y m d c' y' m' d' = (false, 1) := by simp [sameR, hk]
    · by_cases hk' : codeR c' y' m' d' = 0
      all_goals
        have h1a := codeR_one hk
        have k1a := codeR_any c' y' m' d'
        clear hk hk' hl hl'
        have h1 := Lib.hid h1a
        have k1 := Lib.hid k1a
        have HV := Lib.hid hv
        clear hv h1a k1a
        go_enter Try.func81, Try.ntmps81
        go_wp2_with (first | (go_at_call 138; (refine (l03Code_is (by first | exact h1.out | exact k1.out) _).mono ?_; rintro e w' ⟨rfl, hb⟩; obtain ⟨hc, hf⟩ := bcell hb; have hz := bsize hb; (first | (have hB := below_tt hB hb) | (have hB := below_tt (below_al hB _) hb) | (have hB := below_tt (below_al (below_al hB _) _) hb) | (have hB := hb)); obtain ⟨hc0, hf0⟩ := bcell hB; have hz0 := bsize hB; (first | (have h2 := below_tt hp hb; obtain ⟨hc2, hf2⟩ := bcell h2; have hz2 := bsize h2) | (have h2 := below_tt (below_al hp _) hb; obtain ⟨hc2, hf2⟩ := bcell h2; have hz2 := bsize h2) | skip); have hp := hb)) | (go_at_call 139; (refine (l03Day_is (by first | exact u2.out | exact v2.out) _).mono ?_; rintro e w' ⟨rfl, hb⟩; obtain ⟨hc, hf⟩ := bcell hb; have hz := bsize hb; (first | (have hB := below_tt hB hb) | (have hB := below_tt (below_al hB _) hb) | (have hB := below_tt (below_al (below_al hB _) _) hb) | (have hB := hb)); obtain ⟨hc0, hf0⟩ := bcell hB; have hz0 := bsize hB; (first | (have h2 := below_tt hp hb; obtain ⟨hc2, hf2⟩ := bcell h2; have hz2 := bsize h2) | (have h2 := below_tt (below_al hp _) hb; obtain ⟨hc2, hf2⟩ := bcell h2; have hz2 := bsize h2) | skip); have hp := hb)))
        go_ret2
        exact ⟨by rw [HV.out]; rfl, by (repeat' (first | (with_reducible exact Below.refl _ _) | (with_reducible assumption) | (with_reducible refine below_al ?_ _) | (with_reducible refine Below.drew ?_) | (with_reducible refine Below.setCell ?_ (by first | exact Nat.le_refl _ | (dsimp only; omega) | (simp; omega)) _) | (with_reducible refine below_drewN ?_ _) | (with_reducible refine below_tt ?_ (by assumption))))⟩

theorem newYear_is {y : Int} {f : Bool} {r : Int} (hr : nyear y f = r) (w : World) (h : 1 ≤ y) (k : y ≤ 100000) :
    Calls Try.prog 123 #[.int .i64 y, .bool f] w fun e w' => e = .returned (.int .i64 r) ∧ w = w' := by
  subst hr; exact newYear_any y f w h k
theorem isNewDay_any (n : Int) (w : World) :
    Calls Try.prog 133 #[.int .i64 n] w fun e w' => e = .returned (.bool (inR n 2 730486)) ∧ w = w' := by
  have e1 := Lib.hid nyear_ends.2.2.1
  have e2 := Lib.hid nyear_ends.2.2.2
  go_enter Try.func133, Try.ntmps133
  go_wp2_with (go_at_call 123; refine (newYear_is (by first | exact e1.out | exact e2.out) _ (by omega) (by omega)).mono ?_; rintro e w' ⟨rfl, rfl⟩)
  all_goals (go_ret; refine ⟨ret_bool ?_, rfl⟩; unfold inR; rw [Bool.eq_iff_iff]; simp; try omega)
theorem isNewDay_is {n : Int} {r : Bool} (h : inR n 2 730486 = r) (w : World) :
    Calls Try.prog 133 #[.int .i64 n] w fun e w' => e = .returned (.bool r) ∧ w = w' := by
  subst h; exact isNewDay_any n w
theorem l01Valid_is {y m d : Int} {f r : Bool} (h : valid y m d f = r) (w : World) :
    Calls Try.prog 142 #[.agg #[.int .i64 y, .int .i64 m, .int .i64 d], .bool f] w fun e w' => e = .returned (.bool r) ∧ Below w.heap.size w w' := by
  subst h; exact l01Valid_any y m d f w

theorem implOldDate_any (n : Int) (w : World) :
    Calls Try.prog 38 #[.int .i64 n] w fun e w' => e = .returned (.tuple #[.agg #[.int .i64 (odateR n).1.1, .int .i64 (odateR n).1.2.1, .int .i64 (odateR n).1.2.2], .int .i64 (odateR n).2]) ∧ Below w.heap.size w w' := by
  have rg := cell_rg; have l2 : ∀ n : Nat, n < n + 1 + 1 := (fun _ => by omega); have l3 : ∀ n : Nat, n < n + 1 + 1 + 1 := (fun _ => by omega); have l4 : ∀ n : Nat, n < n + 1 + 1 + 1 + 1 := (fun _ => by omega)
  cases hy : inR n 0 730499
  · have h1 := Lib.hid hy
    have HV : Hid (odateR n = ((0, 0, 0), 2)) := by unfold odateR Hid; rw [hy]; rfl
    clear hy
    go_enter Try.func38, Try.ntmps38
    go_wp2_with (go_at_call 104; refine (isDay_is h1.out _).mono ?_; rintro e w' ⟨rfl, rfl⟩)
    refine bodyPost_ret (v := .tuple #[.agg #[.int .i64 0, .int .i64 0, .int .i64 0], .int .i64 2]) (by simp [results, Try.results38, go_sem, *]) rfl ⟨?_, by (repeat' (first | (with_reducible exact Below.refl _ _) | (with_reducible assumption) | (with_reducible refine below_al ?_ _) | (with_reducible refine Below.drew ?_) | (with_reducible refine Below.setCell ?_ (by first | exact Nat.le_refl _ | (dsimp only; omega) | (simp; omega)) _) | (with_reducible refine below_drewN ?_ _) | (with_reducible refine below_tt ?_ (by assumption))))⟩
    rw [HV.out]
  · have h1 := Lib.hid hy
    have HV : Hid (odateR n = (dat n false, 0)) := by unfold odateR Hid; rw [hy]; rfl
    obtain ⟨hb1, hb2⟩ := inR_t hy
    have hn1 : nyear 1 false ≤ n := by rw [nyear_ends.1]; omega
    have hn2 : n < nyear 2001 false := by rw [nyear_ends.2.1]; omega
    clear hy
    go_enter Try.func38, Try.ntmps38
    go_wp2_with (first | (go_at_call 104; refine (isDay_is h1.out _).mono ?_; rintro e w' ⟨rfl, rfl⟩) | (go_at_call 93; (refine (dateOf_any _ _ _ hn1 hn2).mono ?_; rintro e w' ⟨rfl, hb⟩; obtain ⟨hc, hf⟩ := bcell hb; have hz := bsize hb; (first | (have hB := below_tt hB hb) | (have hB := below_tt (below_al hB _) hb) | (have hB := below_tt (below_al (below_al hB _) _) hb) | (have hB := hb)); obtain ⟨hc0, hf0⟩ := bcell hB; have hz0 := bsize hB; (first | (have h2 := below_tt hp hb; obtain ⟨hc2, hf2⟩ := bcell h2; have hz2 := bsize h2) | (have h2 := below_tt (below_al hp _) hb; obtain ⟨hc2, hf2⟩ := bcell h2; have hz2 := bsize h2) | skip); have hp := hb)))
    refine bodyPost_ret (v := .tuple #[.agg #[.int .i64 (dat n false).1, .int .i64 (dat n false).2.1, .int .i64 (dat n false).2.2], .int .i64 0]) (by simp [results, Try.results38, go_sem, *]) rfl ⟨?_, by (repeat' (first | (with_reducible exact Below.refl _ _) | (with_reducible assumption) | (with_reducible refine below_al ?_ _) | (with_reducible refine Below.drew ?_) | (with_reducible refine Below.setCell ?_ (by first | exact Nat.le_refl _ | (dsimp only; omega) | (simp; omega)) _) | (with_reducible refine below_drewN ?_ _) | (with_reducible refine below_tt ?_ (by assumption))))⟩
    rw [HV.out]

theorem specOldDate_any (n : Int) (w : World) :
    Calls Try.prog 39 #[.int .i64 n] w fun e w' => e = .returned (.tuple #[.agg #[.int .i64 (odateR n).1.1, .int .i64 (odateR n).1.2.1, .int .i64 (odateR n).1.2.2], .int .i64 (odateR n).2]) ∧ Below w.heap.size w w' := by
  have rg := cell_rg; have l2 : ∀ n : Nat, n < n + 1 + 1 := (fun _ => by omega); have l3 : ∀ n : Nat, n < n + 1 + 1 + 1 := (fun _ => by omega); have l4 : ∀ n : Nat, n < n + 1 + 1 + 1 + 1 := (fun _ => by omega)
  cases hy : inR n 0 730499
  · have h1 := Lib.hid hy
    have HV : Hid (odateR n = ((0, 0, 0), 2)) := by unfold odateR Hid; rw [hy]; rfl
    clear hy
    go_enter Try.func39, Try.ntmps39
    go_wp2_with (go_at_call 98; refine (l01Day_is h1.out _).mono ?_; rintro e w' ⟨rfl, rfl⟩)
    refine bodyPost_ret (v := .tuple #[.agg #[.int .i64 0, .int .i64 0, .int .i64 0], .int .i64 2]) (by simp [results, Try.results39, go_sem, *]) rfl ⟨?_, by (repeat' (first | (with_reducible exact Below.refl _ _) | (with_reducible assumption) | (with_reducible refine below_al ?_ _) | (with_reducible refine Below.drew ?_) | (with_reducible refine Below.setCell ?_ (by first | exact Nat.le_refl _ | (dsimp only; omega) | (simp; omega)) _) | (with_reducible refine below_drewN ?_ _) | (with_reducible refine below_tt ?_ (by assumption))))⟩
    rw [HV.out]
  · have h1 := Lib.hid hy
    have HV : Hid (odateR n = (dat n false, 0)) := by unfold odateR Hid; rw [hy]; rfl
    obtain ⟨hb1, hb2⟩ := inR_t hy
    have hn1 : nyear 1 false ≤ n := by rw [nyear_ends.1]; omega
    have hn2 : n < nyear 2001 false := by rw [nyear_ends.2.1]; omega
    clear hy
    go_enter Try.func39, Try.ntmps39
    go_wp2_with (first | (go_at_call 98; refine (l01Day_is h1.out _).mono ?_; rintro e w' ⟨rfl, rfl⟩) | (go_at_call 102; (refine (l01Old_any hb1 hb2 _).mono ?_; rintro e w' ⟨rfl, hb⟩; obtain ⟨hc, hf⟩ := bcell hb; have hz := bsize hb; (first | (have hB := below_tt hB hb) | (have hB := below_tt (below_al hB _) hb) | (have hB := below_tt (below_al (below_al hB _) _) hb) | (have hB := hb)); obtain ⟨hc0, hf0⟩ := bcell hB; have hz0 := bsize hB; (first | (have h2 := below_tt hp hb; obtain ⟨hc2, hf2⟩ := bcell h2; have hz2 := bsize h2) | (have h2 := below_tt (below_al hp _) hb; obtain ⟨hc2, hf2⟩ := bcell h2; have hz2 := bsize h2) | skip); have hp := hb)))
    refine bodyPost_ret (v := .tuple #[.agg #[.int .i64 (dat n false).1, .int .i64 (dat n false).2.1, .int .i64 (dat n false).2.2], .int .i64 0]) (by simp [results, Try.results39, go_sem, *]) rfl ⟨?_, by (repeat' (first | (with_reducible exact Below.refl _ _) | (with_reducible assumption) | (with_reducible refine below_al ?_ _) | (with_reducible refine Below.drew ?_) | (with_reducible refine Below.setCell ?_ (by first | exact Nat.le_refl _ | (dsimp only; omega) | (simp; omega)) _) | (with_reducible refine below_drewN ?_ _) | (with_reducible refine below_tt ?_ (by assumption))))⟩
    rw [HV.out]

theorem implNewDate_any (n : Int) (w : World) :
    Calls Try.prog 62 #[.int .i64 n] w fun e w' => e = .returned (.tuple #[.agg #[.int .i64 (ndateR n).1.1, .int .i64 (ndateR n).1.2.1, .int .i64 (ndateR n).1.2.2], .int .i64 (ndateR n).2]) ∧ Below w.heap.size w w' := by
  have rg := cell_rg; have l2 : ∀ n : Nat, n < n + 1 + 1 := (fun _ => by omega); have l3 : ∀ n : Nat, n < n + 1 + 1 + 1 := (fun _ => by omega); have l4 : ∀ n : Nat, n < n + 1 + 1 + 1 + 1 := (fun _ => by omega)
  cases hy : inR n 2 730486
  · have h1 := Lib.hid hy
    have HV : Hid (ndateR n = ((0, 0, 0), 2)) := by unfold ndateR Hid; rw [hy]; rfl
    clear hy
    go_enter Try.func62, Try.ntmps62
    go_wp2_with (go_at_call 133; refine (isNewDay_is h1.out _).mono ?_; rintro e w' ⟨rfl, rfl⟩)
    refine bodyPost_ret (v := .tuple #[.agg #[.int .i64 0, .int .i64 0, .int .i64 0], .int .i64 2]) (by simp [results, Try.results62, go_sem, *]) rfl ⟨?_, by (repeat' (first | (with_reducible exact Below.refl _ _) | (with_reducible assumption) | (with_reducible refine below_al ?_ _) | (with_reducible refine Below.drew ?_) | (with_reducible refine Below.setCell ?_ (by first | exact Nat.le_refl _ | (dsimp only; omega) | (simp; omega)) _) | (with_reducible refine below_drewN ?_ _) | (with_reducible refine below_tt ?_ (by assumption))))⟩
    rw [HV.out]
  · have h1 := Lib.hid hy
    have HV : Hid (ndateR n = (dat n true, 0)) := by unfold ndateR Hid; rw [hy]; rfl
    obtain ⟨hb1, hb2⟩ := inR_t hy
    have hn1 : nyear 1 true ≤ n := by rw [nyear_ends.2.2.1]; omega
    have hn2 : n < nyear 2001 true := by rw [nyear_ends.2.2.2]; omega
    clear hy
    go_enter Try.func62, Try.ntmps62
    go_wp2_with (first | (go_at_call 133; refine (isNewDay_is h1.out _).mono ?_; rintro e w' ⟨rfl, rfl⟩) | (go_at_call 93; (refine (dateOf_any _ _ _ hn1 hn2).mono ?_; rintro e w' ⟨rfl, hb⟩; obtain ⟨hc, hf⟩ := bcell hb; have hz := bsize hb; (first | (have hB := below_tt hB hb) | (have hB := below_tt (below_al hB _) hb) | (have hB := below_tt (below_al (below_al hB _) _) hb) | (have hB := hb)); obtain ⟨hc0, hf0⟩ := bcell hB; have hz0 := bsize hB; (first | (have h2 := below_tt hp hb; obtain ⟨hc2, hf2⟩ := bcell h2; have hz2 := bsize h2) | (have h2 := below_tt (below_al hp _) hb; obtain ⟨hc2, hf2⟩ := bcell h2; have hz2 := bsize h2) | skip); have hp := hb)))
    refine bodyPost_ret (v := .tuple #[.agg #[.int .i64 (dat n true).1, .int .i64 (dat n true).2.1, .int .i64 (dat n true).2.2], .int .i64 0]) (by simp [results, Try.results62, go_sem, *]) rfl ⟨?_, by (repeat' (first | (with_reducible exact Below.refl _ _) | (with_reducible assumption) | (with_reducible refine below_al ?_ _) | (with_reducible refine Below.drew ?_) | (with_reducible refine Below.setCell ?_ (by first | exact Nat.le_refl _ | (dsimp only; omega) | (simp; omega)) _) | (with_reducible refine below_drewN ?_ _) | (with_reducible refine below_tt ?_ (by assumption))))⟩
    rw [HV.out]
theorem sdat_bad {n : Int} (h : 730487 ≤ n) : valid (sdat n true).1 (sdat n true).2.1 (sdat n true).2.2 true = false := by
  rw [sdat_out (by rw [nyear_ends.2.2.2]; exact h)]
  have e : nyear 2000 true + cum 2000 12 true = 730456 := by decide
  have e2 : mlen 2000 12 true = 31 := by decide
  rw [e]
  show valid 2000 12 (n - 730456 + 1) true = false
  rw [valid_d (by decide) (by decide), e2]
  exact inR_not (Or.inr (by omega))
theorem dat_good {n : Int} {f : Bool} (h1 : nyear 1 f ≤ n) (h2 : n < nyear 2001 f) : valid (dat n f).1 (dat n f).2.1 (dat n f).2.2 f = true := (dat_is h1 h2).1
theorem implLocalDate_any (c n : Int) (w : World) :
    Calls Try.prog 64 #[.agg #[.int .i64 c], .int .i64 n] w fun e w' => e = .returned (.tuple #[.agg #[.int .i64 (ldateR c n).1.1, .int .i64 (ldateR c n).1.2.1, .int .i64 (ldateR c n).1.2.2], .int .i64 (ldateR c n).2]) ∧ Below w.heap.size w w' := by
  have rg := cell_rg; have l2 : ∀ n : Nat, n < n + 1 + 1 := (fun _ => by omega); have l3 : ∀ n : Nat, n < n + 1 + 1 + 1 := (fun _ => by omega); have l4 : ∀ n : Nat, n < n + 1 + 1 + 1 + 1 := (fun _ => by omega)
  cases hc : calB c
  · have h1 := Lib.hid hc
    have HV : Hid (ldateR c n = ((0, 0, 0), 1)) := by unfold ldateR Hid; rw [hc]; rfl
    clear hc
    go_enter Try.func64, Try.ntmps64
    go_wp2_with (first | (go_at_call 71; (refine (implIsCalendar_is h1.out _).mono ?_; rintro e w' ⟨rfl, hb⟩; obtain ⟨hc, hf⟩ := bcell hb; have hz := bsize hb; (first | (have hB := below_tt hB hb) | (have hB := below_tt (below_al hB _) hb) | (have hB := below_tt (below_al (below_al hB _) _) hb) | (have hB := hb)); obtain ⟨hc0, hf0⟩ := bcell hB; have hz0 := bsize hB; (first | (have h2 := below_tt hp hb; obtain ⟨hc2, hf2⟩ := bcell h2; have hz2 := bsize h2) | (have h2 := below_tt (below_al hp _) hb; obtain ⟨hc2, hf2⟩ := bcell h2; have hz2 := bsize h2) | skip); have hp := hb)))
    refine bodyPost_ret (v := .tuple #[.agg #[.int .i64 0, .int .i64 0, .int .i64 0], .int .i64 1]) (by simp [results, Try.results64, go_sem, *]) rfl ⟨?_, by (repeat' (first | (with_reducible exact Below.refl _ _) | (with_reducible assumption) | (with_reducible refine below_al ?_ _) | (with_reducible refine Below.drew ?_) | (with_reducible refine Below.setCell ?_ (by first | exact Nat.le_refl _ | (dsimp only; omega) | (simp; omega)) _) | (with_reducible refine below_drewN ?_ _) | (with_reducible refine below_tt ?_ (by assumption))))⟩
    rw [HV.out]
  · have h1 := Lib.hid hc
    have hcc := cal_cap hc
    cases hd : inR n 0 730499
    · have h2 := Lib.hid hd
      have HV : Hid (ldateR c n = ((0, 0, 0), 2)) := by unfold ldateR Hid; rw [hc, hd]; rfl
      clear hc hd
      go_enter Try.func64, Try.ntmps64
      go_wp2_with (first | (go_at_call 71; (refine (implIsCalendar_is h1.out _).mono ?_; rintro e w' ⟨rfl, hb⟩; obtain ⟨hc, hf⟩ := bcell hb; have hz := bsize hb; (first | (have hB := below_tt hB hb) | (have hB := below_tt (below_al hB _) hb) | (have hB := below_tt (below_al (below_al hB _) _) hb) | (have hB := hb)); obtain ⟨hc0, hf0⟩ := bcell hB; have hz0 := bsize hB; (first | (have h2 := below_tt hp hb; obtain ⟨hc2, hf2⟩ := bcell h2; have hz2 := bsize h2) | (have h2 := below_tt (below_al hp _) hb; obtain ⟨hc2, hf2⟩ := bcell h2; have hz2 := bsize h2) | skip); have hp := hb)) | (go_at_call 104; refine (isDay_is h2.out _).mono ?_; rintro e w' ⟨rfl, rfl⟩))
      refine bodyPost_ret (v := .tuple #[.agg #[.int .i64 0, .int .i64 0, .int .i64 0], .int .i64 2]) (by simp [results, Try.results64, go_sem, *]) rfl ⟨?_, by (repeat' (first | (with_reducible exact Below.refl _ _) | (with_reducible assumption) | (with_reducible refine below_al ?_ _) | (with_reducible refine Below.drew ?_) | (with_reducible refine Below.setCell ?_ (by first | exact Nat.le_refl _ | (dsimp only; omega) | (simp; omega)) _) | (with_reducible refine below_drewN ?_ _) | (with_reducible refine below_tt ?_ (by assumption))))⟩
      rw [HV.out]
    · have h2 := Lib.hid hd
      obtain ⟨hb1, hb2⟩ := inR_t hd
      by_cases hlt : n < c
      · have HV : Hid (ldateR c n = (dat n false, 0)) := by unfold ldateR Hid; rw [hc, hd, if_pos rfl, if_pos rfl, if_pos hlt]
        have hn1 : nyear 1 false ≤ n := by rw [nyear_ends.1]; omega
        have hn2 : n < nyear 2001 false := by rw [nyear_ends.2.1]; omega
        clear hc hd
        go_enter Try.func64, Try.ntmps64
        go_wp2_with (first | (go_at_call 71; (refine (implIsCalendar_is h1.out _).mono ?_; rintro e w' ⟨rfl, hb⟩; obtain ⟨hc, hf⟩ := bcell hb; have hz := bsize hb; (first | (have hB := below_tt hB hb) | (have hB := below_tt (below_al hB _) hb) | (have hB := below_tt (below_al (below_al hB _) _) hb) | (have hB := hb)); obtain ⟨hc0, hf0⟩ := bcell hB; have hz0 := bsize hB; (first | (have h2 := below_tt hp hb; obtain ⟨hc2, hf2⟩ := bcell h2; have hz2 := bsize h2) | (have h2 := below_tt (below_al hp _) hb; obtain ⟨hc2, hf2⟩ := bcell h2; have hz2 := bsize h2) | skip); have hp := hb)) | (go_at_call 104; refine (isDay_is h2.out _).mono ?_; rintro e w' ⟨rfl, rfl⟩) | (go_at_call 93; (refine (dateOf_any _ _ _ hn1 hn2).mono ?_; rintro e w' ⟨rfl, hb⟩; obtain ⟨hc, hf⟩ := bcell hb; have hz := bsize hb; (first | (have hB := below_tt hB hb) | (have hB := below_tt (below_al hB _) hb) | (have hB := below_tt (below_al (below_al hB _) _) hb) | (have hB := hb)); obtain ⟨hc0, hf0⟩ := bcell hB; have hz0 := bsize hB; (first | (have h2 := below_tt hp hb; obtain ⟨hc2, hf2⟩ := bcell h2; have hz2 := bsize h2) | (have h2 := below_tt (below_al hp _) hb; obtain ⟨hc2, hf2⟩ := bcell h2; have hz2 := bsize h2) | skip); have hp := hb)))
        refine bodyPost_ret (v := .tuple #[.agg #[.int .i64 (dat n false).1, .int .i64 (dat n false).2.1, .int .i64 (dat n false).2.2], .int .i64 0]) (by simp [results, Try.results64, go_sem, *]) rfl ⟨?_, by (repeat' (first | (with_reducible exact Below.refl _ _) | (with_reducible assumption) | (with_reducible refine below_al ?_ _) | (with_reducible refine Below.drew ?_) | (with_reducible refine Below.setCell ?_ (by first | exact Nat.le_refl _ | (dsimp only; omega) | (simp; omega)) _) | (with_reducible refine below_drewN ?_ _) | (with_reducible refine below_tt ?_ (by assumption))))⟩
        rw [HV.out]
      · cases hw : inR n 2 730486
        · have h3 := Lib.hid hw
          have HV : Hid (ldateR c n = ((0, 0, 0), 4)) := by unfold ldateR Hid; rw [hc, hd, if_pos rfl, if_pos rfl, if_neg hlt, if_neg (by have := inR_f hw; omega)]
          clear hc hd hw
          go_enter Try.func64, Try.ntmps64
          go_wp2_with (first | (go_at_call 71; (refine (implIsCalendar_is h1.out _).mono ?_; rintro e w' ⟨rfl, hb⟩; obtain ⟨hc, hf⟩ := bcell hb; have hz := bsize hb; (first | (have hB := below_tt hB hb) | (have hB := below_tt (below_al hB _) hb) | (have hB := below_tt (below_al (below_al hB _) _) hb) | (have hB := hb)); obtain ⟨hc0, hf0⟩ := bcell hB; have hz0 := bsize hB; (first | (have h2 := below_tt hp hb; obtain ⟨hc2, hf2⟩ := bcell h2; have hz2 := bsize h2) | (have h2 := below_tt (below_al hp _) hb; obtain ⟨hc2, hf2⟩ := bcell h2; have hz2 := bsize h2) | skip); have hp := hb)) | (go_at_call 104; refine (isDay_is h2.out _).mono ?_; rintro e w' ⟨rfl, rfl⟩) | (go_at_call 133; refine (isNewDay_is h3.out _).mono ?_; rintro e w' ⟨rfl, rfl⟩))
          refine bodyPost_ret (v := .tuple #[.agg #[.int .i64 0, .int .i64 0, .int .i64 0], .int .i64 4]) (by simp [results, Try.results64, go_sem, *]) rfl ⟨?_, by (repeat' (first | (with_reducible exact Below.refl _ _) | (with_reducible assumption) | (with_reducible refine below_al ?_ _) | (with_reducible refine Below.drew ?_) | (with_reducible refine Below.setCell ?_ (by first | exact Nat.le_refl _ | (dsimp only; omega) | (simp; omega)) _) | (with_reducible refine below_drewN ?_ _) | (with_reducible refine below_tt ?_ (by assumption))))⟩
          rw [HV.out]
        · have h3 := Lib.hid hw
          have hwb := inR_t hw
          have HV : Hid (ldateR c n = (dat n true, 0)) := by unfold ldateR Hid; rw [hc, hd, if_pos rfl, if_pos rfl, if_neg hlt, if_pos (by omega)]
          have hn1 : nyear 1 true ≤ n := by rw [nyear_ends.2.2.1]; omega
          have hn2 : n < nyear 2001 true := by rw [nyear_ends.2.2.2]; omega
          clear hc hd hw
          go_enter Try.func64, Try.ntmps64
          go_wp2_with (first | (go_at_call 71; (refine (implIsCalendar_is h1.out _).mono ?_; rintro e w' ⟨rfl, hb⟩; obtain ⟨hc, hf⟩ := bcell hb; have hz := bsize hb; (first | (have hB := below_tt hB hb) | (have hB := below_tt (below_al hB _) hb) | (have hB := below_tt (below_al (below_al hB _) _) hb) | (have hB := hb)); obtain ⟨hc0, hf0⟩ := bcell hB; have hz0 := bsize hB; (first | (have h2 := below_tt hp hb; obtain ⟨hc2, hf2⟩ := bcell h2; have hz2 := bsize h2) | (have h2 := below_tt (below_al hp _) hb; obtain ⟨hc2, hf2⟩ := bcell h2; have hz2 := bsize h2) | skip); have hp := hb)) | (go_at_call 104; refine (isDay_is h2.out _).mono ?_; rintro e w' ⟨rfl, rfl⟩) | (go_at_call 133; refine (isNewDay_is h3.out _).mono ?_; rintro e w' ⟨rfl, rfl⟩) | (go_at_call 93; (refine (dateOf_any _ _ _ hn1 hn2).mono ?_; rintro e w' ⟨rfl, hb⟩; obtain ⟨hc, hf⟩ := bcell hb; have hz := bsize hb; (first | (have hB := below_tt hB hb) | (have hB := below_tt (below_al hB _) hb) | (have hB := below_tt (below_al (below_al hB _) _) hb) | (have hB := hb)); obtain ⟨hc0, hf0⟩ := bcell hB; have hz0 := bsize hB; (first | (have h2 := below_tt hp hb; obtain ⟨hc2, hf2⟩ := bcell h2; have hz2 := bsize h2) | (have h2 := below_tt (below_al hp _) hb; obtain ⟨hc2, hf2⟩ := bcell h2; have hz2 := bsize h2) | skip); have hp := hb)))
          refine bodyPost_ret (v := .tuple #[.agg #[.int .i64 (dat n true).1, .int .i64 (dat n true).2.1, .int .i64 (dat n true).2.2], .int .i64 0]) (by simp [results, Try.results64, go_sem, *]) rfl ⟨?_, by (repeat' (first | (with_reducible exact Below.refl _ _) | (with_reducible assumption) | (with_reducible refine below_al ?_ _) | (with_reducible refine Below.drew ?_) | (with_reducible refine Below.setCell ?_ (by first | exact Nat.le_refl _ | (dsimp only; omega) | (simp; omega)) _) | (with_reducible refine below_drewN ?_ _) | (with_reducible refine below_tt ?_ (by assumption))))⟩
          rw [HV.out]

theorem specIsNewDate_of {y m d : Int} {r : Bool} (h : valid y m d true = r) (w : World) :
    Calls Try.prog 155 #[.agg #[.int .i64 y, .int .i64 m, .int .i64 d]] w fun e w' => e = .returned (.bool r) ∧ Below w.heap.size w w' := specIsNewDate_is h w
theorem l03Date_old {c n : Int} (hc : n < c) (h1 : 0 ≤ n) (h2 : n ≤ 730499) (w : World) :
    Calls Try.prog 134 #[.agg #[.int .i64 c], .int .i64 n] w fun e w' => e = .returned (.tuple #[.agg #[.int .i64 (dat n false).1, .int .i64 (dat n false).2.1, .int .i64 (dat n false).2.2], .bool true]) ∧ Below w.heap.size w w' := by
  have rg := cell_rg; have l2 : ∀ n : Nat, n < n + 1 + 1 := (fun _ => by omega); have l3 : ∀ n : Nat, n < n + 1 + 1 + 1 := (fun _ => by omega); have l4 : ∀ n : Nat, n < n + 1 + 1 + 1 + 1 := (fun _ => by omega)
  go_enter Try.func134, Try.ntmps134
  go_wp2_with (go_at_call 102; (refine (l01Old_any h1 h2 _).mono ?_; rintro e w' ⟨rfl, hb⟩; obtain ⟨hc, hf⟩ := bcell hb; have hz := bsize hb; (first | (have hB := below_tt hB hb) | (have hB := below_tt (below_al hB _) hb) | (have hB := below_tt (below_al (below_al hB _) _) hb) | (have hB := hb)); obtain ⟨hc0, hf0⟩ := bcell hB; have hz0 := bsize hB; (first | (have h2 := below_tt hp hb; obtain ⟨hc2, hf2⟩ := bcell h2; have hz2 := bsize h2) | (have h2 := below_tt (below_al hp _) hb; obtain ⟨hc2, hf2⟩ := bcell h2; have hz2 := bsize h2) | skip); have hp := hb))
  refine bodyPost_ret (v := .tuple #[.agg #[.int .i64 (dat n false).1, .int .i64 (dat n false).2.1, .int .i64 (dat n false).2.2], .bool true]) (by simp [results, Try.results134, go_sem, *]) rfl ⟨rfl, by (repeat' (first | (with_reducible exact Below.refl _ _) | (with_reducible assumption) | (with_reducible refine below_al ?_ _) | (with_reducible refine Below.drew ?_) | (with_reducible refine Below.setCell ?_ (by first | exact Nat.le_refl _ | (dsimp only; omega) | (simp; omega)) _) | (with_reducible refine below_drewN ?_ _) | (with_reducible refine below_tt ?_ (by assumption))))⟩
theorem l03Date_new {c n Y M E : Int} {b : Bool} (hc : c ≤ n) (h1 : 2 ≤ n) (h2 : n ≤ 730499) (hs : sdat n true = (Y, M, E)) (hv : valid Y M E true = b) (w : World) :
    Calls Try.prog 134 #[.agg #[.int .i64 c], .int .i64 n] w fun e w' => e = .returned (.tuple #[.agg #[.int .i64 Y, .int .i64 M, .int .i64 E], .bool b]) ∧ Below w.heap.size w w' := by
  have rg := cell_rg; have l2 : ∀ n : Nat, n < n + 1 + 1 := (fun _ => by omega); have l3 : ∀ n : Nat, n < n + 1 + 1 + 1 := (fun _ => by omega); have l4 : ∀ n : Nat, n < n + 1 + 1 + 1 + 1 := (fun _ => by omega)
  have hn1 : nyear 1 true ≤ n := by rw [nyear_ends.2.2.1]; omega
  have hl := fun w => l01Date_any n true w hn1 (by omega)
  rw [hs] at hl
  have HL := Lib.hid hl
  have HV := Lib.hid hv
  clear hl hs hv
  go_enter Try.func134, Try.ntmps134
  go_wp2_with (go_at_call 140; (refine (HL.out _).mono ?_; rintro e w' ⟨rfl, hb⟩; obtain ⟨hc, hf⟩ := bcell hb; have hz := bsize hb; (first | (have hB := below_tt hB hb) | (have hB := below_tt (below_al hB _) hb) | (have hB := below_tt (below_al (below_al hB _) _) hb) | (have hB := hb)); obtain ⟨hc0, hf0⟩ := bcell hB; have hz0 := bsize hB; (first | (have h2 := below_tt hp hb; obtain ⟨hc2, hf2⟩ := bcell h2; have hz2 := bsize h2) | (have h2 := below_tt (below_al hp _) hb; obtain ⟨hc2, hf2⟩ := bcell h2; have hz2 := bsize h2) | skip); have hp := hb))
  have hsz2 : w.heap.size + 1 < w'.heap.size := hz _ (by simp)
  generalize hW2 : w'.alloc (.cells #[.int .i64 Y, .int .i64 M, .int .i64 E] 43) = w2
  have hD : w'.heap.size < w2.heap.size := by rw [← hW2]; simp
  have hB2 : Below w.heap.size w w2 := by rw [← hW2]; (repeat' (first | (with_reducible exact Below.refl _ _) | (with_reducible assumption) | (with_reducible refine below_al ?_ _) | (with_reducible refine Below.drew ?_) | (with_reducible refine Below.setCell ?_ (by first | exact Nat.le_refl _ | (dsimp only; omega) | (simp; omega)) _) | (with_reducible refine below_drewN ?_ _) | (with_reducible refine below_tt ?_ (by assumption))))
  have k0 : w2.cell? ⟨w'.heap.size, 0, none⟩ = some (.int .i64 Y) := by rw [← hW2, World.cell?_alloc_at (hn := rfl)]; rfl
  have k1 : w2.cell? ⟨w'.heap.size, 1, none⟩ = some (.int .i64 M) := by rw [← hW2, World.cell?_alloc_at (hn := rfl)]; rfl
  have k2 : w2.cell? ⟨w'.heap.size, 2, none⟩ = some (.int .i64 E) := by rw [← hW2, World.cell?_alloc_at (hn := rfl)]; rfl
  have r0 : w2.cell? ⟨w.heap.size + 1, 0, none⟩ = some (.int .i64 0) := by rw [← hW2, World.cell?_alloc_past (hn := hsz2), hc _ _ (by simp)]; go_simp
  have r1 : w2.cell? ⟨w.heap.size + 1, 1, none⟩ = some (.int .i64 0) := by rw [← hW2, World.cell?_alloc_past (hn := hsz2), hc _ _ (by simp)]; go_simp
  have r2 : w2.cell? ⟨w.heap.size + 1, 2, none⟩ = some (.int .i64 0) := by rw [← hW2, World.cell?_alloc_past (hn := hsz2), hc _ _ (by simp)]; go_simp
  have s0 : w2.frozen? ⟨w.heap.size + 1, 0, none⟩ = false := by rw [← hW2, World.frozen?_alloc_past (hn := hsz2), hf _ _ (by simp)]; go_simp
  have s1 : w2.frozen? ⟨w.heap.size + 1, 1, none⟩ = false := by rw [← hW2, World.frozen?_alloc_past (hn := hsz2), hf _ _ (by simp)]; go_simp
  have s2 : w2.frozen? ⟨w.heap.size + 1, 2, none⟩ = false := by rw [← hW2, World.frozen?_alloc_past (hn := hsz2), hf _ _ (by simp)]; go_simp
  have hBD : w.heap.size + 1 < w2.heap.size := by omega
  generalize w'.heap.size = D at *
  clear hW2 hc hf hz hc0 hf0 hz0 hB hb
  have ne1 : D ≠ w.heap.size + 1 := by omega
  have ne2 : w.heap.size + 1 ≠ D := by omega
  go_region_held3 (fun w'' => w''.cell? ⟨D, 0, none⟩ = some (.int .i64 Y) ∧ w''.cell? ⟨D, 1, none⟩ = some (.int .i64 M) ∧ w''.cell? ⟨D, 2, none⟩ = some (.int .i64 E)) (first | go_keep | (refine ⟨?_, ?_, ?_⟩ <;> (rw [hc8 _ _ (by simp <;> omega)]; simp [*])))
    (first | (go_at_call 155; refine (specIsNewDate_is HV.out _).mono ?_; rintro e w8 ⟨rfl, hb⟩; obtain ⟨hc8, hf8⟩ := bcell hb; have hz8 := bsize hb; (try (have q0 : w8.cell? ⟨w.heap.size + 1, 0, none⟩ = some (.int .i64 0) := (hc8 _ _ (by simp <;> omega)).trans (by simp [*]))); (try (have q1 : w8.cell? ⟨w.heap.size + 1, 1, none⟩ = some (.int .i64 0) := (hc8 _ _ (by simp <;> omega)).trans (by simp [*]))); (try (have q2 : w8.cell? ⟨w.heap.size + 1, 2, none⟩ = some (.int .i64 0) := (hc8 _ _ (by simp <;> omega)).trans (by simp [*]))); have f0 : w8.frozen? ⟨w.heap.size + 1, 0, none⟩ = false := (hf8 _ _ (by simp <;> omega)).trans (by simp [*]); have f1 : w8.frozen? ⟨w.heap.size + 1, 1, none⟩ = false := (hf8 _ _ (by simp <;> omega)).trans (by simp [*]); have f2 : w8.frozen? ⟨w.heap.size + 1, 2, none⟩ = false := (hf8 _ _ (by simp <;> omega)).trans (by simp [*])))
  all_goals go_wp2
  refine bodyPost_ret (v := .tuple #[.agg #[.int .i64 Y, .int .i64 M, .int .i64 E], .bool b]) (by simp [results, Try.results134, go_sem, *]) rfl ⟨rfl, by (repeat' (first | (with_reducible exact Below.refl _ _) | (with_reducible assumption) | (with_reducible refine below_al ?_ _) | (with_reducible refine Below.drew ?_) | (with_reducible refine Below.setCell ?_ (by first | exact Nat.le_refl _ | (dsimp only; omega) | (simp; omega)) _) | (with_reducible refine below_drewN ?_ _) | (with_reducible refine below_tt ?_ (by assumption))))⟩

theorem specLocalDate_any (c n : Int) (w : World) :
    Calls Try.prog 65 #[.agg #[.int .i64 c], .int .i64 n] w fun e w' => e = .returned (.tuple #[.agg #[.int .i64 (ldateR c n).1.1, .int .i64 (ldateR c n).1.2.1, .int .i64 (ldateR c n).1.2.2], .int .i64 (ldateR c n).2]) ∧ Below w.heap.size w w' := by
  have rg := cell_rg; have l2 : ∀ n : Nat, n < n + 1 + 1 := (fun _ => by omega); have l3 : ∀ n : Nat, n < n + 1 + 1 + 1 := (fun _ => by omega); have l4 : ∀ n : Nat, n < n + 1 + 1 + 1 + 1 := (fun _ => by omega)
  cases hc : calB c
  · have h1 := Lib.hid hc
    have HV : Hid (ldateR c n = ((0, 0, 0), 1)) := by unfold ldateR Hid; rw [hc]; rfl
    clear hc
    go_enter Try.func65, Try.ntmps65
    go_wp2_with (first | (go_at_call 72; (refine (specIsCalendar_is h1.out _).mono ?_; rintro e w' ⟨rfl, hb⟩; obtain ⟨hc, hf⟩ := bcell hb; have hz := bsize hb; (first | (have hB := below_tt hB hb) | (have hB := below_tt (below_al hB _) hb) | (have hB := below_tt (below_al (below_al hB _) _) hb) | (have hB := hb)); obtain ⟨hc0, hf0⟩ := bcell hB; have hz0 := bsize hB; (first | (have h2 := below_tt hp hb; obtain ⟨hc2, hf2⟩ := bcell h2; have hz2 := bsize h2) | (have h2 := below_tt (below_al hp _) hb; obtain ⟨hc2, hf2⟩ := bcell h2; have hz2 := bsize h2) | skip); have hp := hb)))
    refine bodyPost_ret (v := .tuple #[.agg #[.int .i64 0, .int .i64 0, .int .i64 0], .int .i64 1]) (by simp [results, Try.results65, go_sem, *]) rfl ⟨?_, by (repeat' (first | (with_reducible exact Below.refl _ _) | (with_reducible assumption) | (with_reducible refine below_al ?_ _) | (with_reducible refine Below.drew ?_) | (with_reducible refine Below.setCell ?_ (by first | exact Nat.le_refl _ | (dsimp only; omega) | (simp; omega)) _) | (with_reducible refine below_drewN ?_ _) | (with_reducible refine below_tt ?_ (by assumption))))⟩
    rw [HV.out]
  · have h1 := Lib.hid hc
    have hcc := cal_cap hc
    cases hd : inR n 0 730499
    · have h2 := Lib.hid hd
      have HV : Hid (ldateR c n = ((0, 0, 0), 2)) := by unfold ldateR Hid; rw [hc, hd]; rfl
      clear hc hd
      go_enter Try.func65, Try.ntmps65
      go_wp2_with (first | (go_at_call 72; (refine (specIsCalendar_is h1.out _).mono ?_; rintro e w' ⟨rfl, hb⟩; obtain ⟨hc, hf⟩ := bcell hb; have hz := bsize hb; (first | (have hB := below_tt hB hb) | (have hB := below_tt (below_al hB _) hb) | (have hB := below_tt (below_al (below_al hB _) _) hb) | (have hB := hb)); obtain ⟨hc0, hf0⟩ := bcell hB; have hz0 := bsize hB; (first | (have h2 := below_tt hp hb; obtain ⟨hc2, hf2⟩ := bcell h2; have hz2 := bsize h2) | (have h2 := below_tt (below_al hp _) hb; obtain ⟨hc2, hf2⟩ := bcell h2; have hz2 := bsize h2) | skip); have hp := hb)) | (go_at_call 98; refine (l01Day_is h2.out _).mono ?_; rintro e w' ⟨rfl, rfl⟩))
      refine bodyPost_ret (v := .tuple #[.agg #[.int .i64 0, .int .i64 0, .int .i64 0], .int .i64 2]) (by simp [results, Try.results65, go_sem, *]) rfl ⟨?_, by (repeat' (first | (with_reducible exact Below.refl _ _) | (with_reducible assumption) | (with_reducible refine below_al ?_ _) | (with_reducible refine Below.drew ?_) | (with_reducible refine Below.setCell ?_ (by first | exact Nat.le_refl _ | (dsimp only; omega) | (simp; omega)) _) | (with_reducible refine below_drewN ?_ _) | (with_reducible refine below_tt ?_ (by assumption))))⟩
      rw [HV.out]
    · have h2 := Lib.hid hd
      obtain ⟨hb1, hb2⟩ := inR_t hd
      by_cases hlt : n < c
      · have HV : Hid (ldateR c n = (dat n false, 0)) := by unfold ldateR Hid; rw [hc, hd, if_pos rfl, if_pos rfl, if_pos hlt]
        have h3 := l03Date_old (c := c) hlt hb1 hb2
        clear hc hd
        go_enter Try.func65, Try.ntmps65
        go_wp2_with (first | (go_at_call 72; (refine (specIsCalendar_is h1.out _).mono ?_; rintro e w' ⟨rfl, hb⟩; obtain ⟨hc, hf⟩ := bcell hb; have hz := bsize hb; (first | (have hB := below_tt hB hb) | (have hB := below_tt (below_al hB _) hb) | (have hB := below_tt (below_al (below_al hB _) _) hb) | (have hB := hb)); obtain ⟨hc0, hf0⟩ := bcell hB; have hz0 := bsize hB; (first | (have h2 := below_tt hp hb; obtain ⟨hc2, hf2⟩ := bcell h2; have hz2 := bsize h2) | (have h2 := below_tt (below_al hp _) hb; obtain ⟨hc2, hf2⟩ := bcell h2; have hz2 := bsize h2) | skip); have hp := hb)) | (go_at_call 98; refine (l01Day_is h2.out _).mono ?_; rintro e w' ⟨rfl, rfl⟩) | (go_at_call 134; (refine (h3 _).mono ?_; rintro e w' ⟨rfl, hb⟩; obtain ⟨hc, hf⟩ := bcell hb; have hz := bsize hb; (first | (have hB := below_tt hB hb) | (have hB := below_tt (below_al hB _) hb) | (have hB := below_tt (below_al (below_al hB _) _) hb) | (have hB := hb)); obtain ⟨hc0, hf0⟩ := bcell hB; have hz0 := bsize hB; (first | (have h2 := below_tt hp hb; obtain ⟨hc2, hf2⟩ := bcell h2; have hz2 := bsize h2) | (have h2 := below_tt (below_al hp _) hb; obtain ⟨hc2, hf2⟩ := bcell h2; have hz2 := bsize h2) | skip); have hp := hb)))
        refine bodyPost_ret (v := .tuple #[.agg #[.int .i64 (dat n false).1, .int .i64 (dat n false).2.1, .int .i64 (dat n false).2.2], .int .i64 0]) (by simp [results, Try.results65, go_sem, *]) rfl ⟨?_, by (repeat' (first | (with_reducible exact Below.refl _ _) | (with_reducible assumption) | (with_reducible refine below_al ?_ _) | (with_reducible refine Below.drew ?_) | (with_reducible refine Below.setCell ?_ (by first | exact Nat.le_refl _ | (dsimp only; omega) | (simp; omega)) _) | (with_reducible refine below_drewN ?_ _) | (with_reducible refine below_tt ?_ (by assumption))))⟩
        rw [HV.out]
      · by_cases hw : n < 730487
        · have HV : Hid (ldateR c n = (dat n true, 0)) := by unfold ldateR Hid; rw [hc, hd, if_pos rfl, if_pos rfl, if_neg hlt, if_pos hw]
          have hn1 : nyear 1 true ≤ n := by rw [nyear_ends.2.2.1]; omega
          have hn2 : n < nyear 2001 true := by rw [nyear_ends.2.2.2]; omega
          have h3 := l03Date_new (c := c) (n := n) (by omega) (by omega) hb2 (show sdat n true = ((dat n true).1, (dat n true).2.1, (dat n true).2.2) from sdat_in hn2) (dat_good hn1 hn2)
          clear hc hd
          go_enter Try.func65, Try.ntmps65
          go_wp2_with (first | (go_at_call 72; (refine (specIsCalendar_is h1.out _).mono ?_; rintro e w' ⟨rfl, hb⟩; obtain ⟨hc, hf⟩ := bcell hb; have hz := bsize hb; (first | (have hB := below_tt hB hb) | (have hB := below_tt (below_al hB _) hb) | (have hB := below_tt (below_al (below_al hB _) _) hb) | (have hB := hb)); obtain ⟨hc0, hf0⟩ := bcell hB; have hz0 := bsize hB; (first | (have h2 := below_tt hp hb; obtain ⟨hc2, hf2⟩ := bcell h2; have hz2 := bsize h2) | (have h2 := below_tt (below_al hp _) hb; obtain ⟨hc2, hf2⟩ := bcell h2; have hz2 := bsize h2) | skip); have hp := hb)) | (go_at_call 98; refine (l01Day_is h2.out _).mono ?_; rintro e w' ⟨rfl, rfl⟩) | (go_at_call 134; (refine (h3 _).mono ?_; rintro e w' ⟨rfl, hb⟩; obtain ⟨hc, hf⟩ := bcell hb; have hz := bsize hb; (first | (have hB := below_tt hB hb) | (have hB := below_tt (below_al hB _) hb) | (have hB := below_tt (below_al (below_al hB _) _) hb) | (have hB := hb)); obtain ⟨hc0, hf0⟩ := bcell hB; have hz0 := bsize hB; (first | (have h2 := below_tt hp hb; obtain ⟨hc2, hf2⟩ := bcell h2; have hz2 := bsize h2) | (have h2 := below_tt (below_al hp _) hb; obtain ⟨hc2, hf2⟩ := bcell h2; have hz2 := bsize h2) | skip); have hp := hb)))
          refine bodyPost_ret (v := .tuple #[.agg #[.int .i64 (dat n true).1, .int .i64 (dat n true).2.1, .int .i64 (dat n true).2.2], .int .i64 0]) (by simp [results, Try.results65, go_sem, *]) rfl ⟨?_, by (repeat' (first | (with_reducible exact Below.refl _ _) | (with_reducible assumption) | (with_reducible refine below_al ?_ _) | (with_reducible refine Below.drew ?_) | (with_reducible refine Below.setCell ?_ (by first | exact Nat.le_refl _ | (dsimp only; omega) | (simp; omega)) _) | (with_reducible refine below_drewN ?_ _) | (with_reducible refine below_tt ?_ (by assumption))))⟩
          rw [HV.out]
        · have HV : Hid (ldateR c n = ((0, 0, 0), 4)) := by unfold ldateR Hid; rw [hc, hd, if_pos rfl, if_pos rfl, if_neg hlt, if_neg hw]
          have h3 := l03Date_new (c := c) (n := n) (by omega) (by omega) hb2 (rfl : sdat n true = ((sdat n true).1, (sdat n true).2.1, (sdat n true).2.2)) (sdat_bad (by omega))
          clear hc hd
          go_enter Try.func65, Try.ntmps65
          go_wp2_with (first | (go_at_call 72; (refine (specIsCalendar_is h1.out _).mono ?_; rintro e w' ⟨rfl, hb⟩; obtain ⟨hc, hf⟩ := bcell hb; have hz := bsize hb; (first | (have hB := below_tt hB hb) | (have hB := below_tt (below_al hB _) hb) | (have hB := below_tt (below_al (below_al hB _) _) hb) | (have hB := hb)); obtain ⟨hc0, hf0⟩ := bcell hB; have hz0 := bsize hB; (first | (have h2 := below_tt hp hb; obtain ⟨hc2, hf2⟩ := bcell h2; have hz2 := bsize h2) | (have h2 := below_tt (below_al hp _) hb; obtain ⟨hc2, hf2⟩ := bcell h2; have hz2 := bsize h2) | skip); have hp := hb)) | (go_at_call 98; refine (l01Day_is h2.out _).mono ?_; rintro e w' ⟨rfl, rfl⟩) | (go_at_call 134; (refine (h3 _).mono ?_; rintro e w' ⟨rfl, hb⟩; obtain ⟨hc, hf⟩ := bcell hb; have hz := bsize hb; (first | (have hB := below_tt hB hb) | (have hB := below_tt (below_al hB _) hb) | (have hB := below_tt (below_al (below_al hB _) _) hb) | (have hB := hb)); obtain ⟨hc0, hf0⟩ := bcell hB; have hz0 := bsize hB; (first | (have h2 := below_tt hp hb; obtain ⟨hc2, hf2⟩ := bcell h2; have hz2 := bsize h2) | (have h2 := below_tt (below_al hp _) hb; obtain ⟨hc2, hf2⟩ := bcell h2; have hz2 := bsize h2) | skip); have hp := hb)))
          refine bodyPost_ret (v := .tuple #[.agg #[.int .i64 0, .int .i64 0, .int .i64 0], .int .i64 4]) (by simp [results, Try.results65, go_sem, *]) rfl ⟨?_, by (repeat' (first | (with_reducible exact Below.refl _ _) | (with_reducible assumption) | (with_reducible refine below_al ?_ _) | (with_reducible refine Below.drew ?_) | (with_reducible refine Below.setCell ?_ (by first | exact Nat.le_refl _ | (dsimp only; omega) | (simp; omega)) _) | (with_reducible refine below_drewN ?_ _) | (with_reducible refine below_tt ?_ (by assumption))))⟩
          rw [HV.out]
end Go.Proofs.Yticnkjpgjcddcaa
