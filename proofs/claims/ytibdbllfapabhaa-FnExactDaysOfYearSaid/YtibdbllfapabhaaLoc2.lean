/- The exported functions of local dates, on both sides. -/
import Derived.Test.YtibdbllfapabhaaLocal
import Derived.Deep.RegionHeld3
namespace Go.Proofs.Ytibdbllfapabhaa
open Go.RowKit

theorem codeR_one {c y m d : Int} (h : ¬ codeR c y m d = 0) : codeR c y m d = 1 := by unfold codeR at *; split <;> simp_all
theorem codeR_any (c y m d : Int) : codeR c y m d = codeR c y m d := rfl
def islocR (c y m d : Int) : Bool × Int := if codeR c y m d = 0 then ((locR c y m d).2, 0) else (false, 1)
def sameR (c y m d c' y' m' d' : Int) : Bool × Int :=
  if codeR c y m d = 0 ∧ codeR c' y' m' d' = 0 then (if (locR c y m d).2 = true ∧ (locR c' y' m' d').2 = true then (decide ((locR c y m d).1 = (locR c' y' m' d').1), 0) else (false, 4)) else (false, 1)
theorem localDay_is {c y m d n : Int} {b : Bool} (h : locR c y m d = (n, b)) (w : World) :
    Calls Try.prog 60 #[.agg #[.int .i64 c], .agg #[.int .i64 y, .int .i64 m, .int .i64 d]] w fun e w' => e = .returned (.tuple #[.int .i64 n, .bool b]) ∧ Below w.heap.size w w' := by
  have := localDay_any c y m d w
  rwa [h] at this

theorem implLocalDay_any (c y m d : Int) (w : World) :
    Calls Try.prog 27 #[.agg #[.int .i64 c], .agg #[.int .i64 y, .int .i64 m, .int .i64 d]] w fun e w' => e = .returned (.tuple #[.int .i64 (ldayR c y m d).1, .int .i64 (ldayR c y m d).2]) ∧ Below w.heap.size w w' := by
  have rg := cell_rg; have l2 : ∀ n : Nat, n < n + 1 + 1 := (fun _ => by omega); have l3 : ∀ n : Nat, n < n + 1 + 1 + 1 := (fun _ => by omega); have l4 : ∀ n : Nat, n < n + 1 + 1 + 1 + 1 := (fun _ => by omega)
  obtain ⟨n, b, hl⟩ : ∃ n b, locR c y m d = (n, b) := ⟨_, _, rfl⟩
  by_cases hk : codeR c y m d = 0
  · cases b
    · have hv : ldayR c y m d = (0, 4) := by simp [ldayR, hk, hl]
      have h1 := Lib.hid hk
      have h2 := Lib.hid hl
      clear hk hl
      have HV := Lib.hid hv
      go_enter Try.func27, Try.ntmps27
      clear hv
      go_wp2_with (first | (go_at_call 59; (refine (checkLocal_is h1.out _).mono ?_; rintro e w' ⟨rfl, hb⟩; obtain ⟨hc, hf⟩ := bcell hb; have hz := bsize hb; (first | (have hB := below_tt hB hb) | (have hB := below_tt (below_al hB _) hb) | (have hB := below_tt (below_al (below_al hB _) _) hb) | (have hB := hb)); obtain ⟨hc0, hf0⟩ := bcell hB; have hz0 := bsize hB)) | (go_at_call 60; (refine (localDay_is h2.out _).mono ?_; rintro e w' ⟨rfl, hb⟩; obtain ⟨hc, hf⟩ := bcell hb; have hz := bsize hb; (first | (have hB := below_tt hB hb) | (have hB := below_tt (below_al hB _) hb) | (have hB := below_tt (below_al (below_al hB _) _) hb) | (have hB := hb)); obtain ⟨hc0, hf0⟩ := bcell hB; have hz0 := bsize hB)))
      go_ret2
      exact ⟨by rw [HV.out]; rfl, by (repeat' (first | (with_reducible exact Below.refl _ _) | (with_reducible assumption) | (with_reducible refine below_al ?_ _) | (with_reducible refine Below.drew ?_) | (with_reducible refine Below.setCell ?_ (by first | exact Nat.le_refl _ | (dsimp only; omega) | (simp; omega)) _) | (with_reducible refine below_drewN ?_ _) | (with_reducible refine below_tt ?_ (by assumption))))⟩
    · have hv : ldayR c y m d = (n, 0) := by simp [ldayR, hk, hl]
      have h1 := Lib.hid hk
      have h2 := Lib.hid hl
      clear hk hl
      have HV := Lib.hid hv
      go_enter Try.func27, Try.ntmps27
      clear hv
      go_wp2_with (first | (go_at_call 59; (refine (checkLocal_is h1.out _).mono ?_; rintro e w' ⟨rfl, hb⟩; obtain ⟨hc, hf⟩ := bcell hb; have hz := bsize hb; (first | (have hB := below_tt hB hb) | (have hB := below_tt (below_al hB _) hb) | (have hB := below_tt (below_al (below_al hB _) _) hb) | (have hB := hb)); obtain ⟨hc0, hf0⟩ := bcell hB; have hz0 := bsize hB)) | (go_at_call 60; (refine (localDay_is h2.out _).mono ?_; rintro e w' ⟨rfl, hb⟩; obtain ⟨hc, hf⟩ := bcell hb; have hz := bsize hb; (first | (have hB := below_tt hB hb) | (have hB := below_tt (below_al hB _) hb) | (have hB := below_tt (below_al (below_al hB _) _) hb) | (have hB := hb)); obtain ⟨hc0, hf0⟩ := bcell hB; have hz0 := bsize hB)))
      go_ret2
      exact ⟨by rw [HV.out]; rfl, by (repeat' (first | (with_reducible exact Below.refl _ _) | (with_reducible assumption) | (with_reducible refine below_al ?_ _) | (with_reducible refine Below.drew ?_) | (with_reducible refine Below.setCell ?_ (by first | exact Nat.le_refl _ | (dsimp only; omega) | (simp; omega)) _) | (with_reducible refine below_drewN ?_ _) | (with_reducible refine below_tt ?_ (by assumption))))⟩
  · have hv : ldayR c y m d = (0, 1) := by simp [ldayR, hk]
    · have h1 := Lib.hid (codeR_one hk)
      have h2 := Lib.hid hl
      clear hk hl
      have HV := Lib.hid hv
      go_enter Try.func27, Try.ntmps27
      clear hv
      go_wp2_with (first | (go_at_call 59; (refine (checkLocal_is h1.out _).mono ?_; rintro e w' ⟨rfl, hb⟩; obtain ⟨hc, hf⟩ := bcell hb; have hz := bsize hb; (first | (have hB := below_tt hB hb) | (have hB := below_tt (below_al hB _) hb) | (have hB := below_tt (below_al (below_al hB _) _) hb) | (have hB := hb)); obtain ⟨hc0, hf0⟩ := bcell hB; have hz0 := bsize hB)) | (go_at_call 60; (refine (localDay_is h2.out _).mono ?_; rintro e w' ⟨rfl, hb⟩; obtain ⟨hc, hf⟩ := bcell hb; have hz := bsize hb; (first | (have hB := below_tt hB hb) | (have hB := below_tt (below_al hB _) hb) | (have hB := below_tt (below_al (below_al hB _) _) hb) | (have hB := hb)); obtain ⟨hc0, hf0⟩ := bcell hB; have hz0 := bsize hB)))
      go_ret2
      exact ⟨by rw [HV.out]; rfl, by (repeat' (first | (with_reducible exact Below.refl _ _) | (with_reducible assumption) | (with_reducible refine below_al ?_ _) | (with_reducible refine Below.drew ?_) | (with_reducible refine Below.setCell ?_ (by first | exact Nat.le_refl _ | (dsimp only; omega) | (simp; omega)) _) | (with_reducible refine below_drewN ?_ _) | (with_reducible refine below_tt ?_ (by assumption))))⟩

theorem implIsLocal_any (c y m d : Int) (w : World) :
    Calls Try.prog 25 #[.agg #[.int .i64 c], .agg #[.int .i64 y, .int .i64 m, .int .i64 d]] w fun e w' => e = .returned (.tuple #[.bool (islocR c y m d).1, .int .i64 (islocR c y m d).2]) ∧ Below w.heap.size w w' := by
  have rg := cell_rg; have l2 : ∀ n : Nat, n < n + 1 + 1 := (fun _ => by omega); have l3 : ∀ n : Nat, n < n + 1 + 1 + 1 := (fun _ => by omega); have l4 : ∀ n : Nat, n < n + 1 + 1 + 1 + 1 := (fun _ => by omega)
  obtain ⟨n, b, hl⟩ : ∃ n b, locR c y m d = (n, b) := ⟨_, _, rfl⟩
  by_cases hk : codeR c y m d = 0
  · cases b
    · have hv : islocR c y m d = (false, 0) := by simp [islocR, hk, hl]
      have h1 := Lib.hid hk
      have h2 := Lib.hid hl
      clear hk hl
      have HV := Lib.hid hv
      go_enter Try.func25, Try.ntmps25
      clear hv
      go_wp2_with (first | (go_at_call 59; (refine (checkLocal_is h1.out _).mono ?_; rintro e w' ⟨rfl, hb⟩; obtain ⟨hc, hf⟩ := bcell hb; have hz := bsize hb; (first | (have hB := below_tt hB hb) | (have hB := below_tt (below_al hB _) hb) | (have hB := below_tt (below_al (below_al hB _) _) hb) | (have hB := hb)); obtain ⟨hc0, hf0⟩ := bcell hB; have hz0 := bsize hB)) | (go_at_call 60; (refine (localDay_is h2.out _).mono ?_; rintro e w' ⟨rfl, hb⟩; obtain ⟨hc, hf⟩ := bcell hb; have hz := bsize hb; (first | (have hB := below_tt hB hb) | (have hB := below_tt (below_al hB _) hb) | (have hB := below_tt (below_al (below_al hB _) _) hb) | (have hB := hb)); obtain ⟨hc0, hf0⟩ := bcell hB; have hz0 := bsize hB)))
      go_ret2
      exact ⟨by rw [HV.out]; rfl, by (repeat' (first | (with_reducible exact Below.refl _ _) | (with_reducible assumption) | (with_reducible refine below_al ?_ _) | (with_reducible refine Below.drew ?_) | (with_reducible refine Below.setCell ?_ (by first | exact Nat.le_refl _ | (dsimp only; omega) | (simp; omega)) _) | (with_reducible refine below_drewN ?_ _) | (with_reducible refine below_tt ?_ (by assumption))))⟩
    · have hv : islocR c y m d = (true, 0) := by simp [islocR, hk, hl]
      have h1 := Lib.hid hk
      have h2 := Lib.hid hl
      clear hk hl
      have HV := Lib.hid hv
      go_enter Try.func25, Try.ntmps25
      clear hv
      go_wp2_with (first | (go_at_call 59; (refine (checkLocal_is h1.out _).mono ?_; rintro e w' ⟨rfl, hb⟩; obtain ⟨hc, hf⟩ := bcell hb; have hz := bsize hb; (first | (have hB := below_tt hB hb) | (have hB := below_tt (below_al hB _) hb) | (have hB := below_tt (below_al (below_al hB _) _) hb) | (have hB := hb)); obtain ⟨hc0, hf0⟩ := bcell hB; have hz0 := bsize hB)) | (go_at_call 60; (refine (localDay_is h2.out _).mono ?_; rintro e w' ⟨rfl, hb⟩; obtain ⟨hc, hf⟩ := bcell hb; have hz := bsize hb; (first | (have hB := below_tt hB hb) | (have hB := below_tt (below_al hB _) hb) | (have hB := below_tt (below_al (below_al hB _) _) hb) | (have hB := hb)); obtain ⟨hc0, hf0⟩ := bcell hB; have hz0 := bsize hB)))
      go_ret2
      exact ⟨by rw [HV.out]; rfl, by (repeat' (first | (with_reducible exact Below.refl _ _) | (with_reducible assumption) | (with_reducible refine below_al ?_ _) | (with_reducible refine Below.drew ?_) | (with_reducible refine Below.setCell ?_ (by first | exact Nat.le_refl _ | (dsimp only; omega) | (simp; omega)) _) | (with_reducible refine below_drewN ?_ _) | (with_reducible refine below_tt ?_ (by assumption))))⟩
  · have hv : islocR c y m d = (false, 1) := by simp [islocR, hk]
    · have h1 := Lib.hid (codeR_one hk)
      have h2 := Lib.hid hl
      clear hk hl
      have HV := Lib.hid hv
      go_enter Try.func25, Try.ntmps25
      clear hv
      go_wp2_with (first | (go_at_call 59; (refine (checkLocal_is h1.out _).mono ?_; rintro e w' ⟨rfl, hb⟩; obtain ⟨hc, hf⟩ := bcell hb; have hz := bsize hb; (first | (have hB := below_tt hB hb) | (have hB := below_tt (below_al hB _) hb) | (have hB := below_tt (below_al (below_al hB _) _) hb) | (have hB := hb)); obtain ⟨hc0, hf0⟩ := bcell hB; have hz0 := bsize hB)) | (go_at_call 60; (refine (localDay_is h2.out _).mono ?_; rintro e w' ⟨rfl, hb⟩; obtain ⟨hc, hf⟩ := bcell hb; have hz := bsize hb; (first | (have hB := below_tt hB hb) | (have hB := below_tt (below_al hB _) hb) | (have hB := below_tt (below_al (below_al hB _) _) hb) | (have hB := hb)); obtain ⟨hc0, hf0⟩ := bcell hB; have hz0 := bsize hB)))
      go_ret2
      exact ⟨by rw [HV.out]; rfl, by (repeat' (first | (with_reducible exact Below.refl _ _) | (with_reducible assumption) | (with_reducible refine below_al ?_ _) | (with_reducible refine Below.drew ?_) | (with_reducible refine Below.setCell ?_ (by first | exact Nat.le_refl _ | (dsimp only; omega) | (simp; omega)) _) | (with_reducible refine below_drewN ?_ _) | (with_reducible refine below_tt ?_ (by assumption))))⟩

theorem implSameDay_any (c y m d c' y' m' d' : Int) (w : World) :
    Calls Try.prog 31 #[.agg #[.int .i64 c], .agg #[.int .i64 y, .int .i64 m, .int .i64 d], .agg #[.int .i64 c'], .agg #[.int .i64 y', .int .i64 m', .int .i64 d']] w fun e w' => e = .returned (.tuple #[.bool (sameR c y m d c' y' m' d').1, .int .i64 (sameR c y m d c' y' m' d').2]) ∧ Below w.heap.size w w' := by
  have rg := cell_rg; have l2 : ∀ n : Nat, n < n + 1 + 1 := (fun _ => by omega); have l3 : ∀ n : Nat, n < n + 1 + 1 + 1 := (fun _ => by omega); have l4 : ∀ n : Nat, n < n + 1 + 1 + 1 + 1 := (fun _ => by omega)
  obtain ⟨n, b, hl⟩ : ∃ n b, locR c y m d = (n, b) := ⟨_, _, rfl⟩
  obtain ⟨n', b', hl'⟩ : ∃ n b, locR c' y' m' d' = (n, b) := ⟨_, _, rfl⟩
  have h2 := Lib.hid hl
  have k2 := Lib.hid hl'
  by_cases hk : codeR c y m d = 0
  · by_cases hk' : codeR c' y' m' d' = 0
    · have h1a := hk
      have k1a := hk'
      by_cases hb : b = true ∧ b' = true
      · have hv : sameR c y m d c' y' m' d' = (decide (n = n'), 0) := by simp [sameR, hk, hk', hl, hl', hb]
        obtain ⟨rfl, rfl⟩ := hb
        clear hk hk' hl hl'
        have h1 := Lib.hid h1a
        have k1 := Lib.hid k1a
        have HV := Lib.hid hv
        clear hv h1a k1a
        go_enter Try.func31, Try.ntmps31
        go_wp2_with (first | (go_at_call 59; (refine (checkLocal_is (by first | exact h1.out | exact k1.out) _).mono ?_; rintro e w' ⟨rfl, hb⟩; obtain ⟨hc, hf⟩ := bcell hb; have hz := bsize hb; (first | (have hB := below_tt hB hb) | (have hB := below_tt (below_al hB _) hb) | (have hB := below_tt (below_al (below_al hB _) _) hb) | (have hB := hb)); obtain ⟨hc0, hf0⟩ := bcell hB; have hz0 := bsize hB)) | (go_at_call 60; (refine (localDay_is (by first | exact h2.out | exact k2.out) _).mono ?_; rintro e w' ⟨rfl, hb⟩; obtain ⟨hc, hf⟩ := bcell hb; have hz := bsize hb; (first | (have hB := below_tt hB hb) | (have hB := below_tt (below_al hB _) hb) | (have hB := below_tt (below_al (below_al hB _) _) hb) | (have hB := hb)); obtain ⟨hc0, hf0⟩ := bcell hB; have hz0 := bsize hB)))
        go_ret2
        exact ⟨by rw [HV.out]; dsimp only; congr 2, by (repeat' (first | (with_reducible exact Below.refl _ _) | (with_reducible assumption) | (with_reducible refine below_al ?_ _) | (with_reducible refine Below.drew ?_) | (with_reducible refine Below.setCell ?_ (by first | exact Nat.le_refl _ | (dsimp only; omega) | (simp; omega)) _) | (with_reducible refine below_drewN ?_ _) | (with_reducible refine below_tt ?_ (by assumption))))⟩
      · have hv : sameR c y m d c' y' m' d' = (false, 4) := by
          cases b <;> cases b' <;> simp_all [sameR]
        clear hk hk' hl hl'
        cases b <;> cases b' <;> first | (exfalso; exact hb ⟨rfl, rfl⟩) | skip
        all_goals clear hb
        all_goals
          have h1 := Lib.hid h1a
          have k1 := Lib.hid k1a
          have HV := Lib.hid hv
          clear hv h1a k1a
          go_enter Try.func31, Try.ntmps31
          go_wp2_with (first | (go_at_call 59; (refine (checkLocal_is (by first | exact h1.out | exact k1.out) _).mono ?_; rintro e w' ⟨rfl, hb⟩; obtain ⟨hc, hf⟩ := bcell hb; have hz := bsize hb; (first | (have hB := below_tt hB hb) | (have hB := below_tt (below_al hB _) hb) | (have hB := below_tt (below_al (below_al hB _) _) hb) | (have hB := hb)); obtain ⟨hc0, hf0⟩ := bcell hB; have hz0 := bsize hB)) | (go_at_call 60; (refine (localDay_is (by first | exact h2.out | exact k2.out) _).mono ?_; rintro e w' ⟨rfl, hb⟩; obtain ⟨hc, hf⟩ := bcell hb; have hz := bsize hb; (first | (have hB := below_tt hB hb) | (have hB := below_tt (below_al hB _) hb) | (have hB := below_tt (below_al (below_al hB _) _) hb) | (have hB := hb)); obtain ⟨hc0, hf0⟩ := bcell hB; have hz0 := bsize hB)))
          go_ret2
          exact ⟨by rw [HV.out]; rfl, by (repeat' (first | (with_reducible exact Below.refl _ _) | (with_reducible assumption) | (with_reducible refine below_al ?_ _) | (with_reducible refine Below.drew ?_) | (with_reducible refine Below.setCell ?_ (by first | exact Nat.le_refl _ | (dsimp only; omega) | (simp; omega)) _) | (with_reducible refine below_drewN ?_ _) | (with_reducible refine below_tt ?_ (by assumption))))⟩
    · have hv : sameR c y m d c' y' m' d' = (false, 1) := by simp [sameR, hk']
      have h1a := hk
      have k1a := codeR_one hk'
      clear hk hk' hl hl'
      have h1 := Lib.hid h1a
      have k1 := Lib.hid k1a
      have HV := Lib.hid hv
      clear hv h1a k1a
      go_enter Try.func31, Try.ntmps31
      go_wp2_with (first | (go_at_call 59; (refine (checkLocal_is (by first | exact h1.out | exact k1.out) _).mono ?_; rintro e w' ⟨rfl, hb⟩; obtain ⟨hc, hf⟩ := bcell hb; have hz := bsize hb; (first | (have hB := below_tt hB hb) | (have hB := below_tt (below_al hB _) hb) | (have hB := below_tt (below_al (below_al hB _) _) hb) | (have hB := hb)); obtain ⟨hc0, hf0⟩ := bcell hB; have hz0 := bsize hB)) | (go_at_call 60; (refine (localDay_is (by first | exact h2.out | exact k2.out) _).mono ?_; rintro e w' ⟨rfl, hb⟩; obtain ⟨hc, hf⟩ := bcell hb; have hz := bsize hb; (first | (have hB := below_tt hB hb) | (have hB := below_tt (below_al hB _) hb) | (have hB := below_tt (below_al (below_al hB _) _) hb) | (have hB := hb)); obtain ⟨hc0, hf0⟩ := bcell hB; have hz0 := bsize hB)))
      go_ret2
      exact ⟨by rw [HV.out]; rfl, by (repeat' (first | (with_reducible exact Below.refl _ _) | (with_reducible assumption) | (with_reducible refine below_al ?_ _) | (with_reducible refine Below.drew ?_) | (with_reducible refine Below.setCell ?_ (by first | exact Nat.le_refl _ | (dsimp only; omega) | (simp; omega)) _) | (with_reducible refine below_drewN ?_ _) | (with_reducible refine below_tt ?_ (by assumption))))⟩
  · have hv : sameR c y m d c' y' m' d' = (false, 1) := by simp [sameR, hk]
    · by_cases hk' : codeR c' y' m' d' = 0
      all_goals
        have h1a := codeR_one hk
        have k1a := codeR_any c' y' m' d'
        clear hk hk' hl hl'
        have h1 := Lib.hid h1a
        have k1 := Lib.hid k1a
        have HV := Lib.hid hv
        clear hv h1a k1a
        go_enter Try.func31, Try.ntmps31
        go_wp2_with (first | (go_at_call 59; (refine (checkLocal_is (by first | exact h1.out | exact k1.out) _).mono ?_; rintro e w' ⟨rfl, hb⟩; obtain ⟨hc, hf⟩ := bcell hb; have hz := bsize hb; (first | (have hB := below_tt hB hb) | (have hB := below_tt (below_al hB _) hb) | (have hB := below_tt (below_al (below_al hB _) _) hb) | (have hB := hb)); obtain ⟨hc0, hf0⟩ := bcell hB; have hz0 := bsize hB)) | (go_at_call 60; (refine (localDay_is (by first | exact h2.out | exact k2.out) _).mono ?_; rintro e w' ⟨rfl, hb⟩; obtain ⟨hc, hf⟩ := bcell hb; have hz := bsize hb; (first | (have hB := below_tt hB hb) | (have hB := below_tt (below_al hB _) hb) | (have hB := below_tt (below_al (below_al hB _) _) hb) | (have hB := hb)); obtain ⟨hc0, hf0⟩ := bcell hB; have hz0 := bsize hB)))
        go_ret2
        exact ⟨by rw [HV.out]; rfl, by (repeat' (first | (with_reducible exact Below.refl _ _) | (with_reducible assumption) | (with_reducible refine below_al ?_ _) | (with_reducible refine Below.drew ?_) | (with_reducible refine Below.setCell ?_ (by first | exact Nat.le_refl _ | (dsimp only; omega) | (simp; omega)) _) | (with_reducible refine below_drewN ?_ _) | (with_reducible refine below_tt ?_ (by assumption))))⟩
theorem l03Day_is {c y m d n : Int} {b : Bool} (h : locR c y m d = (n, b)) (w : World) :
    Calls Try.prog 58 #[.agg #[.int .i64 c], .agg #[.int .i64 y, .int .i64 m, .int .i64 d]] w fun e w' => e = .returned (.tuple #[.int .i64 n, .bool b]) ∧ Below w.heap.size w w' := by
  have := l03Day_any c y m d w
  rwa [h] at this

theorem specLocalDay_any (c y m d : Int) (w : World) :
    Calls Try.prog 26 #[.agg #[.int .i64 c], .agg #[.int .i64 y, .int .i64 m, .int .i64 d]] w fun e w' => e = .returned (.tuple #[.int .i64 (ldayR c y m d).1, .int .i64 (ldayR c y m d).2]) ∧ Below w.heap.size w w' := by
  have rg := cell_rg; have l2 : ∀ n : Nat, n < n + 1 + 1 := (fun _ => by omega); have l3 : ∀ n : Nat, n < n + 1 + 1 + 1 := (fun _ => by omega); have l4 : ∀ n : Nat, n < n + 1 + 1 + 1 + 1 := (fun _ => by omega)
  obtain ⟨n, b, hl⟩ : ∃ n b, locR c y m d = (n, b) := ⟨_, _, rfl⟩
  by_cases hk : codeR c y m d = 0
  · cases b
    · have hv : ldayR c y m d = (0, 4) := by simp [ldayR, hk, hl]
      have h1 := Lib.hid hk
      have h2 := Lib.hid hl
      clear hk hl
      have HV := Lib.hid hv
      go_enter Try.func26, Try.ntmps26
      clear hv
      go_wp2_with (first | (go_at_call 57; (refine (l03Code_is h1.out _).mono ?_; rintro e w' ⟨rfl, hb⟩; obtain ⟨hc, hf⟩ := bcell hb; have hz := bsize hb; (first | (have hB := below_tt hB hb) | (have hB := below_tt (below_al hB _) hb) | (have hB := below_tt (below_al (below_al hB _) _) hb) | (have hB := hb)); obtain ⟨hc0, hf0⟩ := bcell hB; have hz0 := bsize hB)) | (go_at_call 58; (refine (l03Day_is h2.out _).mono ?_; rintro e w' ⟨rfl, hb⟩; obtain ⟨hc, hf⟩ := bcell hb; have hz := bsize hb; (first | (have hB := below_tt hB hb) | (have hB := below_tt (below_al hB _) hb) | (have hB := below_tt (below_al (below_al hB _) _) hb) | (have hB := hb)); obtain ⟨hc0, hf0⟩ := bcell hB; have hz0 := bsize hB)))
      go_ret2
      exact ⟨by rw [HV.out]; rfl, by (repeat' (first | (with_reducible exact Below.refl _ _) | (with_reducible assumption) | (with_reducible refine below_al ?_ _) | (with_reducible refine Below.drew ?_) | (with_reducible refine Below.setCell ?_ (by first | exact Nat.le_refl _ | (dsimp only; omega) | (simp; omega)) _) | (with_reducible refine below_drewN ?_ _) | (with_reducible refine below_tt ?_ (by assumption))))⟩
    · have hv : ldayR c y m d = (n, 0) := by simp [ldayR, hk, hl]
      have h1 := Lib.hid hk
      have h2 := Lib.hid hl
      clear hk hl
      have HV := Lib.hid hv
      go_enter Try.func26, Try.ntmps26
      clear hv
      go_wp2_with (first | (go_at_call 57; (refine (l03Code_is h1.out _).mono ?_; rintro e w' ⟨rfl, hb⟩; obtain ⟨hc, hf⟩ := bcell hb; have hz := bsize hb; (first | (have hB := below_tt hB hb) | (have hB := below_tt (below_al hB _) hb) | (have hB := below_tt (below_al (below_al hB _) _) hb) | (have hB := hb)); obtain ⟨hc0, hf0⟩ := bcell hB; have hz0 := bsize hB)) | (go_at_call 58; (refine (l03Day_is h2.out _).mono ?_; rintro e w' ⟨rfl, hb⟩; obtain ⟨hc, hf⟩ := bcell hb; have hz := bsize hb; (first | (have hB := below_tt hB hb) | (have hB := below_tt (below_al hB _) hb) | (have hB := below_tt (below_al (below_al hB _) _) hb) | (have hB := hb)); obtain ⟨hc0, hf0⟩ := bcell hB; have hz0 := bsize hB)))
      go_ret2
      exact ⟨by rw [HV.out]; rfl, by (repeat' (first | (with_reducible exact Below.refl _ _) | (with_reducible assumption) | (with_reducible refine below_al ?_ _) | (with_reducible refine Below.drew ?_) | (with_reducible refine Below.setCell ?_ (by first | exact Nat.le_refl _ | (dsimp only; omega) | (simp; omega)) _) | (with_reducible refine below_drewN ?_ _) | (with_reducible refine below_tt ?_ (by assumption))))⟩
  · have hv : ldayR c y m d = (0, 1) := by simp [ldayR, hk]
    · have h1 := Lib.hid (codeR_one hk)
      have h2 := Lib.hid hl
      clear hk hl
      have HV := Lib.hid hv
      go_enter Try.func26, Try.ntmps26
      clear hv
      go_wp2_with (first | (go_at_call 57; (refine (l03Code_is h1.out _).mono ?_; rintro e w' ⟨rfl, hb⟩; obtain ⟨hc, hf⟩ := bcell hb; have hz := bsize hb; (first | (have hB := below_tt hB hb) | (have hB := below_tt (below_al hB _) hb) | (have hB := below_tt (below_al (below_al hB _) _) hb) | (have hB := hb)); obtain ⟨hc0, hf0⟩ := bcell hB; have hz0 := bsize hB)) | (go_at_call 58; (refine (l03Day_is h2.out _).mono ?_; rintro e w' ⟨rfl, hb⟩; obtain ⟨hc, hf⟩ := bcell hb; have hz := bsize hb; (first | (have hB := below_tt hB hb) | (have hB := below_tt (below_al hB _) hb) | (have hB := below_tt (below_al (below_al hB _) _) hb) | (have hB := hb)); obtain ⟨hc0, hf0⟩ := bcell hB; have hz0 := bsize hB)))
      go_ret2
      exact ⟨by rw [HV.out]; rfl, by (repeat' (first | (with_reducible exact Below.refl _ _) | (with_reducible assumption) | (with_reducible refine below_al ?_ _) | (with_reducible refine Below.drew ?_) | (with_reducible refine Below.setCell ?_ (by first | exact Nat.le_refl _ | (dsimp only; omega) | (simp; omega)) _) | (with_reducible refine below_drewN ?_ _) | (with_reducible refine below_tt ?_ (by assumption))))⟩

theorem specIsLocal_any (c y m d : Int) (w : World) :
    Calls Try.prog 23 #[.agg #[.int .i64 c], .agg #[.int .i64 y, .int .i64 m, .int .i64 d]] w fun e w' => e = .returned (.tuple #[.bool (islocR c y m d).1, .int .i64 (islocR c y m d).2]) ∧ Below w.heap.size w w' := by
  have rg := cell_rg; have l2 : ∀ n : Nat, n < n + 1 + 1 := (fun _ => by omega); have l3 : ∀ n : Nat, n < n + 1 + 1 + 1 := (fun _ => by omega); have l4 : ∀ n : Nat, n < n + 1 + 1 + 1 + 1 := (fun _ => by omega)
  obtain ⟨n, b, hl⟩ : ∃ n b, locR c y m d = (n, b) := ⟨_, _, rfl⟩
  by_cases hk : codeR c y m d = 0
  · cases b
    · have hv : islocR c y m d = (false, 0) := by simp [islocR, hk, hl]
      have h1 := Lib.hid hk
      have h2 := Lib.hid hl
      clear hk hl
      have HV := Lib.hid hv
      go_enter Try.func23, Try.ntmps23
      clear hv
      go_wp2_with (first | (go_at_call 57; (refine (l03Code_is h1.out _).mono ?_; rintro e w' ⟨rfl, hb⟩; obtain ⟨hc, hf⟩ := bcell hb; have hz := bsize hb; (first | (have hB := below_tt hB hb) | (have hB := below_tt (below_al hB _) hb) | (have hB := below_tt (below_al (below_al hB _) _) hb) | (have hB := hb)); obtain ⟨hc0, hf0⟩ := bcell hB; have hz0 := bsize hB)) | (go_at_call 58; (refine (l03Day_is h2.out _).mono ?_; rintro e w' ⟨rfl, hb⟩; obtain ⟨hc, hf⟩ := bcell hb; have hz := bsize hb; (first | (have hB := below_tt hB hb) | (have hB := below_tt (below_al hB _) hb) | (have hB := below_tt (below_al (below_al hB _) _) hb) | (have hB := hb)); obtain ⟨hc0, hf0⟩ := bcell hB; have hz0 := bsize hB)))
      go_ret2
      exact ⟨by rw [HV.out]; rfl, by (repeat' (first | (with_reducible exact Below.refl _ _) | (with_reducible assumption) | (with_reducible refine below_al ?_ _) | (with_reducible refine Below.drew ?_) | (with_reducible refine Below.setCell ?_ (by first | exact Nat.le_refl _ | (dsimp only; omega) | (simp; omega)) _) | (with_reducible refine below_drewN ?_ _) | (with_reducible refine below_tt ?_ (by assumption))))⟩
    · have hv : islocR c y m d = (true, 0) := by simp [islocR, hk, hl]
      have h1 := Lib.hid hk
      have h2 := Lib.hid hl
      clear hk hl
      have HV := Lib.hid hv
      go_enter Try.func23, Try.ntmps23
      clear hv
      go_wp2_with (first | (go_at_call 57; (refine (l03Code_is h1.out _).mono ?_; rintro e w' ⟨rfl, hb⟩; obtain ⟨hc, hf⟩ := bcell hb; have hz := bsize hb; (first | (have hB := below_tt hB hb) | (have hB := below_tt (below_al hB _) hb) | (have hB := below_tt (below_al (below_al hB _) _) hb) | (have hB := hb)); obtain ⟨hc0, hf0⟩ := bcell hB; have hz0 := bsize hB)) | (go_at_call 58; (refine (l03Day_is h2.out _).mono ?_; rintro e w' ⟨rfl, hb⟩; obtain ⟨hc, hf⟩ := bcell hb; have hz := bsize hb; (first | (have hB := below_tt hB hb) | (have hB := below_tt (below_al hB _) hb) | (have hB := below_tt (below_al (below_al hB _) _) hb) | (have hB := hb)); obtain ⟨hc0, hf0⟩ := bcell hB; have hz0 := bsize hB)))
      go_ret2
      exact ⟨by rw [HV.out]; rfl, by (repeat' (first | (with_reducible exact Below.refl _ _) | (with_reducible assumption) | (with_reducible refine below_al ?_ _) | (with_reducible refine Below.drew ?_) | (with_reducible refine Below.setCell ?_ (by first | exact Nat.le_refl _ | (dsimp only; omega) | (simp; omega)) _) | (with_reducible refine below_drewN ?_ _) | (with_reducible refine below_tt ?_ (by assumption))))⟩
  · have hv : islocR c y m d = (false, 1) := by simp [islocR, hk]
    · have h1 := Lib.hid (codeR_one hk)
      have h2 := Lib.hid hl
      clear hk hl
      have HV := Lib.hid hv
      go_enter Try.func23, Try.ntmps23
      clear hv
      go_wp2_with (first | (go_at_call 57; (refine (l03Code_is h1.out _).mono ?_; rintro e w' ⟨rfl, hb⟩; obtain ⟨hc, hf⟩ := bcell hb; have hz := bsize hb; (first | (have hB := below_tt hB hb) | (have hB := below_tt (below_al hB _) hb) | (have hB := below_tt (below_al (below_al hB _) _) hb) | (have hB := hb)); obtain ⟨hc0, hf0⟩ := bcell hB; have hz0 := bsize hB)) | (go_at_call 58; (refine (l03Day_is h2.out _).mono ?_; rintro e w' ⟨rfl, hb⟩; obtain ⟨hc, hf⟩ := bcell hb; have hz := bsize hb; (first | (have hB := below_tt hB hb) | (have hB := below_tt (below_al hB _) hb) | (have hB := below_tt (below_al (below_al hB _) _) hb) | (have hB := hb)); obtain ⟨hc0, hf0⟩ := bcell hB; have hz0 := bsize hB)))
      go_ret2
      exact ⟨by rw [HV.out]; rfl, by (repeat' (first | (with_reducible exact Below.refl _ _) | (with_reducible assumption) | (with_reducible refine below_al ?_ _) | (with_reducible refine Below.drew ?_) | (with_reducible refine Below.setCell ?_ (by first | exact Nat.le_refl _ | (dsimp only; omega) | (simp; omega)) _) | (with_reducible refine below_drewN ?_ _) | (with_reducible refine below_tt ?_ (by assumption))))⟩

theorem specSameDay_any (c y m d c' y' m' d' : Int) (w : World) :
    Calls Try.prog 30 #[.agg #[.int .i64 c], .agg #[.int .i64 y, .int .i64 m, .int .i64 d], .agg #[.int .i64 c'], .agg #[.int .i64 y', .int .i64 m', .int .i64 d']] w fun e w' => e = .returned (.tuple #[.bool (sameR c y m d c' y' m' d').1, .int .i64 (sameR c y m d c' y' m' d').2]) ∧ Below w.heap.size w w' := by
  have rg := cell_rg; have l2 : ∀ n : Nat, n < n + 1 + 1 := (fun _ => by omega); have l3 : ∀ n : Nat, n < n + 1 + 1 + 1 := (fun _ => by omega); have l4 : ∀ n : Nat, n < n + 1 + 1 + 1 + 1 := (fun _ => by omega)
  obtain ⟨n, b, hl⟩ : ∃ n b, locR c y m d = (n, b) := ⟨_, _, rfl⟩
  obtain ⟨n', b', hl'⟩ : ∃ n b, locR c' y' m' d' = (n, b) := ⟨_, _, rfl⟩
  have h2 := Lib.hid hl
  have k2 := Lib.hid hl'
  by_cases hk : codeR c y m d = 0
  · by_cases hk' : codeR c' y' m' d' = 0
    · have h1a := hk
      have k1a := hk'
      by_cases hb : b = true ∧ b' = true
      · have hv : sameR c y m d c' y' m' d' = (decide (n = n'), 0) := by simp [sameR, hk, hk', hl, hl', hb]
        obtain ⟨rfl, rfl⟩ := hb
        clear hk hk' hl hl'
        have h1 := Lib.hid h1a
        have k1 := Lib.hid k1a
        have HV := Lib.hid hv
        clear hv h1a k1a
        go_enter Try.func30, Try.ntmps30
        go_wp2_with (first | (go_at_call 57; (refine (l03Code_is (by first | exact h1.out | exact k1.out) _).mono ?_; rintro e w' ⟨rfl, hb⟩; obtain ⟨hc, hf⟩ := bcell hb; have hz := bsize hb; (first | (have hB := below_tt hB hb) | (have hB := below_tt (below_al hB _) hb) | (have hB := below_tt (below_al (below_al hB _) _) hb) | (have hB := hb)); obtain ⟨hc0, hf0⟩ := bcell hB; have hz0 := bsize hB)) | (go_at_call 58; (refine (l03Day_is (by first | exact h2.out | exact k2.out) _).mono ?_; rintro e w' ⟨rfl, hb⟩; obtain ⟨hc, hf⟩ := bcell hb; have hz := bsize hb; (first | (have hB := below_tt hB hb) | (have hB := below_tt (below_al hB _) hb) | (have hB := below_tt (below_al (below_al hB _) _) hb) | (have hB := hb)); obtain ⟨hc0, hf0⟩ := bcell hB; have hz0 := bsize hB)))
        go_ret2
        exact ⟨by rw [HV.out]; dsimp only; congr 2, by (repeat' (first | (with_reducible exact Below.refl _ _) | (with_reducible assumption) | (with_reducible refine below_al ?_ _) | (with_reducible refine Below.drew ?_) | (with_reducible refine Below.setCell ?_ (by first | exact Nat.le_refl _ | (dsimp only; omega) | (simp; omega)) _) | (with_reducible refine below_drewN ?_ _) | (with_reducible refine below_tt ?_ (by assumption))))⟩
      · have hv : sameR c y m d c' y' m' d' = (false, 4) := by
          cases b <;> cases b' <;> simp_all [sameR]
        clear hk hk' hl hl'
        cases b <;> cases b' <;> first | (exfalso; exact hb ⟨rfl, rfl⟩) | skip
        all_goals clear hb
        all_goals
          have h1 := Lib.hid h1a
          have k1 := Lib.hid k1a
          have HV := Lib.hid hv
          clear hv h1a k1a
          go_enter Try.func30, Try.ntmps30
          go_wp2_with (first | (go_at_call 57; (refine (l03Code_is (by first | exact h1.out | exact k1.out) _).mono ?_; rintro e w' ⟨rfl, hb⟩; obtain ⟨hc, hf⟩ := bcell hb; have hz := bsize hb; (first | (have hB := below_tt hB hb) | (have hB := below_tt (below_al hB _) hb) | (have hB := below_tt (below_al (below_al hB _) _) hb) | (have hB := hb)); obtain ⟨hc0, hf0⟩ := bcell hB; have hz0 := bsize hB)) | (go_at_call 58; (refine (l03Day_is (by first | exact h2.out | exact k2.out) _).mono ?_; rintro e w' ⟨rfl, hb⟩; obtain ⟨hc, hf⟩ := bcell hb; have hz := bsize hb; (first | (have hB := below_tt hB hb) | (have hB := below_tt (below_al hB _) hb) | (have hB := below_tt (below_al (below_al hB _) _) hb) | (have hB := hb)); obtain ⟨hc0, hf0⟩ := bcell hB; have hz0 := bsize hB)))
          go_ret2
          exact ⟨by rw [HV.out]; rfl, by (repeat' (first | (with_reducible exact Below.refl _ _) | (with_reducible assumption) | (with_reducible refine below_al ?_ _) | (with_reducible refine Below.drew ?_) | (with_reducible refine Below.setCell ?_ (by first | exact Nat.le_refl _ | (dsimp only; omega) | (simp; omega)) _) | (with_reducible refine below_drewN ?_ _) | (with_reducible refine below_tt ?_ (by assumption))))⟩
    · have hv : sameR c y m d c' y' m' d' = (false, 1) := by simp [sameR, hk']
      have h1a := hk
      have k1a := codeR_one hk'
      clear hk hk' hl hl'
      have h1 := Lib.hid h1a
      have k1 := Lib.hid k1a
      have HV := Lib.hid hv
      clear hv h1a k1a
      go_enter Try.func30, Try.ntmps30
      go_wp2_with (first | (go_at_call 57; (refine (l03Code_is (by first | exact h1.out | exact k1.out) _).mono ?_; rintro e w' ⟨rfl, hb⟩; obtain ⟨hc, hf⟩ := bcell hb; have hz := bsize hb; (first | (have hB := below_tt hB hb) | (have hB := below_tt (below_al hB _) hb) | (have hB := below_tt (below_al (below_al hB _) _) hb) | (have hB := hb)); obtain ⟨hc0, hf0⟩ := bcell hB; have hz0 := bsize hB)) | (go_at_call 58; (refine (l03Day_is (by first | exact h2.out | exact k2.out) _).mono ?_; rintro e w' ⟨rfl, hb⟩; obtain ⟨hc, hf⟩ := bcell hb; have hz := bsize hb; (first | (have hB := below_tt hB hb) | (have hB := below_tt (below_al hB _) hb) | (have hB := below_tt (below_al (below_al hB _) _) hb) | (have hB := hb)); obtain ⟨hc0, hf0⟩ := bcell hB; have hz0 := bsize hB)))
      go_ret2
      exact ⟨by rw [HV.out]; rfl, by (repeat' (first | (with_reducible exact Below.refl _ _) | (with_reducible assumption) | (with_reducible refine below_al ?_ _) | (with_reducible refine Below.drew ?_) | (with_reducible refine Below.setCell ?_ (by first | exact Nat.le_refl _ | (dsimp only; omega) | (simp; omega)) _) | (with_reducible refine below_drewN ?_ _) | (with_reducible refine below_tt ?_ (by assumption))))⟩
  · have hv : sameR c y m d c' y' m' d' = (false, 1) := by simp [sameR, hk]
    · by_cases hk' : codeR c' y' m' d' = 0
      all_goals
        have h1a := codeR_one hk
        have k1a := codeR_any c' y' m' d'
        clear hk hk' hl hl'
        have h1 := Lib.hid h1a
        have k1 := Lib.hid k1a
        have HV := Lib.hid hv
        clear hv h1a k1a
        go_enter Try.func30, Try.ntmps30
        go_wp2_with (first | (go_at_call 57; (refine (l03Code_is (by first | exact h1.out | exact k1.out) _).mono ?_; rintro e w' ⟨rfl, hb⟩; obtain ⟨hc, hf⟩ := bcell hb; have hz := bsize hb; (first | (have hB := below_tt hB hb) | (have hB := below_tt (below_al hB _) hb) | (have hB := below_tt (below_al (below_al hB _) _) hb) | (have hB := hb)); obtain ⟨hc0, hf0⟩ := bcell hB; have hz0 := bsize hB)) | (go_at_call 58; (refine (l03Day_is (by first | exact h2.out | exact k2.out) _).mono ?_; rintro e w' ⟨rfl, hb⟩; obtain ⟨hc, hf⟩ := bcell hb; have hz := bsize hb; (first | (have hB := below_tt hB hb) | (have hB := below_tt (below_al hB _) hb) | (have hB := below_tt (below_al (below_al hB _) _) hb) | (have hB := hb)); obtain ⟨hc0, hf0⟩ := bcell hB; have hz0 := bsize hB)))
        go_ret2
        exact ⟨by rw [HV.out]; rfl, by (repeat' (first | (with_reducible exact Below.refl _ _) | (with_reducible assumption) | (with_reducible refine below_al ?_ _) | (with_reducible refine Below.drew ?_) | (with_reducible refine Below.setCell ?_ (by first | exact Nat.le_refl _ | (dsimp only; omega) | (simp; omega)) _) | (with_reducible refine below_drewN ?_ _) | (with_reducible refine below_tt ?_ (by assumption))))⟩

theorem newYear_is {y : Int} {f : Bool} {r : Int} (hr : nyear y f = r) (w : World) (h : 1 ≤ y) (k : y ≤ 100000) :
    Calls Try.prog 75 #[.int .i64 y, .bool f] w fun e w' => e = .returned (.int .i64 r) ∧ w = w' := by
  subst hr; exact newYear_any y f w h k
theorem isNewDay_any (n : Int) (w : World) :
    Calls Try.prog 48 #[.int .i64 n] w fun e w' => e = .returned (.bool (inR n 2 730486)) ∧ w = w' := by
  have e1 := Lib.hid nyear_ends.2.2.1
  have e2 := Lib.hid nyear_ends.2.2.2
  go_enter Try.func48, Try.ntmps48
  go_wp2_with (go_at_call 75; refine (newYear_is (by first | exact e1.out | exact e2.out) _ (by omega) (by omega)).mono ?_; rintro e w' ⟨rfl, rfl⟩)
  all_goals (go_ret; refine ⟨ret_bool ?_, rfl⟩; unfold inR; rw [Bool.eq_iff_iff]; simp; try omega)
theorem isNewDay_is {n : Int} {r : Bool} (h : inR n 2 730486 = r) (w : World) :
    Calls Try.prog 48 #[.int .i64 n] w fun e w' => e = .returned (.bool r) ∧ w = w' := by
  subst h; exact isNewDay_any n w
theorem eqDate_same (y m d : Int) (w : World) :
    Calls Try.prog 17 #[.agg #[.int .i64 y, .int .i64 m, .int .i64 d], .agg #[.int .i64 y, .int .i64 m, .int .i64 d]] w fun e w' => e = .returned (.bool true) ∧ Below w.heap.size w w' := by
  have rg := cell_rg; have l2 : ∀ n : Nat, n < n + 1 + 1 := (fun _ => by omega); have l3 : ∀ n : Nat, n < n + 1 + 1 + 1 := (fun _ => by omega); have l4 : ∀ n : Nat, n < n + 1 + 1 + 1 + 1 := (fun _ => by omega)
  go_enter Try.func17, Try.ntmps17
  go_wp2
  go_ret
  exact ⟨rfl, by (repeat' (first | (with_reducible exact Below.refl _ _) | (with_reducible assumption) | (with_reducible refine below_al ?_ _) | (with_reducible refine Below.drew ?_) | (with_reducible refine Below.setCell ?_ (by first | exact Nat.le_refl _ | (dsimp only; omega) | (simp; omega)) _) | (with_reducible refine below_drewN ?_ _) | (with_reducible refine below_tt ?_ (by assumption))))⟩
theorem l01Valid_is {y m d : Int} {f r : Bool} (h : valid y m d f = r) (w : World) :
    Calls Try.prog 46 #[.agg #[.int .i64 y, .int .i64 m, .int .i64 d], .bool f] w fun e w' => e = .returned (.bool r) ∧ Below w.heap.size w w' := by
  subst h; exact l01Valid_any y m d f w

theorem implOldDate_any (n : Int) (w : World) :
    Calls Try.prog 19 #[.int .i64 n] w fun e w' => e = .returned (.tuple #[.agg #[.int .i64 (odateR n).1.1, .int .i64 (odateR n).1.2.1, .int .i64 (odateR n).1.2.2], .int .i64 (odateR n).2]) ∧ Below w.heap.size w w' := by
  have rg := cell_rg; have l2 : ∀ n : Nat, n < n + 1 + 1 := (fun _ => by omega); have l3 : ∀ n : Nat, n < n + 1 + 1 + 1 := (fun _ => by omega); have l4 : ∀ n : Nat, n < n + 1 + 1 + 1 + 1 := (fun _ => by omega)
  cases hy : inR n 0 730499
  · have h1 := Lib.hid hy
    have HV : Hid (odateR n = ((0, 0, 0), 2)) := by unfold odateR Hid; rw [hy]; rfl
    clear hy
    go_enter Try.func19, Try.ntmps19
    go_wp2_with (go_at_call 52; refine (isDay_is h1.out _).mono ?_; rintro e w' ⟨rfl, rfl⟩)
    refine bodyPost_ret (v := .tuple #[.agg #[.int .i64 0, .int .i64 0, .int .i64 0], .int .i64 2]) (by simp [results, Try.results19, go_sem, *]) rfl ⟨?_, by (repeat' (first | (with_reducible exact Below.refl _ _) | (with_reducible assumption) | (with_reducible refine below_al ?_ _) | (with_reducible refine Below.drew ?_) | (with_reducible refine Below.setCell ?_ (by first | exact Nat.le_refl _ | (dsimp only; omega) | (simp; omega)) _) | (with_reducible refine below_drewN ?_ _) | (with_reducible refine below_tt ?_ (by assumption))))⟩
    rw [HV.out]
  · have h1 := Lib.hid hy
    have HV : Hid (odateR n = (dat n false, 0)) := by unfold odateR Hid; rw [hy]; rfl
    obtain ⟨hb1, hb2⟩ := inR_t hy
    have hn1 : nyear 1 false ≤ n := by rw [nyear_ends.1]; omega
    have hn2 : n < nyear 2001 false := by rw [nyear_ends.2.1]; omega
    clear hy
    go_enter Try.func19, Try.ntmps19
    go_wp2_with (first | (go_at_call 52; refine (isDay_is h1.out _).mono ?_; rintro e w' ⟨rfl, rfl⟩) | (go_at_call 49; (refine (dateOf_any _ _ _ hn1 hn2).mono ?_; rintro e w' ⟨rfl, hb⟩; obtain ⟨hc, hf⟩ := bcell hb; have hz := bsize hb; (first | (have hB := below_tt hB hb) | (have hB := below_tt (below_al hB _) hb) | (have hB := below_tt (below_al (below_al hB _) _) hb) | (have hB := hb)); obtain ⟨hc0, hf0⟩ := bcell hB; have hz0 := bsize hB)))
    refine bodyPost_ret (v := .tuple #[.agg #[.int .i64 (dat n false).1, .int .i64 (dat n false).2.1, .int .i64 (dat n false).2.2], .int .i64 0]) (by simp [results, Try.results19, go_sem, *]) rfl ⟨?_, by (repeat' (first | (with_reducible exact Below.refl _ _) | (with_reducible assumption) | (with_reducible refine below_al ?_ _) | (with_reducible refine Below.drew ?_) | (with_reducible refine Below.setCell ?_ (by first | exact Nat.le_refl _ | (dsimp only; omega) | (simp; omega)) _) | (with_reducible refine below_drewN ?_ _) | (with_reducible refine below_tt ?_ (by assumption))))⟩
    rw [HV.out]

theorem specOldDate_any (n : Int) (w : World) :
    Calls Try.prog 18 #[.int .i64 n] w fun e w' => e = .returned (.tuple #[.agg #[.int .i64 (odateR n).1.1, .int .i64 (odateR n).1.2.1, .int .i64 (odateR n).1.2.2], .int .i64 (odateR n).2]) ∧ Below w.heap.size w w' := by
  have rg := cell_rg; have l2 : ∀ n : Nat, n < n + 1 + 1 := (fun _ => by omega); have l3 : ∀ n : Nat, n < n + 1 + 1 + 1 := (fun _ => by omega); have l4 : ∀ n : Nat, n < n + 1 + 1 + 1 + 1 := (fun _ => by omega)
  cases hy : inR n 0 730499
  · have h1 := Lib.hid hy
    have HV : Hid (odateR n = ((0, 0, 0), 2)) := by unfold odateR Hid; rw [hy]; rfl
    clear hy
    go_enter Try.func18, Try.ntmps18
    go_wp2_with (go_at_call 50; refine (l01Day_is h1.out _).mono ?_; rintro e w' ⟨rfl, rfl⟩)
    refine bodyPost_ret (v := .tuple #[.agg #[.int .i64 0, .int .i64 0, .int .i64 0], .int .i64 2]) (by simp [results, Try.results18, go_sem, *]) rfl ⟨?_, by (repeat' (first | (with_reducible exact Below.refl _ _) | (with_reducible assumption) | (with_reducible refine below_al ?_ _) | (with_reducible refine Below.drew ?_) | (with_reducible refine Below.setCell ?_ (by first | exact Nat.le_refl _ | (dsimp only; omega) | (simp; omega)) _) | (with_reducible refine below_drewN ?_ _) | (with_reducible refine below_tt ?_ (by assumption))))⟩
    rw [HV.out]
  · have h1 := Lib.hid hy
    have HV : Hid (odateR n = (dat n false, 0)) := by unfold odateR Hid; rw [hy]; rfl
    obtain ⟨hb1, hb2⟩ := inR_t hy
    have hn1 : nyear 1 false ≤ n := by rw [nyear_ends.1]; omega
    have hn2 : n < nyear 2001 false := by rw [nyear_ends.2.1]; omega
    clear hy
    go_enter Try.func18, Try.ntmps18
    go_wp2_with (first | (go_at_call 50; refine (l01Day_is h1.out _).mono ?_; rintro e w' ⟨rfl, rfl⟩) | (go_at_call 51; (refine (l01Old_any hb1 hb2 _).mono ?_; rintro e w' ⟨rfl, hb⟩; obtain ⟨hc, hf⟩ := bcell hb; have hz := bsize hb; (first | (have hB := below_tt hB hb) | (have hB := below_tt (below_al hB _) hb) | (have hB := below_tt (below_al (below_al hB _) _) hb) | (have hB := hb)); obtain ⟨hc0, hf0⟩ := bcell hB; have hz0 := bsize hB)))
    refine bodyPost_ret (v := .tuple #[.agg #[.int .i64 (dat n false).1, .int .i64 (dat n false).2.1, .int .i64 (dat n false).2.2], .int .i64 0]) (by simp [results, Try.results18, go_sem, *]) rfl ⟨?_, by (repeat' (first | (with_reducible exact Below.refl _ _) | (with_reducible assumption) | (with_reducible refine below_al ?_ _) | (with_reducible refine Below.drew ?_) | (with_reducible refine Below.setCell ?_ (by first | exact Nat.le_refl _ | (dsimp only; omega) | (simp; omega)) _) | (with_reducible refine below_drewN ?_ _) | (with_reducible refine below_tt ?_ (by assumption))))⟩
    rw [HV.out]

theorem implNewDate_any (n : Int) (w : World) :
    Calls Try.prog 16 #[.int .i64 n] w fun e w' => e = .returned (.tuple #[.agg #[.int .i64 (ndateR n).1.1, .int .i64 (ndateR n).1.2.1, .int .i64 (ndateR n).1.2.2], .int .i64 (ndateR n).2]) ∧ Below w.heap.size w w' := by
  have rg := cell_rg; have l2 : ∀ n : Nat, n < n + 1 + 1 := (fun _ => by omega); have l3 : ∀ n : Nat, n < n + 1 + 1 + 1 := (fun _ => by omega); have l4 : ∀ n : Nat, n < n + 1 + 1 + 1 + 1 := (fun _ => by omega)
  cases hy : inR n 2 730486
  · have h1 := Lib.hid hy
    have HV : Hid (ndateR n = ((0, 0, 0), 2)) := by unfold ndateR Hid; rw [hy]; rfl
    clear hy
    go_enter Try.func16, Try.ntmps16
    go_wp2_with (go_at_call 48; refine (isNewDay_is h1.out _).mono ?_; rintro e w' ⟨rfl, rfl⟩)
    refine bodyPost_ret (v := .tuple #[.agg #[.int .i64 0, .int .i64 0, .int .i64 0], .int .i64 2]) (by simp [results, Try.results16, go_sem, *]) rfl ⟨?_, by (repeat' (first | (with_reducible exact Below.refl _ _) | (with_reducible assumption) | (with_reducible refine below_al ?_ _) | (with_reducible refine Below.drew ?_) | (with_reducible refine Below.setCell ?_ (by first | exact Nat.le_refl _ | (dsimp only; omega) | (simp; omega)) _) | (with_reducible refine below_drewN ?_ _) | (with_reducible refine below_tt ?_ (by assumption))))⟩
    rw [HV.out]
  · have h1 := Lib.hid hy
    have HV : Hid (ndateR n = (dat n true, 0)) := by unfold ndateR Hid; rw [hy]; rfl
    obtain ⟨hb1, hb2⟩ := inR_t hy
    have hn1 : nyear 1 true ≤ n := by rw [nyear_ends.2.2.1]; omega
    have hn2 : n < nyear 2001 true := by rw [nyear_ends.2.2.2]; omega
    clear hy
    go_enter Try.func16, Try.ntmps16
    go_wp2_with (first | (go_at_call 48; refine (isNewDay_is h1.out _).mono ?_; rintro e w' ⟨rfl, rfl⟩) | (go_at_call 49; (refine (dateOf_any _ _ _ hn1 hn2).mono ?_; rintro e w' ⟨rfl, hb⟩; obtain ⟨hc, hf⟩ := bcell hb; have hz := bsize hb; (first | (have hB := below_tt hB hb) | (have hB := below_tt (below_al hB _) hb) | (have hB := below_tt (below_al (below_al hB _) _) hb) | (have hB := hb)); obtain ⟨hc0, hf0⟩ := bcell hB; have hz0 := bsize hB)))
    refine bodyPost_ret (v := .tuple #[.agg #[.int .i64 (dat n true).1, .int .i64 (dat n true).2.1, .int .i64 (dat n true).2.2], .int .i64 0]) (by simp [results, Try.results16, go_sem, *]) rfl ⟨?_, by (repeat' (first | (with_reducible exact Below.refl _ _) | (with_reducible assumption) | (with_reducible refine below_al ?_ _) | (with_reducible refine Below.drew ?_) | (with_reducible refine Below.setCell ?_ (by first | exact Nat.le_refl _ | (dsimp only; omega) | (simp; omega)) _) | (with_reducible refine below_drewN ?_ _) | (with_reducible refine below_tt ?_ (by assumption))))⟩
    rw [HV.out]
theorem sdat_bad {n : Int} (h : 730487 ≤ n) : valid (sdat n true).1 (sdat n true).2.1 (sdat n true).2.2 true = false := by
  rw [sdat_out (by rw [nyear_ends.2.2.2]; exact h)]
  have e : nyear 2000 true + cum 2000 12 true = 730456 := by decide
  have e2 : mlen 2000 12 true = 31 := by decide
  rw [e]
  show valid 2000 12 (n - 730456 + 1) true = false
  rw [valid_d (by decide) (by decide), e2]
  exact inR_not (Or.inr (by omega))
theorem dat_good {n : Int} {f : Bool} (h1 : nyear 1 f ≤ n) (h2 : n < nyear 2001 f) : valid (dat n f).1 (dat n f).2.1 (dat n f).2.2 f = true := (dat_is h1 h2).1
theorem specNewDate_any (n : Int) (w : World) :
    Calls Try.prog 15 #[.int .i64 n] w fun e w' => e = .returned (.tuple #[.agg #[.int .i64 (ndateR n).1.1, .int .i64 (ndateR n).1.2.1, .int .i64 (ndateR n).1.2.2], .int .i64 (ndateR n).2]) ∧ Below w.heap.size w w' := by
  have rg := cell_rg; have l2 : ∀ n : Nat, n < n + 1 + 1 := (fun _ => by omega); have l3 : ∀ n : Nat, n < n + 1 + 1 + 1 := (fun _ => by omega); have l4 : ∀ n : Nat, n < n + 1 + 1 + 1 + 1 := (fun _ => by omega)
  cases hy : inR n 2 730499
  · have h1 := Lib.hid hy
    have HV : Hid (ndateR n = ((0, 0, 0), 2)) := by unfold ndateR Hid; rw [inR_not (by have := inR_f hy; omega)]; rfl
    clear hy
    go_enter Try.func15, Try.ntmps15
    go_wp2_with (go_at_call 45; refine (l01In_is h1.out _).mono ?_; rintro e w' ⟨rfl, rfl⟩)
    refine bodyPost_ret (v := .tuple #[.agg #[.int .i64 0, .int .i64 0, .int .i64 0], .int .i64 2]) (by simp [results, Try.results15, go_sem, *]) rfl ⟨?_, by (repeat' (first | (with_reducible exact Below.refl _ _) | (with_reducible assumption) | (with_reducible refine below_al ?_ _) | (with_reducible refine Below.drew ?_) | (with_reducible refine Below.setCell ?_ (by first | exact Nat.le_refl _ | (dsimp only; omega) | (simp; omega)) _) | (with_reducible refine below_drewN ?_ _) | (with_reducible refine below_tt ?_ (by assumption))))⟩
    rw [HV.out]
  · have h1 := Lib.hid hy
    obtain ⟨hb1, hb2⟩ := inR_t hy
    have hn1 : nyear 1 true ≤ n := by rw [nyear_ends.2.2.1]; omega
    clear hy
    by_cases hk : n < 730487
    · have HV : Hid (ndateR n = (dat n true, 0)) := by unfold ndateR Hid; rw [inR_mk (by omega) (by omega)]; rfl
      have hn2 : n < nyear 2001 true := by rw [nyear_ends.2.2.2]; omega
      have h2 := Lib.hid (dat_good hn1 hn2)
      go_enter Try.func15, Try.ntmps15
      go_wp2_with (first | (go_at_call 45; refine (l01In_is h1.out _).mono ?_; rintro e w' ⟨rfl, rfl⟩) | (go_at_call 47; (refine (sdatin_any hn1 hn2 _).mono ?_; rintro e w' ⟨rfl, hb⟩; obtain ⟨hc, hf⟩ := bcell hb; have hz := bsize hb; (first | (have hB := below_tt hB hb) | (have hB := below_tt (below_al hB _) hb) | (have hB := below_tt (below_al (below_al hB _) _) hb) | (have hB := hb)); obtain ⟨hc0, hf0⟩ := bcell hB; have hz0 := bsize hB)) | (go_at_call 46; (refine (l01Valid_is h2.out _).mono ?_; rintro e w' ⟨rfl, hb⟩; obtain ⟨hc, hf⟩ := bcell hb; have hz := bsize hb; (first | (have hB := below_tt hB hb) | (have hB := below_tt (below_al hB _) hb) | (have hB := below_tt (below_al (below_al hB _) _) hb) | (have hB := hb)); obtain ⟨hc0, hf0⟩ := bcell hB; have hz0 := bsize hB)))
      refine bodyPost_ret (v := .tuple #[.agg #[.int .i64 (dat n true).1, .int .i64 (dat n true).2.1, .int .i64 (dat n true).2.2], .int .i64 0]) (by simp [results, Try.results15, go_sem, *]) rfl ⟨?_, by (repeat' (first | (with_reducible exact Below.refl _ _) | (with_reducible assumption) | (with_reducible refine below_al ?_ _) | (with_reducible refine Below.drew ?_) | (with_reducible refine Below.setCell ?_ (by first | exact Nat.le_refl _ | (dsimp only; omega) | (simp; omega)) _) | (with_reducible refine below_drewN ?_ _) | (with_reducible refine below_tt ?_ (by assumption))))⟩
      rw [HV.out]
    · have HV : Hid (ndateR n = ((0, 0, 0), 2)) := by unfold ndateR Hid; rw [inR_not (by omega)]; rfl
      have h2 := Lib.hid (sdat_bad (n := n) (by omega))
      go_enter Try.func15, Try.ntmps15
      go_wp2_with (first | (go_at_call 45; refine (l01In_is h1.out _).mono ?_; rintro e w' ⟨rfl, rfl⟩) | (go_at_call 47; (refine (l01Date_any _ _ _ hn1 (by omega)).mono ?_; rintro e w' ⟨rfl, hb⟩; obtain ⟨hc, hf⟩ := bcell hb; have hz := bsize hb; (first | (have hB := below_tt hB hb) | (have hB := below_tt (below_al hB _) hb) | (have hB := below_tt (below_al (below_al hB _) _) hb) | (have hB := hb)); obtain ⟨hc0, hf0⟩ := bcell hB; have hz0 := bsize hB)) | (go_at_call 46; (refine (l01Valid_is h2.out _).mono ?_; rintro e w' ⟨rfl, hb⟩; obtain ⟨hc, hf⟩ := bcell hb; have hz := bsize hb; (first | (have hB := below_tt hB hb) | (have hB := below_tt (below_al hB _) hb) | (have hB := below_tt (below_al (below_al hB _) _) hb) | (have hB := hb)); obtain ⟨hc0, hf0⟩ := bcell hB; have hz0 := bsize hB)))
      refine bodyPost_ret (v := .tuple #[.agg #[.int .i64 0, .int .i64 0, .int .i64 0], .int .i64 2]) (by simp [results, Try.results15, go_sem, *]) rfl ⟨?_, by (repeat' (first | (with_reducible exact Below.refl _ _) | (with_reducible assumption) | (with_reducible refine below_al ?_ _) | (with_reducible refine Below.drew ?_) | (with_reducible refine Below.setCell ?_ (by first | exact Nat.le_refl _ | (dsimp only; omega) | (simp; omega)) _) | (with_reducible refine below_drewN ?_ _) | (with_reducible refine below_tt ?_ (by assumption))))⟩
      rw [HV.out]

theorem implLocalDate_any (c n : Int) (w : World) :
    Calls Try.prog 29 #[.agg #[.int .i64 c], .int .i64 n] w fun e w' => e = .returned (.tuple #[.agg #[.int .i64 (ldateR c n).1.1, .int .i64 (ldateR c n).1.2.1, .int .i64 (ldateR c n).1.2.2], .int .i64 (ldateR c n).2]) ∧ Below w.heap.size w w' := by
  have rg := cell_rg; have l2 : ∀ n : Nat, n < n + 1 + 1 := (fun _ => by omega); have l3 : ∀ n : Nat, n < n + 1 + 1 + 1 := (fun _ => by omega); have l4 : ∀ n : Nat, n < n + 1 + 1 + 1 + 1 := (fun _ => by omega)
  cases hc : calB c
  · have h1 := Lib.hid hc
    have HV : Hid (ldateR c n = ((0, 0, 0), 1)) := by unfold ldateR Hid; rw [hc]; rfl
    clear hc
    go_enter Try.func29, Try.ntmps29
    go_wp2_with (first | (go_at_call 55; (refine (implIsCalendar_is h1.out _).mono ?_; rintro e w' ⟨rfl, hb⟩; obtain ⟨hc, hf⟩ := bcell hb; have hz := bsize hb; (first | (have hB := below_tt hB hb) | (have hB := below_tt (below_al hB _) hb) | (have hB := below_tt (below_al (below_al hB _) _) hb) | (have hB := hb)); obtain ⟨hc0, hf0⟩ := bcell hB; have hz0 := bsize hB)))
    refine bodyPost_ret (v := .tuple #[.agg #[.int .i64 0, .int .i64 0, .int .i64 0], .int .i64 1]) (by simp [results, Try.results29, go_sem, *]) rfl ⟨?_, by (repeat' (first | (with_reducible exact Below.refl _ _) | (with_reducible assumption) | (with_reducible refine below_al ?_ _) | (with_reducible refine Below.drew ?_) | (with_reducible refine Below.setCell ?_ (by first | exact Nat.le_refl _ | (dsimp only; omega) | (simp; omega)) _) | (with_reducible refine below_drewN ?_ _) | (with_reducible refine below_tt ?_ (by assumption))))⟩
    rw [HV.out]
  · have h1 := Lib.hid hc
    have hcc := cal_cap hc
    cases hd : inR n 0 730499
    · have h2 := Lib.hid hd
      have HV : Hid (ldateR c n = ((0, 0, 0), 2)) := by unfold ldateR Hid; rw [hc, hd]; rfl
      clear hc hd
      go_enter Try.func29, Try.ntmps29
      go_wp2_with (first | (go_at_call 55; (refine (implIsCalendar_is h1.out _).mono ?_; rintro e w' ⟨rfl, hb⟩; obtain ⟨hc, hf⟩ := bcell hb; have hz := bsize hb; (first | (have hB := below_tt hB hb) | (have hB := below_tt (below_al hB _) hb) | (have hB := below_tt (below_al (below_al hB _) _) hb) | (have hB := hb)); obtain ⟨hc0, hf0⟩ := bcell hB; have hz0 := bsize hB)) | (go_at_call 52; refine (isDay_is h2.out _).mono ?_; rintro e w' ⟨rfl, rfl⟩))
      refine bodyPost_ret (v := .tuple #[.agg #[.int .i64 0, .int .i64 0, .int .i64 0], .int .i64 2]) (by simp [results, Try.results29, go_sem, *]) rfl ⟨?_, by (repeat' (first | (with_reducible exact Below.refl _ _) | (with_reducible assumption) | (with_reducible refine below_al ?_ _) | (with_reducible refine Below.drew ?_) | (with_reducible refine Below.setCell ?_ (by first | exact Nat.le_refl _ | (dsimp only; omega) | (simp; omega)) _) | (with_reducible refine below_drewN ?_ _) | (with_reducible refine below_tt ?_ (by assumption))))⟩
      rw [HV.out]
    · have h2 := Lib.hid hd
      obtain ⟨hb1, hb2⟩ := inR_t hd
      by_cases hlt : n < c
      · have HV : Hid (ldateR c n = (dat n false, 0)) := by unfold ldateR Hid; rw [hc, hd, if_pos rfl, if_pos rfl, if_pos hlt]
        have hn1 : nyear 1 false ≤ n := by rw [nyear_ends.1]; omega
        have hn2 : n < nyear 2001 false := by rw [nyear_ends.2.1]; omega
        clear hc hd
        go_enter Try.func29, Try.ntmps29
        go_wp2_with (first | (go_at_call 55; (refine (implIsCalendar_is h1.out _).mono ?_; rintro e w' ⟨rfl, hb⟩; obtain ⟨hc, hf⟩ := bcell hb; have hz := bsize hb; (first | (have hB := below_tt hB hb) | (have hB := below_tt (below_al hB _) hb) | (have hB := below_tt (below_al (below_al hB _) _) hb) | (have hB := hb)); obtain ⟨hc0, hf0⟩ := bcell hB; have hz0 := bsize hB)) | (go_at_call 52; refine (isDay_is h2.out _).mono ?_; rintro e w' ⟨rfl, rfl⟩) | (go_at_call 49; (refine (dateOf_any _ _ _ hn1 hn2).mono ?_; rintro e w' ⟨rfl, hb⟩; obtain ⟨hc, hf⟩ := bcell hb; have hz := bsize hb; (first | (have hB := below_tt hB hb) | (have hB := below_tt (below_al hB _) hb) | (have hB := below_tt (below_al (below_al hB _) _) hb) | (have hB := hb)); obtain ⟨hc0, hf0⟩ := bcell hB; have hz0 := bsize hB)))
        refine bodyPost_ret (v := .tuple #[.agg #[.int .i64 (dat n false).1, .int .i64 (dat n false).2.1, .int .i64 (dat n false).2.2], .int .i64 0]) (by simp [results, Try.results29, go_sem, *]) rfl ⟨?_, by (repeat' (first | (with_reducible exact Below.refl _ _) | (with_reducible assumption) | (with_reducible refine below_al ?_ _) | (with_reducible refine Below.drew ?_) | (with_reducible refine Below.setCell ?_ (by first | exact Nat.le_refl _ | (dsimp only; omega) | (simp; omega)) _) | (with_reducible refine below_drewN ?_ _) | (with_reducible refine below_tt ?_ (by assumption))))⟩
        rw [HV.out]
      · cases hw : inR n 2 730486
        · have h3 := Lib.hid hw
          have HV : Hid (ldateR c n = ((0, 0, 0), 4)) := by unfold ldateR Hid; rw [hc, hd, if_pos rfl, if_pos rfl, if_neg hlt, if_neg (by have := inR_f hw; omega)]
          clear hc hd hw
          go_enter Try.func29, Try.ntmps29
          go_wp2_with (first | (go_at_call 55; (refine (implIsCalendar_is h1.out _).mono ?_; rintro e w' ⟨rfl, hb⟩; obtain ⟨hc, hf⟩ := bcell hb; have hz := bsize hb; (first | (have hB := below_tt hB hb) | (have hB := below_tt (below_al hB _) hb) | (have hB := below_tt (below_al (below_al hB _) _) hb) | (have hB := hb)); obtain ⟨hc0, hf0⟩ := bcell hB; have hz0 := bsize hB)) | (go_at_call 52; refine (isDay_is h2.out _).mono ?_; rintro e w' ⟨rfl, rfl⟩) | (go_at_call 48; refine (isNewDay_is h3.out _).mono ?_; rintro e w' ⟨rfl, rfl⟩))
          refine bodyPost_ret (v := .tuple #[.agg #[.int .i64 0, .int .i64 0, .int .i64 0], .int .i64 4]) (by simp [results, Try.results29, go_sem, *]) rfl ⟨?_, by (repeat' (first | (with_reducible exact Below.refl _ _) | (with_reducible assumption) | (with_reducible refine below_al ?_ _) | (with_reducible refine Below.drew ?_) | (with_reducible refine Below.setCell ?_ (by first | exact Nat.le_refl _ | (dsimp only; omega) | (simp; omega)) _) | (with_reducible refine below_drewN ?_ _) | (with_reducible refine below_tt ?_ (by assumption))))⟩
          rw [HV.out]
        · have h3 := Lib.hid hw
          have hwb := inR_t hw
          have HV : Hid (ldateR c n = (dat n true, 0)) := by unfold ldateR Hid; rw [hc, hd, if_pos rfl, if_pos rfl, if_neg hlt, if_pos (by omega)]
          have hn1 : nyear 1 true ≤ n := by rw [nyear_ends.2.2.1]; omega
          have hn2 : n < nyear 2001 true := by rw [nyear_ends.2.2.2]; omega
          clear hc hd hw
          go_enter Try.func29, Try.ntmps29
          go_wp2_with (first | (go_at_call 55; (refine (implIsCalendar_is h1.out _).mono ?_; rintro e w' ⟨rfl, hb⟩; obtain ⟨hc, hf⟩ := bcell hb; have hz := bsize hb; (first | (have hB := below_tt hB hb) | (have hB := below_tt (below_al hB _) hb) | (have hB := below_tt (below_al (below_al hB _) _) hb) | (have hB := hb)); obtain ⟨hc0, hf0⟩ := bcell hB; have hz0 := bsize hB)) | (go_at_call 52; refine (isDay_is h2.out _).mono ?_; rintro e w' ⟨rfl, rfl⟩) | (go_at_call 48; refine (isNewDay_is h3.out _).mono ?_; rintro e w' ⟨rfl, rfl⟩) | (go_at_call 49; (refine (dateOf_any _ _ _ hn1 hn2).mono ?_; rintro e w' ⟨rfl, hb⟩; obtain ⟨hc, hf⟩ := bcell hb; have hz := bsize hb; (first | (have hB := below_tt hB hb) | (have hB := below_tt (below_al hB _) hb) | (have hB := below_tt (below_al (below_al hB _) _) hb) | (have hB := hb)); obtain ⟨hc0, hf0⟩ := bcell hB; have hz0 := bsize hB)))
          refine bodyPost_ret (v := .tuple #[.agg #[.int .i64 (dat n true).1, .int .i64 (dat n true).2.1, .int .i64 (dat n true).2.2], .int .i64 0]) (by simp [results, Try.results29, go_sem, *]) rfl ⟨?_, by (repeat' (first | (with_reducible exact Below.refl _ _) | (with_reducible assumption) | (with_reducible refine below_al ?_ _) | (with_reducible refine Below.drew ?_) | (with_reducible refine Below.setCell ?_ (by first | exact Nat.le_refl _ | (dsimp only; omega) | (simp; omega)) _) | (with_reducible refine below_drewN ?_ _) | (with_reducible refine below_tt ?_ (by assumption))))⟩
          rw [HV.out]

theorem specIsNewDate_of {y m d : Int} {r : Bool} (h : valid y m d true = r) (w : World) :
    Calls Try.prog 85 #[.agg #[.int .i64 y, .int .i64 m, .int .i64 d]] w fun e w' => e = .returned (.bool r) ∧ Below w.heap.size w w' := specIsNewDate_is h w
theorem l03Date_old {c n : Int} (hc : n < c) (h1 : 0 ≤ n) (h2 : n ≤ 730499) (w : World) :
    Calls Try.prog 61 #[.agg #[.int .i64 c], .int .i64 n] w fun e w' => e = .returned (.tuple #[.agg #[.int .i64 (dat n false).1, .int .i64 (dat n false).2.1, .int .i64 (dat n false).2.2], .bool true]) ∧ Below w.heap.size w w' := by
  have rg := cell_rg; have l2 : ∀ n : Nat, n < n + 1 + 1 := (fun _ => by omega); have l3 : ∀ n : Nat, n < n + 1 + 1 + 1 := (fun _ => by omega); have l4 : ∀ n : Nat, n < n + 1 + 1 + 1 + 1 := (fun _ => by omega)
  go_enter Try.func61, Try.ntmps61
  go_wp2_with (go_at_call 51; (refine (l01Old_any h1 h2 _).mono ?_; rintro e w' ⟨rfl, hb⟩; obtain ⟨hc, hf⟩ := bcell hb; have hz := bsize hb; (first | (have hB := below_tt hB hb) | (have hB := below_tt (below_al hB _) hb) | (have hB := below_tt (below_al (below_al hB _) _) hb) | (have hB := hb)); obtain ⟨hc0, hf0⟩ := bcell hB; have hz0 := bsize hB))
  refine bodyPost_ret (v := .tuple #[.agg #[.int .i64 (dat n false).1, .int .i64 (dat n false).2.1, .int .i64 (dat n false).2.2], .bool true]) (by simp [results, Try.results61, go_sem, *]) rfl ⟨rfl, by (repeat' (first | (with_reducible exact Below.refl _ _) | (with_reducible assumption) | (with_reducible refine below_al ?_ _) | (with_reducible refine Below.drew ?_) | (with_reducible refine Below.setCell ?_ (by first | exact Nat.le_refl _ | (dsimp only; omega) | (simp; omega)) _) | (with_reducible refine below_drewN ?_ _) | (with_reducible refine below_tt ?_ (by assumption))))⟩
theorem l03Date_new {c n Y M E : Int} {b : Bool} (hc : c ≤ n) (h1 : 2 ≤ n) (h2 : n ≤ 730499) (hs : sdat n true = (Y, M, E)) (hv : valid Y M E true = b) (w : World) :
    Calls Try.prog 61 #[.agg #[.int .i64 c], .int .i64 n] w fun e w' => e = .returned (.tuple #[.agg #[.int .i64 Y, .int .i64 M, .int .i64 E], .bool b]) ∧ Below w.heap.size w w' := by
  have rg := cell_rg; have l2 : ∀ n : Nat, n < n + 1 + 1 := (fun _ => by omega); have l3 : ∀ n : Nat, n < n + 1 + 1 + 1 := (fun _ => by omega); have l4 : ∀ n : Nat, n < n + 1 + 1 + 1 + 1 := (fun _ => by omega)
  have hn1 : nyear 1 true ≤ n := by rw [nyear_ends.2.2.1]; omega
  have hl := fun w => l01Date_any n true w hn1 (by omega)
  rw [hs] at hl
  have HL := Lib.hid hl
  have HV := Lib.hid hv
  clear hl hs hv
  go_enter Try.func61, Try.ntmps61
  go_wp2_with (go_at_call 47; (refine (HL.out _).mono ?_; rintro e w' ⟨rfl, hb⟩; obtain ⟨hc, hf⟩ := bcell hb; have hz := bsize hb; (first | (have hB := below_tt hB hb) | (have hB := below_tt (below_al hB _) hb) | (have hB := below_tt (below_al (below_al hB _) _) hb) | (have hB := hb)); obtain ⟨hc0, hf0⟩ := bcell hB; have hz0 := bsize hB))
  have hsz2 : w.heap.size + 1 < w'.heap.size := hz _ (by simp)
  generalize hW2 : w'.alloc (.cells #[.int .i64 Y, .int .i64 M, .int .i64 E] 23) = w2
  have hD : w'.heap.size < w2.heap.size := by rw [← hW2]; simp
  have hB2 : Below w.heap.size w w2 := by rw [← hW2]; (repeat' (first | (with_reducible exact Below.refl _ _) | (with_reducible assumption) | (with_reducible refine below_al ?_ _) | (with_reducible refine Below.drew ?_) | (with_reducible refine Below.setCell ?_ (by first | exact Nat.le_refl _ | (dsimp only; omega) | (simp; omega)) _) | (with_reducible refine below_drewN ?_ _) | (with_reducible refine below_tt ?_ (by assumption))))
  have k0 : w2.cell? ⟨w'.heap.size, 0, none⟩ = some (.int .i64 Y) := by rw [← hW2, World.cell?_alloc_at (hn := rfl)]; rfl
  have k1 : w2.cell? ⟨w'.heap.size, 1, none⟩ = some (.int .i64 M) := by rw [← hW2, World.cell?_alloc_at (hn := rfl)]; rfl
  have k2 : w2.cell? ⟨w'.heap.size, 2, none⟩ = some (.int .i64 E) := by rw [← hW2, World.cell?_alloc_at (hn := rfl)]; rfl
  have r0 : w2.cell? ⟨w.heap.size + 1, 0, none⟩ = some (.int .i64 0) := by rw [← hW2, World.cell?_alloc_past (hn := hsz2), hc _ _ (by simp)]; go_simp
  have r1 : w2.cell? ⟨w.heap.size + 1, 1, none⟩ = some (.int .i64 0) := by rw [← hW2, World.cell?_alloc_past (hn := hsz2), hc _ _ (by simp)]; go_simp
  have r2 : w2.cell? ⟨w.heap.size + 1, 2, none⟩ = some (.int .i64 0) := by rw [← hW2, World.cell?_alloc_past (hn := hsz2), hc _ _ (by simp)]; go_simp
  have s0 : w2.frozen? ⟨w.heap.size + 1, 0, none⟩ = false := by rw [← hW2, World.frozen?_alloc_past (hn := hsz2), hf _ _ (by simp)]; go_simp
  have s1 : w2.frozen? ⟨w.heap.size + 1, 1, none⟩ = false := by rw [← hW2, World.frozen?_alloc_past (hn := hsz2), hf _ _ (by simp)]; go_simp
  have s2 : w2.frozen? ⟨w.heap.size + 1, 2, none⟩ = false := by rw [← hW2, World.frozen?_alloc_past (hn := hsz2), hf _ _ (by simp)]; go_simp
  have hBD : w.heap.size + 1 < w2.heap.size := by omega
  generalize w'.heap.size = D at *
  clear hW2 hc hf hz hc0 hf0 hz0 hB hb
  have ne1 : D ≠ w.heap.size + 1 := by omega
  have ne2 : w.heap.size + 1 ≠ D := by omega
  go_region_held3 (fun w'' => w''.cell? ⟨D, 0, none⟩ = some (.int .i64 Y) ∧ w''.cell? ⟨D, 1, none⟩ = some (.int .i64 M) ∧ w''.cell? ⟨D, 2, none⟩ = some (.int .i64 E)) (first | go_keep | (refine ⟨?_, ?_, ?_⟩ <;> (rw [hc8 _ _ (by simp <;> omega)]; simp [*])))
    (first | (go_at_call 85; refine (specIsNewDate_is HV.out _).mono ?_; rintro e w8 ⟨rfl, hb⟩; obtain ⟨hc8, hf8⟩ := bcell hb; have hz8 := bsize hb; (try (have q0 : w8.cell? ⟨w.heap.size + 1, 0, none⟩ = some (.int .i64 0) := (hc8 _ _ (by simp <;> omega)).trans (by simp [*]))); (try (have q1 : w8.cell? ⟨w.heap.size + 1, 1, none⟩ = some (.int .i64 0) := (hc8 _ _ (by simp <;> omega)).trans (by simp [*]))); (try (have q2 : w8.cell? ⟨w.heap.size + 1, 2, none⟩ = some (.int .i64 0) := (hc8 _ _ (by simp <;> omega)).trans (by simp [*]))); have f0 : w8.frozen? ⟨w.heap.size + 1, 0, none⟩ = false := (hf8 _ _ (by simp <;> omega)).trans (by simp [*]); have f1 : w8.frozen? ⟨w.heap.size + 1, 1, none⟩ = false := (hf8 _ _ (by simp <;> omega)).trans (by simp [*]); have f2 : w8.frozen? ⟨w.heap.size + 1, 2, none⟩ = false := (hf8 _ _ (by simp <;> omega)).trans (by simp [*])))
  all_goals go_wp2
  refine bodyPost_ret (v := .tuple #[.agg #[.int .i64 Y, .int .i64 M, .int .i64 E], .bool b]) (by simp [results, Try.results61, go_sem, *]) rfl ⟨rfl, by (repeat' (first | (with_reducible exact Below.refl _ _) | (with_reducible assumption) | (with_reducible refine below_al ?_ _) | (with_reducible refine Below.drew ?_) | (with_reducible refine Below.setCell ?_ (by first | exact Nat.le_refl _ | (dsimp only; omega) | (simp; omega)) _) | (with_reducible refine below_drewN ?_ _) | (with_reducible refine below_tt ?_ (by assumption))))⟩

theorem specLocalDate_any (c n : Int) (w : World) :
    Calls Try.prog 28 #[.agg #[.int .i64 c], .int .i64 n] w fun e w' => e = .returned (.tuple #[.agg #[.int .i64 (ldateR c n).1.1, .int .i64 (ldateR c n).1.2.1, .int .i64 (ldateR c n).1.2.2], .int .i64 (ldateR c n).2]) ∧ Below w.heap.size w w' := by
  have rg := cell_rg; have l2 : ∀ n : Nat, n < n + 1 + 1 := (fun _ => by omega); have l3 : ∀ n : Nat, n < n + 1 + 1 + 1 := (fun _ => by omega); have l4 : ∀ n : Nat, n < n + 1 + 1 + 1 + 1 := (fun _ => by omega)
  cases hc : calB c
  · have h1 := Lib.hid hc
    have HV : Hid (ldateR c n = ((0, 0, 0), 1)) := by unfold ldateR Hid; rw [hc]; rfl
    clear hc
    go_enter Try.func28, Try.ntmps28
    go_wp2_with (first | (go_at_call 53; (refine (specIsCalendar_is h1.out _).mono ?_; rintro e w' ⟨rfl, hb⟩; obtain ⟨hc, hf⟩ := bcell hb; have hz := bsize hb; (first | (have hB := below_tt hB hb) | (have hB := below_tt (below_al hB _) hb) | (have hB := below_tt (below_al (below_al hB _) _) hb) | (have hB := hb)); obtain ⟨hc0, hf0⟩ := bcell hB; have hz0 := bsize hB)))
    refine bodyPost_ret (v := .tuple #[.agg #[.int .i64 0, .int .i64 0, .int .i64 0], .int .i64 1]) (by simp [results, Try.results28, go_sem, *]) rfl ⟨?_, by (repeat' (first | (with_reducible exact Below.refl _ _) | (with_reducible assumption) | (with_reducible refine below_al ?_ _) | (with_reducible refine Below.drew ?_) | (with_reducible refine Below.setCell ?_ (by first | exact Nat.le_refl _ | (dsimp only; omega) | (simp; omega)) _) | (with_reducible refine below_drewN ?_ _) | (with_reducible refine below_tt ?_ (by assumption))))⟩
    rw [HV.out]
  · have h1 := Lib.hid hc
    have hcc := cal_cap hc
    cases hd : inR n 0 730499
    · have h2 := Lib.hid hd
      have HV : Hid (ldateR c n = ((0, 0, 0), 2)) := by unfold ldateR Hid; rw [hc, hd]; rfl
      clear hc hd
      go_enter Try.func28, Try.ntmps28
      go_wp2_with (first | (go_at_call 53; (refine (specIsCalendar_is h1.out _).mono ?_; rintro e w' ⟨rfl, hb⟩; obtain ⟨hc, hf⟩ := bcell hb; have hz := bsize hb; (first | (have hB := below_tt hB hb) | (have hB := below_tt (below_al hB _) hb) | (have hB := below_tt (below_al (below_al hB _) _) hb) | (have hB := hb)); obtain ⟨hc0, hf0⟩ := bcell hB; have hz0 := bsize hB)) | (go_at_call 50; refine (l01Day_is h2.out _).mono ?_; rintro e w' ⟨rfl, rfl⟩))
      refine bodyPost_ret (v := .tuple #[.agg #[.int .i64 0, .int .i64 0, .int .i64 0], .int .i64 2]) (by simp [results, Try.results28, go_sem, *]) rfl ⟨?_, by (repeat' (first | (with_reducible exact Below.refl _ _) | (with_reducible assumption) | (with_reducible refine below_al ?_ _) | (with_reducible refine Below.drew ?_) | (with_reducible refine Below.setCell ?_ (by first | exact Nat.le_refl _ | (dsimp only; omega) | (simp; omega)) _) | (with_reducible refine below_drewN ?_ _) | (with_reducible refine below_tt ?_ (by assumption))))⟩
      rw [HV.out]
    · have h2 := Lib.hid hd
      obtain ⟨hb1, hb2⟩ := inR_t hd
      by_cases hlt : n < c
      · have HV : Hid (ldateR c n = (dat n false, 0)) := by unfold ldateR Hid; rw [hc, hd, if_pos rfl, if_pos rfl, if_pos hlt]
        have h3 := l03Date_old (c := c) hlt hb1 hb2
        clear hc hd
        go_enter Try.func28, Try.ntmps28
        go_wp2_with (first | (go_at_call 53; (refine (specIsCalendar_is h1.out _).mono ?_; rintro e w' ⟨rfl, hb⟩; obtain ⟨hc, hf⟩ := bcell hb; have hz := bsize hb; (first | (have hB := below_tt hB hb) | (have hB := below_tt (below_al hB _) hb) | (have hB := below_tt (below_al (below_al hB _) _) hb) | (have hB := hb)); obtain ⟨hc0, hf0⟩ := bcell hB; have hz0 := bsize hB)) | (go_at_call 50; refine (l01Day_is h2.out _).mono ?_; rintro e w' ⟨rfl, rfl⟩) | (go_at_call 61; (refine (h3 _).mono ?_; rintro e w' ⟨rfl, hb⟩; obtain ⟨hc, hf⟩ := bcell hb; have hz := bsize hb; (first | (have hB := below_tt hB hb) | (have hB := below_tt (below_al hB _) hb) | (have hB := below_tt (below_al (below_al hB _) _) hb) | (have hB := hb)); obtain ⟨hc0, hf0⟩ := bcell hB; have hz0 := bsize hB)))
        refine bodyPost_ret (v := .tuple #[.agg #[.int .i64 (dat n false).1, .int .i64 (dat n false).2.1, .int .i64 (dat n false).2.2], .int .i64 0]) (by simp [results, Try.results28, go_sem, *]) rfl ⟨?_, by (repeat' (first | (with_reducible exact Below.refl _ _) | (with_reducible assumption) | (with_reducible refine below_al ?_ _) | (with_reducible refine Below.drew ?_) | (with_reducible refine Below.setCell ?_ (by first | exact Nat.le_refl _ | (dsimp only; omega) | (simp; omega)) _) | (with_reducible refine below_drewN ?_ _) | (with_reducible refine below_tt ?_ (by assumption))))⟩
        rw [HV.out]
      · by_cases hw : n < 730487
        · have HV : Hid (ldateR c n = (dat n true, 0)) := by unfold ldateR Hid; rw [hc, hd, if_pos rfl, if_pos rfl, if_neg hlt, if_pos hw]
          have hn1 : nyear 1 true ≤ n := by rw [nyear_ends.2.2.1]; omega
          have hn2 : n < nyear 2001 true := by rw [nyear_ends.2.2.2]; omega
          have h3 := l03Date_new (c := c) (n := n) (by omega) (by omega) hb2 (show sdat n true = ((dat n true).1, (dat n true).2.1, (dat n true).2.2) from sdat_in hn2) (dat_good hn1 hn2)
          clear hc hd
          go_enter Try.func28, Try.ntmps28
          go_wp2_with (first | (go_at_call 53; (refine (specIsCalendar_is h1.out _).mono ?_; rintro e w' ⟨rfl, hb⟩; obtain ⟨hc, hf⟩ := bcell hb; have hz := bsize hb; (first | (have hB := below_tt hB hb) | (have hB := below_tt (below_al hB _) hb) | (have hB := below_tt (below_al (below_al hB _) _) hb) | (have hB := hb)); obtain ⟨hc0, hf0⟩ := bcell hB; have hz0 := bsize hB)) | (go_at_call 50; refine (l01Day_is h2.out _).mono ?_; rintro e w' ⟨rfl, rfl⟩) | (go_at_call 61; (refine (h3 _).mono ?_; rintro e w' ⟨rfl, hb⟩; obtain ⟨hc, hf⟩ := bcell hb; have hz := bsize hb; (first | (have hB := below_tt hB hb) | (have hB := below_tt (below_al hB _) hb) | (have hB := below_tt (below_al (below_al hB _) _) hb) | (have hB := hb)); obtain ⟨hc0, hf0⟩ := bcell hB; have hz0 := bsize hB)))
          refine bodyPost_ret (v := .tuple #[.agg #[.int .i64 (dat n true).1, .int .i64 (dat n true).2.1, .int .i64 (dat n true).2.2], .int .i64 0]) (by simp [results, Try.results28, go_sem, *]) rfl ⟨?_, by (repeat' (first | (with_reducible exact Below.refl _ _) | (with_reducible assumption) | (with_reducible refine below_al ?_ _) | (with_reducible refine Below.drew ?_) | (with_reducible refine Below.setCell ?_ (by first | exact Nat.le_refl _ | (dsimp only; omega) | (simp; omega)) _) | (with_reducible refine below_drewN ?_ _) | (with_reducible refine below_tt ?_ (by assumption))))⟩
          rw [HV.out]
        · have HV : Hid (ldateR c n = ((0, 0, 0), 4)) := by unfold ldateR Hid; rw [hc, hd, if_pos rfl, if_pos rfl, if_neg hlt, if_neg hw]
          have h3 := l03Date_new (c := c) (n := n) (by omega) (by omega) hb2 (rfl : sdat n true = ((sdat n true).1, (sdat n true).2.1, (sdat n true).2.2)) (sdat_bad (by omega))
          clear hc hd
          go_enter Try.func28, Try.ntmps28
          go_wp2_with (first | (go_at_call 53; (refine (specIsCalendar_is h1.out _).mono ?_; rintro e w' ⟨rfl, hb⟩; obtain ⟨hc, hf⟩ := bcell hb; have hz := bsize hb; (first | (have hB := below_tt hB hb) | (have hB := below_tt (below_al hB _) hb) | (have hB := below_tt (below_al (below_al hB _) _) hb) | (have hB := hb)); obtain ⟨hc0, hf0⟩ := bcell hB; have hz0 := bsize hB)) | (go_at_call 50; refine (l01Day_is h2.out _).mono ?_; rintro e w' ⟨rfl, rfl⟩) | (go_at_call 61; (refine (h3 _).mono ?_; rintro e w' ⟨rfl, hb⟩; obtain ⟨hc, hf⟩ := bcell hb; have hz := bsize hb; (first | (have hB := below_tt hB hb) | (have hB := below_tt (below_al hB _) hb) | (have hB := below_tt (below_al (below_al hB _) _) hb) | (have hB := hb)); obtain ⟨hc0, hf0⟩ := bcell hB; have hz0 := bsize hB)))
          refine bodyPost_ret (v := .tuple #[.agg #[.int .i64 0, .int .i64 0, .int .i64 0], .int .i64 4]) (by simp [results, Try.results28, go_sem, *]) rfl ⟨?_, by (repeat' (first | (with_reducible exact Below.refl _ _) | (with_reducible assumption) | (with_reducible refine below_al ?_ _) | (with_reducible refine Below.drew ?_) | (with_reducible refine Below.setCell ?_ (by first | exact Nat.le_refl _ | (dsimp only; omega) | (simp; omega)) _) | (with_reducible refine below_drewN ?_ _) | (with_reducible refine below_tt ?_ (by assumption))))⟩
          rw [HV.out]
end Go.Proofs.Ytibdbllfapabhaa
