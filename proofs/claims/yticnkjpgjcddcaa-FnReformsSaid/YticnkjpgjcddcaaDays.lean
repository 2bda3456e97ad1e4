/- The days of a local year: both sides. -/
import Derived.Test.YticnkjpgjcddcaaLoc2
namespace Go.Proofs.Yticnkjpgjcddcaa
open Go.RowKit

theorem dat_year {n y : Int} {f : Bool} (h1 : nyear 1 f ≤ n) (h2 : n < nyear 2001 f) (h3 : 1 ≤ y) : (dat n f).1 = y ↔ nyear y f ≤ n ∧ n < nyear (y + 1) f := by
  obtain ⟨hv, hn⟩ := dat_is h1 h2
  have hb := num_bd hv
  rw [hn] at hb
  have hd := dat_bd h1 h2
  constructor
  · rintro rfl; exact hb
  · rintro ⟨a, b⟩
    rcases Int.lt_trichotomy (dat n f).1 y with c | c | c
    · have := nyear_mono f (a := (dat n f).1 + 1) (b := y) (by omega) (by omega); omega
    · exact c
    · have := nyear_mono f (a := y + 1) (b := (dat n f).1) (by omega) (by omega); omega
/-- How many days of a year are local ones: of the old calendar before the reform, of the new one from it on. -/
def daysI (c y : Int) : Int := max 0 (min (nyear (y + 1) false) c - nyear y false) + max 0 (nyear (y + 1) true - max (nyear y true) c)
def daysR (c y : Int) : Int × Int := if calB c = true then (if inR y 1 2000 = true then (daysI c y, 0) else (0, 2)) else (0, 1)
/-- .. counted up to k. -/
def cntI (c y lo k : Int) : Int := max 0 (min (min (nyear (y + 1) false) c) k - max (nyear y false) lo) + max 0 (min (nyear (y + 1) true) k - max (max (nyear y true) c) lo)
theorem nyear_diff (y : Int) (h1 : 1 ≤ y) (h2 : y ≤ 2001) : nyear y false - 13 ≤ nyear y true ∧ nyear y true ≤ nyear y false + 2 := by
  unfold nyear; simp; omega
theorem cnt_end {c y lo hi : Int} (h1 : 1 ≤ y) (h2 : y ≤ 2000) (hl : lo = max 0 (nyear y false - 20)) (hh : hi = min 730499 (nyear y false + 400)) (hc : 200000 ≤ c) : cntI c y lo (hi + 1) = daysI c y := by
  have a := nyear_diff y h1 (by omega); have b := nyear_diff (y + 1) (by omega) (by omega)
  have s := nyear_succ y false h1; have s' := nyear_succ y true h1
  have e : nyear (y + 1) false ≤ nyear y false + 366 := by rw [s]; split <;> omega
  have e' : nyear (y + 1) true ≤ nyear y true + 366 := by rw [s']; split <;> omega
  have m := nyear_mono false (a := y + 1) (b := 2001) (by omega) (by omega)
  have m' := nyear_mono true (a := y + 1) (b := 2001) (by omega) (by omega)
  have m1 := nyear_mono true (a := 1) (b := y) (by omega) (by omega)
  have n1 := nyear_ends
  clear s s'
  have k1 : min (min (nyear (y + 1) false) c) (hi + 1) = min (nyear (y + 1) false) c := by
    have : nyear (y + 1) false ≤ hi + 1 := by omega
    omega
  have k2 : max (nyear y false) lo = nyear y false := by omega
  have k3 : min (nyear (y + 1) true) (hi + 1) = nyear (y + 1) true := by omega
  have k4 : max (max (nyear y true) c) lo = max (nyear y true) c := by
    have : lo ≤ nyear y true := by omega
    omega
  unfold cntI daysI; rw [k1, k2, k3, k4]
theorem cnt_old {c y lo k : Int} (hk : k < c) (hl : lo ≤ k) : cntI c y lo (k + 1) = cntI c y lo k + if nyear y false ≤ k ∧ k < nyear (y + 1) false then 1 else 0 := by
  unfold cntI; split <;> omega
theorem cnt_new {c y lo k : Int} (hk : c ≤ k) (hl : lo ≤ k) : cntI c y lo (k + 1) = cntI c y lo k + if nyear y true ≤ k ∧ k < nyear (y + 1) true then 1 else 0 := by
  unfold cntI; split <;> omega
theorem cnt_bd {c y lo k : Int} (hl : lo ≤ k) : 0 ≤ cntI c y lo k ∧ cntI c y lo k ≤ 2 * (k - lo) := by unfold cntI; omega
theorem cnt_start (c y lo : Int) : cntI c y lo lo = 0 := by unfold cntI; omega

theorem nySame_any (y : Int) (f : Bool) (w : World) (h : 1 ≤ y) (k : y ≤ 100000) :
    Calls Try.prog 123 #[.int .i64 y, .bool f] w fun e w' => e = .returned (.int .i64 (nyear y f)) ∧ Below w.heap.size w w' :=
  (newYear_any y f w h k).mono fun _ _ ⟨a, b⟩ => ⟨a, b ▸ Below.refl _ _⟩
set_option maxHeartbeats 16000000 in
theorem implDaysOfYear_any (c y : Int) (w : World) :
    Calls Try.prog 77 #[.agg #[.int .i64 c], .int .i64 y] w fun e w' => e = .returned (.tuple #[.int .i64 (daysR c y).1, .int .i64 (daysR c y).2]) ∧ Below w.heap.size w w' := by
  have rg := cell_rg; have l2 : ∀ n : Nat, n < n + 1 + 1 := (fun _ => by omega); have l3 : ∀ n : Nat, n < n + 1 + 1 + 1 := (fun _ => by omega); have l4 : ∀ n : Nat, n < n + 1 + 1 + 1 + 1 := (fun _ => by omega)
  cases hc : calB c
  · have h1 := Lib.hid hc
    have HV : Hid (daysR c y = (0, 1)) := by unfold daysR Hid; rw [hc]; rfl
    clear hc
    go_enter Try.func77, Try.ntmps77
    go_wp2_with (go_at_call 71; (refine (implIsCalendar_is h1.out _).mono ?_; rintro e w' ⟨rfl, hb⟩; obtain ⟨hc, hf⟩ := bcell hb; have hz := bsize hb; (first | (have hB := below_tt hB hb) | (have hB := below_tt (below_al hB _) hb) | (have hB := below_tt (below_al (below_al hB _) _) hb) | (have hB := hb)); obtain ⟨hc0, hf0⟩ := bcell hB; have hz0 := bsize hB; (first | (have h2 := below_tt hp hb; obtain ⟨hc2, hf2⟩ := bcell h2; have hz2 := bsize h2) | (have h2 := below_tt (below_al hp _) hb; obtain ⟨hc2, hf2⟩ := bcell h2; have hz2 := bsize h2) | skip); have hp := hb))
    go_ret2
    exact ⟨by rw [HV.out]; rfl, by (repeat' (first | (with_reducible exact Below.refl _ _) | (with_reducible assumption) | (with_reducible refine below_al ?_ _) | (with_reducible refine Below.drew ?_) | (with_reducible refine Below.setCell ?_ (by first | exact Nat.le_refl _ | (dsimp only; omega) | (simp; omega)) _) | (with_reducible refine below_drewN ?_ _) | (with_reducible refine below_tt ?_ (by assumption))))⟩
  · have h1 := Lib.hid hc
    have hcc := cal_cap hc
    cases hy : inR y 1 2000
    · have h2 := Lib.hid hy
      have HV : Hid (daysR c y = (0, 2)) := by unfold daysR Hid; rw [hc, hy]; rfl
      clear hc hy
      go_enter Try.func77, Try.ntmps77
      go_wp2_with (first | (go_at_call 71; (refine (implIsCalendar_is h1.out _).mono ?_; rintro e w' ⟨rfl, hb⟩; obtain ⟨hc, hf⟩ := bcell hb; have hz := bsize hb; (first | (have hB := below_tt hB hb) | (have hB := below_tt (below_al hB _) hb) | (have hB := below_tt (below_al (below_al hB _) _) hb) | (have hB := hb)); obtain ⟨hc0, hf0⟩ := bcell hB; have hz0 := bsize hB; (first | (have h2 := below_tt hp hb; obtain ⟨hc2, hf2⟩ := bcell h2; have hz2 := bsize h2) | (have h2 := below_tt (below_al hp _) hb; obtain ⟨hc2, hf2⟩ := bcell h2; have hz2 := bsize h2) | skip); have hp := hb)) | (go_at_call 110; refine (within_is h2.out _).mono ?_; rintro e w' ⟨rfl, rfl⟩))
      go_ret2
      exact ⟨by rw [HV.out]; rfl, by (repeat' (first | (with_reducible exact Below.refl _ _) | (with_reducible assumption) | (with_reducible refine below_al ?_ _) | (with_reducible refine Below.drew ?_) | (with_reducible refine Below.setCell ?_ (by first | exact Nat.le_refl _ | (dsimp only; omega) | (simp; omega)) _) | (with_reducible refine below_drewN ?_ _) | (with_reducible refine below_tt ?_ (by assumption))))⟩
    · have h2 := Lib.hid hy
      have HV : Hid (daysR c y = (daysI c y, 0)) := by unfold daysR Hid; rw [hc, hy]; rfl
      obtain ⟨hb1, hb2⟩ := inR_t hy
      have b1 := nyear_lo y false hb1 (by omega)
      have b2 := nyear_lo y true hb1 (by omega)
      have b3 := nyear_lo (y + 1) false (by omega) (by omega)
      have b4 := nyear_lo (y + 1) true (by omega) (by omega)
      clear hc hy
      have hD : Hid (daysI c y = max 0 (min (nyear (y + 1) false) c - nyear y false) + max 0 (nyear (y + 1) true - max (nyear y true) c)) := rfl
      have mo := nyear_mono false (a := y) (b := y + 1) hb1 (by omega)
      have mn := nyear_mono true (a := y) (b := y + 1) hb1 (by omega)
      by_cases q1 : c < nyear (y + 1) false
      all_goals by_cases q2 : nyear y false < c
      all_goals by_cases q3 : nyear y true < c
      all_goals by_cases q4 : c < nyear (y + 1) true
      all_goals first | (exfalso; omega) | skip
      all_goals
        go_enter Try.func77, Try.ntmps77
        go_wp2_with (first | (go_at_call 71; (refine (implIsCalendar_is h1.out _).mono ?_; rintro e w' ⟨rfl, hb⟩; obtain ⟨hc, hf⟩ := bcell hb; have hz := bsize hb; (first | (have hB := below_tt hB hb) | (have hB := below_tt (below_al hB _) hb) | (have hB := below_tt (below_al (below_al hB _) _) hb) | (have hB := hb)); obtain ⟨hc0, hf0⟩ := bcell hB; have hz0 := bsize hB; (first | (have h2 := below_tt hp hb; obtain ⟨hc2, hf2⟩ := bcell h2; have hz2 := bsize h2) | (have h2 := below_tt (below_al hp _) hb; obtain ⟨hc2, hf2⟩ := bcell h2; have hz2 := bsize h2) | skip); have hp := hb)) | (go_at_call 110; refine (within_is h2.out _).mono ?_; rintro e w' ⟨rfl, rfl⟩))
        (refine wp_region_quiet_below (by kernel_rfl) (by kernel_rfl) ?_; (repeat (go_big_quiet_step ((go_at_call 123; exact Calls.regrown_of (nySame_any _ _ _ (by omega) (by omega)))))); refine wpQuiet_nil ?_; intro w9 hw9; have hb := below_of_regrown hw9; clear hw9; obtain ⟨hc, hf⟩ := bcell hb; have hz := bsize hb; (first | (have hB := below_tt hB hb) | (have hB := below_tt (below_al hB _) hb) | (have hB := below_tt (below_al (below_al hB _) _) hb) | (have hB := hb)); obtain ⟨hc0, hf0⟩ := bcell hB; have hz0 := bsize hB; (first | (have h2 := below_tt hp hb; obtain ⟨hc2, hf2⟩ := bcell h2; have hz2 := bsize h2) | (have h2 := below_tt (below_al hp _) hb; obtain ⟨hc2, hf2⟩ := bcell h2; have hz2 := bsize h2) | skip); have hp := hb)
        go_wp2
        (refine wp_region_quiet_below (by kernel_rfl) (by kernel_rfl) ?_; (repeat (go_big_quiet_step ((go_at_call 123; exact Calls.regrown_of (nySame_any _ _ _ (by omega) (by omega)))))); refine wpQuiet_nil ?_; intro w9 hw9; have hb := below_of_regrown hw9; clear hw9; obtain ⟨hc, hf⟩ := bcell hb; have hz := bsize hb; (first | (have hB := below_tt hB hb) | (have hB := below_tt (below_al hB _) hb) | (have hB := below_tt (below_al (below_al hB _) _) hb) | (have hB := hb)); obtain ⟨hc0, hf0⟩ := bcell hB; have hz0 := bsize hB; (first | (have h2 := below_tt hp hb; obtain ⟨hc2, hf2⟩ := bcell h2; have hz2 := bsize h2) | (have h2 := below_tt (below_al hp _) hb; obtain ⟨hc2, hf2⟩ := bcell h2; have hz2 := bsize h2) | skip); have hp := hb)
        go_wp2
        go_ret2
        refine ⟨ret_two ?_ ?_, by (repeat' (first | (with_reducible exact Below.refl _ _) | (with_reducible assumption) | (with_reducible refine below_al ?_ _) | (with_reducible refine Below.drew ?_) | (with_reducible refine Below.setCell ?_ (by first | exact Nat.le_refl _ | (dsimp only; omega) | (simp; omega)) _) | (with_reducible refine below_drewN ?_ _) | (with_reducible refine below_tt ?_ (by assumption))))⟩
        · rw [HV.out]; show _ = daysI c y; rw [hD.out]; omega
        · rw [HV.out]

set_option maxHeartbeats 16000000 in
theorem specDaysOfYear_any (c y : Int) (w : World) :
    Calls Try.prog 78 #[.agg #[.int .i64 c], .int .i64 y] w fun e w' => e = .returned (.tuple #[.int .i64 (daysR c y).1, .int .i64 (daysR c y).2]) ∧ Below w.heap.size w w' := by
  have rg := cell_rg; have l2 : ∀ n : Nat, n < n + 1 + 1 := (fun _ => by omega); have l3 : ∀ n : Nat, n < n + 1 + 1 + 1 := (fun _ => by omega); have l4 : ∀ n : Nat, n < n + 1 + 1 + 1 + 1 := (fun _ => by omega)
  cases hc : calB c
  · have h1 := Lib.hid hc
    have HV : Hid (daysR c y = (0, 1)) := by unfold daysR Hid; rw [hc]; rfl
    clear hc
    go_enter Try.func78, Try.ntmps78
    go_wp2_with (go_at_call 72; (refine (specIsCalendar_is h1.out _).mono ?_; rintro e w' ⟨rfl, hb⟩; obtain ⟨hc, hf⟩ := bcell hb; have hz := bsize hb; (first | (have hB := below_tt hB hb) | (have hB := below_tt (below_al hB _) hb) | (have hB := below_tt (below_al (below_al hB _) _) hb) | (have hB := hb)); obtain ⟨hc0, hf0⟩ := bcell hB; have hz0 := bsize hB; (first | (have h2 := below_tt hp hb; obtain ⟨hc2, hf2⟩ := bcell h2; have hz2 := bsize h2) | (have h2 := below_tt (below_al hp _) hb; obtain ⟨hc2, hf2⟩ := bcell h2; have hz2 := bsize h2) | skip); have hp := hb))
    go_ret2
    exact ⟨by rw [HV.out]; rfl, by (repeat' (first | (with_reducible exact Below.refl _ _) | (with_reducible assumption) | (with_reducible refine below_al ?_ _) | (with_reducible refine Below.drew ?_) | (with_reducible refine Below.setCell ?_ (by first | exact Nat.le_refl _ | (dsimp only; omega) | (simp; omega)) _) | (with_reducible refine below_drewN ?_ _) | (with_reducible refine below_tt ?_ (by assumption))))⟩
  · have h1 := Lib.hid hc
    have hcc := cal_cap hc
    cases hy : inR y 1 2000
    · have h2 := Lib.hid hy
      have HV : Hid (daysR c y = (0, 2)) := by unfold daysR Hid; rw [hc, hy]; rfl
      clear hc hy
      go_enter Try.func78, Try.ntmps78
      go_wp2_with (first | (go_at_call 72; (refine (specIsCalendar_is h1.out _).mono ?_; rintro e w' ⟨rfl, hb⟩; obtain ⟨hc, hf⟩ := bcell hb; have hz := bsize hb; (first | (have hB := below_tt hB hb) | (have hB := below_tt (below_al hB _) hb) | (have hB := below_tt (below_al (below_al hB _) _) hb) | (have hB := hb)); obtain ⟨hc0, hf0⟩ := bcell hB; have hz0 := bsize hB; (first | (have h2 := below_tt hp hb; obtain ⟨hc2, hf2⟩ := bcell h2; have hz2 := bsize h2) | (have h2 := below_tt (below_al hp _) hb; obtain ⟨hc2, hf2⟩ := bcell h2; have hz2 := bsize h2) | skip); have hp := hb)) | (go_at_call 88; refine (l01In_is h2.out _).mono ?_; rintro e w' ⟨rfl, rfl⟩))
      go_ret2
      exact ⟨by rw [HV.out]; rfl, by (repeat' (first | (with_reducible exact Below.refl _ _) | (with_reducible assumption) | (with_reducible refine below_al ?_ _) | (with_reducible refine Below.drew ?_) | (with_reducible refine Below.setCell ?_ (by first | exact Nat.le_refl _ | (dsimp only; omega) | (simp; omega)) _) | (with_reducible refine below_drewN ?_ _) | (with_reducible refine below_tt ?_ (by assumption))))⟩
    · have h2 := Lib.hid hy
      have HV : Hid (daysR c y = (daysI c y, 0)) := by unfold daysR Hid; rw [hc, hy]; rfl
      obtain ⟨hb1, hb2⟩ := inR_t hy
      have b1 := nyear_lo y false hb1 (by omega)
      have b2 := nyear_lo y true hb1 (by omega)
      have b3 := nyear_lo (y + 1) false (by omega) (by omega)
      have b4 := nyear_lo (y + 1) true (by omega) (by omega)
      clear hc hy
      have hlo : Hid (∀ x, x = max 0 (nyear y false - 20) → True) := fun _ _ => trivial
      clear hlo
      obtain ⟨lo, hlo⟩ : ∃ lo, lo = max 0 (nyear y false - 20) := ⟨_, rfl⟩
      obtain ⟨hi, hhi⟩ : ∃ hi, hi = min 730499 (nyear y false + 400) := ⟨_, rfl⟩
      have hend := Lib.hid (cnt_end (c := c) hb1 hb2 hlo hhi hcc.1)
      have g1 : 0 ≤ lo := by omega
      have g2 : hi ≤ 730499 := by omega
      have g3 : lo ≤ hi + 1 := by
        have := nyear_mono false (a := y) (b := 2001) hb1 (by omega); have := nyear_ends.2.1; omega
      have e0 : 0 ≤ nyear y false - 20 → lo = nyear y false - 20 := by omega
      have e1 : nyear y false - 20 ≤ 0 → lo = 0 := by omega
      have e2 : nyear y false + 400 < 730499 → hi = nyear y false + 400 := by omega
      have e3 : ¬ nyear y false + 400 < 730499 → hi = 730499 := by omega
      clear hlo hhi
      have E0 := Lib.hid e0
      have E1 := Lib.hid e1
      have E2 := Lib.hid e2
      have E3 := Lib.hid e3
      clear e0 e1 e2 e3
      by_cases q1 : 0 < nyear y false - 20
      · by_cases q2 : nyear y false + 400 < 730499
        · have hx : (hi ≤ nyear y false + 400 ∧ (nyear y false + 400 < 730499 → nyear y false + 400 ≤ hi)) ∧ (¬ nyear y false + 400 < 730499 → 730499 ≤ hi) := ⟨⟨by first | (have := E2.out q2; omega) | (have := E3.out q2; omega), fun h => by have := E2.out h; omega⟩, fun h => by have := E3.out h; omega⟩
          have hx1 := hx.1.1
          have hx2 : nyear y false + 400 ≤ hi ∨ 730499 ≤ hi := by first | exact Or.inl (hx.1.2 q2) | exact Or.inr (hx.2 q2)
          have HX2 := Lib.hid hx2
          clear hx hx2
          go_enter Try.func78, Try.ntmps78
          go_wp2_with (first | (go_at_call 72; (refine (specIsCalendar_is h1.out _).mono ?_; rintro e w' ⟨rfl, hb⟩; obtain ⟨hc, hf⟩ := bcell hb; have hz := bsize hb; (first | (have hB := below_tt hB hb) | (have hB := below_tt (below_al hB _) hb) | (have hB := below_tt (below_al (below_al hB _) _) hb) | (have hB := hb)); obtain ⟨hc0, hf0⟩ := bcell hB; have hz0 := bsize hB; (first | (have h2 := below_tt hp hb; obtain ⟨hc2, hf2⟩ := bcell h2; have hz2 := bsize h2) | (have h2 := below_tt (below_al hp _) hb; obtain ⟨hc2, hf2⟩ := bcell h2; have hz2 := bsize h2) | skip); have hp := hb)) | (go_at_call 88; refine (l01In_is h2.out _).mono ?_; rintro e w' ⟨rfl, rfl⟩) | (go_at_call 117; (refine (sJan_any _ _ _ hb1 (by omega)).mono ?_; rintro e w' ⟨rfl, hb⟩; obtain ⟨hc, hf⟩ := bcell hb; have hz := bsize hb; (first | (have hB := below_tt hB hb) | (have hB := below_tt (below_al hB _) hb) | (have hB := below_tt (below_al (below_al hB _) _) hb) | (have hB := hb)); obtain ⟨hc0, hf0⟩ := bcell hB; have hz0 := bsize hB; (first | (have h2 := below_tt hp hb; obtain ⟨hc2, hf2⟩ := bcell h2; have hz2 := bsize h2) | (have h2 := below_tt (below_al hp _) hb; obtain ⟨hc2, hf2⟩ := bcell h2; have hz2 := bsize h2) | skip); have hp := hb)))
          go_loopw [6, 8] (fun s6 s8 wr => ∃ k : Int, lo ≤ k ∧ k ≤ hi + 1 ∧ s6 = .int .i64 (cntI c y lo k) ∧ s8 = .int .i64 k ∧ Below w.heap.size w wr ∧ (wr.cell? ⟨w.heap.size, 0, none⟩ = some (.int .i64 c)) ∧ w.heap.size < wr.heap.size) (fun _ s8 _ => (hi + 1 - intOf s8).toNat)
          case atStart =>
            first | (have := E0.out (by omega)) | (have := E1.out (by omega))
            subst this
            exact ⟨_, Int.le_refl _, g3, congrArg (Value.int .i64) (cnt_start c y _).symm, rfl, by (repeat' (first | (with_reducible exact Below.refl _ _) | (with_reducible assumption) | (with_reducible refine below_al ?_ _) | (with_reducible refine Below.drew ?_) | (with_reducible refine Below.setCell ?_ (by first | exact Nat.le_refl _ | (dsimp only; omega) | (simp; omega)) _) | (with_reducible refine below_drewN ?_ _) | (with_reducible refine below_tt ?_ (by assumption)))), by simp [*], by simp [*]⟩
          case round =>
            obtain ⟨k, hk1, hk2, rfl, rfl, hbl, hcell, hsz⟩ := hrel
            have hcb := cnt_bd (c := c) (y := y) hk1
            by_cases hle : k ≤ hi
            · have hk3 : k ≤ nyear y false + 400 := by omega
              by_cases hkc : k < c
              · have n1 : nyear 1 false ≤ k := by rw [nyear_ends.1]; omega
                have n2 : k < nyear 2001 false := by rw [nyear_ends.2.1]; omega
                have hdy := dat_year n1 n2 hb1
                by_cases hyy : (dat k false).1 = y
                · have HC : Hid (cntI c y lo (k + 1) = cntI c y lo k + 1) := by unfold Hid; rw [cnt_old hkc hk1, if_pos (hdy.1 hyy)]
                  have he : ((dat k false).1 == y) = true := by simp [hyy]
                  clear hdy hyy
                  go_wp2_with fail
                  refine (l03Date_old hkc (by omega) (by omega) _).mono ?_
                  rintro e w1 ⟨rfl, hb⟩
                  have hz1 := bsize hb
                  go_wp2
                  go_roundw
                  case rel =>
                    refine ⟨k + 1, by omega, by omega, ?_, rfl, by (repeat' (first | (with_reducible exact Below.refl _ _) | (with_reducible assumption) | (with_reducible refine below_al ?_ _) | (with_reducible refine Below.drew ?_) | (with_reducible refine Below.setCell ?_ (by first | exact Nat.le_refl _ | (dsimp only; omega) | (simp; omega)) _) | (with_reducible refine below_drewN ?_ _) | (with_reducible refine below_tt ?_ (by assumption)))), ?_, ?_⟩
                    · rw [HC.out]; try rfl
                    · rw [World.cell?_alloc_past (hn := hz1 _ hsz)]; exact (hb.cell (p := ⟨w.heap.size, 0, none⟩) hsz).trans hcell
                    · have := hz1 _ hsz; simp; omega
                  case measure => simp [intOf]; omega
                · have HC : Hid (cntI c y lo (k + 1) = cntI c y lo k) := by unfold Hid; rw [cnt_old hkc hk1, if_neg (fun h => hyy (hdy.2 h))]; omega
                  have he : ((dat k false).1 == y) = false := by simp [hyy]
                  clear hdy hyy
                  go_wp2_with fail
                  refine (l03Date_old hkc (by omega) (by omega) _).mono ?_
                  rintro e w1 ⟨rfl, hb⟩
                  have hz1 := bsize hb
                  go_wp2
                  go_roundw
                  case rel =>
                    refine ⟨k + 1, by omega, by omega, ?_, rfl, by (repeat' (first | (with_reducible exact Below.refl _ _) | (with_reducible assumption) | (with_reducible refine below_al ?_ _) | (with_reducible refine Below.drew ?_) | (with_reducible refine Below.setCell ?_ (by first | exact Nat.le_refl _ | (dsimp only; omega) | (simp; omega)) _) | (with_reducible refine below_drewN ?_ _) | (with_reducible refine below_tt ?_ (by assumption)))), ?_, ?_⟩
                    · rw [HC.out]; try rfl
                    · rw [World.cell?_alloc_past (hn := hz1 _ hsz)]; exact (hb.cell (p := ⟨w.heap.size, 0, none⟩) hsz).trans hcell
                    · have := hz1 _ hsz; simp; omega
                  case measure => simp [intOf]; omega
              · have n1 : nyear 1 true ≤ k := by rw [nyear_ends.2.2.1]; omega
                by_cases hkn : k < 730487
                · have n2 : k < nyear 2001 true := by rw [nyear_ends.2.2.2]; omega
                  have hdy := dat_year n1 n2 hb1
                  have hnew := l03Date_new (c := c) (n := k) (by omega) (by omega) (by omega) (show sdat k true = ((dat k true).1, (dat k true).2.1, (dat k true).2.2) from sdat_in n2) (dat_good n1 n2)
                  have HN := Lib.hid hnew
                  clear hnew
                  by_cases hyy : (dat k true).1 = y
                  · have HC : Hid (cntI c y lo (k + 1) = cntI c y lo k + 1) := by unfold Hid; rw [cnt_new (by omega) hk1, if_pos (hdy.1 hyy)]
                    have he : ((dat k true).1 == y) = true := by simp [hyy]
                    clear hdy hyy
                    go_wp2_with fail
                    refine (HN.out _).mono ?_
                    rintro e w1 ⟨rfl, hb⟩
                    have hz1 := bsize hb
                    go_wp2
                    go_roundw
                    case rel =>
                      refine ⟨k + 1, by omega, by omega, ?_, rfl, by (repeat' (first | (with_reducible exact Below.refl _ _) | (with_reducible assumption) | (with_reducible refine below_al ?_ _) | (with_reducible refine Below.drew ?_) | (with_reducible refine Below.setCell ?_ (by first | exact Nat.le_refl _ | (dsimp only; omega) | (simp; omega)) _) | (with_reducible refine below_drewN ?_ _) | (with_reducible refine below_tt ?_ (by assumption)))), ?_, ?_⟩
                      · rw [HC.out]; try rfl
                      · rw [World.cell?_alloc_past (hn := hz1 _ hsz)]; exact (hb.cell (p := ⟨w.heap.size, 0, none⟩) hsz).trans hcell
                      · have := hz1 _ hsz; simp; omega
                    case measure => simp [intOf]; omega
                  · have HC : Hid (cntI c y lo (k + 1) = cntI c y lo k) := by unfold Hid; rw [cnt_new (by omega) hk1, if_neg (fun h => hyy (hdy.2 h))]; omega
                    have he : ((dat k true).1 == y) = false := by simp [hyy]
                    clear hdy hyy
                    go_wp2_with fail
                    refine (HN.out _).mono ?_
                    rintro e w1 ⟨rfl, hb⟩
                    have hz1 := bsize hb
                    go_wp2
                    go_roundw
                    case rel =>
                      refine ⟨k + 1, by omega, by omega, ?_, rfl, by (repeat' (first | (with_reducible exact Below.refl _ _) | (with_reducible assumption) | (with_reducible refine below_al ?_ _) | (with_reducible refine Below.drew ?_) | (with_reducible refine Below.setCell ?_ (by first | exact Nat.le_refl _ | (dsimp only; omega) | (simp; omega)) _) | (with_reducible refine below_drewN ?_ _) | (with_reducible refine below_tt ?_ (by assumption)))), ?_, ?_⟩
                      · rw [HC.out]; try rfl
                      · rw [World.cell?_alloc_past (hn := hz1 _ hsz)]; exact (hb.cell (p := ⟨w.heap.size, 0, none⟩) hsz).trans hcell
                      · have := hz1 _ hsz; simp; omega
                    case measure => simp [intOf]; omega
                · have hnew := l03Date_new (c := c) (n := k) (by omega) (by omega) (by omega) (rfl : sdat k true = ((sdat k true).1, (sdat k true).2.1, (sdat k true).2.2)) (sdat_bad (by omega))
                  have HN := Lib.hid hnew
                  have HC : Hid (cntI c y lo (k + 1) = cntI c y lo k) := by
                    have m := nyear_mono true (a := y + 1) (b := 2001) (by omega) (by omega)
                    have := nyear_ends.2.2.2
                    unfold Hid; rw [cnt_new (by omega) hk1, if_neg (by omega)]; omega
                  clear hnew
                  go_wp2_with fail
                  refine (HN.out _).mono ?_
                  rintro e w1 ⟨rfl, hb⟩
                  have hz1 := bsize hb
                  go_wp2
                  go_roundw
                  case rel =>
                    refine ⟨k + 1, by omega, by omega, ?_, rfl, by (repeat' (first | (with_reducible exact Below.refl _ _) | (with_reducible assumption) | (with_reducible refine below_al ?_ _) | (with_reducible refine Below.drew ?_) | (with_reducible refine Below.setCell ?_ (by first | exact Nat.le_refl _ | (dsimp only; omega) | (simp; omega)) _) | (with_reducible refine below_drewN ?_ _) | (with_reducible refine below_tt ?_ (by assumption)))), ?_, ?_⟩
                    · rw [HC.out]; try rfl
                    · rw [World.cell?_alloc_past (hn := hz1 _ hsz)]; exact (hb.cell (p := ⟨w.heap.size, 0, none⟩) hsz).trans hcell
                    · have := hz1 _ hsz; simp; omega
                  case measure => simp [intOf]; omega
            · obtain rfl : k = hi + 1 := by omega
              have hk3 : nyear y false + 400 < hi + 1 ∨ 730499 < hi + 1 := by have := HX2.out; omega
              have HV2 : Hid (cntI c y lo (hi + 1) = (daysR c y).1) := by unfold Hid; rw [hend.out, HV.out]
              rcases hk3 with hk3 | hk3
              all_goals first | (exfalso; omega) | skip
              all_goals
                go_wp2
                go_ret2
                exact ⟨ret_two HV2.out (by rw [HV.out]), hbl⟩
        · have hx : (hi ≤ nyear y false + 400 ∧ (nyear y false + 400 < 730499 → nyear y false + 400 ≤ hi)) ∧ (¬ nyear y false + 400 < 730499 → 730499 ≤ hi) := ⟨⟨by first | (have := E2.out q2; omega) | (have := E3.out q2; omega), fun h => by have := E2.out h; omega⟩, fun h => by have := E3.out h; omega⟩
          have hx1 := hx.1.1
          have hx2 : nyear y false + 400 ≤ hi ∨ 730499 ≤ hi := by first | exact Or.inl (hx.1.2 q2) | exact Or.inr (hx.2 q2)
          have HX2 := Lib.hid hx2
          clear hx hx2
          go_enter Try.func78, Try.ntmps78
          go_wp2_with (first | (go_at_call 72; (refine (specIsCalendar_is h1.out _).mono ?_; rintro e w' ⟨rfl, hb⟩; obtain ⟨hc, hf⟩ := bcell hb; have hz := bsize hb; (first | (have hB := below_tt hB hb) | (have hB := below_tt (below_al hB _) hb) | (have hB := below_tt (below_al (below_al hB _) _) hb) | (have hB := hb)); obtain ⟨hc0, hf0⟩ := bcell hB; have hz0 := bsize hB; (first | (have h2 := below_tt hp hb; obtain ⟨hc2, hf2⟩ := bcell h2; have hz2 := bsize h2) | (have h2 := below_tt (below_al hp _) hb; obtain ⟨hc2, hf2⟩ := bcell h2; have hz2 := bsize h2) | skip); have hp := hb)) | (go_at_call 88; refine (l01In_is h2.out _).mono ?_; rintro e w' ⟨rfl, rfl⟩) | (go_at_call 117; (refine (sJan_any _ _ _ hb1 (by omega)).mono ?_; rintro e w' ⟨rfl, hb⟩; obtain ⟨hc, hf⟩ := bcell hb; have hz := bsize hb; (first | (have hB := below_tt hB hb) | (have hB := below_tt (below_al hB _) hb) | (have hB := below_tt (below_al (below_al hB _) _) hb) | (have hB := hb)); obtain ⟨hc0, hf0⟩ := bcell hB; have hz0 := bsize hB; (first | (have h2 := below_tt hp hb; obtain ⟨hc2, hf2⟩ := bcell h2; have hz2 := bsize h2) | (have h2 := below_tt (below_al hp _) hb; obtain ⟨hc2, hf2⟩ := bcell h2; have hz2 := bsize h2) | skip); have hp := hb)))
          go_loopw [6, 8] (fun s6 s8 wr => ∃ k : Int, lo ≤ k ∧ k ≤ hi + 1 ∧ s6 = .int .i64 (cntI c y lo k) ∧ s8 = .int .i64 k ∧ Below w.heap.size w wr ∧ (wr.cell? ⟨w.heap.size, 0, none⟩ = some (.int .i64 c)) ∧ w.heap.size < wr.heap.size) (fun _ s8 _ => (hi + 1 - intOf s8).toNat)
          case atStart =>
            first | (have := E0.out (by omega)) | (have := E1.out (by omega))
            subst this
            exact ⟨_, Int.le_refl _, g3, congrArg (Value.int .i64) (cnt_start c y _).symm, rfl, by (repeat' (first | (with_reducible exact Below.refl _ _) | (with_reducible assumption) | (with_reducible refine below_al ?_ _) | (with_reducible refine Below.drew ?_) | (with_reducible refine Below.setCell ?_ (by first | exact Nat.le_refl _ | (dsimp only; omega) | (simp; omega)) _) | (with_reducible refine below_drewN ?_ _) | (with_reducible refine below_tt ?_ (by assumption)))), by simp [*], by simp [*]⟩
          case round =>
            obtain ⟨k, hk1, hk2, rfl, rfl, hbl, hcell, hsz⟩ := hrel
            have hcb := cnt_bd (c := c) (y := y) hk1
            by_cases hle : k ≤ hi
            · have hk3 : k ≤ nyear y false + 400 := by omega
              by_cases hkc : k < c
              · have n1 : nyear 1 false ≤ k := by rw [nyear_ends.1]; omega
                have n2 : k < nyear 2001 false := by rw [nyear_ends.2.1]; omega
                have hdy := dat_year n1 n2 hb1
                by_cases hyy : (dat k false).1 = y
                · have HC : Hid (cntI c y lo (k + 1) = cntI c y lo k + 1) := by unfold Hid; rw [cnt_old hkc hk1, if_pos (hdy.1 hyy)]
                  have he : ((dat k false).1 == y) = true := by simp [hyy]
                  clear hdy hyy
                  go_wp2_with fail
                  refine (l03Date_old hkc (by omega) (by omega) _).mono ?_
                  rintro e w1 ⟨rfl, hb⟩
                  have hz1 := bsize hb
                  go_wp2
                  go_roundw
                  case rel =>
                    refine ⟨k + 1, by omega, by omega, ?_, rfl, by (repeat' (first | (with_reducible exact Below.refl _ _) | (with_reducible assumption) | (with_reducible refine below_al ?_ _) | (with_reducible refine Below.drew ?_) | (with_reducible refine Below.setCell ?_ (by first | exact Nat.le_refl _ | (dsimp only; omega) | (simp; omega)) _) | (with_reducible refine below_drewN ?_ _) | (with_reducible refine below_tt ?_ (by assumption)))), ?_, ?_⟩
                    · rw [HC.out]; try rfl
                    · rw [World.cell?_alloc_past (hn := hz1 _ hsz)]; exact (hb.cell (p := ⟨w.heap.size, 0, none⟩) hsz).trans hcell
                    · have := hz1 _ hsz; simp; omega
                  case measure => simp [intOf]; omega
                · have HC : Hid (cntI c y lo (k + 1) = cntI c y lo k) := by unfold Hid; rw [cnt_old hkc hk1, if_neg (fun h => hyy (hdy.2 h))]; omega
                  have he : ((dat k false).1 == y) = false := by simp [hyy]
                  clear hdy hyy
                  go_wp2_with fail
                  refine (l03Date_old hkc (by omega) (by omega) _).mono ?_
                  rintro e w1 ⟨rfl, hb⟩
                  have hz1 := bsize hb
                  go_wp2
                  go_roundw
                  case rel =>
                    refine ⟨k + 1, by omega, by omega, ?_, rfl, by (repeat' (first | (with_reducible exact Below.refl _ _) | (with_reducible assumption) | (with_reducible refine below_al ?_ _) | (with_reducible refine Below.drew ?_) | (with_reducible refine Below.setCell ?_ (by first | exact Nat.le_refl _ | (dsimp only; omega) | (simp; omega)) _) | (with_reducible refine below_drewN ?_ _) | (with_reducible refine below_tt ?_ (by assumption)))), ?_, ?_⟩
                    · rw [HC.out]; try rfl
                    · rw [World.cell?_alloc_past (hn := hz1 _ hsz)]; exact (hb.cell (p := ⟨w.heap.size, 0, none⟩) hsz).trans hcell
                    · have := hz1 _ hsz; simp; omega
                  case measure => simp [intOf]; omega
              · have n1 : nyear 1 true ≤ k := by rw [nyear_ends.2.2.1]; omega
                by_cases hkn : k < 730487
                · have n2 : k < nyear 2001 true := by rw [nyear_ends.2.2.2]; omega
                  have hdy := dat_year n1 n2 hb1
                  have hnew := l03Date_new (c := c) (n := k) (by omega) (by omega) (by omega) (show sdat k true = ((dat k true).1, (dat k true).2.1, (dat k true).2.2) from sdat_in n2) (dat_good n1 n2)
                  have HN := Lib.hid hnew
                  clear hnew
                  by_cases hyy : (dat k true).1 = y
                  · have HC : Hid (cntI c y lo (k + 1) = cntI c y lo k + 1) := by unfold Hid; rw [cnt_new (by omega) hk1, if_pos (hdy.1 hyy)]
                    have he : ((dat k true).1 == y) = true := by simp [hyy]
                    clear hdy hyy
                    go_wp2_with fail
                    refine (HN.out _).mono ?_
                    rintro e w1 ⟨rfl, hb⟩
                    have hz1 := bsize hb
                    go_wp2
                    go_roundw
                    case rel =>
                      refine ⟨k + 1, by omega, by omega, ?_, rfl, by (repeat' (first | (with_reducible exact Below.refl _ _) | (with_reducible assumption) | (with_reducible refine below_al ?_ _) | (with_reducible refine Below.drew ?_) | (with_reducible refine Below.setCell ?_ (by first | exact Nat.le_refl _ | (dsimp only; omega) | (simp; omega)) _) | (with_reducible refine below_drewN ?_ _) | (with_reducible refine below_tt ?_ (by assumption)))), ?_, ?_⟩
                      · rw [HC.out]; try rfl
                      · rw [World.cell?_alloc_past (hn := hz1 _ hsz)]; exact (hb.cell (p := ⟨w.heap.size, 0, none⟩) hsz).trans hcell
                      · have := hz1 _ hsz; simp; omega
                    case measure => simp [intOf]; omega
                  · have HC : Hid (cntI c y lo (k + 1) = cntI c y lo k) := by unfold Hid; rw [cnt_new (by omega) hk1, if_neg (fun h => hyy (hdy.2 h))]; omega
                    have he : ((dat k true).1 == y) = false := by simp [hyy]
                    clear hdy hyy
                    go_wp2_with fail
                    refine (HN.out _).mono ?_
                    rintro e w1 ⟨rfl, hb⟩
                    have hz1 := bsize hb
                    go_wp2
                    go_roundw
                    case rel =>
                      refine ⟨k + 1, by omega, by omega, ?_, rfl, by (repeat' (first | (with_reducible exact Below.refl _ _) | (with_reducible assumption) | (with_reducible refine below_al ?_ _) | (with_reducible refine Below.drew ?_) | (with_reducible refine Below.setCell ?_ (by first | exact Nat.le_refl _ | (dsimp only; omega) | (simp; omega)) _) | (with_reducible refine below_drewN ?_ _) | (with_reducible refine below_tt ?_ (by assumption)))), ?_, ?_⟩
                      · rw [HC.out]; try rfl
                      · rw [World.cell?_alloc_past (hn := hz1 _ hsz)]; exact (hb.cell (p := ⟨w.heap.size, 0, none⟩) hsz).trans hcell
                      · have := hz1 _ hsz; simp; omega
                    case measure => simp [intOf]; omega
                · have hnew := l03Date_new (c := c) (n := k) (by omega) (by omega) (by omega) (rfl : sdat k true = ((sdat k true).1, (sdat k true).2.1, (sdat k true).2.2)) (sdat_bad (by omega))
                  have HN := Lib.hid hnew
                  have HC : Hid (cntI c y lo (k + 1) = cntI c y lo k) := by
                    have m := nyear_mono true (a := y + 1) (b := 2001) (by omega) (by omega)
                    have := nyear_ends.2.2.2
                    unfold Hid; rw [cnt_new (by omega) hk1, if_neg (by omega)]; omega
                  clear hnew
                  go_wp2_with fail
                  refine (HN.out _).mono ?_
                  rintro e w1 ⟨rfl, hb⟩
                  have hz1 := bsize hb
                  go_wp2
                  go_roundw
                  case rel =>
                    refine ⟨k + 1, by omega, by omega, ?_, rfl, by (repeat' (first | (with_reducible exact Below.refl _ _) | (with_reducible assumption) | (with_reducible refine below_al ?_ _) | (with_reducible refine Below.drew ?_) | (with_reducible refine Below.setCell ?_ (by first | exact Nat.le_refl _ | (dsimp only; omega) | (simp; omega)) _) | (with_reducible refine below_drewN ?_ _) | (with_reducible refine below_tt ?_ (by assumption)))), ?_, ?_⟩
                    · rw [HC.out]; try rfl
                    · rw [World.cell?_alloc_past (hn := hz1 _ hsz)]; exact (hb.cell (p := ⟨w.heap.size, 0, none⟩) hsz).trans hcell
                    · have := hz1 _ hsz; simp; omega
                  case measure => simp [intOf]; omega
            · obtain rfl : k = hi + 1 := by omega
              have hk3 : nyear y false + 400 < hi + 1 ∨ 730499 < hi + 1 := by have := HX2.out; omega
              have HV2 : Hid (cntI c y lo (hi + 1) = (daysR c y).1) := by unfold Hid; rw [hend.out, HV.out]
              rcases hk3 with hk3 | hk3
              all_goals first | (exfalso; omega) | skip
              all_goals
                go_wp2
                go_ret2
                exact ⟨ret_two HV2.out (by rw [HV.out]), hbl⟩
      · by_cases q2 : nyear y false + 400 < 730499
        · have hx : (hi ≤ nyear y false + 400 ∧ (nyear y false + 400 < 730499 → nyear y false + 400 ≤ hi)) ∧ (¬ nyear y false + 400 < 730499 → 730499 ≤ hi) := ⟨⟨by first | (have := E2.out q2; omega) | (have := E3.out q2; omega), fun h => by have := E2.out h; omega⟩, fun h => by have := E3.out h; omega⟩
          have hx1 := hx.1.1
          have hx2 : nyear y false + 400 ≤ hi ∨ 730499 ≤ hi := by first | exact Or.inl (hx.1.2 q2) | exact Or.inr (hx.2 q2)
          have HX2 := Lib.hid hx2
          clear hx hx2
          go_enter Try.func78, Try.ntmps78
          go_wp2_with (first | (go_at_call 72; (refine (specIsCalendar_is h1.out _).mono ?_; rintro e w' ⟨rfl, hb⟩; obtain ⟨hc, hf⟩ := bcell hb; have hz := bsize hb; (first | (have hB := below_tt hB hb) | (have hB := below_tt (below_al hB _) hb) | (have hB := below_tt (below_al (below_al hB _) _) hb) | (have hB := hb)); obtain ⟨hc0, hf0⟩ := bcell hB; have hz0 := bsize hB; (first | (have h2 := below_tt hp hb; obtain ⟨hc2, hf2⟩ := bcell h2; have hz2 := bsize h2) | (have h2 := below_tt (below_al hp _) hb; obtain ⟨hc2, hf2⟩ := bcell h2; have hz2 := bsize h2) | skip); have hp := hb)) | (go_at_call 88; refine (l01In_is h2.out _).mono ?_; rintro e w' ⟨rfl, rfl⟩) | (go_at_call 117; (refine (sJan_any _ _ _ hb1 (by omega)).mono ?_; rintro e w' ⟨rfl, hb⟩; obtain ⟨hc, hf⟩ := bcell hb; have hz := bsize hb; (first | (have hB := below_tt hB hb) | (have hB := below_tt (below_al hB _) hb) | (have hB := below_tt (below_al (below_al hB _) _) hb) | (have hB := hb)); obtain ⟨hc0, hf0⟩ := bcell hB; have hz0 := bsize hB; (first | (have h2 := below_tt hp hb; obtain ⟨hc2, hf2⟩ := bcell h2; have hz2 := bsize h2) | (have h2 := below_tt (below_al hp _) hb; obtain ⟨hc2, hf2⟩ := bcell h2; have hz2 := bsize h2) | skip); have hp := hb)))
          go_loopw [6, 8] (fun s6 s8 wr => ∃ k : Int, lo ≤ k ∧ k ≤ hi + 1 ∧ s6 = .int .i64 (cntI c y lo k) ∧ s8 = .int .i64 k ∧ Below w.heap.size w wr ∧ (wr.cell? ⟨w.heap.size, 0, none⟩ = some (.int .i64 c)) ∧ w.heap.size < wr.heap.size) (fun _ s8 _ => (hi + 1 - intOf s8).toNat)
          case atStart =>
            first | (have := E0.out (by omega)) | (have := E1.out (by omega))
            subst this
            exact ⟨_, Int.le_refl _, g3, congrArg (Value.int .i64) (cnt_start c y _).symm, rfl, by (repeat' (first | (with_reducible exact Below.refl _ _) | (with_reducible assumption) | (with_reducible refine below_al ?_ _) | (with_reducible refine Below.drew ?_) | (with_reducible refine Below.setCell ?_ (by first | exact Nat.le_refl _ | (dsimp only; omega) | (simp; omega)) _) | (with_reducible refine below_drewN ?_ _) | (with_reducible refine below_tt ?_ (by assumption)))), by simp [*], by simp [*]⟩
          case round =>
            obtain ⟨k, hk1, hk2, rfl, rfl, hbl, hcell, hsz⟩ := hrel
            have hcb := cnt_bd (c := c) (y := y) hk1
            by_cases hle : k ≤ hi
            · have hk3 : k ≤ nyear y false + 400 := by omega
              by_cases hkc : k < c
              · have n1 : nyear 1 false ≤ k := by rw [nyear_ends.1]; omega
                have n2 : k < nyear 2001 false := by rw [nyear_ends.2.1]; omega
                have hdy := dat_year n1 n2 hb1
                by_cases hyy : (dat k false).1 = y
                · have HC : Hid (cntI c y lo (k + 1) = cntI c y lo k + 1) := by unfold Hid; rw [cnt_old hkc hk1, if_pos (hdy.1 hyy)]
                  have he : ((dat k false).1 == y) = true := by simp [hyy]
                  clear hdy hyy
                  go_wp2_with fail
                  refine (l03Date_old hkc (by omega) (by omega) _).mono ?_
                  rintro e w1 ⟨rfl, hb⟩
                  have hz1 := bsize hb
                  go_wp2
                  go_roundw
                  case rel =>
                    refine ⟨k + 1, by omega, by omega, ?_, rfl, by (repeat' (first | (with_reducible exact Below.refl _ _) | (with_reducible assumption) | (with_reducible refine below_al ?_ _) | (with_reducible refine Below.drew ?_) | (with_reducible refine Below.setCell ?_ (by first | exact Nat.le_refl _ | (dsimp only; omega) | (simp; omega)) _) | (with_reducible refine below_drewN ?_ _) | (with_reducible refine below_tt ?_ (by assumption)))), ?_, ?_⟩
                    · rw [HC.out]; try rfl
                    · rw [World.cell?_alloc_past (hn := hz1 _ hsz)]; exact (hb.cell (p := ⟨w.heap.size, 0, none⟩) hsz).trans hcell
                    · have := hz1 _ hsz; simp; omega
                  case measure => simp [intOf]; omega
                · have HC : Hid (cntI c y lo (k + 1) = cntI c y lo k) := by unfold Hid; rw [cnt_old hkc hk1, if_neg (fun h => hyy (hdy.2 h))]; omega
                  have he : ((dat k false).1 == y) = false := by simp [hyy]
                  clear hdy hyy
                  go_wp2_with fail
                  refine (l03Date_old hkc (by omega) (by omega) _).mono ?_
                  rintro e w1 ⟨rfl, hb⟩
                  have hz1 := bsize hb
                  go_wp2
                  go_roundw
                  case rel =>
                    refine ⟨k + 1, by omega, by omega, ?_, rfl, by (repeat' (first | (with_reducible exact Below.refl _ _) | (with_reducible assumption) | (with_reducible refine below_al ?_ _) | (with_reducible refine Below.drew ?_) | (with_reducible refine Below.setCell ?_ (by first | exact Nat.le_refl _ | (dsimp only; omega) | (simp; omega)) _) | (with_reducible refine below_drewN ?_ _) | (with_reducible refine below_tt ?_ (by assumption)))), ?_, ?_⟩
                    · rw [HC.out]; try rfl
                    · rw [World.cell?_alloc_past (hn := hz1 _ hsz)]; exact (hb.cell (p := ⟨w.heap.size, 0, none⟩) hsz).trans hcell
                    · have := hz1 _ hsz; simp; omega
                  case measure => simp [intOf]; omega
              · exfalso; omega
            · obtain rfl : k = hi + 1 := by omega
              have hk3 : nyear y false + 400 < hi + 1 ∨ 730499 < hi + 1 := by have := HX2.out; omega
              have HV2 : Hid (cntI c y lo (hi + 1) = (daysR c y).1) := by unfold Hid; rw [hend.out, HV.out]
              rcases hk3 with hk3 | hk3
              all_goals first | (exfalso; omega) | skip
              all_goals
                go_wp2
                go_ret2
                exact ⟨ret_two HV2.out (by rw [HV.out]), hbl⟩
        · exfalso; omega
end Go.Proofs.Yticnkjpgjcddcaa
