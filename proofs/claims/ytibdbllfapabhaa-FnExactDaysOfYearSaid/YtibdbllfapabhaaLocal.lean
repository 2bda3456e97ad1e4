/- Local dates, on both sides. -/
import Derived.Test.YtibdbllfapabhaaSearch
import Derived.Test.YtibdbllfapabhaaSDate
import Derived.Test.YtibdbllfapabhaaEast
import Derived.Lib.Hide
namespace Go.Proofs.Ytibdbllfapabhaa
open Go.RowKit

/-- How many dates a reform skips. -/
def skipR (c : Int) : Int × Int := if calB c = true then (if 730499 < c then (0, 4) else (num (dat c true).1 (dat c true).2.1 (dat c true).2.2 false - c, 0)) else (0, 1)
/-- The code of a calendar and a date. -/
def codeR (c y m d : Int) : Int := if calB c = true ∧ (valid y m d false = true ∨ valid y m d true = true) then 0 else 1
/-- The number of a local date. -/
def locR (c y m d : Int) : Int × Bool := if valid y m d false = true ∧ num y m d false < c then (num y m d false, true) else if valid y m d true = true ∧ c ≤ num y m d true then (num y m d true, true) else (0, false)
/-- The local date of a day, as the exported function tells it. -/
def ldateR (c n : Int) : (Int × Int × Int) × Int := if calB c = true then (if inR n 0 730499 = true then (if n < c then (dat n false, 0) else if n < 730487 then (dat n true, 0) else ((0, 0, 0), 4)) else ((0, 0, 0), 2)) else ((0, 0, 0), 1)
def odateR (n : Int) : (Int × Int × Int) × Int := if inR n 0 730499 = true then (dat n false, 0) else ((0, 0, 0), 2)
def ndateR (n : Int) : (Int × Int × Int) × Int := if inR n 2 730486 = true then (dat n true, 0) else ((0, 0, 0), 2)
def ldayR (c y m d : Int) : Int × Int := if codeR c y m d = 0 then (if (locR c y m d).2 = true then ((locR c y m d).1, 0) else (0, 4)) else (0, 1)
theorem num_bds {y m d : Int} (f : Bool) (h1 : 1 ≤ y) (h2 : y ≤ 2000) (h3 : 1 ≤ m) (h4 : m ≤ 12) (h5 : 1 ≤ d) (h6 : d ≤ 31) : -1000 ≤ num y m d f ∧ num y m d f ≤ 100000000 := by
  have a := nyear_lo y f h1 (by omega)
  have b := cum_bd y m f h3 (by omega)
  unfold num; omega
theorem cal_cap {c : Int} (h : calB c = true) : 200000 ≤ c ∧ (c ≤ 730486 ∨ c = 730500) := by
  unfold calB at h; rw [Bool.or_eq_true] at h
  rcases h with h | h
  · have := inR_t h; omega
  · simp at h; omega

theorem implSkippedDates_any (c : Int) (w : World) :
    Calls Try.prog 22 #[.agg #[.int .i64 c]] w fun e w' => e = .returned (.tuple #[.int .i64 (skipR c).1, .int .i64 (skipR c).2]) ∧ Below w.heap.size w w' := by
  cases hy : calB c
  · have hyy : Hid (calB c = false) := hy
    have hv : Hid (skipR c = (0, 1)) := by unfold skipR Hid; rw [hy]; rfl
    clear hy
    go_enter Try.func22, Try.ntmps22
    go_wp2_with (go_at_call 55; (refine (implIsCalendar_is hyy.out _).mono ?_; rintro e w' ⟨rfl, hb⟩; obtain ⟨hc, hf⟩ := bcell hb; have hz := bsize hb; (first | (have hB := below_tt hB hb) | (have hB := below_tt (below_al hB _) hb) | (have hB := below_tt (below_al (below_al hB _) _) hb) | (have hB := hb)); obtain ⟨hc0, hf0⟩ := bcell hB; have hz0 := bsize hB))
    go_ret2
    exact ⟨by rw [hv.out]; rfl, by (repeat' (first | (with_reducible exact Below.refl _ _) | (with_reducible assumption) | (with_reducible refine below_al ?_ _) | (with_reducible refine Below.drew ?_) | (with_reducible refine Below.setCell ?_ (by first | exact Nat.le_refl _ | (dsimp only; omega) | (simp; omega)) _) | (with_reducible refine below_drewN ?_ _) | (with_reducible refine below_tt ?_ (by assumption))))⟩
  · have hyy : Hid (calB c = true) := hy
    have hb0 := cal_cap hy
    by_cases hc : 730499 < c
    · have hv : Hid (skipR c = (0, 4)) := by unfold skipR Hid; rw [hy, if_pos rfl, if_pos hc]
      clear hy
      go_enter Try.func22, Try.ntmps22
      go_wp2_with (go_at_call 55; (refine (implIsCalendar_is hyy.out _).mono ?_; rintro e w' ⟨rfl, hb⟩; obtain ⟨hc, hf⟩ := bcell hb; have hz := bsize hb; (first | (have hB := below_tt hB hb) | (have hB := below_tt (below_al hB _) hb) | (have hB := below_tt (below_al (below_al hB _) _) hb) | (have hB := hb)); obtain ⟨hc0, hf0⟩ := bcell hB; have hz0 := bsize hB))
      go_ret2
      exact ⟨by rw [hv.out]; rfl, by (repeat' (first | (with_reducible exact Below.refl _ _) | (with_reducible assumption) | (with_reducible refine below_al ?_ _) | (with_reducible refine Below.drew ?_) | (with_reducible refine Below.setCell ?_ (by first | exact Nat.le_refl _ | (dsimp only; omega) | (simp; omega)) _) | (with_reducible refine below_drewN ?_ _) | (with_reducible refine below_tt ?_ (by assumption))))⟩
    · have hv : Hid (skipR c = (num (dat c true).1 (dat c true).2.1 (dat c true).2.2 false - c, 0)) := by unfold skipR Hid; rw [hy, if_pos rfl, if_neg hc]
      clear hy
      have hn1 : nyear 1 true ≤ c := by rw [nyear_ends.2.2.1]; omega
      have hn2 : c < nyear 2001 true := by rw [nyear_ends.2.2.2]; omega
      have hd := dat_bd hn1 hn2
      have hnb := num_bds (y := (dat c true).1) (m := (dat c true).2.1) (d := (dat c true).2.2) false (by omega) (by omega) (by omega) (by omega) (by omega) (by omega)
      have hsd : Hid (sdat c true = dat c true) := sdat_in hn2
      have rg := cell_rg; have l2 : ∀ n : Nat, n < n + 1 + 1 := (fun _ => by omega); have l3 : ∀ n : Nat, n < n + 1 + 1 + 1 := (fun _ => by omega); have l4 : ∀ n : Nat, n < n + 1 + 1 + 1 + 1 := (fun _ => by omega)
      go_enter Try.func22, Try.ntmps22
      go_wp2_with (go_at_call 55; (refine (implIsCalendar_is hyy.out _).mono ?_; rintro e w' ⟨rfl, hb⟩; obtain ⟨hc, hf⟩ := bcell hb; have hz := bsize hb; (first | (have hB := below_tt hB hb) | (have hB := below_tt (below_al hB _) hb) | (have hB := below_tt (below_al (below_al hB _) _) hb) | (have hB := hb)); obtain ⟨hc0, hf0⟩ := bcell hB; have hz0 := bsize hB))
      (refine wp_region_quiet_below (by kernel_rfl) (by kernel_rfl) ?_; (repeat (go_big_quiet_step (first | (go_at_call 49; exact Calls.regrown_of (dateOf_any _ _ _ hn1 hn2)) | (go_at_call 56; exact Calls.regrown_of (dayOf_any _ _ _ _ _ (by omega) (by omega) (by omega) (by omega) (by omega) (by omega)))))); refine wpQuiet_nil ?_; intro w9 hw9; have hb := below_of_regrown hw9; clear hw9; obtain ⟨hc, hf⟩ := bcell hb; have hz := bsize hb; (first | (have hB := below_tt hB hb) | (have hB := below_tt (below_al hB _) hb) | (have hB := below_tt (below_al (below_al hB _) _) hb) | (have hB := hb)); obtain ⟨hc0, hf0⟩ := bcell hB; have hz0 := bsize hB)
      go_wp2
      go_ret2
      exact ⟨by rw [hv.out]; rfl, by (repeat' (first | (with_reducible exact Below.refl _ _) | (with_reducible assumption) | (with_reducible refine below_al ?_ _) | (with_reducible refine Below.drew ?_) | (with_reducible refine Below.setCell ?_ (by first | exact Nat.le_refl _ | (dsimp only; omega) | (simp; omega)) _) | (with_reducible refine below_drewN ?_ _) | (with_reducible refine below_tt ?_ (by assumption))))⟩

theorem sdatin_any {n : Int} {f : Bool} (h1 : nyear 1 f ≤ n) (h2 : n < nyear 2001 f) (w : World) :
    Calls Try.prog 47 #[.int .i64 n, .bool f] w fun e w' => e = .returned (.agg #[.int .i64 (dat n f).1, .int .i64 (dat n f).2.1, .int .i64 (dat n f).2.2]) ∧ Below w.heap.size w w' := by
  have hk : n ≤ 731999 := by
    have a := nyear_ends.2.1; have b := nyear_ends.2.2.2
    cases f <;> omega
  have := l01Date_any n f w h1 hk
  rwa [sdat_in h2] at this
theorem l01Old_any {n : Int} (h1 : 0 ≤ n) (h2 : n ≤ 730499) (w : World) :
    Calls Try.prog 51 #[.int .i64 n] w fun e w' => e = .returned (.agg #[.int .i64 (dat n false).1, .int .i64 (dat n false).2.1, .int .i64 (dat n false).2.2]) ∧ Below w.heap.size w w' := by
  have hn1 : nyear 1 false ≤ n := by rw [nyear_ends.1]; omega
  have hn2 : n < nyear 2001 false := by rw [nyear_ends.2.1]; omega
  go_enter Try.func51, Try.ntmps51
  go_wp2_with (go_at_call 47; (refine (sdatin_any hn1 hn2 _).mono ?_; rintro e w' ⟨rfl, hb⟩; obtain ⟨hc, hf⟩ := bcell hb; have hz := bsize hb; (first | (have hB := below_tt hB hb) | (have hB := below_tt (below_al hB _) hb) | (have hB := below_tt (below_al (below_al hB _) _) hb) | (have hB := hb)); obtain ⟨hc0, hf0⟩ := bcell hB; have hz0 := bsize hB))
  refine bodyPost_ret (v := .agg #[.int .i64 (dat n false).1, .int .i64 (dat n false).2.1, .int .i64 (dat n false).2.2]) (by simp [results, Try.results51, go_sem, *]) rfl ⟨rfl, ?_⟩
  (repeat' (first | (with_reducible exact Below.refl _ _) | (with_reducible assumption) | (with_reducible refine below_al ?_ _) | (with_reducible refine Below.drew ?_) | (with_reducible refine Below.setCell ?_ (by first | exact Nat.le_refl _ | (dsimp only; omega) | (simp; omega)) _) | (with_reducible refine below_drewN ?_ _) | (with_reducible refine below_tt ?_ (by assumption))))

theorem specSkippedDates_any (c : Int) (w : World) :
    Calls Try.prog 20 #[.agg #[.int .i64 c]] w fun e w' => e = .returned (.tuple #[.int .i64 (skipR c).1, .int .i64 (skipR c).2]) ∧ Below w.heap.size w w' := by
  cases hy : calB c
  · have hyy : Hid (calB c = false) := hy
    have hv : Hid (skipR c = (0, 1)) := by unfold skipR Hid; rw [hy]; rfl
    clear hy
    go_enter Try.func20, Try.ntmps20
    go_wp2_with (go_at_call 53; (refine (specIsCalendar_is hyy.out _).mono ?_; rintro e w' ⟨rfl, hb⟩; obtain ⟨hc, hf⟩ := bcell hb; have hz := bsize hb; (first | (have hB := below_tt hB hb) | (have hB := below_tt (below_al hB _) hb) | (have hB := below_tt (below_al (below_al hB _) _) hb) | (have hB := hb)); obtain ⟨hc0, hf0⟩ := bcell hB; have hz0 := bsize hB))
    go_ret2
    exact ⟨by rw [hv.out]; rfl, by (repeat' (first | (with_reducible exact Below.refl _ _) | (with_reducible assumption) | (with_reducible refine below_al ?_ _) | (with_reducible refine Below.drew ?_) | (with_reducible refine Below.setCell ?_ (by first | exact Nat.le_refl _ | (dsimp only; omega) | (simp; omega)) _) | (with_reducible refine below_drewN ?_ _) | (with_reducible refine below_tt ?_ (by assumption))))⟩
  · have hyy : Hid (calB c = true) := hy
    have hb0 := cal_cap hy
    by_cases hc : 730499 < c
    · have hv : Hid (skipR c = (0, 4)) := by unfold skipR Hid; rw [hy, if_pos rfl, if_pos hc]
      clear hy
      go_enter Try.func20, Try.ntmps20
      go_wp2_with (go_at_call 53; (refine (specIsCalendar_is hyy.out _).mono ?_; rintro e w' ⟨rfl, hb⟩; obtain ⟨hc, hf⟩ := bcell hb; have hz := bsize hb; (first | (have hB := below_tt hB hb) | (have hB := below_tt (below_al hB _) hb) | (have hB := below_tt (below_al (below_al hB _) _) hb) | (have hB := hb)); obtain ⟨hc0, hf0⟩ := bcell hB; have hz0 := bsize hB))
      go_ret2
      exact ⟨by rw [hv.out]; rfl, by (repeat' (first | (with_reducible exact Below.refl _ _) | (with_reducible assumption) | (with_reducible refine below_al ?_ _) | (with_reducible refine Below.drew ?_) | (with_reducible refine Below.setCell ?_ (by first | exact Nat.le_refl _ | (dsimp only; omega) | (simp; omega)) _) | (with_reducible refine below_drewN ?_ _) | (with_reducible refine below_tt ?_ (by assumption))))⟩
    · have hv : Hid (skipR c = (num (dat c true).1 (dat c true).2.1 (dat c true).2.2 false - c, 0)) := by unfold skipR Hid; rw [hy, if_pos rfl, if_neg hc]
      clear hy
      have hn1 : nyear 1 true ≤ c := by rw [nyear_ends.2.2.1]; omega
      have hn2 : c < nyear 2001 true := by rw [nyear_ends.2.2.2]; omega
      have hd := dat_bd hn1 hn2
      have hnb := num_bds (y := (dat c true).1) (m := (dat c true).2.1) (d := (dat c true).2.2) false (by omega) (by omega) (by omega) (by omega) (by omega) (by omega)
      have hsd : Hid (sdat c true = dat c true) := sdat_in hn2
      have rg := cell_rg; have l2 : ∀ n : Nat, n < n + 1 + 1 := (fun _ => by omega); have l3 : ∀ n : Nat, n < n + 1 + 1 + 1 := (fun _ => by omega); have l4 : ∀ n : Nat, n < n + 1 + 1 + 1 + 1 := (fun _ => by omega)
      go_enter Try.func20, Try.ntmps20
      go_wp2_with (go_at_call 53; (refine (specIsCalendar_is hyy.out _).mono ?_; rintro e w' ⟨rfl, hb⟩; obtain ⟨hc, hf⟩ := bcell hb; have hz := bsize hb; (first | (have hB := below_tt hB hb) | (have hB := below_tt (below_al hB _) hb) | (have hB := below_tt (below_al (below_al hB _) _) hb) | (have hB := hb)); obtain ⟨hc0, hf0⟩ := bcell hB; have hz0 := bsize hB))
      (refine wp_region_quiet_below (by kernel_rfl) (by kernel_rfl) ?_; (repeat (go_big_quiet_step (first | (go_at_call 47; exact Calls.regrown_of (sdatin_any hn1 hn2 _)) | (go_at_call 54; exact Calls.regrown_of (l01Number_any _ _ _ _ _ (by omega) (by omega) (by omega) (by omega) (by omega) (by omega)))))); refine wpQuiet_nil ?_; intro w9 hw9; have hb := below_of_regrown hw9; clear hw9; obtain ⟨hc, hf⟩ := bcell hb; have hz := bsize hb; (first | (have hB := below_tt hB hb) | (have hB := below_tt (below_al hB _) hb) | (have hB := below_tt (below_al (below_al hB _) _) hb) | (have hB := hb)); obtain ⟨hc0, hf0⟩ := bcell hB; have hz0 := bsize hB)
      go_wp2
      go_ret2
      exact ⟨by rw [hv.out]; rfl, by (repeat' (first | (with_reducible exact Below.refl _ _) | (with_reducible assumption) | (with_reducible refine below_al ?_ _) | (with_reducible refine Below.drew ?_) | (with_reducible refine Below.setCell ?_ (by first | exact Nat.le_refl _ | (dsimp only; omega) | (simp; omega)) _) | (with_reducible refine below_drewN ?_ _) | (with_reducible refine below_tt ?_ (by assumption))))⟩

theorem checkLocal_any (c y m d : Int) (w : World) :
    Calls Try.prog 59 #[.agg #[.int .i64 c], .agg #[.int .i64 y, .int .i64 m, .int .i64 d]] w fun e w' => e = .returned (.int .i64 (codeR c y m d)) ∧ Below w.heap.size w w' := by
  cases hc : calB c
  all_goals cases ho : valid y m d false
  all_goals cases hn : valid y m d true
  all_goals
    have hv : ∃ r, codeR c y m d = r := ⟨_, rfl⟩
    obtain ⟨r, hr⟩ := hv
    have hr2 := hr
    simp only [codeR, hc, ho, hn] at hr2
    simp at hr2
    subst hr2
    have HV := Lib.hid hr
    have h1 := Lib.hid hc
    have h2 := Lib.hid ho
    have h3 := Lib.hid hn
    clear hr hc ho hn
    go_enter Try.func59, Try.ntmps59
    go_wp2_with (first | (go_at_call 55; (refine (implIsCalendar_is h1.out _).mono ?_; rintro e w' ⟨rfl, hb⟩; obtain ⟨hc, hf⟩ := bcell hb; have hz := bsize hb; (first | (have hB := below_tt hB hb) | (have hB := below_tt (below_al hB _) hb) | (have hB := below_tt (below_al (below_al hB _) _) hb) | (have hB := hb)); obtain ⟨hc0, hf0⟩ := bcell hB; have hz0 := bsize hB)) | (go_at_call 86; (refine (implIsOldDate_is h2.out _).mono ?_; rintro e w' ⟨rfl, hb⟩; obtain ⟨hc, hf⟩ := bcell hb; have hz := bsize hb; (first | (have hB := below_tt hB hb) | (have hB := below_tt (below_al hB _) hb) | (have hB := below_tt (below_al (below_al hB _) _) hb) | (have hB := hb)); obtain ⟨hc0, hf0⟩ := bcell hB; have hz0 := bsize hB)) | (go_at_call 87; (refine (implIsNewDate_is h3.out _).mono ?_; rintro e w' ⟨rfl, hb⟩; obtain ⟨hc, hf⟩ := bcell hb; have hz := bsize hb; (first | (have hB := below_tt hB hb) | (have hB := below_tt (below_al hB _) hb) | (have hB := below_tt (below_al (below_al hB _) _) hb) | (have hB := hb)); obtain ⟨hc0, hf0⟩ := bcell hB; have hz0 := bsize hB)))
    go_ret
    exact ⟨ret_int HV.out.symm, by (repeat' (first | (with_reducible exact Below.refl _ _) | (with_reducible assumption) | (with_reducible refine below_al ?_ _) | (with_reducible refine Below.drew ?_) | (with_reducible refine Below.setCell ?_ (by first | exact Nat.le_refl _ | (dsimp only; omega) | (simp; omega)) _) | (with_reducible refine below_drewN ?_ _) | (with_reducible refine below_tt ?_ (by assumption))))⟩
theorem checkLocal_is {c y m d r : Int} (h : codeR c y m d = r) (w : World) :
    Calls Try.prog 59 #[.agg #[.int .i64 c], .agg #[.int .i64 y, .int .i64 m, .int .i64 d]] w fun e w' => e = .returned (.int .i64 r) ∧ Below w.heap.size w w' := by
  subst h; exact checkLocal_any c y m d w

theorem l03Code_any (c y m d : Int) (w : World) :
    Calls Try.prog 57 #[.agg #[.int .i64 c], .agg #[.int .i64 y, .int .i64 m, .int .i64 d]] w fun e w' => e = .returned (.int .i64 (codeR c y m d)) ∧ Below w.heap.size w w' := by
  cases hc : calB c
  all_goals cases ho : valid y m d false
  all_goals cases hn : valid y m d true
  all_goals
    have hv : ∃ r, codeR c y m d = r := ⟨_, rfl⟩
    obtain ⟨r, hr⟩ := hv
    have hr2 := hr
    simp only [codeR, hc, ho, hn] at hr2
    simp at hr2
    subst hr2
    have HV := Lib.hid hr
    have h1 := Lib.hid hc
    have h2 := Lib.hid ho
    have h3 := Lib.hid hn
    clear hr hc ho hn
    go_enter Try.func57, Try.ntmps57
    go_wp2_with (first | (go_at_call 53; (refine (specIsCalendar_is h1.out _).mono ?_; rintro e w' ⟨rfl, hb⟩; obtain ⟨hc, hf⟩ := bcell hb; have hz := bsize hb; (first | (have hB := below_tt hB hb) | (have hB := below_tt (below_al hB _) hb) | (have hB := below_tt (below_al (below_al hB _) _) hb) | (have hB := hb)); obtain ⟨hc0, hf0⟩ := bcell hB; have hz0 := bsize hB)) | (go_at_call 71; (refine (specIsOldDate_is h2.out _).mono ?_; rintro e w' ⟨rfl, hb⟩; obtain ⟨hc, hf⟩ := bcell hb; have hz := bsize hb; (first | (have hB := below_tt hB hb) | (have hB := below_tt (below_al hB _) hb) | (have hB := below_tt (below_al (below_al hB _) _) hb) | (have hB := hb)); obtain ⟨hc0, hf0⟩ := bcell hB; have hz0 := bsize hB)) | (go_at_call 85; (refine (specIsNewDate_is h3.out _).mono ?_; rintro e w' ⟨rfl, hb⟩; obtain ⟨hc, hf⟩ := bcell hb; have hz := bsize hb; (first | (have hB := below_tt hB hb) | (have hB := below_tt (below_al hB _) hb) | (have hB := below_tt (below_al (below_al hB _) _) hb) | (have hB := hb)); obtain ⟨hc0, hf0⟩ := bcell hB; have hz0 := bsize hB)))
    go_ret
    exact ⟨ret_int HV.out.symm, by (repeat' (first | (with_reducible exact Below.refl _ _) | (with_reducible assumption) | (with_reducible refine below_al ?_ _) | (with_reducible refine Below.drew ?_) | (with_reducible refine Below.setCell ?_ (by first | exact Nat.le_refl _ | (dsimp only; omega) | (simp; omega)) _) | (with_reducible refine below_drewN ?_ _) | (with_reducible refine below_tt ?_ (by assumption))))⟩
theorem l03Code_is {c y m d r : Int} (h : codeR c y m d = r) (w : World) :
    Calls Try.prog 57 #[.agg #[.int .i64 c], .agg #[.int .i64 y, .int .i64 m, .int .i64 d]] w fun e w' => e = .returned (.int .i64 r) ∧ Below w.heap.size w w' := by
  subst h; exact l03Code_any c y m d w

theorem locR_old {c y m d : Int} (h : valid y m d false = true) (k : num y m d false < c) : locR c y m d = (num y m d false, true) := by unfold locR; rw [if_pos ⟨h, k⟩]
theorem locR_new {c y m d : Int} (h : valid y m d false = false ∨ c ≤ num y m d false) (h2 : valid y m d true = true) (k : c ≤ num y m d true) : locR c y m d = (num y m d true, true) := by
  unfold locR; rw [if_neg (by rintro ⟨a, b⟩; rcases h with h | h; · rw [h] at a; cases a
                              · omega), if_pos ⟨h2, k⟩]
theorem locR_no {c y m d : Int} (h : valid y m d false = false ∨ c ≤ num y m d false) (h2 : valid y m d true = false ∨ num y m d true < c) : locR c y m d = (0, false) := by
  unfold locR; rw [if_neg (by rintro ⟨a, b⟩; rcases h with h | h; · rw [h] at a; cases a
                              · omega), if_neg (by rintro ⟨a, b⟩; rcases h2 with h | h; · rw [h] at a; cases a
                                                   · omega)]

set_option maxHeartbeats 1000000 in
theorem localDay_any (c y m d : Int) (w : World) :
    Calls Try.prog 60 #[.agg #[.int .i64 c], .agg #[.int .i64 y, .int .i64 m, .int .i64 d]] w fun e w' => e = .returned (.tuple #[.int .i64 (locR c y m d).1, .bool (locR c y m d).2]) ∧ Below w.heap.size w w' := by
  have rg := cell_rg; have l2 : ∀ n : Nat, n < n + 1 + 1 := (fun _ => by omega); have l3 : ∀ n : Nat, n < n + 1 + 1 + 1 := (fun _ => by omega); have l4 : ∀ n : Nat, n < n + 1 + 1 + 1 + 1 := (fun _ => by omega)
  cases ho : valid y m d false
  all_goals cases hn : valid y m d true
  all_goals
    have h2 := Lib.hid ho
    have h3 := Lib.hid hn
  · have hv := locR_no (c := c) (Or.inl ho) (Or.inl hn)
    · skip
      have HV := Lib.hid hv
      clear hv ho hn
      go_enter Try.func60, Try.ntmps60
      go_wp2_with (first | (go_at_call 86; (refine (implIsOldDate_is h2.out _).mono ?_; rintro e w' ⟨rfl, hb⟩; obtain ⟨hc, hf⟩ := bcell hb; have hz := bsize hb; (first | (have hB := below_tt hB hb) | (have hB := below_tt (below_al hB _) hb) | (have hB := below_tt (below_al (below_al hB _) _) hb) | (have hB := hb)); obtain ⟨hc0, hf0⟩ := bcell hB; have hz0 := bsize hB)) | (go_at_call 87; (refine (implIsNewDate_is h3.out _).mono ?_; rintro e w' ⟨rfl, hb⟩; obtain ⟨hc, hf⟩ := bcell hb; have hz := bsize hb; (first | (have hB := below_tt hB hb) | (have hB := below_tt (below_al hB _) hb) | (have hB := below_tt (below_al (below_al hB _) _) hb) | (have hB := hb)); obtain ⟨hc0, hf0⟩ := bcell hB; have hz0 := bsize hB)) | (go_at_call 56; (refine (dayOf_any _ _ _ _ _ (by omega) (by omega) (by omega) (by omega) (by omega) (by omega)).mono ?_; rintro e w' ⟨rfl, hb⟩; obtain ⟨hc, hf⟩ := bcell hb; have hz := bsize hb; (first | (have hB := below_tt hB hb) | (have hB := below_tt (below_al hB _) hb) | (have hB := below_tt (below_al (below_al hB _) _) hb) | (have hB := hb)); obtain ⟨hc0, hf0⟩ := bcell hB; have hz0 := bsize hB)))
      go_ret2
      exact ⟨by rw [HV.out]; rfl, by (repeat' (first | (with_reducible exact Below.refl _ _) | (with_reducible assumption) | (with_reducible refine below_al ?_ _) | (with_reducible refine Below.drew ?_) | (with_reducible refine Below.setCell ?_ (by first | exact Nat.le_refl _ | (dsimp only; omega) | (simp; omega)) _) | (with_reducible refine below_drewN ?_ _) | (with_reducible refine below_tt ?_ (by assumption))))⟩
  · have hb := valid_t hn
    have hl := mlen_bd y m true
    by_cases hk : c ≤ num y m d true
    · have hv := locR_new (c := c) (Or.inl ho) hn hk
      have HV := Lib.hid hv
      clear hv ho hn
      go_enter Try.func60, Try.ntmps60
      go_wp2_with (first | (go_at_call 86; (refine (implIsOldDate_is h2.out _).mono ?_; rintro e w' ⟨rfl, hb⟩; obtain ⟨hc, hf⟩ := bcell hb; have hz := bsize hb; (first | (have hB := below_tt hB hb) | (have hB := below_tt (below_al hB _) hb) | (have hB := below_tt (below_al (below_al hB _) _) hb) | (have hB := hb)); obtain ⟨hc0, hf0⟩ := bcell hB; have hz0 := bsize hB)) | (go_at_call 87; (refine (implIsNewDate_is h3.out _).mono ?_; rintro e w' ⟨rfl, hb⟩; obtain ⟨hc, hf⟩ := bcell hb; have hz := bsize hb; (first | (have hB := below_tt hB hb) | (have hB := below_tt (below_al hB _) hb) | (have hB := below_tt (below_al (below_al hB _) _) hb) | (have hB := hb)); obtain ⟨hc0, hf0⟩ := bcell hB; have hz0 := bsize hB)) | (go_at_call 56; (refine (dayOf_any _ _ _ _ _ (by omega) (by omega) (by omega) (by omega) (by omega) (by omega)).mono ?_; rintro e w' ⟨rfl, hb⟩; obtain ⟨hc, hf⟩ := bcell hb; have hz := bsize hb; (first | (have hB := below_tt hB hb) | (have hB := below_tt (below_al hB _) hb) | (have hB := below_tt (below_al (below_al hB _) _) hb) | (have hB := hb)); obtain ⟨hc0, hf0⟩ := bcell hB; have hz0 := bsize hB)))
      go_ret2
      exact ⟨by rw [HV.out]; rfl, by (repeat' (first | (with_reducible exact Below.refl _ _) | (with_reducible assumption) | (with_reducible refine below_al ?_ _) | (with_reducible refine Below.drew ?_) | (with_reducible refine Below.setCell ?_ (by first | exact Nat.le_refl _ | (dsimp only; omega) | (simp; omega)) _) | (with_reducible refine below_drewN ?_ _) | (with_reducible refine below_tt ?_ (by assumption))))⟩
    · have hv := locR_no (c := c) (Or.inl ho) (Or.inr (by omega : num y m d true < c))
      have HV := Lib.hid hv
      clear hv ho hn
      go_enter Try.func60, Try.ntmps60
      go_wp2_with (first | (go_at_call 86; (refine (implIsOldDate_is h2.out _).mono ?_; rintro e w' ⟨rfl, hb⟩; obtain ⟨hc, hf⟩ := bcell hb; have hz := bsize hb; (first | (have hB := below_tt hB hb) | (have hB := below_tt (below_al hB _) hb) | (have hB := below_tt (below_al (below_al hB _) _) hb) | (have hB := hb)); obtain ⟨hc0, hf0⟩ := bcell hB; have hz0 := bsize hB)) | (go_at_call 87; (refine (implIsNewDate_is h3.out _).mono ?_; rintro e w' ⟨rfl, hb⟩; obtain ⟨hc, hf⟩ := bcell hb; have hz := bsize hb; (first | (have hB := below_tt hB hb) | (have hB := below_tt (below_al hB _) hb) | (have hB := below_tt (below_al (below_al hB _) _) hb) | (have hB := hb)); obtain ⟨hc0, hf0⟩ := bcell hB; have hz0 := bsize hB)) | (go_at_call 56; (refine (dayOf_any _ _ _ _ _ (by omega) (by omega) (by omega) (by omega) (by omega) (by omega)).mono ?_; rintro e w' ⟨rfl, hb⟩; obtain ⟨hc, hf⟩ := bcell hb; have hz := bsize hb; (first | (have hB := below_tt hB hb) | (have hB := below_tt (below_al hB _) hb) | (have hB := below_tt (below_al (below_al hB _) _) hb) | (have hB := hb)); obtain ⟨hc0, hf0⟩ := bcell hB; have hz0 := bsize hB)))
      go_ret2
      exact ⟨by rw [HV.out]; rfl, by (repeat' (first | (with_reducible exact Below.refl _ _) | (with_reducible assumption) | (with_reducible refine below_al ?_ _) | (with_reducible refine Below.drew ?_) | (with_reducible refine Below.setCell ?_ (by first | exact Nat.le_refl _ | (dsimp only; omega) | (simp; omega)) _) | (with_reducible refine below_drewN ?_ _) | (with_reducible refine below_tt ?_ (by assumption))))⟩
  · have hb := valid_t ho
    have hl := mlen_bd y m false
    by_cases hk : num y m d false < c
    · have hv := locR_old (c := c) ho hk
      have HV := Lib.hid hv
      clear hv ho hn
      go_enter Try.func60, Try.ntmps60
      go_wp2_with (first | (go_at_call 86; (refine (implIsOldDate_is h2.out _).mono ?_; rintro e w' ⟨rfl, hb⟩; obtain ⟨hc, hf⟩ := bcell hb; have hz := bsize hb; (first | (have hB := below_tt hB hb) | (have hB := below_tt (below_al hB _) hb) | (have hB := below_tt (below_al (below_al hB _) _) hb) | (have hB := hb)); obtain ⟨hc0, hf0⟩ := bcell hB; have hz0 := bsize hB)) | (go_at_call 87; (refine (implIsNewDate_is h3.out _).mono ?_; rintro e w' ⟨rfl, hb⟩; obtain ⟨hc, hf⟩ := bcell hb; have hz := bsize hb; (first | (have hB := below_tt hB hb) | (have hB := below_tt (below_al hB _) hb) | (have hB := below_tt (below_al (below_al hB _) _) hb) | (have hB := hb)); obtain ⟨hc0, hf0⟩ := bcell hB; have hz0 := bsize hB)) | (go_at_call 56; (refine (dayOf_any _ _ _ _ _ (by omega) (by omega) (by omega) (by omega) (by omega) (by omega)).mono ?_; rintro e w' ⟨rfl, hb⟩; obtain ⟨hc, hf⟩ := bcell hb; have hz := bsize hb; (first | (have hB := below_tt hB hb) | (have hB := below_tt (below_al hB _) hb) | (have hB := below_tt (below_al (below_al hB _) _) hb) | (have hB := hb)); obtain ⟨hc0, hf0⟩ := bcell hB; have hz0 := bsize hB)))
      go_ret2
      exact ⟨by rw [HV.out]; rfl, by (repeat' (first | (with_reducible exact Below.refl _ _) | (with_reducible assumption) | (with_reducible refine below_al ?_ _) | (with_reducible refine Below.drew ?_) | (with_reducible refine Below.setCell ?_ (by first | exact Nat.le_refl _ | (dsimp only; omega) | (simp; omega)) _) | (with_reducible refine below_drewN ?_ _) | (with_reducible refine below_tt ?_ (by assumption))))⟩
    · have hv := locR_no (c := c) (Or.inr (by omega : c ≤ num y m d false)) (Or.inl hn)
      have HV := Lib.hid hv
      clear hv ho hn
      go_enter Try.func60, Try.ntmps60
      go_wp2_with (first | (go_at_call 86; (refine (implIsOldDate_is h2.out _).mono ?_; rintro e w' ⟨rfl, hb⟩; obtain ⟨hc, hf⟩ := bcell hb; have hz := bsize hb; (first | (have hB := below_tt hB hb) | (have hB := below_tt (below_al hB _) hb) | (have hB := below_tt (below_al (below_al hB _) _) hb) | (have hB := hb)); obtain ⟨hc0, hf0⟩ := bcell hB; have hz0 := bsize hB)) | (go_at_call 87; (refine (implIsNewDate_is h3.out _).mono ?_; rintro e w' ⟨rfl, hb⟩; obtain ⟨hc, hf⟩ := bcell hb; have hz := bsize hb; (first | (have hB := below_tt hB hb) | (have hB := below_tt (below_al hB _) hb) | (have hB := below_tt (below_al (below_al hB _) _) hb) | (have hB := hb)); obtain ⟨hc0, hf0⟩ := bcell hB; have hz0 := bsize hB)) | (go_at_call 56; (refine (dayOf_any _ _ _ _ _ (by omega) (by omega) (by omega) (by omega) (by omega) (by omega)).mono ?_; rintro e w' ⟨rfl, hb⟩; obtain ⟨hc, hf⟩ := bcell hb; have hz := bsize hb; (first | (have hB := below_tt hB hb) | (have hB := below_tt (below_al hB _) hb) | (have hB := below_tt (below_al (below_al hB _) _) hb) | (have hB := hb)); obtain ⟨hc0, hf0⟩ := bcell hB; have hz0 := bsize hB)))
      go_ret2
      exact ⟨by rw [HV.out]; rfl, by (repeat' (first | (with_reducible exact Below.refl _ _) | (with_reducible assumption) | (with_reducible refine below_al ?_ _) | (with_reducible refine Below.drew ?_) | (with_reducible refine Below.setCell ?_ (by first | exact Nat.le_refl _ | (dsimp only; omega) | (simp; omega)) _) | (with_reducible refine below_drewN ?_ _) | (with_reducible refine below_tt ?_ (by assumption))))⟩
  · have hb := valid_t ho
    have hl := mlen_bd y m false
    by_cases hk : num y m d false < c
    · have hv := locR_old (c := c) ho hk
      have HV := Lib.hid hv
      clear hv ho hn
      go_enter Try.func60, Try.ntmps60
      go_wp2_with (first | (go_at_call 86; (refine (implIsOldDate_is h2.out _).mono ?_; rintro e w' ⟨rfl, hb⟩; obtain ⟨hc, hf⟩ := bcell hb; have hz := bsize hb; (first | (have hB := below_tt hB hb) | (have hB := below_tt (below_al hB _) hb) | (have hB := below_tt (below_al (below_al hB _) _) hb) | (have hB := hb)); obtain ⟨hc0, hf0⟩ := bcell hB; have hz0 := bsize hB)) | (go_at_call 87; (refine (implIsNewDate_is h3.out _).mono ?_; rintro e w' ⟨rfl, hb⟩; obtain ⟨hc, hf⟩ := bcell hb; have hz := bsize hb; (first | (have hB := below_tt hB hb) | (have hB := below_tt (below_al hB _) hb) | (have hB := below_tt (below_al (below_al hB _) _) hb) | (have hB := hb)); obtain ⟨hc0, hf0⟩ := bcell hB; have hz0 := bsize hB)) | (go_at_call 56; (refine (dayOf_any _ _ _ _ _ (by omega) (by omega) (by omega) (by omega) (by omega) (by omega)).mono ?_; rintro e w' ⟨rfl, hb⟩; obtain ⟨hc, hf⟩ := bcell hb; have hz := bsize hb; (first | (have hB := below_tt hB hb) | (have hB := below_tt (below_al hB _) hb) | (have hB := below_tt (below_al (below_al hB _) _) hb) | (have hB := hb)); obtain ⟨hc0, hf0⟩ := bcell hB; have hz0 := bsize hB)))
      go_ret2
      exact ⟨by rw [HV.out]; rfl, by (repeat' (first | (with_reducible exact Below.refl _ _) | (with_reducible assumption) | (with_reducible refine below_al ?_ _) | (with_reducible refine Below.drew ?_) | (with_reducible refine Below.setCell ?_ (by first | exact Nat.le_refl _ | (dsimp only; omega) | (simp; omega)) _) | (with_reducible refine below_drewN ?_ _) | (with_reducible refine below_tt ?_ (by assumption))))⟩
    · by_cases hk2 : c ≤ num y m d true
      · have hv := locR_new (c := c) (Or.inr (by omega : c ≤ num y m d false)) hn hk2
        have HV := Lib.hid hv
        clear hv ho hn
        go_enter Try.func60, Try.ntmps60
        go_wp2_with (first | (go_at_call 86; (refine (implIsOldDate_is h2.out _).mono ?_; rintro e w' ⟨rfl, hb⟩; obtain ⟨hc, hf⟩ := bcell hb; have hz := bsize hb; (first | (have hB := below_tt hB hb) | (have hB := below_tt (below_al hB _) hb) | (have hB := below_tt (below_al (below_al hB _) _) hb) | (have hB := hb)); obtain ⟨hc0, hf0⟩ := bcell hB; have hz0 := bsize hB)) | (go_at_call 87; (refine (implIsNewDate_is h3.out _).mono ?_; rintro e w' ⟨rfl, hb⟩; obtain ⟨hc, hf⟩ := bcell hb; have hz := bsize hb; (first | (have hB := below_tt hB hb) | (have hB := below_tt (below_al hB _) hb) | (have hB := below_tt (below_al (below_al hB _) _) hb) | (have hB := hb)); obtain ⟨hc0, hf0⟩ := bcell hB; have hz0 := bsize hB)) | (go_at_call 56; (refine (dayOf_any _ _ _ _ _ (by omega) (by omega) (by omega) (by omega) (by omega) (by omega)).mono ?_; rintro e w' ⟨rfl, hb⟩; obtain ⟨hc, hf⟩ := bcell hb; have hz := bsize hb; (first | (have hB := below_tt hB hb) | (have hB := below_tt (below_al hB _) hb) | (have hB := below_tt (below_al (below_al hB _) _) hb) | (have hB := hb)); obtain ⟨hc0, hf0⟩ := bcell hB; have hz0 := bsize hB)))
        go_ret2
        exact ⟨by rw [HV.out]; rfl, by (repeat' (first | (with_reducible exact Below.refl _ _) | (with_reducible assumption) | (with_reducible refine below_al ?_ _) | (with_reducible refine Below.drew ?_) | (with_reducible refine Below.setCell ?_ (by first | exact Nat.le_refl _ | (dsimp only; omega) | (simp; omega)) _) | (with_reducible refine below_drewN ?_ _) | (with_reducible refine below_tt ?_ (by assumption))))⟩
      · have hv := locR_no (c := c) (Or.inr (by omega : c ≤ num y m d false)) (Or.inr (by omega : num y m d true < c))
        have HV := Lib.hid hv
        clear hv ho hn
        go_enter Try.func60, Try.ntmps60
        go_wp2_with (first | (go_at_call 86; (refine (implIsOldDate_is h2.out _).mono ?_; rintro e w' ⟨rfl, hb⟩; obtain ⟨hc, hf⟩ := bcell hb; have hz := bsize hb; (first | (have hB := below_tt hB hb) | (have hB := below_tt (below_al hB _) hb) | (have hB := below_tt (below_al (below_al hB _) _) hb) | (have hB := hb)); obtain ⟨hc0, hf0⟩ := bcell hB; have hz0 := bsize hB)) | (go_at_call 87; (refine (implIsNewDate_is h3.out _).mono ?_; rintro e w' ⟨rfl, hb⟩; obtain ⟨hc, hf⟩ := bcell hb; have hz := bsize hb; (first | (have hB := below_tt hB hb) | (have hB := below_tt (below_al hB _) hb) | (have hB := below_tt (below_al (below_al hB _) _) hb) | (have hB := hb)); obtain ⟨hc0, hf0⟩ := bcell hB; have hz0 := bsize hB)) | (go_at_call 56; (refine (dayOf_any _ _ _ _ _ (by omega) (by omega) (by omega) (by omega) (by omega) (by omega)).mono ?_; rintro e w' ⟨rfl, hb⟩; obtain ⟨hc, hf⟩ := bcell hb; have hz := bsize hb; (first | (have hB := below_tt hB hb) | (have hB := below_tt (below_al hB _) hb) | (have hB := below_tt (below_al (below_al hB _) _) hb) | (have hB := hb)); obtain ⟨hc0, hf0⟩ := bcell hB; have hz0 := bsize hB)))
        go_ret2
        exact ⟨by rw [HV.out]; rfl, by (repeat' (first | (with_reducible exact Below.refl _ _) | (with_reducible assumption) | (with_reducible refine below_al ?_ _) | (with_reducible refine Below.drew ?_) | (with_reducible refine Below.setCell ?_ (by first | exact Nat.le_refl _ | (dsimp only; omega) | (simp; omega)) _) | (with_reducible refine below_drewN ?_ _) | (with_reducible refine below_tt ?_ (by assumption))))⟩

set_option maxHeartbeats 1000000 in
theorem l03Day_any (c y m d : Int) (w : World) :
    Calls Try.prog 58 #[.agg #[.int .i64 c], .agg #[.int .i64 y, .int .i64 m, .int .i64 d]] w fun e w' => e = .returned (.tuple #[.int .i64 (locR c y m d).1, .bool (locR c y m d).2]) ∧ Below w.heap.size w w' := by
  have rg := cell_rg; have l2 : ∀ n : Nat, n < n + 1 + 1 := (fun _ => by omega); have l3 : ∀ n : Nat, n < n + 1 + 1 + 1 := (fun _ => by omega); have l4 : ∀ n : Nat, n < n + 1 + 1 + 1 + 1 := (fun _ => by omega)
  cases ho : valid y m d false
  all_goals cases hn : valid y m d true
  all_goals
    have h2 := Lib.hid ho
    have h3 := Lib.hid hn
  · have hv := locR_no (c := c) (Or.inl ho) (Or.inl hn)
    · skip
      have HV := Lib.hid hv
      clear hv ho hn
      go_enter Try.func58, Try.ntmps58
      go_wp2
      (refine wp_region_quiet_below (by kernel_rfl) (by kernel_rfl) ?_; (repeat (go_big_quiet_step (first | (go_at_call 71; exact Calls.regrown_of (specIsOldDate_is h2.out _)) | (go_at_call 85; exact Calls.regrown_of (specIsNewDate_is h3.out _)) | (go_at_call 54; exact Calls.regrown_of (l01Number_any _ _ _ _ _ (by omega) (by omega) (by omega) (by omega) (by omega) (by omega)))))); refine wpQuiet_nil ?_; intro w9 hw9; have hb := below_of_regrown hw9; clear hw9; obtain ⟨hc, hf⟩ := bcell hb; have hz := bsize hb; (first | (have hB := below_tt hB hb) | (have hB := below_tt (below_al hB _) hb) | (have hB := below_tt (below_al (below_al hB _) _) hb) | (have hB := hb)); obtain ⟨hc0, hf0⟩ := bcell hB; have hz0 := bsize hB)
      go_wp2
      (refine wp_region_quiet_below (by kernel_rfl) (by kernel_rfl) ?_; (repeat (go_big_quiet_step (first | (go_at_call 71; exact Calls.regrown_of (specIsOldDate_is h2.out _)) | (go_at_call 85; exact Calls.regrown_of (specIsNewDate_is h3.out _)) | (go_at_call 54; exact Calls.regrown_of (l01Number_any _ _ _ _ _ (by omega) (by omega) (by omega) (by omega) (by omega) (by omega)))))); refine wpQuiet_nil ?_; intro w9 hw9; have hb := below_of_regrown hw9; clear hw9; obtain ⟨hc, hf⟩ := bcell hb; have hz := bsize hb; (first | (have hB := below_tt hB hb) | (have hB := below_tt (below_al hB _) hb) | (have hB := below_tt (below_al (below_al hB _) _) hb) | (have hB := hb)); obtain ⟨hc0, hf0⟩ := bcell hB; have hz0 := bsize hB)
      go_wp2_with (first | (go_at_call 71; (refine (specIsOldDate_is h2.out _).mono ?_; rintro e w' ⟨rfl, hb⟩; obtain ⟨hc, hf⟩ := bcell hb; have hz := bsize hb; (first | (have hB := below_tt hB hb) | (have hB := below_tt (below_al hB _) hb) | (have hB := below_tt (below_al (below_al hB _) _) hb) | (have hB := hb)); obtain ⟨hc0, hf0⟩ := bcell hB; have hz0 := bsize hB)) | (go_at_call 85; (refine (specIsNewDate_is h3.out _).mono ?_; rintro e w' ⟨rfl, hb⟩; obtain ⟨hc, hf⟩ := bcell hb; have hz := bsize hb; (first | (have hB := below_tt hB hb) | (have hB := below_tt (below_al hB _) hb) | (have hB := below_tt (below_al (below_al hB _) _) hb) | (have hB := hb)); obtain ⟨hc0, hf0⟩ := bcell hB; have hz0 := bsize hB)) | (go_at_call 54; (refine (l01Number_any _ _ _ _ _ (by omega) (by omega) (by omega) (by omega) (by omega) (by omega)).mono ?_; rintro e w' ⟨rfl, hb⟩; obtain ⟨hc, hf⟩ := bcell hb; have hz := bsize hb; (first | (have hB := below_tt hB hb) | (have hB := below_tt (below_al hB _) hb) | (have hB := below_tt (below_al (below_al hB _) _) hb) | (have hB := hb)); obtain ⟨hc0, hf0⟩ := bcell hB; have hz0 := bsize hB)))
      go_ret2
      exact ⟨by rw [HV.out]; rfl, by (repeat' (first | (with_reducible exact Below.refl _ _) | (with_reducible assumption) | (with_reducible refine below_al ?_ _) | (with_reducible refine Below.drew ?_) | (with_reducible refine Below.setCell ?_ (by first | exact Nat.le_refl _ | (dsimp only; omega) | (simp; omega)) _) | (with_reducible refine below_drewN ?_ _) | (with_reducible refine below_tt ?_ (by assumption))))⟩
  · have hb := valid_t hn
    have hl := mlen_bd y m true
    by_cases hk : c ≤ num y m d true
    · have hv := locR_new (c := c) (Or.inl ho) hn hk
      have HV := Lib.hid hv
      clear hv ho hn
      go_enter Try.func58, Try.ntmps58
      go_wp2
      (refine wp_region_quiet_below (by kernel_rfl) (by kernel_rfl) ?_; (repeat (go_big_quiet_step (first | (go_at_call 71; exact Calls.regrown_of (specIsOldDate_is h2.out _)) | (go_at_call 85; exact Calls.regrown_of (specIsNewDate_is h3.out _)) | (go_at_call 54; exact Calls.regrown_of (l01Number_any _ _ _ _ _ (by omega) (by omega) (by omega) (by omega) (by omega) (by omega)))))); refine wpQuiet_nil ?_; intro w9 hw9; have hb := below_of_regrown hw9; clear hw9; obtain ⟨hc, hf⟩ := bcell hb; have hz := bsize hb; (first | (have hB := below_tt hB hb) | (have hB := below_tt (below_al hB _) hb) | (have hB := below_tt (below_al (below_al hB _) _) hb) | (have hB := hb)); obtain ⟨hc0, hf0⟩ := bcell hB; have hz0 := bsize hB)
      go_wp2
      (refine wp_region_quiet_below (by kernel_rfl) (by kernel_rfl) ?_; (repeat (go_big_quiet_step (first | (go_at_call 71; exact Calls.regrown_of (specIsOldDate_is h2.out _)) | (go_at_call 85; exact Calls.regrown_of (specIsNewDate_is h3.out _)) | (go_at_call 54; exact Calls.regrown_of (l01Number_any _ _ _ _ _ (by omega) (by omega) (by omega) (by omega) (by omega) (by omega)))))); refine wpQuiet_nil ?_; intro w9 hw9; have hb := below_of_regrown hw9; clear hw9; obtain ⟨hc, hf⟩ := bcell hb; have hz := bsize hb; (first | (have hB := below_tt hB hb) | (have hB := below_tt (below_al hB _) hb) | (have hB := below_tt (below_al (below_al hB _) _) hb) | (have hB := hb)); obtain ⟨hc0, hf0⟩ := bcell hB; have hz0 := bsize hB)
      go_wp2_with (first | (go_at_call 71; (refine (specIsOldDate_is h2.out _).mono ?_; rintro e w' ⟨rfl, hb⟩; obtain ⟨hc, hf⟩ := bcell hb; have hz := bsize hb; (first | (have hB := below_tt hB hb) | (have hB := below_tt (below_al hB _) hb) | (have hB := below_tt (below_al (below_al hB _) _) hb) | (have hB := hb)); obtain ⟨hc0, hf0⟩ := bcell hB; have hz0 := bsize hB)) | (go_at_call 85; (refine (specIsNewDate_is h3.out _).mono ?_; rintro e w' ⟨rfl, hb⟩; obtain ⟨hc, hf⟩ := bcell hb; have hz := bsize hb; (first | (have hB := below_tt hB hb) | (have hB := below_tt (below_al hB _) hb) | (have hB := below_tt (below_al (below_al hB _) _) hb) | (have hB := hb)); obtain ⟨hc0, hf0⟩ := bcell hB; have hz0 := bsize hB)) | (go_at_call 54; (refine (l01Number_any _ _ _ _ _ (by omega) (by omega) (by omega) (by omega) (by omega) (by omega)).mono ?_; rintro e w' ⟨rfl, hb⟩; obtain ⟨hc, hf⟩ := bcell hb; have hz := bsize hb; (first | (have hB := below_tt hB hb) | (have hB := below_tt (below_al hB _) hb) | (have hB := below_tt (below_al (below_al hB _) _) hb) | (have hB := hb)); obtain ⟨hc0, hf0⟩ := bcell hB; have hz0 := bsize hB)))
      go_ret2
      exact ⟨by rw [HV.out]; rfl, by (repeat' (first | (with_reducible exact Below.refl _ _) | (with_reducible assumption) | (with_reducible refine below_al ?_ _) | (with_reducible refine Below.drew ?_) | (with_reducible refine Below.setCell ?_ (by first | exact Nat.le_refl _ | (dsimp only; omega) | (simp; omega)) _) | (with_reducible refine below_drewN ?_ _) | (with_reducible refine below_tt ?_ (by assumption))))⟩
    · have hv := locR_no (c := c) (Or.inl ho) (Or.inr (by omega : num y m d true < c))
      have HV := Lib.hid hv
      clear hv ho hn
      go_enter Try.func58, Try.ntmps58
      go_wp2
      (refine wp_region_quiet_below (by kernel_rfl) (by kernel_rfl) ?_; (repeat (go_big_quiet_step (first | (go_at_call 71; exact Calls.regrown_of (specIsOldDate_is h2.out _)) | (go_at_call 85; exact Calls.regrown_of (specIsNewDate_is h3.out _)) | (go_at_call 54; exact Calls.regrown_of (l01Number_any _ _ _ _ _ (by omega) (by omega) (by omega) (by omega) (by omega) (by omega)))))); refine wpQuiet_nil ?_; intro w9 hw9; have hb := below_of_regrown hw9; clear hw9; obtain ⟨hc, hf⟩ := bcell hb; have hz := bsize hb; (first | (have hB := below_tt hB hb) | (have hB := below_tt (below_al hB _) hb) | (have hB := below_tt (below_al (below_al hB _) _) hb) | (have hB := hb)); obtain ⟨hc0, hf0⟩ := bcell hB; have hz0 := bsize hB)
      go_wp2
      (refine wp_region_quiet_below (by kernel_rfl) (by kernel_rfl) ?_; (repeat (go_big_quiet_step (first | (go_at_call 71; exact Calls.regrown_of (specIsOldDate_is h2.out _)) | (go_at_call 85; exact Calls.regrown_of (specIsNewDate_is h3.out _)) | (go_at_call 54; exact Calls.regrown_of (l01Number_any _ _ _ _ _ (by omega) (by omega) (by omega) (by omega) (by omega) (by omega)))))); refine wpQuiet_nil ?_; intro w9 hw9; have hb := below_of_regrown hw9; clear hw9; obtain ⟨hc, hf⟩ := bcell hb; have hz := bsize hb; (first | (have hB := below_tt hB hb) | (have hB := below_tt (below_al hB _) hb) | (have hB := below_tt (below_al (below_al hB _) _) hb) | (have hB := hb)); obtain ⟨hc0, hf0⟩ := bcell hB; have hz0 := bsize hB)
      go_wp2_with (first | (go_at_call 71; (refine (specIsOldDate_is h2.out _).mono ?_; rintro e w' ⟨rfl, hb⟩; obtain ⟨hc, hf⟩ := bcell hb; have hz := bsize hb; (first | (have hB := below_tt hB hb) | (have hB := below_tt (below_al hB _) hb) | (have hB := below_tt (below_al (below_al hB _) _) hb) | (have hB := hb)); obtain ⟨hc0, hf0⟩ := bcell hB; have hz0 := bsize hB)) | (go_at_call 85; (refine (specIsNewDate_is h3.out _).mono ?_; rintro e w' ⟨rfl, hb⟩; obtain ⟨hc, hf⟩ := bcell hb; have hz := bsize hb; (first | (have hB := below_tt hB hb) | (have hB := below_tt (below_al hB _) hb) | (have hB := below_tt (below_al (below_al hB _) _) hb) | (have hB := hb)); obtain ⟨hc0, hf0⟩ := bcell hB; have hz0 := bsize hB)) | (go_at_call 54; (refine (l01Number_any _ _ _ _ _ (by omega) (by omega) (by omega) (by omega) (by omega) (by omega)).mono ?_; rintro e w' ⟨rfl, hb⟩; obtain ⟨hc, hf⟩ := bcell hb; have hz := bsize hb; (first | (have hB := below_tt hB hb) | (have hB := below_tt (below_al hB _) hb) | (have hB := below_tt (below_al (below_al hB _) _) hb) | (have hB := hb)); obtain ⟨hc0, hf0⟩ := bcell hB; have hz0 := bsize hB)))
      go_ret2
      exact ⟨by rw [HV.out]; rfl, by (repeat' (first | (with_reducible exact Below.refl _ _) | (with_reducible assumption) | (with_reducible refine below_al ?_ _) | (with_reducible refine Below.drew ?_) | (with_reducible refine Below.setCell ?_ (by first | exact Nat.le_refl _ | (dsimp only; omega) | (simp; omega)) _) | (with_reducible refine below_drewN ?_ _) | (with_reducible refine below_tt ?_ (by assumption))))⟩
  · have hb := valid_t ho
    have hl := mlen_bd y m false
    by_cases hk : num y m d false < c
    · have hv := locR_old (c := c) ho hk
      have HV := Lib.hid hv
      clear hv ho hn
      go_enter Try.func58, Try.ntmps58
      go_wp2
      (refine wp_region_quiet_below (by kernel_rfl) (by kernel_rfl) ?_; (repeat (go_big_quiet_step (first | (go_at_call 71; exact Calls.regrown_of (specIsOldDate_is h2.out _)) | (go_at_call 85; exact Calls.regrown_of (specIsNewDate_is h3.out _)) | (go_at_call 54; exact Calls.regrown_of (l01Number_any _ _ _ _ _ (by omega) (by omega) (by omega) (by omega) (by omega) (by omega)))))); refine wpQuiet_nil ?_; intro w9 hw9; have hb := below_of_regrown hw9; clear hw9; obtain ⟨hc, hf⟩ := bcell hb; have hz := bsize hb; (first | (have hB := below_tt hB hb) | (have hB := below_tt (below_al hB _) hb) | (have hB := below_tt (below_al (below_al hB _) _) hb) | (have hB := hb)); obtain ⟨hc0, hf0⟩ := bcell hB; have hz0 := bsize hB)
      go_wp2_with (first | (go_at_call 71; (refine (specIsOldDate_is h2.out _).mono ?_; rintro e w' ⟨rfl, hb⟩; obtain ⟨hc, hf⟩ := bcell hb; have hz := bsize hb; (first | (have hB := below_tt hB hb) | (have hB := below_tt (below_al hB _) hb) | (have hB := below_tt (below_al (below_al hB _) _) hb) | (have hB := hb)); obtain ⟨hc0, hf0⟩ := bcell hB; have hz0 := bsize hB)) | (go_at_call 85; (refine (specIsNewDate_is h3.out _).mono ?_; rintro e w' ⟨rfl, hb⟩; obtain ⟨hc, hf⟩ := bcell hb; have hz := bsize hb; (first | (have hB := below_tt hB hb) | (have hB := below_tt (below_al hB _) hb) | (have hB := below_tt (below_al (below_al hB _) _) hb) | (have hB := hb)); obtain ⟨hc0, hf0⟩ := bcell hB; have hz0 := bsize hB)) | (go_at_call 54; (refine (l01Number_any _ _ _ _ _ (by omega) (by omega) (by omega) (by omega) (by omega) (by omega)).mono ?_; rintro e w' ⟨rfl, hb⟩; obtain ⟨hc, hf⟩ := bcell hb; have hz := bsize hb; (first | (have hB := below_tt hB hb) | (have hB := below_tt (below_al hB _) hb) | (have hB := below_tt (below_al (below_al hB _) _) hb) | (have hB := hb)); obtain ⟨hc0, hf0⟩ := bcell hB; have hz0 := bsize hB)))
      go_ret2
      exact ⟨by rw [HV.out]; rfl, by (repeat' (first | (with_reducible exact Below.refl _ _) | (with_reducible assumption) | (with_reducible refine below_al ?_ _) | (with_reducible refine Below.drew ?_) | (with_reducible refine Below.setCell ?_ (by first | exact Nat.le_refl _ | (dsimp only; omega) | (simp; omega)) _) | (with_reducible refine below_drewN ?_ _) | (with_reducible refine below_tt ?_ (by assumption))))⟩
    · have hv := locR_no (c := c) (Or.inr (by omega : c ≤ num y m d false)) (Or.inl hn)
      have HV := Lib.hid hv
      clear hv ho hn
      go_enter Try.func58, Try.ntmps58
      go_wp2
      (refine wp_region_quiet_below (by kernel_rfl) (by kernel_rfl) ?_; (repeat (go_big_quiet_step (first | (go_at_call 71; exact Calls.regrown_of (specIsOldDate_is h2.out _)) | (go_at_call 85; exact Calls.regrown_of (specIsNewDate_is h3.out _)) | (go_at_call 54; exact Calls.regrown_of (l01Number_any _ _ _ _ _ (by omega) (by omega) (by omega) (by omega) (by omega) (by omega)))))); refine wpQuiet_nil ?_; intro w9 hw9; have hb := below_of_regrown hw9; clear hw9; obtain ⟨hc, hf⟩ := bcell hb; have hz := bsize hb; (first | (have hB := below_tt hB hb) | (have hB := below_tt (below_al hB _) hb) | (have hB := below_tt (below_al (below_al hB _) _) hb) | (have hB := hb)); obtain ⟨hc0, hf0⟩ := bcell hB; have hz0 := bsize hB)
      go_wp2
      (refine wp_region_quiet_below (by kernel_rfl) (by kernel_rfl) ?_; (repeat (go_big_quiet_step (first | (go_at_call 71; exact Calls.regrown_of (specIsOldDate_is h2.out _)) | (go_at_call 85; exact Calls.regrown_of (specIsNewDate_is h3.out _)) | (go_at_call 54; exact Calls.regrown_of (l01Number_any _ _ _ _ _ (by omega) (by omega) (by omega) (by omega) (by omega) (by omega)))))); refine wpQuiet_nil ?_; intro w9 hw9; have hb := below_of_regrown hw9; clear hw9; obtain ⟨hc, hf⟩ := bcell hb; have hz := bsize hb; (first | (have hB := below_tt hB hb) | (have hB := below_tt (below_al hB _) hb) | (have hB := below_tt (below_al (below_al hB _) _) hb) | (have hB := hb)); obtain ⟨hc0, hf0⟩ := bcell hB; have hz0 := bsize hB)
      go_wp2_with (first | (go_at_call 71; (refine (specIsOldDate_is h2.out _).mono ?_; rintro e w' ⟨rfl, hb⟩; obtain ⟨hc, hf⟩ := bcell hb; have hz := bsize hb; (first | (have hB := below_tt hB hb) | (have hB := below_tt (below_al hB _) hb) | (have hB := below_tt (below_al (below_al hB _) _) hb) | (have hB := hb)); obtain ⟨hc0, hf0⟩ := bcell hB; have hz0 := bsize hB)) | (go_at_call 85; (refine (specIsNewDate_is h3.out _).mono ?_; rintro e w' ⟨rfl, hb⟩; obtain ⟨hc, hf⟩ := bcell hb; have hz := bsize hb; (first | (have hB := below_tt hB hb) | (have hB := below_tt (below_al hB _) hb) | (have hB := below_tt (below_al (below_al hB _) _) hb) | (have hB := hb)); obtain ⟨hc0, hf0⟩ := bcell hB; have hz0 := bsize hB)) | (go_at_call 54; (refine (l01Number_any _ _ _ _ _ (by omega) (by omega) (by omega) (by omega) (by omega) (by omega)).mono ?_; rintro e w' ⟨rfl, hb⟩; obtain ⟨hc, hf⟩ := bcell hb; have hz := bsize hb; (first | (have hB := below_tt hB hb) | (have hB := below_tt (below_al hB _) hb) | (have hB := below_tt (below_al (below_al hB _) _) hb) | (have hB := hb)); obtain ⟨hc0, hf0⟩ := bcell hB; have hz0 := bsize hB)))
      go_ret2
      exact ⟨by rw [HV.out]; rfl, by (repeat' (first | (with_reducible exact Below.refl _ _) | (with_reducible assumption) | (with_reducible refine below_al ?_ _) | (with_reducible refine Below.drew ?_) | (with_reducible refine Below.setCell ?_ (by first | exact Nat.le_refl _ | (dsimp only; omega) | (simp; omega)) _) | (with_reducible refine below_drewN ?_ _) | (with_reducible refine below_tt ?_ (by assumption))))⟩
  · have hb := valid_t ho
    have hl := mlen_bd y m false
    by_cases hk : num y m d false < c
    · have hv := locR_old (c := c) ho hk
      have HV := Lib.hid hv
      clear hv ho hn
      go_enter Try.func58, Try.ntmps58
      go_wp2
      (refine wp_region_quiet_below (by kernel_rfl) (by kernel_rfl) ?_; (repeat (go_big_quiet_step (first | (go_at_call 71; exact Calls.regrown_of (specIsOldDate_is h2.out _)) | (go_at_call 85; exact Calls.regrown_of (specIsNewDate_is h3.out _)) | (go_at_call 54; exact Calls.regrown_of (l01Number_any _ _ _ _ _ (by omega) (by omega) (by omega) (by omega) (by omega) (by omega)))))); refine wpQuiet_nil ?_; intro w9 hw9; have hb := below_of_regrown hw9; clear hw9; obtain ⟨hc, hf⟩ := bcell hb; have hz := bsize hb; (first | (have hB := below_tt hB hb) | (have hB := below_tt (below_al hB _) hb) | (have hB := below_tt (below_al (below_al hB _) _) hb) | (have hB := hb)); obtain ⟨hc0, hf0⟩ := bcell hB; have hz0 := bsize hB)
      go_wp2_with (first | (go_at_call 71; (refine (specIsOldDate_is h2.out _).mono ?_; rintro e w' ⟨rfl, hb⟩; obtain ⟨hc, hf⟩ := bcell hb; have hz := bsize hb; (first | (have hB := below_tt hB hb) | (have hB := below_tt (below_al hB _) hb) | (have hB := below_tt (below_al (below_al hB _) _) hb) | (have hB := hb)); obtain ⟨hc0, hf0⟩ := bcell hB; have hz0 := bsize hB)) | (go_at_call 85; (refine (specIsNewDate_is h3.out _).mono ?_; rintro e w' ⟨rfl, hb⟩; obtain ⟨hc, hf⟩ := bcell hb; have hz := bsize hb; (first | (have hB := below_tt hB hb) | (have hB := below_tt (below_al hB _) hb) | (have hB := below_tt (below_al (below_al hB _) _) hb) | (have hB := hb)); obtain ⟨hc0, hf0⟩ := bcell hB; have hz0 := bsize hB)) | (go_at_call 54; (refine (l01Number_any _ _ _ _ _ (by omega) (by omega) (by omega) (by omega) (by omega) (by omega)).mono ?_; rintro e w' ⟨rfl, hb⟩; obtain ⟨hc, hf⟩ := bcell hb; have hz := bsize hb; (first | (have hB := below_tt hB hb) | (have hB := below_tt (below_al hB _) hb) | (have hB := below_tt (below_al (below_al hB _) _) hb) | (have hB := hb)); obtain ⟨hc0, hf0⟩ := bcell hB; have hz0 := bsize hB)))
      go_ret2
      exact ⟨by rw [HV.out]; rfl, by (repeat' (first | (with_reducible exact Below.refl _ _) | (with_reducible assumption) | (with_reducible refine below_al ?_ _) | (with_reducible refine Below.drew ?_) | (with_reducible refine Below.setCell ?_ (by first | exact Nat.le_refl _ | (dsimp only; omega) | (simp; omega)) _) | (with_reducible refine below_drewN ?_ _) | (with_reducible refine below_tt ?_ (by assumption))))⟩
    · by_cases hk2 : c ≤ num y m d true
      · have hv := locR_new (c := c) (Or.inr (by omega : c ≤ num y m d false)) hn hk2
        have HV := Lib.hid hv
        clear hv ho hn
        go_enter Try.func58, Try.ntmps58
        go_wp2
        (refine wp_region_quiet_below (by kernel_rfl) (by kernel_rfl) ?_; (repeat (go_big_quiet_step (first | (go_at_call 71; exact Calls.regrown_of (specIsOldDate_is h2.out _)) | (go_at_call 85; exact Calls.regrown_of (specIsNewDate_is h3.out _)) | (go_at_call 54; exact Calls.regrown_of (l01Number_any _ _ _ _ _ (by omega) (by omega) (by omega) (by omega) (by omega) (by omega)))))); refine wpQuiet_nil ?_; intro w9 hw9; have hb := below_of_regrown hw9; clear hw9; obtain ⟨hc, hf⟩ := bcell hb; have hz := bsize hb; (first | (have hB := below_tt hB hb) | (have hB := below_tt (below_al hB _) hb) | (have hB := below_tt (below_al (below_al hB _) _) hb) | (have hB := hb)); obtain ⟨hc0, hf0⟩ := bcell hB; have hz0 := bsize hB)
        go_wp2
        (refine wp_region_quiet_below (by kernel_rfl) (by kernel_rfl) ?_; (repeat (go_big_quiet_step (first | (go_at_call 71; exact Calls.regrown_of (specIsOldDate_is h2.out _)) | (go_at_call 85; exact Calls.regrown_of (specIsNewDate_is h3.out _)) | (go_at_call 54; exact Calls.regrown_of (l01Number_any _ _ _ _ _ (by omega) (by omega) (by omega) (by omega) (by omega) (by omega)))))); refine wpQuiet_nil ?_; intro w9 hw9; have hb := below_of_regrown hw9; clear hw9; obtain ⟨hc, hf⟩ := bcell hb; have hz := bsize hb; (first | (have hB := below_tt hB hb) | (have hB := below_tt (below_al hB _) hb) | (have hB := below_tt (below_al (below_al hB _) _) hb) | (have hB := hb)); obtain ⟨hc0, hf0⟩ := bcell hB; have hz0 := bsize hB)
        go_wp2_with (first | (go_at_call 71; (refine (specIsOldDate_is h2.out _).mono ?_; rintro e w' ⟨rfl, hb⟩; obtain ⟨hc, hf⟩ := bcell hb; have hz := bsize hb; (first | (have hB := below_tt hB hb) | (have hB := below_tt (below_al hB _) hb) | (have hB := below_tt (below_al (below_al hB _) _) hb) | (have hB := hb)); obtain ⟨hc0, hf0⟩ := bcell hB; have hz0 := bsize hB)) | (go_at_call 85; (refine (specIsNewDate_is h3.out _).mono ?_; rintro e w' ⟨rfl, hb⟩; obtain ⟨hc, hf⟩ := bcell hb; have hz := bsize hb; (first | (have hB := below_tt hB hb) | (have hB := below_tt (below_al hB _) hb) | (have hB := below_tt (below_al (below_al hB _) _) hb) | (have hB := hb)); obtain ⟨hc0, hf0⟩ := bcell hB; have hz0 := bsize hB)) | (go_at_call 54; (refine (l01Number_any _ _ _ _ _ (by omega) (by omega) (by omega) (by omega) (by omega) (by omega)).mono ?_; rintro e w' ⟨rfl, hb⟩; obtain ⟨hc, hf⟩ := bcell hb; have hz := bsize hb; (first | (have hB := below_tt hB hb) | (have hB := below_tt (below_al hB _) hb) | (have hB := below_tt (below_al (below_al hB _) _) hb) | (have hB := hb)); obtain ⟨hc0, hf0⟩ := bcell hB; have hz0 := bsize hB)))
        go_ret2
        exact ⟨by rw [HV.out]; rfl, by (repeat' (first | (with_reducible exact Below.refl _ _) | (with_reducible assumption) | (with_reducible refine below_al ?_ _) | (with_reducible refine Below.drew ?_) | (with_reducible refine Below.setCell ?_ (by first | exact Nat.le_refl _ | (dsimp only; omega) | (simp; omega)) _) | (with_reducible refine below_drewN ?_ _) | (with_reducible refine below_tt ?_ (by assumption))))⟩
      · have hv := locR_no (c := c) (Or.inr (by omega : c ≤ num y m d false)) (Or.inr (by omega : num y m d true < c))
        have HV := Lib.hid hv
        clear hv ho hn
        go_enter Try.func58, Try.ntmps58
        go_wp2
        (refine wp_region_quiet_below (by kernel_rfl) (by kernel_rfl) ?_; (repeat (go_big_quiet_step (first | (go_at_call 71; exact Calls.regrown_of (specIsOldDate_is h2.out _)) | (go_at_call 85; exact Calls.regrown_of (specIsNewDate_is h3.out _)) | (go_at_call 54; exact Calls.regrown_of (l01Number_any _ _ _ _ _ (by omega) (by omega) (by omega) (by omega) (by omega) (by omega)))))); refine wpQuiet_nil ?_; intro w9 hw9; have hb := below_of_regrown hw9; clear hw9; obtain ⟨hc, hf⟩ := bcell hb; have hz := bsize hb; (first | (have hB := below_tt hB hb) | (have hB := below_tt (below_al hB _) hb) | (have hB := below_tt (below_al (below_al hB _) _) hb) | (have hB := hb)); obtain ⟨hc0, hf0⟩ := bcell hB; have hz0 := bsize hB)
        go_wp2
        (refine wp_region_quiet_below (by kernel_rfl) (by kernel_rfl) ?_; (repeat (go_big_quiet_step (first | (go_at_call 71; exact Calls.regrown_of (specIsOldDate_is h2.out _)) | (go_at_call 85; exact Calls.regrown_of (specIsNewDate_is h3.out _)) | (go_at_call 54; exact Calls.regrown_of (l01Number_any _ _ _ _ _ (by omega) (by omega) (by omega) (by omega) (by omega) (by omega)))))); refine wpQuiet_nil ?_; intro w9 hw9; have hb := below_of_regrown hw9; clear hw9; obtain ⟨hc, hf⟩ := bcell hb; have hz := bsize hb; (first | (have hB := below_tt hB hb) | (have hB := below_tt (below_al hB _) hb) | (have hB := below_tt (below_al (below_al hB _) _) hb) | (have hB := hb)); obtain ⟨hc0, hf0⟩ := bcell hB; have hz0 := bsize hB)
        go_wp2_with (first | (go_at_call 71; (refine (specIsOldDate_is h2.out _).mono ?_; rintro e w' ⟨rfl, hb⟩; obtain ⟨hc, hf⟩ := bcell hb; have hz := bsize hb; (first | (have hB := below_tt hB hb) | (have hB := below_tt (below_al hB _) hb) | (have hB := below_tt (below_al (below_al hB _) _) hb) | (have hB := hb)); obtain ⟨hc0, hf0⟩ := bcell hB; have hz0 := bsize hB)) | (go_at_call 85; (refine (specIsNewDate_is h3.out _).mono ?_; rintro e w' ⟨rfl, hb⟩; obtain ⟨hc, hf⟩ := bcell hb; have hz := bsize hb; (first | (have hB := below_tt hB hb) | (have hB := below_tt (below_al hB _) hb) | (have hB := below_tt (below_al (below_al hB _) _) hb) | (have hB := hb)); obtain ⟨hc0, hf0⟩ := bcell hB; have hz0 := bsize hB)) | (go_at_call 54; (refine (l01Number_any _ _ _ _ _ (by omega) (by omega) (by omega) (by omega) (by omega) (by omega)).mono ?_; rintro e w' ⟨rfl, hb⟩; obtain ⟨hc, hf⟩ := bcell hb; have hz := bsize hb; (first | (have hB := below_tt hB hb) | (have hB := below_tt (below_al hB _) hb) | (have hB := below_tt (below_al (below_al hB _) _) hb) | (have hB := hb)); obtain ⟨hc0, hf0⟩ := bcell hB; have hz0 := bsize hB)))
        go_ret2
        exact ⟨by rw [HV.out]; rfl, by (repeat' (first | (with_reducible exact Below.refl _ _) | (with_reducible assumption) | (with_reducible refine below_al ?_ _) | (with_reducible refine Below.drew ?_) | (with_reducible refine Below.setCell ?_ (by first | exact Nat.le_refl _ | (dsimp only; omega) | (simp; omega)) _) | (with_reducible refine below_drewN ?_ _) | (with_reducible refine below_tt ?_ (by assumption))))⟩
end Go.Proofs.Ytibdbllfapabhaa
