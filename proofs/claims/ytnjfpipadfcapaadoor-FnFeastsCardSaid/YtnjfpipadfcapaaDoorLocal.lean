/- Local dates, on both sides. -/
import Derived.Test.YtnjfpipadfcapaaDoorSearch
import Derived.Test.YtnjfpipadfcapaaDoorSDate
import Derived.Test.YtnjfpipadfcapaaDoorEast
import Derived.Lib.Hide
namespace Go.Proofs.YtnjfpipadfcapaaDoor
open Go.RowKit

/-- How many dates a reform skips. -/
def skipR (c : Int) : Int × Int := if calB c = true then (if 730499 < c then (0, 4) else (num (dat c true).1 (dat c true).2.1 (dat c true).2.2 false - c, 0)) else (0, 1)
/-- The code of a calendar and a date. -/
def codeR (c y m d : Int) : Int := if calB c = true ∧ (valid y m d false = true ∨ valid y m d true = true) then 0 else 1
/-- The number of a local date. -/
def locR (c y m d : Int) : Int × Bool := if valid y m d false = true ∧ num y m d false < c then (num y m d false, true) else if valid y m d true = true ∧ c ≤ num y m d true then (num y m d true, true) else (0, false)
/-- The local date of a day, as the exported function tells it. -/
def ldateR (c n : Int) : (Int × Int × Int) × Int := if calB c = true then (if inR n 0 730499 = true then (if n < c then (dat n false, 0) else if n < 730487 then (dat n true, 0) else ((0, 0, 0), 4)) else ((0, 0, 0), 2)) else ((0, 0, 0), 1)
def odateR (n : Int) : (Int × Int × Int) × Int := if inR n 0 730499 = true then (dat n false, 0) else ((0, 0, 0), 2)
def ndateR (n : Int) : (Int × Int × Int) × Int := if inR n 2 730486 = true then (dat n true, 0) else ((0, 0, 0), 2)
def ldayR (c y m d : Int) : Int × Int := if codeR c y m d = 0 then (if (locR c y m d).2 = true then ((locR c y m d).1, 0) else (0, 4)) else (0, 1)
theorem num_bds {y m d : Int} (f : Bool) (h1 : 1 ≤ y) (h2 : y ≤ 2000) (h3 : 1 ≤ m) (h4 : m ≤ 12) (h5 : 1 ≤ d) (h6 : d ≤ 31) : -1000 ≤ num y m d f ∧ num y m d f ≤ 100000000 := by
  have a := nyear_lo y f h1 (by omega)
  have b := cum_bd y m f h3 (by omega)
  unfold num; omega
theorem cal_cap {c : Int} (h : calB c = true) : 200000 ≤ c ∧ (c ≤ 730486 ∨ c = 730500) := by
  unfold calB at h; rw [Bool.or_eq_true] at h
  rcases h with h | h
  · have := inR_t h; omega
  · simp at h; omega

theorem sdatin_any {n : Int} {f : Bool} (h1 : nyear 1 f ≤ n) (h2 : n < nyear 2001 f) (w : World) :
    Calls Tryd.prog 67 #[.int .i64 n, .bool f] w fun e w' => e = .returned (.agg #[.int .i64 (dat n f).1, .int .i64 (dat n f).2.1, .int .i64 (dat n f).2.2]) ∧ Below w.heap.size w w' := by
  have hk : n ≤ 731999 := by
    have a := nyear_ends.2.1; have b := nyear_ends.2.2.2
    cases f <;> omega
  have := l01Date_any n f w h1 hk
  rwa [sdat_in h2] at this
theorem l01Old_any {n : Int} (h1 : 0 ≤ n) (h2 : n ≤ 730499) (w : World) :
    Calls Tryd.prog 56 #[.int .i64 n] w fun e w' => e = .returned (.agg #[.int .i64 (dat n false).1, .int .i64 (dat n false).2.1, .int .i64 (dat n false).2.2]) ∧ Below w.heap.size w w' := by
  have hn1 : nyear 1 false ≤ n := by rw [nyear_ends.1]; omega
  have hn2 : n < nyear 2001 false := by rw [nyear_ends.2.1]; omega
  go_enter Tryd.func56, Tryd.ntmps56
  go_wp2_with (go_at_call 67; (refine (sdatin_any hn1 hn2 _).mono ?_; rintro e w' ⟨rfl, hb⟩; obtain ⟨hc, hf⟩ := bcell hb; have hz := bsize hb; (first | (have hB := below_tt hB hb) | (have hB := below_tt (below_al hB _) hb) | (have hB := below_tt (below_al (below_al hB _) _) hb) | (have hB := hb)); obtain ⟨hc0, hf0⟩ := bcell hB; have hz0 := bsize hB; (first | (have h2 := below_tt hp hb; obtain ⟨hc2, hf2⟩ := bcell h2; have hz2 := bsize h2) | (have h2 := below_tt (below_al hp _) hb; obtain ⟨hc2, hf2⟩ := bcell h2; have hz2 := bsize h2) | skip); have hp := hb))
  refine bodyPost_ret (v := .agg #[.int .i64 (dat n false).1, .int .i64 (dat n false).2.1, .int .i64 (dat n false).2.2]) (by simp [results, Tryd.results56, go_sem, *]) rfl ⟨rfl, ?_⟩
  (repeat' (first | (with_reducible exact Below.refl _ _) | (with_reducible assumption) | (with_reducible refine below_al ?_ _) | (with_reducible refine Below.drew ?_) | (with_reducible refine Below.setCell ?_ (by first | exact Nat.le_refl _ | (dsimp only; omega) | (simp; omega)) _) | (with_reducible refine below_drewN ?_ _) | (with_reducible refine below_tt ?_ (by assumption))))

theorem locR_old {c y m d : Int} (h : valid y m d false = true) (k : num y m d false < c) : locR c y m d = (num y m d false, true) := by unfold locR; rw [if_pos ⟨h, k⟩]
theorem locR_new {c y m d : Int} (h : valid y m d false = false ∨ c ≤ num y m d false) (h2 : valid y m d true = true) (k : c ≤ num y m d true) : locR c y m d = (num y m d true, true) := by
  unfold locR; rw [if_neg (by rintro ⟨a, b⟩; rcases h with h | h; · rw [h] at a; cases a
                              · omega), if_pos ⟨h2, k⟩]
theorem locR_no {c y m d : Int} (h : valid y m d false = false ∨ c ≤ num y m d false) (h2 : valid y m d true = false ∨ num y m d true < c) : locR c y m d = (0, false) := by
  unfold locR; rw [if_neg (by rintro ⟨a, b⟩; rcases h with h | h; · rw [h] at a; cases a
                              · omega), if_neg (by rintro ⟨a, b⟩; rcases h2 with h | h; · rw [h] at a; cases a
                                                   · omega)]

end Go.Proofs.YtnjfpipadfcapaaDoor
