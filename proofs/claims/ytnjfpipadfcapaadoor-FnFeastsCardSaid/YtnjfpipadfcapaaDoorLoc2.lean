/- The exported functions of local dates, on both sides. -/
import Derived.Test.YtnjfpipadfcapaaDoorLocal
import Derived.Deep.RegionHeld3
namespace Go.Proofs.YtnjfpipadfcapaaDoor
open Go.RowKit

theorem codeR_one {c y m d : Int} (h : ¬ codeR c y m d = 0) : codeR c y m d = 1 := by unfold codeR at *; split <;> simp_all
theorem codeR_any (c y m d : Int) : codeR c y m d = codeR c y m d := rfl
def islocR (c y m d : Int) : Bool × Int := if codeR c y m d = 0 then ((locR c y m d).2, 0) else (false, 1)
def sameR (c y m d c' y' m' d' : Int) : Bool × Int :=
  if codeR c y m d = 0 ∧ codeR c' y' m' d' = 0 then (if (locR c y m d).2 = true ∧ (locR c' y' m' d').2 = true then (decide ((locR c y m d).1 = (locR c' y' m' d').1), 0) else (false, 4)) else (false, 1)
theorem newYear_is {y : Int} {f : Bool} {r : Int} (hr : nyear y f = r) (w : World) (h : 1 ≤ y) (k : y ≤ 100000) :
    Calls Tryd.prog 59 #[.int .i64 y, .bool f] w fun e w' => e = .returned (.int .i64 r) ∧ w = w' := by
  subst hr; exact newYear_any y f w h k
theorem implOldDate_any (n : Int) (w : World) :
    Calls Tryd.prog 20 #[.int .i64 n] w fun e w' => e = .returned (.tuple #[.agg #[.int .i64 (odateR n).1.1, .int .i64 (odateR n).1.2.1, .int .i64 (odateR n).1.2.2], .int .i64 (odateR n).2]) ∧ Below w.heap.size w w' := by
  have rg := cell_rg; have l2 : ∀ n : Nat, n < n + 1 + 1 := (fun _ => by omega); have l3 : ∀ n : Nat, n < n + 1 + 1 + 1 := (fun _ => by omega); have l4 : ∀ n : Nat, n < n + 1 + 1 + 1 + 1 := (fun _ => by omega)
  cases hy : inR n 0 730499
  · have h1 := Lib.hid hy
    have HV : Hid (odateR n = ((0, 0, 0), 2)) := by unfold odateR Hid; rw [hy]; rfl
    clear hy
    go_enter Tryd.func20, Tryd.ntmps20
    go_wp2_with (go_at_call 43; refine (isDay_is h1.out _).mono ?_; rintro e w' ⟨rfl, rfl⟩)
    refine bodyPost_ret (v := .tuple #[.agg #[.int .i64 0, .int .i64 0, .int .i64 0], .int .i64 2]) (by simp [results, Tryd.results20, go_sem, *]) rfl ⟨?_, by (repeat' (first | (with_reducible exact Below.refl _ _) | (with_reducible assumption) | (with_reducible refine below_al ?_ _) | (with_reducible refine Below.drew ?_) | (with_reducible refine Below.setCell ?_ (by first | exact Nat.le_refl _ | (dsimp only; omega) | (simp; omega)) _) | (with_reducible refine below_drewN ?_ _) | (with_reducible refine below_tt ?_ (by assumption))))⟩
    rw [HV.out]
  · have h1 := Lib.hid hy
    have HV : Hid (odateR n = (dat n false, 0)) := by unfold odateR Hid; rw [hy]; rfl
    obtain ⟨hb1, hb2⟩ := inR_t hy
    have hn1 : nyear 1 false ≤ n := by rw [nyear_ends.1]; omega
    have hn2 : n < nyear 2001 false := by rw [nyear_ends.2.1]; omega
    clear hy
    go_enter Tryd.func20, Tryd.ntmps20
    go_wp2_with (first | (go_at_call 43; refine (isDay_is h1.out _).mono ?_; rintro e w' ⟨rfl, rfl⟩) | (go_at_call 46; (refine (dateOf_any _ _ _ hn1 hn2).mono ?_; rintro e w' ⟨rfl, hb⟩; obtain ⟨hc, hf⟩ := bcell hb; have hz := bsize hb; (first | (have hB := below_tt hB hb) | (have hB := below_tt (below_al hB _) hb) | (have hB := below_tt (below_al (below_al hB _) _) hb) | (have hB := hb)); obtain ⟨hc0, hf0⟩ := bcell hB; have hz0 := bsize hB; (first | (have h2 := below_tt hp hb; obtain ⟨hc2, hf2⟩ := bcell h2; have hz2 := bsize h2) | (have h2 := below_tt (below_al hp _) hb; obtain ⟨hc2, hf2⟩ := bcell h2; have hz2 := bsize h2) | skip); have hp := hb)))
    refine bodyPost_ret (v := .tuple #[.agg #[.int .i64 (dat n false).1, .int .i64 (dat n false).2.1, .int .i64 (dat n false).2.2], .int .i64 0]) (by simp [results, Tryd.results20, go_sem, *]) rfl ⟨?_, by (repeat' (first | (with_reducible exact Below.refl _ _) | (with_reducible assumption) | (with_reducible refine below_al ?_ _) | (with_reducible refine Below.drew ?_) | (with_reducible refine Below.setCell ?_ (by first | exact Nat.le_refl _ | (dsimp only; omega) | (simp; omega)) _) | (with_reducible refine below_drewN ?_ _) | (with_reducible refine below_tt ?_ (by assumption))))⟩
    rw [HV.out]

theorem sdat_bad {n : Int} (h : 730487 ≤ n) : valid (sdat n true).1 (sdat n true).2.1 (sdat n true).2.2 true = false := by
  rw [sdat_out (by rw [nyear_ends.2.2.2]; exact h)]
  have e : nyear 2000 true + cum 2000 12 true = 730456 := by decide
  have e2 : mlen 2000 12 true = 31 := by decide
  rw [e]
  show valid 2000 12 (n - 730456 + 1) true = false
  rw [valid_d (by decide) (by decide), e2]
  exact inR_not (Or.inr (by omega))
theorem dat_good {n : Int} {f : Bool} (h1 : nyear 1 f ≤ n) (h2 : n < nyear 2001 f) : valid (dat n f).1 (dat n f).2.1 (dat n f).2.2 f = true := (dat_is h1 h2).1
end Go.Proofs.YtnjfpipadfcapaaDoor
