/- The exported day of a feast: both sides. -/
import Derived.Test.YtnjfpipadfcapaaDoorFeast
namespace Go.Proofs.YtnjfpipadfcapaaDoor
open Go.RowKit

theorem isFeast_is {n : Int} {r : Bool} (h : inR n 0 19 = r) (w : World) :
    Calls Tryd.prog 25 #[.int .i64 n] w fun e w' => e = .returned (.bool r) ∧ w = w' := by
  subst h
  go_enter Tryd.func25, Tryd.ntmps25
  go_wp2_with (go_at_call 50; refine (within_any _ _ _ _).mono ?_; rintro e w' ⟨rfl, rfl⟩)
  go_ret
  exact ⟨rfl, rfl⟩
theorem l05Feast_is {n : Int} {r : Bool} (h : inR n 0 19 = r) (w : World) :
    Calls Tryd.prog 23 #[.int .i64 n] w fun e w' => e = .returned (.bool r) ∧ w = w' := by
  subst h
  go_enter Tryd.func23, Tryd.ntmps23
  go_wp2_with (go_at_call 49; refine (l01In_any _ _ _ _).mono ?_; rintro e w' ⟨rfl, rfl⟩)
  go_ret
  exact ⟨rfl, rfl⟩
theorem dayOr_is {n : Int} {r : Bool} (h : inR n 0 730499 = r) (w : World) :
    Calls Tryd.prog 34 #[.int .i64 n] w fun e w' => e = .returned (.tuple #[.int .i64 (if r = true then n else 0), .int .i64 (if r = true then 0 else 4)]) ∧ w = w' := by
  have h1 := Lib.hid h
  clear h
  cases r
  all_goals
    go_enter Tryd.func34, Tryd.ntmps34
    go_wp2_with (go_at_call 43; refine (isDay_is h1.out _).mono ?_; rintro e w' ⟨rfl, rfl⟩)
    go_ret2
    exact ⟨rfl, rfl⟩
theorem dayOr_in {n : Int} (h : inR n 0 730499 = true) (w : World) :
    Calls Tryd.prog 34 #[.int .i64 n] w fun e w' => e = .returned (.tuple #[.int .i64 n, .int .i64 0]) ∧ w = w' := dayOr_is h w

theorem implFeastDay_any (f y : Int) (w : World) :
    Calls Tryd.prog 21 #[.int .i64 f, .int .i64 y] w fun e w' => e = .returned (.tuple #[.int .i64 (feastR f y).1, .int .i64 (feastR f y).2]) ∧ Below w.heap.size w w' := by
  have rg := cell_rg; have l2 : ∀ n : Nat, n < n + 1 + 1 := (fun _ => by omega); have l3 : ∀ n : Nat, n < n + 1 + 1 + 1 := (fun _ => by omega); have l4 : ∀ n : Nat, n < n + 1 + 1 + 1 + 1 := (fun _ => by omega)
  cases hs : inR f 0 19
  all_goals cases hy : inR y 1 2000
  · have HV : Hid (feastR f y = (0, 2)) := by unfold feastR Hid; rw [hs, hy]; rfl
    have h1 := Lib.hid hs
    have h2 := Lib.hid hy
    clear hs hy
    go_enter Tryd.func21, Tryd.ntmps21
    go_wp2_with (first | (go_at_call 25; refine (isFeast_is h1.out _).mono ?_; rintro e w' ⟨rfl, rfl⟩) | (go_at_call 33; refine (isYear_is h2.out _).mono ?_; rintro e w' ⟨rfl, rfl⟩))
    go_ret2
    exact ⟨by rw [HV.out]; rfl, by (repeat' (first | (with_reducible exact Below.refl _ _) | (with_reducible assumption) | (with_reducible refine below_al ?_ _) | (with_reducible refine Below.drew ?_) | (with_reducible refine Below.setCell ?_ (by first | exact Nat.le_refl _ | (dsimp only; omega) | (simp; omega)) _) | (with_reducible refine below_drewN ?_ _) | (with_reducible refine below_tt ?_ (by assumption))))⟩
  · have HV : Hid (feastR f y = (0, 2)) := by unfold feastR Hid; rw [hs, hy]; rfl
    have h1 := Lib.hid hs
    have h2 := Lib.hid hy
    clear hs hy
    go_enter Tryd.func21, Tryd.ntmps21
    go_wp2_with (first | (go_at_call 25; refine (isFeast_is h1.out _).mono ?_; rintro e w' ⟨rfl, rfl⟩) | (go_at_call 33; refine (isYear_is h2.out _).mono ?_; rintro e w' ⟨rfl, rfl⟩))
    go_ret2
    exact ⟨by rw [HV.out]; rfl, by (repeat' (first | (with_reducible exact Below.refl _ _) | (with_reducible assumption) | (with_reducible refine below_al ?_ _) | (with_reducible refine Below.drew ?_) | (with_reducible refine Below.setCell ?_ (by first | exact Nat.le_refl _ | (dsimp only; omega) | (simp; omega)) _) | (with_reducible refine below_drewN ?_ _) | (with_reducible refine below_tt ?_ (by assumption))))⟩
  · have HV : Hid (feastR f y = (0, 2)) := by unfold feastR Hid; rw [hs, hy]; rfl
    have h1 := Lib.hid hs
    have h2 := Lib.hid hy
    clear hs hy
    go_enter Tryd.func21, Tryd.ntmps21
    go_wp2_with (first | (go_at_call 25; refine (isFeast_is h1.out _).mono ?_; rintro e w' ⟨rfl, rfl⟩) | (go_at_call 33; refine (isYear_is h2.out _).mono ?_; rintro e w' ⟨rfl, rfl⟩))
    go_ret2
    exact ⟨by rw [HV.out]; rfl, by (repeat' (first | (with_reducible exact Below.refl _ _) | (with_reducible assumption) | (with_reducible refine below_al ?_ _) | (with_reducible refine Below.drew ?_) | (with_reducible refine Below.setCell ?_ (by first | exact Nat.le_refl _ | (dsimp only; omega) | (simp; omega)) _) | (with_reducible refine below_drewN ?_ _) | (with_reducible refine below_tt ?_ (by assumption))))⟩
  · have HV : Hid (feastR f y = (feastI f y, 0)) := by unfold feastR Hid; rw [hs, hy]; rfl
    have hf := inR_t hs
    have hb := inR_t hy
    have hd := feast_day hf.1 hf.2 hb.1 hb.2
    have hin := Lib.hid (inR_mk hd.1 hd.2)
    have h1 := Lib.hid hs
    have h2 := Lib.hid hy
    clear hs hy
    go_enter Tryd.func21, Tryd.ntmps21
    go_wp2_with (first | (go_at_call 25; refine (isFeast_is h1.out _).mono ?_; rintro e w' ⟨rfl, rfl⟩) | (go_at_call 33; refine (isYear_is h2.out _).mono ?_; rintro e w' ⟨rfl, rfl⟩) | (go_at_call 47; (refine (feastDay_any _ _ _ hf.1 hf.2 hb.1 hb.2).mono ?_; rintro e w' ⟨rfl, hb⟩; obtain ⟨hc, hf⟩ := bcell hb; have hz := bsize hb; (first | (have hB := below_tt hB hb) | (have hB := below_tt (below_al hB _) hb) | (have hB := below_tt (below_al (below_al hB _) _) hb) | (have hB := hb)); obtain ⟨hc0, hf0⟩ := bcell hB; have hz0 := bsize hB; (first | (have h2 := below_tt hp hb; obtain ⟨hc2, hf2⟩ := bcell h2; have hz2 := bsize h2) | (have h2 := below_tt (below_al hp _) hb; obtain ⟨hc2, hf2⟩ := bcell h2; have hz2 := bsize h2) | skip); have hp := hb)) | (go_at_call 34; refine (dayOr_in hin.out _).mono ?_; rintro e w' ⟨rfl, rfl⟩))
    go_ret2
    exact ⟨by rw [HV.out]; rfl, by (repeat' (first | (with_reducible exact Below.refl _ _) | (with_reducible assumption) | (with_reducible refine below_al ?_ _) | (with_reducible refine Below.drew ?_) | (with_reducible refine Below.setCell ?_ (by first | exact Nat.le_refl _ | (dsimp only; omega) | (simp; omega)) _) | (with_reducible refine below_drewN ?_ _) | (with_reducible refine below_tt ?_ (by assumption))))⟩

end Go.Proofs.YtnjfpipadfcapaaDoor
