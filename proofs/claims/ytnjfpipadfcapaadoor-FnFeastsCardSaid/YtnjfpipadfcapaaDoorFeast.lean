/- The day of a feast: both sides. -/
import Derived.Test.YtnjfpipadfcapaaDoorNum
import Derived.Test.YtnjfpipadfcapaaDoorDay
import Derived.Test.YtnjfpipadfcapaaDoorDates
import Derived.Test.YtnjfpipadfcapaaDoorEast
import Derived.Lib.Hide
import Derived.Deep.RegionHeld3
namespace Go.Proofs.YtnjfpipadfcapaaDoor
open Go.RowKit

/-- Month and day of the feasts that do not move; how far the others are from Easter. -/
def fmon (f : Int) : Int := ([1, 1, 2, 3, 6, 6, 8, 8, 9, 11, 11, 11, 12, 12] : List Int).getD f.toNat 1
def fday (f : Int) : Int := ([1, 6, 2, 25, 24, 29, 10, 15, 29, 1, 11, 30, 6, 25] : List Int).getD f.toNat 1
def foff (f : Int) : Int := ([-46, -7, 0, 39, 49, 56] : List Int).getD (f - 14).toNat 0
/-- The day of a feast in a year. -/
def feastI (f y : Int) : Int := if f < 14 then num y (fmon f) (fday f) false else oeaster y + foff f
def feastR (f y : Int) : Int × Int := if inR f 0 19 = true ∧ inR y 1 2000 = true then (feastI f y, 0) else (0, 2)
theorem oeaster_in {y : Int} (h1 : 1 ≤ y) (_h2 : y ≤ 2000) : nyear y false + 59 ≤ oeaster y ∧ oeaster y ≤ nyear y false + 150 := by
  have a := oem_bd y h1; have b := oed_bd y h1
  have c3 : 59 ≤ cum y 3 false := by have := cum_succ y 1 false (by omega); have := cum_succ y 2 false (by omega); have e1 : mlen y 1 false = 31 := by simp [mlen]
                                     have e2 := mlen_bd y 2 false; have e0 := cum_one y false
                                     have f1 : cum y (1 + 1) false = cum y 2 false := rfl
                                     have f2 : cum y (2 + 1) false = cum y 3 false := rfl
                                     omega
  have m := cum_mono y false (a := 3) (b := oem y) (by omega) (by omega)
  have m' := cum_mono y false (a := oem y) (b := 4) (by omega) (by omega)
  have c4 : cum y 4 false ≤ 93 := by have := cumN_bd y false 3; have e : cum y 4 false = cumN y false 3 := rfl
                                     omega
  unfold oeaster num; omega
theorem feast_in {f y : Int} (h1 : 0 ≤ f) (h2 : f ≤ 19) (h3 : 1 ≤ y) (h4 : y ≤ 2000) : nyear y false ≤ feastI f y ∧ feastI f y < nyear (y + 1) false := by
  have s := nyear_succ y false h3
  have s2 : nyear y false + 365 ≤ nyear (y + 1) false := by rw [s]; split <;> omega
  by_cases hf : f < 14
  · have hv : valid y (fmon f) (fday f) false = true := by
      have hm : 1 ≤ fmon f ∧ fmon f ≤ 12 ∧ 1 ≤ fday f ∧ fday f ≤ 28 ∨ (fmon f = 6 ∧ fday f = 29) ∨ (fmon f = 9 ∧ fday f = 29) ∨ (fmon f = 11 ∧ fday f = 30) := by
        have : f = 0 ∨ f = 1 ∨ f = 2 ∨ f = 3 ∨ f = 4 ∨ f = 5 ∨ f = 6 ∨ f = 7 ∨ f = 8 ∨ f = 9 ∨ f = 10 ∨ f = 11 ∨ f = 12 ∨ f = 13 := by omega
        rcases this with rfl | rfl | rfl | rfl | rfl | rfl | rfl | rfl | rfl | rfl | rfl | rfl | rfl | rfl <;> decide
      rcases hm with h | ⟨e1, e2⟩ | ⟨e1, e2⟩ | ⟨e1, e2⟩
      · have := mlen_bd y (fmon f) false; exact valid_mk h3 h4 h.1 h.2.1 h.2.2.1 (by omega)
      all_goals (rw [e1, e2]; exact valid_mk h3 h4 (by omega) (by omega) (by omega) (by simp [mlen]))
    have := num_bd hv
    unfold feastI; rw [if_pos hf]; exact this
  · have ho : -46 ≤ foff f ∧ foff f ≤ 56 := by
      have : f = 14 ∨ f = 15 ∨ f = 16 ∨ f = 17 ∨ f = 18 ∨ f = 19 := by omega
      rcases this with rfl | rfl | rfl | rfl | rfl | rfl <;> decide
    have := oeaster_in h3 h4
    unfold feastI; rw [if_neg hf]; omega
theorem feast_day {f y : Int} (h1 : 0 ≤ f) (h2 : f ≤ 19) (h3 : 1 ≤ y) (h4 : y ≤ 2000) : 0 ≤ feastI f y ∧ feastI f y ≤ 730499 := by
  have := feast_in h1 h2 h3 h4
  have a := nyear_mono false (a := 1) (b := y) (by omega) (by omega)
  have b := nyear_mono false (a := y + 1) (b := 2001) (by omega) (by omega)
  have := nyear_ends; omega
theorem fm_bd {f : Int} (h1 : 0 ≤ f) (h2 : f < 14) : 1 ≤ fmon f ∧ fmon f ≤ 12 ∧ 1 ≤ fday f ∧ fday f ≤ 30 := by
  have : f = 0 ∨ f = 1 ∨ f = 2 ∨ f = 3 ∨ f = 4 ∨ f = 5 ∨ f = 6 ∨ f = 7 ∨ f = 8 ∨ f = 9 ∨ f = 10 ∨ f = 11 ∨ f = 12 ∨ f = 13 := by omega
  rcases this with rfl | rfl | rfl | rfl | rfl | rfl | rfl | rfl | rfl | rfl | rfl | rfl | rfl | rfl <;> decide
theorem fo_bd {f : Int} (h1 : 14 ≤ f) (h2 : f ≤ 19) : -46 ≤ foff f ∧ foff f ≤ 56 := by
  have : f = 14 ∨ f = 15 ∨ f = 16 ∨ f = 17 ∨ f = 18 ∨ f = 19 := by omega
  rcases this with rfl | rfl | rfl | rfl | rfl | rfl <;> decide
theorem twenty {f : Int} (h1 : 0 ≤ f) (h2 : f ≤ 19) : f = 0 ∨ f = 1 ∨ f = 2 ∨ f = 3 ∨ f = 4 ∨ f = 5 ∨ f = 6 ∨ f = 7 ∨ f = 8 ∨ f = 9 ∨ f = 10 ∨ f = 11 ∨ f = 12 ∨ f = 13 ∨ f = 14 ∨ f = 15 ∨ f = 16 ∨ f = 17 ∨ f = 18 ∨ f = 19 := by omega

/-- The row that fixedFeasts lays. -/
def FIX (w : World) (g : Nat) : Prop := ∀ i : Nat, i < 14 → w.cell? ⟨g, i * 3, none⟩ = some (.int .i64 0) ∧ w.cell? ⟨g, i * 3 + 1, none⟩ = some (.int .i64 (fmon i)) ∧ w.cell? ⟨g, i * 3 + 2, none⟩ = some (.int .i64 (fday i))
def MOV (w : World) (g : Nat) : Prop := ∀ i : Nat, i < 6 → w.cell? ⟨g, i, none⟩ = some (.int .i64 (foff (i + 14)))
set_option maxHeartbeats 1000000 in
theorem fixedFeasts_any (w : World) :
    Calls Tryd.prog 61 #[] w fun e w' => (e = .returned (.slice (some ⟨w.heap.size, 0, none⟩) 14 14) ∧ FIX w' w.heap.size) ∧ Below w.heap.size w w' := by
  go_enter Tryd.func61, Tryd.ntmps61
  go_wp2
  go_ret
  refine ⟨⟨rfl, ?_⟩, by (repeat' (first | (with_reducible exact Below.refl _ _) | (with_reducible assumption) | (with_reducible refine below_al ?_ _) | (with_reducible refine Below.drew ?_) | (with_reducible refine Below.setCell ?_ (by first | exact Nat.le_refl _ | (dsimp only; omega) | (simp; omega)) _) | (with_reducible refine below_drewN ?_ _) | (with_reducible refine below_tt ?_ (by assumption))))⟩
  intro i hi
  have : i = 0 ∨ i = 1 ∨ i = 2 ∨ i = 3 ∨ i = 4 ∨ i = 5 ∨ i = 6 ∨ i = 7 ∨ i = 8 ∨ i = 9 ∨ i = 10 ∨ i = 11 ∨ i = 12 ∨ i = 13 := by omega
  rcases this with rfl | rfl | rfl | rfl | rfl | rfl | rfl | rfl | rfl | rfl | rfl | rfl | rfl | rfl <;> (simp only [World.cell?_alloc_new]; exact ⟨rfl, rfl, rfl⟩)
theorem movableFeasts_any (w : World) :
    Calls Tryd.prog 63 #[] w fun e w' => (e = .returned (.slice (some ⟨w.heap.size, 0, none⟩) 6 6) ∧ MOV w' w.heap.size) ∧ Below w.heap.size w w' := by
  go_enter Tryd.func63, Tryd.ntmps63
  go_wp2
  go_ret
  refine ⟨⟨rfl, ?_⟩, by (repeat' (first | (with_reducible exact Below.refl _ _) | (with_reducible assumption) | (with_reducible refine below_al ?_ _) | (with_reducible refine Below.drew ?_) | (with_reducible refine Below.setCell ?_ (by first | exact Nat.le_refl _ | (dsimp only; omega) | (simp; omega)) _) | (with_reducible refine below_drewN ?_ _) | (with_reducible refine below_tt ?_ (by assumption))))⟩
  intro i hi
  have : i = 0 ∨ i = 1 ∨ i = 2 ∨ i = 3 ∨ i = 4 ∨ i = 5 := by omega
  rcases this with rfl | rfl | rfl | rfl | rfl | rfl <;> (simp only [World.cell?_alloc_new]; rfl)

set_option maxHeartbeats 1000000 in
theorem feastDay_any (f y : Int) (w : World) (h1 : 0 ≤ f) (h2 : f ≤ 19) (h3 : 1 ≤ y) (h4 : y ≤ 2000) :
    Calls Tryd.prog 47 #[.int .i64 f, .int .i64 y] w fun e w' => e = .returned (.int .i64 (feastI f y)) ∧ Below w.heap.size w w' := by
  have ho := oeaster_in h3 h4
  have hn := nyear_lo y false h3 (by omega)
  obtain ⟨i, rfl⟩ : ∃ i : Nat, f = (i : Int) := ⟨f.toNat, by omega⟩
  by_cases hf : (i : Int) < 14
  · have rg := cell_rg; have l2 : ∀ n : Nat, n < n + 1 + 1 := (fun _ => by omega); have l3 : ∀ n : Nat, n < n + 1 + 1 + 1 := (fun _ => by omega); have l4 : ∀ n : Nat, n < n + 1 + 1 + 1 + 1 := (fun _ => by omega)
    go_enter Tryd.func47, Tryd.ntmps47
    go_wp2_with fail
    refine (fixedFeasts_any _).mono ?_
    rintro e w1 ⟨⟨rfl, hF⟩, hb⟩
    have hc := hF i (by omega)
    obtain ⟨c0, c1, c2⟩ := hc
    clear hF
    have hfb := fm_bd (f := (i : Int)) (by omega) hf
    have HV : Hid (feastI i y = num y (fmon i) (fday i) false) := by unfold feastI Hid; rw [if_pos hf]
    go_wp2_with fail
    refine (dayOf_any _ _ _ _ _ (by omega) (by omega) (by omega) (by omega) (by omega) (by omega)).mono ?_
    rintro e w2 ⟨rfl, hb2⟩
    go_wp2
    go_ret
    exact ⟨ret_int HV.out.symm, by (repeat' (first | (with_reducible exact Below.refl _ _) | (with_reducible assumption) | (with_reducible refine below_al ?_ _) | (with_reducible refine Below.drew ?_) | (with_reducible refine Below.setCell ?_ (by first | exact Nat.le_refl _ | (dsimp only; omega) | (simp; omega)) _) | (with_reducible refine below_drewN ?_ _) | (with_reducible refine below_tt ?_ (by assumption))))⟩
  · obtain ⟨j, rfl⟩ : ∃ j : Nat, i = j + 14 := ⟨i - 14, by omega⟩
    have hob := fo_bd (f := (j : Int) + 14) (by omega) (by omega)
    have HV : Hid (feastI ((j + 14 : Nat) : Int) y = oeaster y + foff ((j : Int) + 14)) := by unfold feastI Hid; rw [if_neg hf]; rfl
    have rg := cell_rg; have l2 : ∀ n : Nat, n < n + 1 + 1 := (fun _ => by omega); have l3 : ∀ n : Nat, n < n + 1 + 1 + 1 := (fun _ => by omega); have l4 : ∀ n : Nat, n < n + 1 + 1 + 1 + 1 := (fun _ => by omega)
    go_enter Tryd.func47, Tryd.ntmps47
    go_wp2_with fail
    refine (fixedFeasts_any _).mono ?_
    rintro e w1 ⟨⟨rfl, hF⟩, hb⟩
    clear hF
    go_wp2_with fail
    refine (oldEaster_any _ _ h3 h4).mono ?_
    rintro e w2 ⟨rfl, hb2⟩
    go_wp2_with fail
    refine (movableFeasts_any _).mono ?_
    rintro e w3 ⟨⟨rfl, hM⟩, hb3⟩
    have c0 := hM j (by omega)
    clear hM
    go_wp2_with fail
    go_ret
    exact ⟨ret_int HV.out.symm, by (repeat' (first | (with_reducible exact Below.refl _ _) | (with_reducible assumption) | (with_reducible refine below_al ?_ _) | (with_reducible refine Below.drew ?_) | (with_reducible refine Below.setCell ?_ (by first | exact Nat.le_refl _ | (dsimp only; omega) | (simp; omega)) _) | (with_reducible refine below_drewN ?_ _) | (with_reducible refine below_tt ?_ (by assumption))))⟩

/-- The two rows that l05Day lays. -/
def W2 (w : World) (t : TypeId) : World := (w.alloc (.cells #[.int .i64 1, .int .i64 1, .int .i64 2, .int .i64 3, .int .i64 6, .int .i64 6, .int .i64 8, .int .i64 8, .int .i64 9, .int .i64 11, .int .i64 11, .int .i64 11, .int .i64 12, .int .i64 12] t)).alloc (.cells #[.int .i64 1, .int .i64 6, .int .i64 2, .int .i64 25, .int .i64 24, .int .i64 29, .int .i64 10, .int .i64 15, .int .i64 29, .int .i64 1, .int .i64 11, .int .i64 30, .int .i64 6, .int .i64 25] t)
theorem W2_cells (w : World) (t : TypeId) : ∀ i : Nat, i < 14 → (W2 w t).cell? ⟨w.heap.size, i, none⟩ = some (.int .i64 (fmon i)) ∧ (W2 w t).cell? ⟨w.heap.size + 1, i, none⟩ = some (.int .i64 (fday i)) := by
  intro i hi
  have e1 : (W2 w t).cell? ⟨w.heap.size, i, none⟩ = (#[.int .i64 1, .int .i64 1, .int .i64 2, .int .i64 3, .int .i64 6, .int .i64 6, .int .i64 8, .int .i64 8, .int .i64 9, .int .i64 11, .int .i64 11, .int .i64 11, .int .i64 12, .int .i64 12] : Array Value)[i]? := by
    unfold W2; rw [World.cell?_alloc_past (hn := by simp), World.cell?_alloc_new]
  have e2 : (W2 w t).cell? ⟨w.heap.size + 1, i, none⟩ = (#[.int .i64 1, .int .i64 6, .int .i64 2, .int .i64 25, .int .i64 24, .int .i64 29, .int .i64 10, .int .i64 15, .int .i64 29, .int .i64 1, .int .i64 11, .int .i64 30, .int .i64 6, .int .i64 25] : Array Value)[i]? := by
    unfold W2; rw [World.cell?_alloc_at (hn := by simp)]
  rw [e1, e2]
  have : i = 0 ∨ i = 1 ∨ i = 2 ∨ i = 3 ∨ i = 4 ∨ i = 5 ∨ i = 6 ∨ i = 7 ∨ i = 8 ∨ i = 9 ∨ i = 10 ∨ i = 11 ∨ i = 12 ∨ i = 13 := by omega
  rcases this with rfl | rfl | rfl | rfl | rfl | rfl | rfl | rfl | rfl | rfl | rfl | rfl | rfl | rfl <;> exact ⟨rfl, rfl⟩
theorem W2_below (w : World) (t : TypeId) : Below w.heap.size w (W2 w t) := by unfold W2; (repeat' (first | (with_reducible exact Below.refl _ _) | (with_reducible assumption) | (with_reducible refine below_al ?_ _) | (with_reducible refine Below.drew ?_) | (with_reducible refine Below.setCell ?_ (by first | exact Nat.le_refl _ | (dsimp only; omega) | (simp; omega)) _) | (with_reducible refine below_drewN ?_ _) | (with_reducible refine below_tt ?_ (by assumption))))
theorem W2_size (w : World) (t : TypeId) : (W2 w t).heap.size = w.heap.size + 2 := by simp [W2]

theorem mv_cell (j : Nat) (h : j < 6) : (#[.int .i64 (-46), .int .i64 (-7), .int .i64 0, .int .i64 39, .int .i64 49, .int .i64 56] : Array Value)[j]? = some (.int .i64 (foff ((j : Int) + 14))) := by
  have : j = 0 ∨ j = 1 ∨ j = 2 ∨ j = 3 ∨ j = 4 ∨ j = 5 := by omega
  rcases this with rfl | rfl | rfl | rfl | rfl | rfl <;> rfl
theorem sEas_any (y : Int) (w : World) (h : 1 ≤ y) (k : y ≤ 2000) :
    Calls Tryd.prog 54 #[.agg #[.int .i64 y, .int .i64 (oem y), .int .i64 (oed y)], .bool false] w fun e w' => e = .returned (.int .i64 (oeaster y)) ∧ Below w.heap.size w w' := by
  have a := oem_bd y h; have b := oed_bd y h
  exact l01Number_any y (oem y) (oed y) false w h (by omega) (by omega) (by omega) (by omega) (by omega)
set_option maxHeartbeats 2000000 in
theorem l05Mov14 (y : Int) (w : World) (h3 : 1 ≤ y) (h4 : y ≤ 2000) :
    Calls Tryd.prog 40 #[.int .i64 14, .int .i64 y] w fun e w' => e = .returned (.int .i64 (feastI 14 y)) ∧ Below w.heap.size w w' := by
  have ho := oeaster_in h3 h4
  have hn := nyear_lo y false h3 (by omega)
  have ma := oem_bd y h3
  have mb := oed_bd y h3
  have HV : Hid (feastI 14 y = oeaster y + -46) := rfl
  have l2 : ∀ n : Nat, n < n + 1 + 1 := fun _ => by omega
  have q0 : IntKind.i64.wrap 0 = 0 := by decide
  have q1 : IntKind.i64.wrap (oeaster y + -46) = oeaster y + -46 := IntWalk.i64_in _ (by omega)
  have q2 : IntKind.i64.wrap (oeaster y) = oeaster y := IntWalk.i64_in _ (by omega)
  go_enter Tryd.func40, Tryd.ntmps40
  go_wp2_with fail
  change Code.wp _ _ _ _ (W2 w 2)
  have hbw := W2_below w 2
  generalize W2 w 2 = W at hbw ⊢
  go_region_with (first | (go_at_call 55; refine (l04Old_any _ _ h3 h4).mono ?_; rintro e w8 ⟨rfl, hb⟩; obtain ⟨hc8, hf8⟩ := bcell hb; have hz8 := bsize hb) | (go_at_call 54; refine (sEas_any _ _ h3 h4).mono ?_; rintro e w9 ⟨rfl, hb⟩; obtain ⟨hc9, hf9⟩ := bcell hb; have hz9 := bsize hb))
  all_goals clear q0
  all_goals go_wp2
  all_goals clear q1 q2
  all_goals (go_ret; refine ⟨ret_int ?_, by (repeat' (first | (with_reducible exact Below.refl _ _) | (with_reducible assumption) | (with_reducible refine below_al ?_ _) | (with_reducible refine Below.drew ?_) | (with_reducible refine Below.setCell ?_ (by first | exact Nat.le_refl _ | (dsimp only; omega) | (simp; omega)) _) | (with_reducible refine below_drewN ?_ _) | (with_reducible refine below_tt ?_ (by assumption))))⟩; first | exact HV.out.symm | (rw [HV.out]; omega))
set_option maxHeartbeats 2000000 in
theorem l05Mov15 (y : Int) (w : World) (h3 : 1 ≤ y) (h4 : y ≤ 2000) :
    Calls Tryd.prog 40 #[.int .i64 15, .int .i64 y] w fun e w' => e = .returned (.int .i64 (feastI 15 y)) ∧ Below w.heap.size w w' := by
  have ho := oeaster_in h3 h4
  have hn := nyear_lo y false h3 (by omega)
  have ma := oem_bd y h3
  have mb := oed_bd y h3
  have HV : Hid (feastI 15 y = oeaster y + -7) := rfl
  have l2 : ∀ n : Nat, n < n + 1 + 1 := fun _ => by omega
  have q0 : IntKind.i64.wrap 1 = 1 := by decide
  have q1 : IntKind.i64.wrap (oeaster y + -7) = oeaster y + -7 := IntWalk.i64_in _ (by omega)
  have q2 : IntKind.i64.wrap (oeaster y) = oeaster y := IntWalk.i64_in _ (by omega)
  go_enter Tryd.func40, Tryd.ntmps40
  go_wp2_with fail
  change Code.wp _ _ _ _ (W2 w 2)
  have hbw := W2_below w 2
  generalize W2 w 2 = W at hbw ⊢
  go_region_with (first | (go_at_call 55; refine (l04Old_any _ _ h3 h4).mono ?_; rintro e w8 ⟨rfl, hb⟩; obtain ⟨hc8, hf8⟩ := bcell hb; have hz8 := bsize hb) | (go_at_call 54; refine (sEas_any _ _ h3 h4).mono ?_; rintro e w9 ⟨rfl, hb⟩; obtain ⟨hc9, hf9⟩ := bcell hb; have hz9 := bsize hb))
  all_goals clear q0
  all_goals go_wp2
  all_goals clear q1 q2
  all_goals (go_ret; refine ⟨ret_int ?_, by (repeat' (first | (with_reducible exact Below.refl _ _) | (with_reducible assumption) | (with_reducible refine below_al ?_ _) | (with_reducible refine Below.drew ?_) | (with_reducible refine Below.setCell ?_ (by first | exact Nat.le_refl _ | (dsimp only; omega) | (simp; omega)) _) | (with_reducible refine below_drewN ?_ _) | (with_reducible refine below_tt ?_ (by assumption))))⟩; first | exact HV.out.symm | (rw [HV.out]; omega))
set_option maxHeartbeats 2000000 in
theorem l05Mov16 (y : Int) (w : World) (h3 : 1 ≤ y) (h4 : y ≤ 2000) :
    Calls Tryd.prog 40 #[.int .i64 16, .int .i64 y] w fun e w' => e = .returned (.int .i64 (feastI 16 y)) ∧ Below w.heap.size w w' := by
  have ho := oeaster_in h3 h4
  have hn := nyear_lo y false h3 (by omega)
  have ma := oem_bd y h3
  have mb := oed_bd y h3
  have HV : Hid (feastI 16 y = oeaster y + 0) := rfl
  have l2 : ∀ n : Nat, n < n + 1 + 1 := fun _ => by omega
  have q0 : IntKind.i64.wrap 2 = 2 := by decide
  have q1 : IntKind.i64.wrap (oeaster y + 0) = oeaster y + 0 := IntWalk.i64_in _ (by omega)
  have q2 : IntKind.i64.wrap (oeaster y) = oeaster y := IntWalk.i64_in _ (by omega)
  go_enter Tryd.func40, Tryd.ntmps40
  go_wp2_with fail
  change Code.wp _ _ _ _ (W2 w 2)
  have hbw := W2_below w 2
  generalize W2 w 2 = W at hbw ⊢
  go_region_with (first | (go_at_call 55; refine (l04Old_any _ _ h3 h4).mono ?_; rintro e w8 ⟨rfl, hb⟩; obtain ⟨hc8, hf8⟩ := bcell hb; have hz8 := bsize hb) | (go_at_call 54; refine (sEas_any _ _ h3 h4).mono ?_; rintro e w9 ⟨rfl, hb⟩; obtain ⟨hc9, hf9⟩ := bcell hb; have hz9 := bsize hb))
  all_goals clear q0
  all_goals go_wp2
  all_goals clear q1 q2
  all_goals (go_ret; refine ⟨ret_int ?_, by (repeat' (first | (with_reducible exact Below.refl _ _) | (with_reducible assumption) | (with_reducible refine below_al ?_ _) | (with_reducible refine Below.drew ?_) | (with_reducible refine Below.setCell ?_ (by first | exact Nat.le_refl _ | (dsimp only; omega) | (simp; omega)) _) | (with_reducible refine below_drewN ?_ _) | (with_reducible refine below_tt ?_ (by assumption))))⟩; first | exact HV.out.symm | (rw [HV.out]; omega))
set_option maxHeartbeats 2000000 in
theorem l05Mov17 (y : Int) (w : World) (h3 : 1 ≤ y) (h4 : y ≤ 2000) :
    Calls Tryd.prog 40 #[.int .i64 17, .int .i64 y] w fun e w' => e = .returned (.int .i64 (feastI 17 y)) ∧ Below w.heap.size w w' := by
  have ho := oeaster_in h3 h4
  have hn := nyear_lo y false h3 (by omega)
  have ma := oem_bd y h3
  have mb := oed_bd y h3
  have HV : Hid (feastI 17 y = oeaster y + 39) := rfl
  have l2 : ∀ n : Nat, n < n + 1 + 1 := fun _ => by omega
  have q0 : IntKind.i64.wrap 3 = 3 := by decide
  have q1 : IntKind.i64.wrap (oeaster y + 39) = oeaster y + 39 := IntWalk.i64_in _ (by omega)
  have q2 : IntKind.i64.wrap (oeaster y) = oeaster y := IntWalk.i64_in _ (by omega)
  go_enter Tryd.func40, Tryd.ntmps40
  go_wp2_with fail
  change Code.wp _ _ _ _ (W2 w 2)
  have hbw := W2_below w 2
  generalize W2 w 2 = W at hbw ⊢
  go_region_with (first | (go_at_call 55; refine (l04Old_any _ _ h3 h4).mono ?_; rintro e w8 ⟨rfl, hb⟩; obtain ⟨hc8, hf8⟩ := bcell hb; have hz8 := bsize hb) | (go_at_call 54; refine (sEas_any _ _ h3 h4).mono ?_; rintro e w9 ⟨rfl, hb⟩; obtain ⟨hc9, hf9⟩ := bcell hb; have hz9 := bsize hb))
  all_goals clear q0
  all_goals go_wp2
  all_goals clear q1 q2
  all_goals (go_ret; refine ⟨ret_int ?_, by (repeat' (first | (with_reducible exact Below.refl _ _) | (with_reducible assumption) | (with_reducible refine below_al ?_ _) | (with_reducible refine Below.drew ?_) | (with_reducible refine Below.setCell ?_ (by first | exact Nat.le_refl _ | (dsimp only; omega) | (simp; omega)) _) | (with_reducible refine below_drewN ?_ _) | (with_reducible refine below_tt ?_ (by assumption))))⟩; first | exact HV.out.symm | (rw [HV.out]; omega))
set_option maxHeartbeats 2000000 in
theorem l05Mov18 (y : Int) (w : World) (h3 : 1 ≤ y) (h4 : y ≤ 2000) :
    Calls Tryd.prog 40 #[.int .i64 18, .int .i64 y] w fun e w' => e = .returned (.int .i64 (feastI 18 y)) ∧ Below w.heap.size w w' := by
  have ho := oeaster_in h3 h4
  have hn := nyear_lo y false h3 (by omega)
  have ma := oem_bd y h3
  have mb := oed_bd y h3
  have HV : Hid (feastI 18 y = oeaster y + 49) := rfl
  have l2 : ∀ n : Nat, n < n + 1 + 1 := fun _ => by omega
  have q0 : IntKind.i64.wrap 4 = 4 := by decide
  have q1 : IntKind.i64.wrap (oeaster y + 49) = oeaster y + 49 := IntWalk.i64_in _ (by omega)
  have q2 : IntKind.i64.wrap (oeaster y) = oeaster y := IntWalk.i64_in _ (by omega)
  go_enter Tryd.func40, Tryd.ntmps40
  go_wp2_with fail
  change Code.wp _ _ _ _ (W2 w 2)
  have hbw := W2_below w 2
  generalize W2 w 2 = W at hbw ⊢
  go_region_with (first | (go_at_call 55; refine (l04Old_any _ _ h3 h4).mono ?_; rintro e w8 ⟨rfl, hb⟩; obtain ⟨hc8, hf8⟩ := bcell hb; have hz8 := bsize hb) | (go_at_call 54; refine (sEas_any _ _ h3 h4).mono ?_; rintro e w9 ⟨rfl, hb⟩; obtain ⟨hc9, hf9⟩ := bcell hb; have hz9 := bsize hb))
  all_goals clear q0
  all_goals go_wp2
  all_goals clear q1 q2
  all_goals (go_ret; refine ⟨ret_int ?_, by (repeat' (first | (with_reducible exact Below.refl _ _) | (with_reducible assumption) | (with_reducible refine below_al ?_ _) | (with_reducible refine Below.drew ?_) | (with_reducible refine Below.setCell ?_ (by first | exact Nat.le_refl _ | (dsimp only; omega) | (simp; omega)) _) | (with_reducible refine below_drewN ?_ _) | (with_reducible refine below_tt ?_ (by assumption))))⟩; first | exact HV.out.symm | (rw [HV.out]; omega))
set_option maxHeartbeats 2000000 in
theorem l05Mov19 (y : Int) (w : World) (h3 : 1 ≤ y) (h4 : y ≤ 2000) :
    Calls Tryd.prog 40 #[.int .i64 19, .int .i64 y] w fun e w' => e = .returned (.int .i64 (feastI 19 y)) ∧ Below w.heap.size w w' := by
  have ho := oeaster_in h3 h4
  have hn := nyear_lo y false h3 (by omega)
  have ma := oem_bd y h3
  have mb := oed_bd y h3
  have HV : Hid (feastI 19 y = oeaster y + 56) := rfl
  have l2 : ∀ n : Nat, n < n + 1 + 1 := fun _ => by omega
  have q0 : IntKind.i64.wrap 5 = 5 := by decide
  have q1 : IntKind.i64.wrap (oeaster y + 56) = oeaster y + 56 := IntWalk.i64_in _ (by omega)
  have q2 : IntKind.i64.wrap (oeaster y) = oeaster y := IntWalk.i64_in _ (by omega)
  go_enter Tryd.func40, Tryd.ntmps40
  go_wp2_with fail
  change Code.wp _ _ _ _ (W2 w 2)
  have hbw := W2_below w 2
  generalize W2 w 2 = W at hbw ⊢
  go_region_with (first | (go_at_call 55; refine (l04Old_any _ _ h3 h4).mono ?_; rintro e w8 ⟨rfl, hb⟩; obtain ⟨hc8, hf8⟩ := bcell hb; have hz8 := bsize hb) | (go_at_call 54; refine (sEas_any _ _ h3 h4).mono ?_; rintro e w9 ⟨rfl, hb⟩; obtain ⟨hc9, hf9⟩ := bcell hb; have hz9 := bsize hb))
  all_goals clear q0
  all_goals go_wp2
  all_goals clear q1 q2
  all_goals (go_ret; refine ⟨ret_int ?_, by (repeat' (first | (with_reducible exact Below.refl _ _) | (with_reducible assumption) | (with_reducible refine below_al ?_ _) | (with_reducible refine Below.drew ?_) | (with_reducible refine Below.setCell ?_ (by first | exact Nat.le_refl _ | (dsimp only; omega) | (simp; omega)) _) | (with_reducible refine below_drewN ?_ _) | (with_reducible refine below_tt ?_ (by assumption))))⟩; first | exact HV.out.symm | (rw [HV.out]; omega))
set_option maxHeartbeats 1000000 in
theorem l05Day_any (f y : Int) (w : World) (h1 : 0 ≤ f) (h2 : f ≤ 19) (h3 : 1 ≤ y) (h4 : y ≤ 2000) :
    Calls Tryd.prog 40 #[.int .i64 f, .int .i64 y] w fun e w' => e = .returned (.int .i64 (feastI f y)) ∧ Below w.heap.size w w' := by
  have ho := oeaster_in h3 h4
  have hn := nyear_lo y false h3 (by omega)
  obtain ⟨i, rfl⟩ : ∃ i : Nat, f = (i : Int) := ⟨f.toNat, by omega⟩
  by_cases hf : (i : Int) < 14
  · have rg := cell_rg; have l2 : ∀ n : Nat, n < n + 1 + 1 := (fun _ => by omega); have l3 : ∀ n : Nat, n < n + 1 + 1 + 1 := (fun _ => by omega); have l4 : ∀ n : Nat, n < n + 1 + 1 + 1 + 1 := (fun _ => by omega)
    have hfb := fm_bd (f := (i : Int)) (by omega) hf
    have HV : Hid (feastI i y = num y (fmon i) (fday i) false) := by unfold feastI Hid; rw [if_pos hf]
    have hi2 : ¬ 14 ≤ (i : Int) := by omega
    go_enter Tryd.func40, Tryd.ntmps40
    go_wp2_with fail
    change Code.wp _ _ _ _ (W2 w 2)
    have hc := W2_cells w 2 i (by omega)
    have hbw := W2_below w 2
    have hzz := W2_size w 2
    obtain ⟨c0, c1⟩ := hc
    generalize W2 w 2 = W at c0 c1 hbw hzz ⊢
    have hz1 : w.heap.size < W.heap.size := by omega
    have hz2 : w.heap.size + 1 < W.heap.size := by omega
    clear hzz
    (refine wp_region_quiet_below (by kernel_rfl) (by kernel_rfl) ?_; (repeat (go_big_quiet_step ((go_at_call 54; exact Calls.regrown_of (l01Number_any _ _ _ _ _ (by omega) (by omega) (by omega) (by omega) (by omega) (by omega)))))); refine wpQuiet_nil ?_; intro w9 hw9; have hb := below_of_regrown hw9; clear hw9; obtain ⟨hc, hf⟩ := bcell hb; have hz := bsize hb; (first | (have hB := below_tt hB hb) | (have hB := below_tt (below_al hB _) hb) | (have hB := below_tt (below_al (below_al hB _) _) hb) | (have hB := hb)); obtain ⟨hc0, hf0⟩ := bcell hB; have hz0 := bsize hB; (first | (have h2 := below_tt hp hb; obtain ⟨hc2, hf2⟩ := bcell h2; have hz2 := bsize h2) | (have h2 := below_tt (below_al hp _) hb; obtain ⟨hc2, hf2⟩ := bcell h2; have hz2 := bsize h2) | skip); have hp := hb)
    go_wp2
    go_ret
    exact ⟨ret_int HV.out.symm, by (repeat' (first | (with_reducible exact Below.refl _ _) | (with_reducible assumption) | (with_reducible refine below_al ?_ _) | (with_reducible refine Below.drew ?_) | (with_reducible refine Below.setCell ?_ (by first | exact Nat.le_refl _ | (dsimp only; omega) | (simp; omega)) _) | (with_reducible refine below_drewN ?_ _) | (with_reducible refine below_tt ?_ (by assumption))))⟩
  · have hcas : i = 14 ∨ i = 15 ∨ i = 16 ∨ i = 17 ∨ i = 18 ∨ i = 19 := by omega
    rcases hcas with rfl | rfl | rfl | rfl | rfl | rfl
    · exact l05Mov14 y w h3 h4
    · exact l05Mov15 y w h3 h4
    · exact l05Mov16 y w h3 h4
    · exact l05Mov17 y w h3 h4
    · exact l05Mov18 y w h3 h4
    · exact l05Mov19 y w h3 h4
end Go.Proofs.YtnjfpipadfcapaaDoor
