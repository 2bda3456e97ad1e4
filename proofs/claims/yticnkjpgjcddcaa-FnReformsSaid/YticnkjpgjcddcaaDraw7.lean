/- What the reference draws for the laws of calendars. -/
import Derived.Test.YticnkjpgjcddcaaDraw6
import Derived.Deep.RegionHeld3
import Derived.IntWalk
namespace Go.Proofs.Yticnkjpgjcddcaa
open Go.RowKit

theorem Src.drew {w : World} {base B n : Nat} {v : Value} (h : Src w base B v n) : Src w.drew base B v n := by obtain ⟨k, sd, h⟩ := h; exact ⟨k, sd, h.drew⟩
theorem D1.drew {w : World} {g : Nat} {c : Int} (h : D1 w g c) : D1 w.drew g c := h.below (Below.refl _ _).drew
theorem D3.drew {w : World} {g : Nat} {y m d : Int} (h : D3 w g y m d) : D3 w.drew g y m d := h.below (Below.refl _ _).drew
theorem ny_le (f : Bool) : nyear 1 f ≤ 2 := by cases f <;> decide
theorem quo366 {y : Int} (h : 199999 ≤ y) (h2 : y ≤ 730500) : 500 ≤ y.tdiv 366 ∧ y.tdiv 366 ≤ 2000 := by
  rw [Int.tdiv_eq_ediv_of_nonneg (by omega)]
  omega


set_option maxRecDepth 10000 in
set_option maxHeartbeats 8000000 in
theorem l03DrawDate_any {base B : Nat} {v : Value} {n : Nat} {w : World} (h : Src w base B v n) (hn : n ≤ 1000000) :
    Calls Try.prog 135 #[.pointer (some ⟨B, 0, none⟩)] w fun e w' => ∃ c y m d : Int, e = .returned (.tuple #[.agg #[.int .i64 c], .agg #[.int .i64 y, .int .i64 m, .int .i64 d]]) ∧ (199999 ≤ c ∧ c ≤ 730500) ∧ Src w' base B v n ∧ w.grownBy w' (some B) := by
  have hBs := h.hB
  have S00 := h.al (.cells #[.int .i64 0] 54)
  have G00 := gb_alloc (World.grownBy.refl w (some B)) (.cells #[.int .i64 0] 54)
  have E0 := D1.made w 0 54
  have ne0 : w.heap.size ≠ B := by omega
  have S01 := S00.al (.cells #[.int .i64 0, .int .i64 0, .int .i64 0] 43)
  have G01 := gb_alloc G00 (.cells #[.int .i64 0, .int .i64 0, .int .i64 0] 43)
  have E0 := E0.al (.cells #[.int .i64 0, .int .i64 0, .int .i64 0] 43)
  have E1 := D3.made (w.alloc (.cells #[.int .i64 0] 54)) 0 0 0 43
  simp only [World.size_alloc] at E1
  have ne1 : w.heap.size + 1 ≠ B := by omega
  go_enter Try.func135, Try.ntmps135
  go_wp2_with fail
  refine (l03Draw_any S01 hn).mono ?_
  rintro e w1 ⟨c, rfl, hc, S1, g1⟩
  have E0 := E0.src g1 ne0
  have E1 := E1.src g1 ne1
  have G1 := gb_trans G01 g1
  obtain ⟨c1, c2⟩ := hc
  have E0 := E0.al (.cells #[.int .i64 c] 54)
  have E1 := E1.al (.cells #[.int .i64 c] 54)
  have C := D1.made w1 c 54
  have neC := Nat.ne_of_gt S1.hB
  have SbC := S1.al (.cells #[.int .i64 c] 54)
  have GbC := gb_alloc G1 (.cells #[.int .i64 c] 54)
  go_wp2_with fail
  refine (l01Next_any 3 SbC hn (by omega)).mono ?_
  rintro e w2 ⟨x, rfl, hx, S2, g2⟩
  obtain ⟨x1, x2⟩ := inN_bd hx (by omega)
  clear hx
  have E0 := E0.src g2 ne0
  have E1 := E1.src g2 ne1
  have C := C.src g2 neC
  have G2 := gb_trans GbC g2
  by_cases x_x : x = 0
  · subst x_x
    have E0c := E0.c0
    have E0f := E0.fr
    have E1c0 := E1.c0
    have E1f0 := E1.fr 0
    have E1c1 := E1.c1
    have E1f1 := E1.fr 1
    have E1c2 := E1.c2
    have E1f2 := E1.fr 2
    have Cc := C.c0
    have Cf := C.fr
    go_wp2_with fail
    have Sd := Src.drew S2
    have E0d := E0.drew
    have E1d := E1.drew
    have Cd := C.drew
    have znE0 : w.heap.size < w1.heap.size := by have := g1.size; (try simp at this); omega
    have znE1 : w.heap.size + 1 < w1.heap.size := by have := g1.size; (try simp at this); omega
    have Gd := gb_drew G2
    have Cdc0 := Cd.c0
    go_region_held3 (fun w'' => w''.cell? ⟨w1.heap.size, 0, none⟩ = some (.int .i64 c) ) (((repeat (refine set_other ?_ (by omega))); with_reducible assumption)) (first | (go_at_call 114; refine (l01DrawDate_any (by with_reducible assumption) hn).mono ?_; rintro e w3 ⟨y, m, d, rfl, S3, g3⟩; have E0 := D1.src (g := w.heap.size) (c := 0) (by with_reducible assumption) g3 ne0; have E1 := D3.src (g := w.heap.size + 1) (y := 0) (m := 0) (d := 0) (by with_reducible assumption) g3 ne1; have C := D1.src (g := w1.heap.size) (c := c) (by with_reducible assumption) g3 neC; have G3 := gb_trans (by with_reducible assumption) g3; have Ch0 := C.c0; have E0c := E0.c0; have E0f := E0.fr; have E1c0 := E1.c0; have E1f0 := E1.fr 0; have E1c1 := E1.c1; have E1f1 := E1.fr 1; have E1c2 := E1.c2; have E1f2 := E1.fr 2))
    have E0c := E0.c0
    have E0f := E0.fr
    have E1c0 := E1.c0
    have E1f0 := E1.fr 0
    have E1c1 := E1.c1
    have E1f1 := E1.fr 1
    have E1c2 := E1.c2
    have E1f2 := E1.fr 2
    have Cc := C.c0
    have Cf := C.fr
    have nn01 : w.heap.size ≠ w.heap.size + 1 := by omega
    have nn10 : w.heap.size + 1 ≠ w.heap.size := by omega
    go_wp2_with fail
    refine bodyPost_ret (v := .tuple #[.agg #[.int .i64 c], .agg #[.int .i64 y, .int .i64 m, .int .i64 d]]) (by simp [results, Try.results135, go_sem, *]) rfl ⟨c, y, m, d, rfl, ⟨by omega, by omega⟩, ?_, ?_⟩
    · (repeat' (first | (with_reducible assumption) | (with_reducible refine Src.set ?_ ?_) | omega))
    · (repeat' (first | (with_reducible assumption) | (with_reducible exact Nat.le_refl _) | (with_reducible refine gb_setg ?_ ?_) | omega))
  · have d_x : (x == 0) = false := by simpa using x_x
    have E0c := E0.c0
    have E0f := E0.fr
    have E1c0 := E1.c0
    have E1f0 := E1.fr 0
    have E1c1 := E1.c1
    have E1f1 := E1.fr 1
    have E1c2 := E1.c2
    have E1f2 := E1.fr 2
    have Cc := C.c0
    have Cf := C.fr
    by_cases hin : 100 ≤ c ∧ c ≤ 700000
    · have hi := Lib.hid (inR_mk hin.1 hin.2)
      go_wp2_with fail
      refine (l01In_is hi.out _).mono ?_
      rintro e w' ⟨rfl, rfl⟩
      have E0c := E0.c0
      have E0f := E0.fr
      have E1c0 := E1.c0
      have E1f0 := E1.fr 0
      have E1c1 := E1.c1
      have E1f1 := E1.fr 1
      have E1c2 := E1.c2
      have E1f2 := E1.fr 2
      have Cc := C.c0
      have Cf := C.fr
      have ny := ny_le
      go_wp2_with fail
      have Sd := Src.drew S2
      have E0d := E0.drew
      have E1d := E1.drew
      have Cd := C.drew
      have znE0 : w.heap.size < w1.heap.size := by have := g1.size; (try simp at this); omega
      have znE1 : w.heap.size + 1 < w1.heap.size := by have := g1.size; (try simp at this); omega
      have Gd := gb_drew G2
      have Cdc0 := Cd.c0
      have flag3 : True := trivial
      have flag4 : True := trivial
      have flag5 : True := trivial
      go_region_held3 (fun w'' => w''.cell? ⟨w1.heap.size, 0, none⟩ = some (.int .i64 c) ) (((repeat (refine set_other ?_ (by omega))); with_reducible assumption)) (first | (go_at_call 126; clear flag3; refine (l01Next_any 40 (by with_reducible assumption) hn (by omega)).mono ?_; rintro e w3 ⟨p, rfl, hp, S3, g3⟩; have E0 := D1.src (g := w.heap.size) (c := 0) (by with_reducible assumption) g3 ne0; have E1 := D3.src (g := w.heap.size + 1) (y := 0) (m := 0) (d := 0) (by with_reducible assumption) g3 ne1; have C := D1.src (g := w1.heap.size) (c := c) (by with_reducible assumption) g3 neC; have G3 := gb_trans (by with_reducible assumption) g3; have Ch0 := C.c0; have E0c := E0.c0; have E0f := E0.fr; have E1c0 := E1.c0; have E1f0 := E1.fr 0; have E1c1 := E1.c1; have E1f1 := E1.fr 1; have E1c2 := E1.c2; have E1f2 := E1.fr 2; obtain ⟨p1, p2⟩ := inN_bd hp (by omega); clear hp; have sm1 : IntKind.i64.wrap (c + p) = c + p := IntWalk.i64_in _ (by omega); have sm2 : IntKind.i64.wrap (c + p - 20) = c + p - 20 := IntWalk.i64_in _ (by omega)) | (go_at_call 126; clear flag4; refine (l01Next_any 2 (by with_reducible assumption) hn (by omega)).mono ?_; rintro e w4 ⟨q, rfl, hq, S4, g4⟩; have E0 := D1.src (g := w.heap.size) (c := 0) (by with_reducible assumption) g4 ne0; have E1 := D3.src (g := w.heap.size + 1) (y := 0) (m := 0) (d := 0) (by with_reducible assumption) g4 ne1; have C := D1.src (g := w1.heap.size) (c := c) (by with_reducible assumption) g4 neC; have G4 := gb_trans (by with_reducible assumption) g4; have Ch0 := C.c0; have E0c := E0.c0; have E0f := E0.fr; have E1c0 := E1.c0; have E1f0 := E1.fr 0; have E1c1 := E1.c1; have E1f1 := E1.fr 1; have E1c2 := E1.c2; have E1f2 := E1.fr 2; clear hq) | (go_at_call 140; clear flag5; refine (l01Date_any (c + p - 20) _ _ (by have := ny (q == 0); omega) (by omega)).mono ?_; rintro e w5 ⟨rfl, b5⟩; have E0 := D1.below (g := w.heap.size) (c := 0) (by with_reducible assumption) b5; have E1 := D3.below (g := w.heap.size + 1) (y := 0) (m := 0) (d := 0) (by with_reducible assumption) b5; have C := D1.below (g := w1.heap.size) (c := c) (by with_reducible assumption) b5; have S5 := Src.below (by with_reducible assumption) b5; have G5 := gb_below (by with_reducible assumption) b5; have Ch0 := C.c0; have E0c := E0.c0; have E0f := E0.fr; have E1c0 := E1.c0; have E1f0 := E1.fr 0; have E1c1 := E1.c1; have E1f1 := E1.fr 1; have E1c2 := E1.c2; have E1f2 := E1.fr 2))
      have E0c := E0.c0
      have E0f := E0.fr
      have E1c0 := E1.c0
      have E1f0 := E1.fr 0
      have E1c1 := E1.c1
      have E1f1 := E1.fr 1
      have E1c2 := E1.c2
      have E1f2 := E1.fr 2
      have Cc := C.c0
      have Cf := C.fr
      have nn01 : w.heap.size ≠ w.heap.size + 1 := by omega
      have nn10 : w.heap.size + 1 ≠ w.heap.size := by omega
      go_wp2_with fail
      refine bodyPost_ret (v := .tuple #[.agg #[.int .i64 c], .agg #[.int .i64 (sdat (c + p - 20) (q == 0)).1, .int .i64 (sdat (c + p - 20) (q == 0)).2.1, .int .i64 (sdat (c + p - 20) (q == 0)).2.2]]) (by simp [results, Try.results135, go_sem, *]) rfl ⟨c, (sdat (c + p - 20) (q == 0)).1, (sdat (c + p - 20) (q == 0)).2.1, (sdat (c + p - 20) (q == 0)).2.2, rfl, ⟨by omega, by omega⟩, ?_, ?_⟩
      · (repeat' (first | (with_reducible assumption) | (with_reducible refine Src.set ?_ ?_) | omega))
      · (repeat' (first | (with_reducible assumption) | (with_reducible exact Nat.le_refl _) | (with_reducible refine gb_setg ?_ ?_) | omega))
    · have hi := Lib.hid (inR_not (n := c) (a := 100) (b := 700000) (by omega))
      go_wp2_with fail
      refine (l01In_is hi.out _).mono ?_
      rintro e w' ⟨rfl, rfl⟩
      have E0c := E0.c0
      have E0f := E0.fr
      have E1c0 := E1.c0
      have E1f0 := E1.fr 0
      have E1c1 := E1.c1
      have E1f1 := E1.fr 1
      have E1c2 := E1.c2
      have E1f2 := E1.fr 2
      have Cc := C.c0
      have Cf := C.fr
      go_wp2_with fail
      have Sd := Src.drew S2
      have E0d := E0.drew
      have E1d := E1.drew
      have Cd := C.drew
      have znE0 : w.heap.size < w1.heap.size := by have := g1.size; (try simp at this); omega
      have znE1 : w.heap.size + 1 < w1.heap.size := by have := g1.size; (try simp at this); omega
      have Gd := gb_drew G2
      have Cdc0 := Cd.c0
      go_region_held3 (fun w'' => w''.cell? ⟨w1.heap.size, 0, none⟩ = some (.int .i64 c) ) (((repeat (refine set_other ?_ (by omega))); with_reducible assumption)) (first | (go_at_call 114; refine (l01DrawDate_any (by with_reducible assumption) hn).mono ?_; rintro e w3 ⟨y, m, d, rfl, S3, g3⟩; have E0 := D1.src (g := w.heap.size) (c := 0) (by with_reducible assumption) g3 ne0; have E1 := D3.src (g := w.heap.size + 1) (y := 0) (m := 0) (d := 0) (by with_reducible assumption) g3 ne1; have C := D1.src (g := w1.heap.size) (c := c) (by with_reducible assumption) g3 neC; have G3 := gb_trans (by with_reducible assumption) g3; have Ch0 := C.c0; have E0c := E0.c0; have E0f := E0.fr; have E1c0 := E1.c0; have E1f0 := E1.fr 0; have E1c1 := E1.c1; have E1f1 := E1.fr 1; have E1c2 := E1.c2; have E1f2 := E1.fr 2))
      have E0c := E0.c0
      have E0f := E0.fr
      have E1c0 := E1.c0
      have E1f0 := E1.fr 0
      have E1c1 := E1.c1
      have E1f1 := E1.fr 1
      have E1c2 := E1.c2
      have E1f2 := E1.fr 2
      have Cc := C.c0
      have Cf := C.fr
      have nn01 : w.heap.size ≠ w.heap.size + 1 := by omega
      have nn10 : w.heap.size + 1 ≠ w.heap.size := by omega
      go_wp2_with fail
      refine bodyPost_ret (v := .tuple #[.agg #[.int .i64 c], .agg #[.int .i64 y, .int .i64 m, .int .i64 d]]) (by simp [results, Try.results135, go_sem, *]) rfl ⟨c, y, m, d, rfl, ⟨by omega, by omega⟩, ?_, ?_⟩
      · (repeat' (first | (with_reducible assumption) | (with_reducible refine Src.set ?_ ?_) | omega))
      · (repeat' (first | (with_reducible assumption) | (with_reducible exact Nat.le_refl _) | (with_reducible refine gb_setg ?_ ?_) | omega))

set_option maxRecDepth 10000 in
set_option maxHeartbeats 8000000 in
theorem drawLocalDay_any (v : Value) (n : Nat) (w : World) (h : RB w w.heap.size v n) (hn : n ≤ 4096) :
    Calls Try.prog 66 #[v] w fun e w' => ∃ c y m d : Int, e = .returned (.tuple #[.agg #[.int .i64 c], .agg #[.int .i64 y, .int .i64 m, .int .i64 d]]) ∧ (199999 ≤ c ∧ c ≤ 730500) ∧ Below w.heap.size w w' := by
  have hn' : n ≤ 1000000 := by omega
  have r0 := rb_al h (.cells #[.int .i64 0] 54)
  have E0 := D1.made w 0 54
  have A0 := below_al (Below.refl w.heap.size w) (.cells #[.int .i64 0] 54)
  have r1 := rb_al r0 (.cells #[.int .i64 0, .int .i64 0, .int .i64 0] 43)
  have E0 := E0.al (.cells #[.int .i64 0, .int .i64 0, .int .i64 0] 43)
  have E1 := D3.made (w.alloc (.cells #[.int .i64 0] 54)) 0 0 0 43
  simp only [World.size_alloc] at E1
  have A1 := below_al A0 (.cells #[.int .i64 0, .int .i64 0, .int .i64 0] 43)
  go_enter Try.func66, Try.ntmps66
  go_wp2_with fail
  refine (l01From_any v n _ r1 (by omega)).mono ?_
  rintro e w0 ⟨rfl, S0, b0⟩
  have E0 := E0.below b0
  have E1 := E1.below b0
  have B0 := below_tt A1 b0
  simp only [World.size_alloc] at S0 ⊢
  have ne0 : w.heap.size ≠ w.heap.size + 1 + 1 := by omega
  have ne1 : w.heap.size + 1 ≠ w.heap.size + 1 + 1 := by omega
  go_wp2_with fail
  refine (l03DrawDate_any S0 hn').mono ?_
  rintro e w1 ⟨c, y, m, d, rfl, hc, S1, g1⟩
  have E0 := E0.src g1 ne0
  have E1 := E1.src g1 ne1
  have B1 := below_gb B0 g1 B0.size (by omega)
  have E0c := E0.c0
  have E0f := E0.fr
  have E1c0 := E1.c0
  have E1f0 := E1.fr 0
  have E1c1 := E1.c1
  have E1f1 := E1.fr 1
  have E1c2 := E1.c2
  have E1f2 := E1.fr 2
  have nn01 : w.heap.size ≠ w.heap.size + 1 := by omega
  have nn10 : w.heap.size + 1 ≠ w.heap.size := by omega
  go_wp2_with fail
  refine bodyPost_ret (v := .tuple #[.agg #[.int .i64 c], .agg #[.int .i64 y, .int .i64 m, .int .i64 d]]) (by simp [results, Try.results66, go_sem, *]) rfl ⟨c, y, m, d, rfl, hc, ?_⟩
  (repeat' (first | (with_reducible assumption) | (with_reducible exact Nat.le_refl _) | (with_reducible refine Below.setCell ?_ ?_ _) | (with_reducible refine below_al ?_ _) | omega | (dsimp only; omega)))

set_option maxRecDepth 10000 in
set_option maxHeartbeats 8000000 in
theorem drawLocalDate_any (v : Value) (n : Nat) (w : World) (h : RB w w.heap.size v n) (hn : n ≤ 4096) :
    Calls Try.prog 63 #[v] w fun e w' => ∃ c k : Int, e = .returned (.tuple #[.agg #[.int .i64 c], .int .i64 k]) ∧ (199999 ≤ c ∧ c ≤ 730500) ∧ (-1 ≤ k ∧ k ≤ 731000) ∧ Below w.heap.size w w' := by
  have hn' : n ≤ 1000000 := by omega
  have r0 := rb_al h (.cells #[.int .i64 0] 54)
  have E0 := D1.made w 0 54
  have A0 := below_al (Below.refl w.heap.size w) (.cells #[.int .i64 0] 54)
  go_enter Try.func63, Try.ntmps63
  go_wp2_with fail
  refine (l01From_any v n _ r0 (by omega)).mono ?_
  rintro e w0 ⟨rfl, S0, b0⟩
  have E0 := E0.below b0
  have B0 := below_tt A0 b0
  simp only [World.size_alloc] at S0 ⊢
  have ne0 : w.heap.size ≠ w.heap.size + 1 := by omega
  go_wp2_with fail
  refine (l03Draw_any S0 hn').mono ?_
  rintro e w1 ⟨c, rfl, hc, S1, g1⟩
  have E0 := E0.src g1 ne0
  have B1 := below_gb B0 g1 B0.size (by omega)
  obtain ⟨c1, c2⟩ := hc
  have E0 := E0.al (.cells #[.int .i64 c] 54)
  have C := D1.made w1 c 54
  have neC := Nat.ne_of_gt S1.hB
  have SbC := S1.al (.cells #[.int .i64 c] 54)
  have BbC := below_al B1 (.cells #[.int .i64 c] 54)
  go_wp2_with fail
  refine (l01Next_any 2 SbC hn' (by omega)).mono ?_
  rintro e w2 ⟨x, rfl, hx, S2, g2⟩
  obtain ⟨x1, x2⟩ := inN_bd hx (by omega)
  clear hx
  have E0 := E0.src g2 ne0
  have C := C.src g2 neC
  have B2 := below_gb BbC g2 BbC.size (by omega)
  by_cases x_x : x = 0
  · subst x_x
    have E0c := E0.c0
    have E0f := E0.fr
    have Cc := C.c0
    have Cf := C.fr
    go_wp2_with fail
    have Sd := Src.drew S2
    have E0d := E0.drew
    have Cd := C.drew
    have znE0 : w.heap.size < w1.heap.size := by have := g1.size; (try simp at this); have := b0.size; (try simp at this); omega
    have Gd := Below.drew B2
    have Cdc0 := Cd.c0
    go_region_held3 (fun w'' => w''.cell? ⟨w1.heap.size, 0, none⟩ = some (.int .i64 c) ) (((repeat (refine set_other ?_ (by omega))); with_reducible assumption)) (first | (go_at_call 126; refine (l01Next_any 40 (by with_reducible assumption) hn' (by omega)).mono ?_; rintro e w3 ⟨p, rfl, hp, S3, g3⟩; have E0 := D1.src (g := w.heap.size) (c := 0) (by with_reducible assumption) g3 ne0; have C := D1.src (g := w1.heap.size) (c := c) (by with_reducible assumption) g3 neC; have B3 := below_gb (by with_reducible assumption) g3 (Below.size (by with_reducible assumption)) (by omega); have Ch0 := C.c0; have E0c := E0.c0; have E0f := E0.fr; obtain ⟨p1, p2⟩ := inN_bd hp (by omega); clear hp; have sm1 : IntKind.i64.wrap (c + p) = c + p := IntWalk.i64_in _ (by omega); have sm2 : IntKind.i64.wrap (c + p - 20) = c + p - 20 := IntWalk.i64_in _ (by omega)))
    have E0c := E0.c0
    have E0f := E0.fr
    have Cc := C.c0
    have Cf := C.fr
    go_wp2_with fail
    refine bodyPost_ret (v := .tuple #[.agg #[.int .i64 c], .int .i64 (c + p - 20)]) (by simp [results, Try.results63, go_sem, *]) rfl ⟨c, (c + p - 20), rfl, ⟨by omega, by omega⟩, ⟨by omega, by omega⟩, ?_⟩
    (repeat' (first | (with_reducible assumption) | (with_reducible exact Nat.le_refl _) | (with_reducible refine Below.setCell ?_ ?_ _) | (with_reducible refine below_al ?_ _) | omega | (dsimp only; omega)))
  · have d_x : (x == 0) = false := by simpa using x_x
    have E0c := E0.c0
    have E0f := E0.fr
    have Cc := C.c0
    have Cf := C.fr
    go_wp2_with fail
    have Sd := Src.drew S2
    have E0d := E0.drew
    have Cd := C.drew
    have znE0 : w.heap.size < w1.heap.size := by have := g1.size; (try simp at this); have := b0.size; (try simp at this); omega
    have Gd := Below.drew B2
    have Cdc0 := Cd.c0
    go_region_held3 (fun w'' => w''.cell? ⟨w1.heap.size, 0, none⟩ = some (.int .i64 c) ) (((repeat (refine set_other ?_ (by omega))); with_reducible assumption)) (first | (go_at_call 118; refine (l01DrawDay_any (by with_reducible assumption) hn').mono ?_; rintro e w3 ⟨k, rfl, hk, S3, g3⟩; have E0 := D1.src (g := w.heap.size) (c := 0) (by with_reducible assumption) g3 ne0; have C := D1.src (g := w1.heap.size) (c := c) (by with_reducible assumption) g3 neC; have B3 := below_gb (by with_reducible assumption) g3 (Below.size (by with_reducible assumption)) (by omega); have Ch0 := C.c0; have E0c := E0.c0; have E0f := E0.fr))
    have E0c := E0.c0
    have E0f := E0.fr
    have Cc := C.c0
    have Cf := C.fr
    go_wp2_with fail
    refine bodyPost_ret (v := .tuple #[.agg #[.int .i64 c], .int .i64 k]) (by simp [results, Try.results63, go_sem, *]) rfl ⟨c, k, rfl, ⟨by omega, by omega⟩, ⟨by omega, by omega⟩, ?_⟩
    (repeat' (first | (with_reducible assumption) | (with_reducible exact Nat.le_refl _) | (with_reducible refine Below.setCell ?_ ?_ _) | (with_reducible refine below_al ?_ _) | omega | (dsimp only; omega)))

set_option maxRecDepth 10000 in
set_option maxHeartbeats 8000000 in
theorem drawDaysOfYear_any (v : Value) (n : Nat) (w : World) (h : RB w w.heap.size v n) (hn : n ≤ 4096) :
    Calls Try.prog 76 #[v] w fun e w' => ∃ c k : Int, e = .returned (.tuple #[.agg #[.int .i64 c], .int .i64 k]) ∧ (199999 ≤ c ∧ c ≤ 730500) ∧ (0 ≤ k ∧ k ≤ 4000) ∧ Below w.heap.size w w' := by
  have hn' : n ≤ 1000000 := by omega
  have r0 := rb_al h (.cells #[.int .i64 0] 54)
  have E0 := D1.made w 0 54
  have A0 := below_al (Below.refl w.heap.size w) (.cells #[.int .i64 0] 54)
  go_enter Try.func76, Try.ntmps76
  go_wp2_with fail
  refine (l01From_any v n _ r0 (by omega)).mono ?_
  rintro e w0 ⟨rfl, S0, b0⟩
  have E0 := E0.below b0
  have B0 := below_tt A0 b0
  simp only [World.size_alloc] at S0 ⊢
  have ne0 : w.heap.size ≠ w.heap.size + 1 := by omega
  go_wp2_with fail
  refine (l03Draw_any S0 hn').mono ?_
  rintro e w1 ⟨c, rfl, hc, S1, g1⟩
  have E0 := E0.src g1 ne0
  have B1 := below_gb B0 g1 B0.size (by omega)
  obtain ⟨c1, c2⟩ := hc
  have E0 := E0.al (.cells #[.int .i64 c] 54)
  have C := D1.made w1 c 54
  have neC := Nat.ne_of_gt S1.hB
  have SbC := S1.al (.cells #[.int .i64 c] 54)
  have BbC := below_al B1 (.cells #[.int .i64 c] 54)
  go_wp2_with fail
  refine (l01Next_any 2 SbC hn' (by omega)).mono ?_
  rintro e w2 ⟨x, rfl, hx, S2, g2⟩
  obtain ⟨x1, x2⟩ := inN_bd hx (by omega)
  clear hx
  have E0 := E0.src g2 ne0
  have C := C.src g2 neC
  have B2 := below_gb BbC g2 BbC.size (by omega)
  by_cases x_x : x = 0
  · subst x_x
    have E0c := E0.c0
    have E0f := E0.fr
    have Cc := C.c0
    have Cf := C.fr
    have q366 := quo366 c1 c2
    have smq : IntKind.i64.wrap (c.tdiv 366) = c.tdiv 366 := IntWalk.i64_in _ (by omega)
    have sm0 : IntKind.i64.wrap (c.tdiv 366 + 1) = c.tdiv 366 + 1 := IntWalk.i64_in _ (by omega)
    go_wp2_with fail
    have Sd := Src.drew S2
    have E0d := E0.drew
    have Cd := C.drew
    have znE0 : w.heap.size < w1.heap.size := by have := g1.size; (try simp at this); have := b0.size; (try simp at this); omega
    have Gd := Below.drew B2
    have Cdc0 := Cd.c0
    go_region_held3 (fun w'' => w''.cell? ⟨w1.heap.size, 0, none⟩ = some (.int .i64 c) ) (((repeat (refine set_other ?_ (by omega))); with_reducible assumption)) (first | (go_at_call 126; refine (l01Next_any 4 (by with_reducible assumption) hn' (by omega)).mono ?_; rintro e w3 ⟨p, rfl, hp, S3, g3⟩; have E0 := D1.src (g := w.heap.size) (c := 0) (by with_reducible assumption) g3 ne0; have C := D1.src (g := w1.heap.size) (c := c) (by with_reducible assumption) g3 neC; have B3 := below_gb (by with_reducible assumption) g3 (Below.size (by with_reducible assumption)) (by omega); have Ch0 := C.c0; have E0c := E0.c0; have E0f := E0.fr; obtain ⟨p1, p2⟩ := inN_bd hp (by omega); clear hp; have sm1 : IntKind.i64.wrap (c.tdiv 366 + 1 + p) = c.tdiv 366 + 1 + p := IntWalk.i64_in _ (by omega)))
    have E0c := E0.c0
    have E0f := E0.fr
    have Cc := C.c0
    have Cf := C.fr
    go_wp2_with fail
    refine bodyPost_ret (v := .tuple #[.agg #[.int .i64 c], .int .i64 (c.tdiv 366 + 1 + p)]) (by simp [results, Try.results76, go_sem, *]) rfl ⟨c, (c.tdiv 366 + 1 + p), rfl, ⟨by omega, by omega⟩, ⟨by omega, by omega⟩, ?_⟩
    (repeat' (first | (with_reducible assumption) | (with_reducible exact Nat.le_refl _) | (with_reducible refine Below.setCell ?_ ?_ _) | (with_reducible refine below_al ?_ _) | omega | (dsimp only; omega)))
  · have d_x : (x == 0) = false := by simpa using x_x
    have E0c := E0.c0
    have E0f := E0.fr
    have Cc := C.c0
    have Cf := C.fr
    go_wp2_with fail
    have Sd := Src.drew S2
    have E0d := E0.drew
    have Cd := C.drew
    have znE0 : w.heap.size < w1.heap.size := by have := g1.size; (try simp at this); have := b0.size; (try simp at this); omega
    have Gd := Below.drew B2
    have Cdc0 := Cd.c0
    go_region_held3 (fun w'' => w''.cell? ⟨w1.heap.size, 0, none⟩ = some (.int .i64 c) ) (((repeat (refine set_other ?_ (by omega))); with_reducible assumption)) (first | (go_at_call 126; refine (l01Next_any 2002 (by with_reducible assumption) hn' (by omega)).mono ?_; rintro e w3 ⟨p, rfl, hp, S3, g3⟩; have E0 := D1.src (g := w.heap.size) (c := 0) (by with_reducible assumption) g3 ne0; have C := D1.src (g := w1.heap.size) (c := c) (by with_reducible assumption) g3 neC; have B3 := below_gb (by with_reducible assumption) g3 (Below.size (by with_reducible assumption)) (by omega); have Ch0 := C.c0; have E0c := E0.c0; have E0f := E0.fr; obtain ⟨p1, p2⟩ := inN_bd hp (by omega); clear hp))
    have E0c := E0.c0
    have E0f := E0.fr
    have Cc := C.c0
    have Cf := C.fr
    go_wp2_with fail
    refine bodyPost_ret (v := .tuple #[.agg #[.int .i64 c], .int .i64 p]) (by simp [results, Try.results76, go_sem, *]) rfl ⟨c, p, rfl, ⟨by omega, by omega⟩, ⟨by omega, by omega⟩, ?_⟩
    (repeat' (first | (with_reducible assumption) | (with_reducible exact Nat.le_refl _) | (with_reducible refine Below.setCell ?_ ?_ _) | (with_reducible refine below_al ?_ _) | omega | (dsimp only; omega)))

set_option maxRecDepth 10000 in
set_option maxHeartbeats 8000000 in
theorem drawLocalEaster_any (v : Value) (n : Nat) (w : World) (h : RB w w.heap.size v n) (hn : n ≤ 4096) :
    Calls Try.prog 59 #[v] w fun e w' => ∃ c k : Int, e = .returned (.tuple #[.agg #[.int .i64 c], .int .i64 k]) ∧ (199999 ≤ c ∧ c ≤ 730500) ∧ (0 ≤ k ∧ k ≤ 4000) ∧ Below w.heap.size w w' := by
  have hn' : n ≤ 1000000 := by omega
  have r0 := rb_al h (.cells #[.int .i64 0] 54)
  have E0 := D1.made w 0 54
  have A0 := below_al (Below.refl w.heap.size w) (.cells #[.int .i64 0] 54)
  go_enter Try.func59, Try.ntmps59
  go_wp2_with fail
  refine (l01From_any v n _ r0 (by omega)).mono ?_
  rintro e w0 ⟨rfl, S0, b0⟩
  have E0 := E0.below b0
  have B0 := below_tt A0 b0
  simp only [World.size_alloc] at S0 ⊢
  have ne0 : w.heap.size ≠ w.heap.size + 1 := by omega
  go_wp2_with fail
  refine (l03Draw_any S0 hn').mono ?_
  rintro e w1 ⟨c, rfl, hc, S1, g1⟩
  have E0 := E0.src g1 ne0
  have B1 := below_gb B0 g1 B0.size (by omega)
  obtain ⟨c1, c2⟩ := hc
  have E0 := E0.al (.cells #[.int .i64 c] 54)
  have C := D1.made w1 c 54
  have neC := Nat.ne_of_gt S1.hB
  have SbC := S1.al (.cells #[.int .i64 c] 54)
  have BbC := below_al B1 (.cells #[.int .i64 c] 54)
  go_wp2_with fail
  refine (l01Next_any 2 SbC hn' (by omega)).mono ?_
  rintro e w2 ⟨x, rfl, hx, S2, g2⟩
  obtain ⟨x1, x2⟩ := inN_bd hx (by omega)
  clear hx
  have E0 := E0.src g2 ne0
  have C := C.src g2 neC
  have B2 := below_gb BbC g2 BbC.size (by omega)
  by_cases x_x : x = 0
  · subst x_x
    have E0c := E0.c0
    have E0f := E0.fr
    have Cc := C.c0
    have Cf := C.fr
    have q366 := quo366 c1 c2
    have smq : IntKind.i64.wrap (c.tdiv 366) = c.tdiv 366 := IntWalk.i64_in _ (by omega)
    go_wp2_with fail
    have Sd := Src.drew S2
    have E0d := E0.drew
    have Cd := C.drew
    have znE0 : w.heap.size < w1.heap.size := by have := g1.size; (try simp at this); have := b0.size; (try simp at this); omega
    have Gd := Below.drew B2
    have Cdc0 := Cd.c0
    go_region_held3 (fun w'' => w''.cell? ⟨w1.heap.size, 0, none⟩ = some (.int .i64 c) ) (((repeat (refine set_other ?_ (by omega))); with_reducible assumption)) (first | (go_at_call 126; refine (l01Next_any 4 (by with_reducible assumption) hn' (by omega)).mono ?_; rintro e w3 ⟨p, rfl, hp, S3, g3⟩; have E0 := D1.src (g := w.heap.size) (c := 0) (by with_reducible assumption) g3 ne0; have C := D1.src (g := w1.heap.size) (c := c) (by with_reducible assumption) g3 neC; have B3 := below_gb (by with_reducible assumption) g3 (Below.size (by with_reducible assumption)) (by omega); have Ch0 := C.c0; have E0c := E0.c0; have E0f := E0.fr; obtain ⟨p1, p2⟩ := inN_bd hp (by omega); clear hp; have sm1 : IntKind.i64.wrap (c.tdiv 366 + p) = c.tdiv 366 + p := IntWalk.i64_in _ (by omega)))
    have E0c := E0.c0
    have E0f := E0.fr
    have Cc := C.c0
    have Cf := C.fr
    go_wp2_with fail
    refine bodyPost_ret (v := .tuple #[.agg #[.int .i64 c], .int .i64 (c.tdiv 366 + p)]) (by simp [results, Try.results59, go_sem, *]) rfl ⟨c, (c.tdiv 366 + p), rfl, ⟨by omega, by omega⟩, ⟨by omega, by omega⟩, ?_⟩
    (repeat' (first | (with_reducible assumption) | (with_reducible exact Nat.le_refl _) | (with_reducible refine Below.setCell ?_ ?_ _) | (with_reducible refine below_al ?_ _) | omega | (dsimp only; omega)))
  · have d_x : (x == 0) = false := by simpa using x_x
    have E0c := E0.c0
    have E0f := E0.fr
    have Cc := C.c0
    have Cf := C.fr
    go_wp2_with fail
    have Sd := Src.drew S2
    have E0d := E0.drew
    have Cd := C.drew
    have znE0 : w.heap.size < w1.heap.size := by have := g1.size; (try simp at this); have := b0.size; (try simp at this); omega
    have Gd := Below.drew B2
    have Cdc0 := Cd.c0
    go_region_held3 (fun w'' => w''.cell? ⟨w1.heap.size, 0, none⟩ = some (.int .i64 c) ) (((repeat (refine set_other ?_ (by omega))); with_reducible assumption)) (first | (go_at_call 122; refine (l04DrawYear_any (by with_reducible assumption) hn').mono ?_; rintro e w3 ⟨k, rfl, hk, S3, g3⟩; have E0 := D1.src (g := w.heap.size) (c := 0) (by with_reducible assumption) g3 ne0; have C := D1.src (g := w1.heap.size) (c := c) (by with_reducible assumption) g3 neC; have B3 := below_gb (by with_reducible assumption) g3 (Below.size (by with_reducible assumption)) (by omega); have Ch0 := C.c0; have E0c := E0.c0; have E0f := E0.fr))
    have E0c := E0.c0
    have E0f := E0.fr
    have Cc := C.c0
    have Cf := C.fr
    go_wp2_with fail
    refine bodyPost_ret (v := .tuple #[.agg #[.int .i64 c], .int .i64 k]) (by simp [results, Try.results59, go_sem, *]) rfl ⟨c, k, rfl, ⟨by omega, by omega⟩, ⟨by omega, by omega⟩, ?_⟩
    (repeat' (first | (with_reducible assumption) | (with_reducible exact Nat.le_refl _) | (with_reducible refine Below.setCell ?_ ?_ _) | (with_reducible refine below_al ?_ _) | omega | (dsimp only; omega)))
end Go.Proofs.Yticnkjpgjcddcaa
