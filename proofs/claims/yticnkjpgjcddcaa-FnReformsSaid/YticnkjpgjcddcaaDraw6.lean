/- What the reference draws for the laws of years and calendars. -/
import Derived.Test.YticnkjpgjcddcaaDraw5
import Derived.Test.YticnkjpgjcddcaaLoc2
namespace Go.Proofs.Yticnkjpgjcddcaa
open Go.RowKit

/-- A calendar in a box of the call's own. -/
structure D1 (w : World) (g : Nat) (c : Int) : Prop where
  lt : g < w.heap.size
  c0 : w.cell? ⟨g, 0, none⟩ = some (.int .i64 c)
  fr : w.frozen? ⟨g, 0, none⟩ = false
theorem D1.src {w w' : World} {g B : Nat} {c : Int} (h : D1 w g c) (hg : w.grownBy w' (some B)) (hne : g ≠ B) : D1 w' g c := by
  have hb := hg.block g h.lt (fun e => hne (by injection e))
  exact ⟨Nat.lt_of_lt_of_le h.lt hg.size, (World.cell?_of_block (a := ⟨g, 0, none⟩) hb).trans h.c0, by have := h.fr; simp only [World.frozen?] at this ⊢; rw [hb]; exact this⟩
theorem D1.below {w w' : World} {g : Nat} {c : Int} (h : D1 w g c) (hb : Below w.heap.size w w') : D1 w' g c :=
  ⟨Nat.lt_of_lt_of_le h.lt hb.size, (hb.cell (p := ⟨g, 0, none⟩) h.lt).trans h.c0, (hb.frozen (p := ⟨g, 0, none⟩) h.lt).trans h.fr⟩
theorem D1.al {w : World} {g : Nat} {c : Int} (h : D1 w g c) (o : Obj) : D1 (w.alloc o) g c := h.below ((Below.refl _ _).alloc (Nat.le_refl _) o)
theorem D1.made (w : World) (c : Int) (t : TypeId) : D1 (w.alloc (.cells #[.int .i64 c] t)) w.heap.size c := ⟨by simp, by simp [go_sem], by simp [go_sem]⟩

set_option maxHeartbeats 1000000 in
theorem l04DrawYear_any {base B : Nat} {v : Value} {n : Nat} {w : World} (h : Src w base B v n) (hn : n ≤ 1000000) :
    Calls Try.prog 122 #[.pointer (some ⟨B, 0, none⟩)] w fun e w' => ∃ x : Int, e = .returned (.int .i64 x) ∧ (0 ≤ x ∧ x ≤ 2001) ∧ Src w' base B v n ∧ w.grownBy w' (some B) := by
  go_enter Try.func122, Try.ntmps122
  go_wp2_with fail
  refine (l01Next_any 20 h hn (by omega)).mono ?_
  rintro e w1 ⟨x, rfl, hx, hS, hG⟩
  by_cases h0 : x = 0
  · subst h0
    go_wp2_with fail
    have hSa := hS.al (.cells #[.int .i64 0, .int .i64 1, .int .i64 1582, .int .i64 1583, .int .i64 2000, .int .i64 2001] 2)
    refine (l01Pick_any [0, 1, 1582, 1583, 2000, 2001] 6 hSa hn rfl (by omega) (by omega) (by simp) (by have := hS.hB; omega) (nums_alloc w1 [0, 1, 1582, 1583, 2000, 2001] _)).mono ?_
    rintro e w2 ⟨y, rfl, hy, hS2, hG2⟩
    have hyb : 0 ≤ y ∧ y ≤ 2001 := by simp at hy; omega
    go_wp2
    go_ret
    exact ⟨y, rfl, hyb, hS2, gb_trans (gb_alloc hG _) hG2⟩
  · have d0 : (x == 0) = false := by simpa using h0
    go_wp2_with fail
    refine (l01Next_any 2000 hS hn (by omega)).mono ?_
    rintro e w2 ⟨y, rfl, hy, hS2, hG2⟩
    obtain ⟨y1, y2⟩ := inN_bd hy (by omega)
    go_wp2
    go_ret
    exact ⟨1 + y, rfl, by omega, hS2, gb_trans hG hG2⟩


set_option maxRecDepth 10000 in
set_option maxHeartbeats 8000000 in
theorem l03Draw_any {base B : Nat} {v : Value} {n : Nat} {w : World} (h : Src w base B v n) (hn : n ≤ 1000000) :
    Calls Try.prog 131 #[.pointer (some ⟨B, 0, none⟩)] w fun e w' => ∃ c : Int, e = .returned (.agg #[.int .i64 c]) ∧ (199999 ≤ c ∧ c ≤ 730500) ∧ Src w' base B v n ∧ w.grownBy w' (some B) := by
  have hBs := h.hB
  have S00 := h.al (.cells #[.int .i64 0] 54)
  have G00 := gb_alloc (World.grownBy.refl w (some B)) (.cells #[.int .i64 0] 54)
  have E0 := D1.made w 0 54
  have ne0 : w.heap.size ≠ B := by omega
  go_enter Try.func131, Try.ntmps131
  go_wp2_with fail
  refine (l01Next_any 12 S00 hn (by omega)).mono ?_
  rintro e w1 ⟨x, rfl, hx, S1, g1⟩
  obtain ⟨x1, x2⟩ := inN_bd hx (by omega)
  clear hx
  have E0 := E0.src g1 ne0
  have G1 := gb_trans G00 g1
  by_cases x_x : x = 0
  · subst x_x
    go_wp2_with fail
    have T2 := S1.al (.cells #[.int .i64 199999, .int .i64 200000, .int .i64 730486, .int .i64 730487, .int .i64 730500, .int .i64 730499] 2)
    refine (l01Pick_any (g := w1.heap.size) [199999, 200000, 730486, 730487, 730500, 730499] 6 T2 hn rfl (by omega) (by omega) (by simp) (by have := S1.hB; omega) (nums_at (w := w1) [199999, 200000, 730486, 730487, 730500, 730499] _ rfl)).mono ?_
    rintro e w2 ⟨c, rfl, hc, S2, g2⟩
    have cb : 199999 ≤ c ∧ c ≤ 730500 := by simp at hc; omega
    obtain ⟨c1, c2⟩ := cb
    clear hc T2
    have E0 := E0.al (.cells #[.int .i64 199999, .int .i64 200000, .int .i64 730486, .int .i64 730487, .int .i64 730500, .int .i64 730499] 2)
    have A2 := gb_alloc G1 (.cells #[.int .i64 199999, .int .i64 200000, .int .i64 730486, .int .i64 730487, .int .i64 730500, .int .i64 730499] 2)
    have E0 := E0.src g2 ne0
    have G2 := gb_trans A2 g2
    have E0c := E0.c0
    have E0f := E0.fr
    go_wp2_with fail
    refine bodyPost_ret (v := .agg #[.int .i64 c]) (by simp [results, Try.results131, go_sem, *]) rfl ⟨c, rfl, ⟨by omega, by omega⟩, ?_, ?_⟩
    · (repeat' (first | (with_reducible assumption) | (with_reducible refine Src.set ?_ ?_) | omega))
    · (repeat' (first | (with_reducible assumption) | (with_reducible exact Nat.le_refl _) | (with_reducible refine gb_setg ?_ ?_) | omega))
  · have d_x : (x == 0) = false := by simpa using x_x
    go_wp2_with fail
    refine (l01Next_any 200000 S1 hn (by omega)).mono ?_
    rintro e w2 ⟨p, rfl, hp, S2, g2⟩
    obtain ⟨p1, p2⟩ := inN_bd hp (by omega)
    clear hp
    have E0 := E0.src g2 ne0
    have G2 := gb_trans G1 g2
    go_wp2_with fail
    refine (l01Next_any 400000 S2 hn (by omega)).mono ?_
    rintro e w3 ⟨q, rfl, hq, S3, g3⟩
    obtain ⟨q1, q2⟩ := inN_bd hq (by omega)
    clear hq
    have E0 := E0.src g3 ne0
    have G3 := gb_trans G2 g3
    go_wp2_with fail
    have T4 := S3.al (.cells #[.int .i64 577737, .int .i64 639798, .int .i64 730500, .int .i64 (500000 + p), .int .i64 (200000 + q)] 2)
    refine (l01Pick_any (g := w3.heap.size) [577737, 639798, 730500, 500000 + p, 200000 + q] 5 T4 hn rfl (by omega) (by omega) (by simp) (by have := S3.hB; omega) (nums_at (w := w3) [577737, 639798, 730500, 500000 + p, 200000 + q] _ rfl)).mono ?_
    rintro e w4 ⟨c, rfl, hc, S4, g4⟩
    have cb : 199999 ≤ c ∧ c ≤ 730500 := by simp at hc; omega
    obtain ⟨c1, c2⟩ := cb
    clear hc T4
    have E0 := E0.al (.cells #[.int .i64 577737, .int .i64 639798, .int .i64 730500, .int .i64 (500000 + p), .int .i64 (200000 + q)] 2)
    have A4 := gb_alloc G3 (.cells #[.int .i64 577737, .int .i64 639798, .int .i64 730500, .int .i64 (500000 + p), .int .i64 (200000 + q)] 2)
    have E0 := E0.src g4 ne0
    have G4 := gb_trans A4 g4
    have E0c := E0.c0
    have E0f := E0.fr
    go_wp2_with fail
    refine bodyPost_ret (v := .agg #[.int .i64 c]) (by simp [results, Try.results131, go_sem, *]) rfl ⟨c, rfl, ⟨by omega, by omega⟩, ?_, ?_⟩
    · (repeat' (first | (with_reducible assumption) | (with_reducible refine Src.set ?_ ?_) | omega))
    · (repeat' (first | (with_reducible assumption) | (with_reducible exact Nat.le_refl _) | (with_reducible refine gb_setg ?_ ?_) | omega))

set_option maxRecDepth 10000 in
set_option maxHeartbeats 8000000 in
theorem drawSkippedDates_any (v : Value) (n : Nat) (w : World) (h : RB w w.heap.size v n) (hn : n ≤ 4096) :
    Calls Try.prog 73 #[v] w fun e w' => ∃ c : Int, e = .returned (.agg #[.int .i64 c]) ∧ (199999 ≤ c ∧ c ≤ 730500) ∧ Below w.heap.size w w' := by
  have hn' : n ≤ 1000000 := by omega
  have r0 := rb_al h (.cells #[.int .i64 0] 54)
  have E0 := D1.made w 0 54
  have A0 := below_al (Below.refl w.heap.size w) (.cells #[.int .i64 0] 54)
  go_enter Try.func73, Try.ntmps73
  go_wp2_with fail
  refine (l01From_any v n _ r0 (by omega)).mono ?_
  rintro e w0 ⟨rfl, S0, b0⟩
  have E0 := E0.below b0
  have B0 := below_tt A0 b0
  simp only [World.size_alloc] at S0 ⊢
  have ne0 : w.heap.size ≠ w.heap.size + 1 := by omega
  go_wp2_with fail
  refine (l03Draw_any S0 hn').mono ?_
  rintro e w1 ⟨c, rfl, hc, S1, g1⟩
  have E0 := E0.src g1 ne0
  have B1 := below_gb B0 g1 B0.size (by omega)
  have E0c := E0.c0
  have E0f := E0.fr
  go_wp2_with fail
  refine bodyPost_ret (v := .agg #[.int .i64 c]) (by simp [results, Try.results73, go_sem, *]) rfl ⟨c, rfl, hc, ?_⟩
  (repeat' (first | (with_reducible assumption) | (with_reducible exact Nat.le_refl _) | (with_reducible refine Below.setCell ?_ ?_ _) | omega))

set_option maxRecDepth 10000 in
set_option maxHeartbeats 8000000 in
theorem drawSundayLetters_any (v : Value) (n : Nat) (w : World) (h : RB w w.heap.size v n) (hn : n ≤ 4096) :
    Calls Try.prog 44 #[v] w fun e w' => ∃ x : Int, e = .returned (.int .i64 x) ∧ (0 ≤ x ∧ x ≤ 2001) ∧ Below w.heap.size w w' := by
  have hn' : n ≤ 1000000 := by omega
  go_enter Try.func44, Try.ntmps44
  go_wp2_with fail
  refine (l01From_any v n _ h (by omega)).mono ?_
  rintro e w0 ⟨rfl, S0, b0⟩
  have B0 := below_tt (Below.refl w.heap.size w) b0
  go_wp2_with fail
  refine (l04DrawYear_any S0 hn').mono ?_
  rintro e w1 ⟨x, rfl, hx, S1, g1⟩
  have B1 := below_gb B0 g1 B0.size (by omega)
  go_wp2_with fail
  go_ret
  refine ⟨x, rfl, hx, ?_⟩
  (repeat' (first | (with_reducible assumption) | (with_reducible exact Nat.le_refl _) | (with_reducible refine Below.setCell ?_ ?_ _) | omega))

set_option maxRecDepth 10000 in
set_option maxHeartbeats 8000000 in
theorem drawOldEaster_any (v : Value) (n : Nat) (w : World) (h : RB w w.heap.size v n) (hn : n ≤ 4096) :
    Calls Try.prog 52 #[v] w fun e w' => ∃ x : Int, e = .returned (.int .i64 x) ∧ (0 ≤ x ∧ x ≤ 2001) ∧ Below w.heap.size w w' := by
  have hn' : n ≤ 1000000 := by omega
  go_enter Try.func52, Try.ntmps52
  go_wp2_with fail
  refine (l01From_any v n _ h (by omega)).mono ?_
  rintro e w0 ⟨rfl, S0, b0⟩
  have B0 := below_tt (Below.refl w.heap.size w) b0
  go_wp2_with fail
  refine (l04DrawYear_any S0 hn').mono ?_
  rintro e w1 ⟨x, rfl, hx, S1, g1⟩
  have B1 := below_gb B0 g1 B0.size (by omega)
  go_wp2_with fail
  go_ret
  refine ⟨x, rfl, hx, ?_⟩
  (repeat' (first | (with_reducible assumption) | (with_reducible exact Nat.le_refl _) | (with_reducible refine Below.setCell ?_ ?_ _) | omega))

set_option maxRecDepth 10000 in
set_option maxHeartbeats 8000000 in
theorem drawNewEaster_any (v : Value) (n : Nat) (w : World) (h : RB w w.heap.size v n) (hn : n ≤ 4096) :
    Calls Try.prog 56 #[v] w fun e w' => ∃ x : Int, e = .returned (.int .i64 x) ∧ (0 ≤ x ∧ x ≤ 2001) ∧ Below w.heap.size w w' := by
  have hn' : n ≤ 1000000 := by omega
  go_enter Try.func56, Try.ntmps56
  go_wp2_with fail
  refine (l01From_any v n _ h (by omega)).mono ?_
  rintro e w0 ⟨rfl, S0, b0⟩
  have B0 := below_tt (Below.refl w.heap.size w) b0
  go_wp2_with fail
  refine (l01Next_any 8 S0 hn' (by omega)).mono ?_
  rintro e w1 ⟨x, rfl, hx, S1, g1⟩
  obtain ⟨x1, x2⟩ := inN_bd hx (by omega)
  clear hx
  have B1 := below_gb B0 g1 B0.size (by omega)
  by_cases x_x : x = 0
  · subst x_x
    go_wp2_with fail
    refine (l04DrawYear_any S1 hn').mono ?_
    rintro e w2 ⟨y, rfl, hy, S2, g2⟩
    have B2 := below_gb B1 g2 B1.size (by omega)
    go_wp2_with fail
    go_ret
    refine ⟨y, rfl, hy, ?_⟩
    (repeat' (first | (with_reducible assumption) | (with_reducible exact Nat.le_refl _) | (with_reducible refine Below.setCell ?_ ?_ _) | omega))
  · have d_x : (x == 0) = false := by simpa using x_x
    go_wp2_with fail
    refine (l01Next_any 418 S1 hn' (by omega)).mono ?_
    rintro e w2 ⟨y, rfl, hy, S2, g2⟩
    obtain ⟨y1, y2⟩ := inN_bd hy (by omega)
    clear hy
    have B2 := below_gb B1 g2 B1.size (by omega)
    go_wp2_with fail
    go_ret
    refine ⟨1583 + y, rfl, ⟨by omega, by omega⟩, ?_⟩
    (repeat' (first | (with_reducible assumption) | (with_reducible exact Nat.le_refl _) | (with_reducible refine Below.setCell ?_ ?_ _) | omega))

set_option maxRecDepth 10000 in
set_option maxHeartbeats 8000000 in
theorem drawYearsWithEaster_any (v : Value) (n : Nat) (w : World) (h : RB w w.heap.size v n) (hn : n ≤ 4096) :
    Calls Try.prog 49 #[v] w fun e w' => ∃ m d a b : Int, e = .returned (.tuple #[.int .i64 m, .int .i64 d, .int .i64 a, .int .i64 b]) ∧ Below w.heap.size w w' := by
  have hn' : n ≤ 1000000 := by omega
  go_enter Try.func49, Try.ntmps49
  go_wp2_with fail
  refine (l01From_any v n _ h (by omega)).mono ?_
  rintro e w0 ⟨rfl, S0, b0⟩
  have B0 := below_tt (Below.refl w.heap.size w) b0
  go_wp2_with fail
  refine (l04DrawYear_any S0 hn').mono ?_
  rintro e w1 ⟨f, rfl, hf, S1, g1⟩
  have B1 := below_gb B0 g1 B0.size (by omega)
  obtain ⟨f1, f2⟩ := hf
  go_wp2_with fail
  refine (l01Next_any 20 S1 hn' (by omega)).mono ?_
  rintro e w2 ⟨x, rfl, hx, S2, g2⟩
  obtain ⟨x1, x2⟩ := inN_bd hx (by omega)
  clear hx
  have B2 := below_gb B1 g2 B1.size (by omega)
  by_cases x_x : x = 0
  · subst x_x
    go_wp2_with fail
    have T3 := S2.al (.cells #[.int .i64 0, .int .i64 2, .int .i64 4, .int .i64 13] 2)
    refine (l01Pick_any (g := w2.heap.size) [0, 2, 4, 13] 4 T3 hn' rfl (by omega) (by omega) (by simp) (by have := S2.hB; omega) (nums_at (w := w2) [0, 2, 4, 13] _ rfl)).mono ?_
    rintro e w3 ⟨p, rfl, hp, S3, g3⟩
    have pb : 0 ≤ p ∧ p ≤ 13 := by simp at hp; omega
    obtain ⟨p1, p2⟩ := pb
    clear hp T3
    have A3 := below_al B2 (.cells #[.int .i64 0, .int .i64 2, .int .i64 4, .int .i64 13] 2)
    have B3 := below_gb A3 g3 A3.size (by omega)
    go_wp2_with fail
    have T4 := S3.al (.cells #[.int .i64 0, .int .i64 29, .int .i64 30, .int .i64 31] 2)
    refine (l01Pick_any (g := w3.heap.size) [0, 29, 30, 31] 4 T4 hn' rfl (by omega) (by omega) (by simp) (by have := S3.hB; omega) (nums_at (w := w3) [0, 29, 30, 31] _ rfl)).mono ?_
    rintro e w4 ⟨q, rfl, hq, S4, g4⟩
    have qb : 0 ≤ q ∧ q ≤ 31 := by simp at hq; omega
    obtain ⟨q1, q2⟩ := qb
    clear hq T4
    have A4 := below_al B3 (.cells #[.int .i64 0, .int .i64 29, .int .i64 30, .int .i64 31] 2)
    have B4 := below_gb A4 g4 A4.size (by omega)
    go_wp2_with fail
    have T5 := S4.al (.cells #[.int .i64 (-1), .int .i64 0, .int .i64 600, .int .i64 601] 2)
    refine (l01Pick_any (g := w4.heap.size) [-1, 0, 600, 601] 4 T5 hn' rfl (by omega) (by omega) (by simp) (by have := S4.hB; omega) (nums_at (w := w4) [-1, 0, 600, 601] _ rfl)).mono ?_
    rintro e w5 ⟨r, rfl, hr, S5, g5⟩
    have rb : -1 ≤ r ∧ r ≤ 601 := by simp at hr; omega
    obtain ⟨r1, r2⟩ := rb
    clear hr T5
    have A5 := below_al B4 (.cells #[.int .i64 (-1), .int .i64 0, .int .i64 600, .int .i64 601] 2)
    have B5 := below_gb A5 g5 A5.size (by omega)
    go_wp2_with fail
    refine bodyPost_ret (v := .tuple #[.int .i64 p, .int .i64 q, .int .i64 f, .int .i64 (f + r)]) (by simp [results, Try.results49, go_sem, *]) rfl ⟨_, _, _, _, rfl, ?_⟩
    (repeat' (first | (with_reducible assumption) | (with_reducible exact Nat.le_refl _)))
  · have d_x : (x == 0) = false := by simpa using x_x
    go_wp2_with fail
    refine (l01Next_any 2 S2 hn' (by omega)).mono ?_
    rintro e w3 ⟨p, rfl, hp, S3, g3⟩
    obtain ⟨p1, p2⟩ := inN_bd hp (by omega)
    clear hp
    have B3 := below_gb B2 g3 B2.size (by omega)
    go_wp2_with fail
    refine (l01Next_any 30 S3 hn' (by omega)).mono ?_
    rintro e w4 ⟨q, rfl, hq, S4, g4⟩
    obtain ⟨q1, q2⟩ := inN_bd hq (by omega)
    clear hq
    have B4 := below_gb B3 g4 B3.size (by omega)
    go_wp2_with fail
    refine (l01Next_any 300 S4 hn' (by omega)).mono ?_
    rintro e w5 ⟨r, rfl, hr, S5, g5⟩
    obtain ⟨r1, r2⟩ := inN_bd hr (by omega)
    clear hr
    have B5 := below_gb B4 g5 B4.size (by omega)
    go_wp2_with fail
    refine bodyPost_ret (v := .tuple #[.int .i64 (3 + p), .int .i64 (1 + q), .int .i64 f, .int .i64 (f + r)]) (by simp [results, Try.results49, go_sem, *]) rfl ⟨_, _, _, _, rfl, ?_⟩
    (repeat' (first | (with_reducible assumption) | (with_reducible exact Nat.le_refl _)))
end Go.Proofs.Yticnkjpgjcddcaa
