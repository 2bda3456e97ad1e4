/- What the reference draws for the laws of feasts. -/
import Derived.Test.YtnjfpipadfcapaaDoorDraw6
import Derived.IntWalk
namespace Go.Proofs.YtnjfpipadfcapaaDoor
open Go.RowKit

set_option maxRecDepth 10000 in
set_option maxHeartbeats 8000000 in
theorem l05Draw_any {base B : Nat} {v : Value} {n : Nat} {w : World} (h : Src w base B v n) (hn : n ≤ 1000000) :
    Calls Tryd.prog 30 #[.pointer (some ⟨B, 0, none⟩)] w fun e w' => ∃ f r d : Int, e = .returned (.tuple #[.int .i64 f, .int .i64 r, .int .i64 d]) ∧ Src w' base B v n ∧ w.grownBy w' (some B) := by
  have hBs := h.hB
  go_enter Tryd.func30, Tryd.ntmps30
  go_wp2_with fail
  refine (l01Next_any 20 h hn (by omega)).mono ?_
  rintro e w1 ⟨p, rfl, hp, S1, g1⟩
  obtain ⟨p1, p2⟩ := inN_bd hp (by omega)
  clear hp
  have G1 := gb_trans (World.grownBy.refl w (some B)) g1
  go_wp2_with fail
  refine (l01Next_any 5 S1 hn (by omega)).mono ?_
  rintro e w2 ⟨q, rfl, hq, S2, g2⟩
  obtain ⟨q1, q2⟩ := inN_bd hq (by omega)
  clear hq
  have G2 := gb_trans G1 g2
  go_wp2_with fail
  refine (l01Next_any 7 S2 hn (by omega)).mono ?_
  rintro e w3 ⟨x, rfl, hx, S3, g3⟩
  obtain ⟨x1, x2⟩ := inN_bd hx (by omega)
  clear hx
  have G3 := gb_trans G2 g3
  by_cases hq3 : q < 3
  · have dq3 : decide (q < 3) = true := decide_eq_true hq3
    go_wp2_with fail
    refine (l01Next_any 40 S3 hn (by omega)).mono ?_
    rintro e w4 ⟨k, rfl, hk, S4, g4⟩
    obtain ⟨k1, k2⟩ := inN_bd hk (by omega)
    clear hk
    have G4 := gb_trans G3 g4
    by_cases x_k : k = 0
    · subst x_k
      go_wp2_with fail
      have T5 := S4.al (.cells #[.int .i64 (-1), .int .i64 20] 2)
      refine (l01Pick_any (g := w4.heap.size) [-1, 20] 2 T5 hn rfl (by omega) (by omega) (by simp) (by have := S4.hB; omega) (nums_at (w := w4) [-1, 20] _ rfl)).mono ?_
      rintro e w5 ⟨f0, rfl, hf0, S5, g5⟩
      have f0b : -1 ≤ f0 ∧ f0 ≤ 20 := by simp at hf0; omega
      obtain ⟨f01, f02⟩ := f0b
      clear hf0 T5
      have A5 := gb_alloc G4 (.cells #[.int .i64 (-1), .int .i64 20] 2)
      have G5 := gb_trans A5 g5
      go_wp2_with fail
      refine bodyPost_ret (v := .tuple #[.int .i64 f0, .int .i64 q, .int .i64 0]) (by simp [results, Tryd.results30, go_sem, *]) rfl ⟨_, _, _, rfl, ?_, ?_⟩
      all_goals (repeat' (first | (with_reducible assumption) | (with_reducible exact Nat.le_refl _)))
    · have d_k : (k == 0) = false := by simpa using x_k
      by_cases x_k : k = 1
      · subst x_k
        go_wp2_with fail
        have T5 := S4.al (.cells #[.int .i64 (-1), .int .i64 5, .int .i64 0] 2)
        refine (l01Pick_any (g := w4.heap.size) [-1, 5, 0] 3 T5 hn rfl (by omega) (by omega) (by simp) (by have := S4.hB; omega) (nums_at (w := w4) [-1, 5, 0] _ rfl)).mono ?_
        rintro e w5 ⟨r0, rfl, hr0, S5, g5⟩
        have r0b : -1 ≤ r0 ∧ r0 ≤ 5 := by simp at hr0; omega
        obtain ⟨r01, r02⟩ := r0b
        clear hr0 T5
        have A5 := gb_alloc G4 (.cells #[.int .i64 (-1), .int .i64 5, .int .i64 0] 2)
        have G5 := gb_trans A5 g5
        go_wp2_with fail
        have T6 := S5.al (.cells #[.int .i64 (-1), .int .i64 7, .int .i64 1] 2)
        refine (l01Pick_any (g := w5.heap.size) [-1, 7, 1] 3 T6 hn rfl (by omega) (by omega) (by simp) (by have := S5.hB; omega) (nums_at (w := w5) [-1, 7, 1] _ rfl)).mono ?_
        rintro e w6 ⟨w0, rfl, hw0, S6, g6⟩
        have w0b : -1 ≤ w0 ∧ w0 ≤ 7 := by simp at hw0; omega
        obtain ⟨w01, w02⟩ := w0b
        clear hw0 T6
        have A6 := gb_alloc G5 (.cells #[.int .i64 (-1), .int .i64 7, .int .i64 1] 2)
        have G6 := gb_trans A6 g6
        go_wp2_with fail
        refine bodyPost_ret (v := .tuple #[.int .i64 p, .int .i64 r0, .int .i64 w0]) (by simp [results, Tryd.results30, go_sem, *]) rfl ⟨_, _, _, rfl, ?_, ?_⟩
        all_goals (repeat' (first | (with_reducible assumption) | (with_reducible exact Nat.le_refl _)))
      · have d_k : (k == 1) = false := by simpa using x_k
        go_wp2_with fail
        refine bodyPost_ret (v := .tuple #[.int .i64 p, .int .i64 q, .int .i64 0]) (by simp [results, Tryd.results30, go_sem, *]) rfl ⟨_, _, _, rfl, ?_, ?_⟩
        all_goals (repeat' (first | (with_reducible assumption) | (with_reducible exact Nat.le_refl _)))
  · have dq3 : decide (q < 3) = false := decide_eq_false hq3
    go_wp2_with fail
    refine (l01Next_any 40 S3 hn (by omega)).mono ?_
    rintro e w4 ⟨k, rfl, hk, S4, g4⟩
    obtain ⟨k1, k2⟩ := inN_bd hk (by omega)
    clear hk
    have G4 := gb_trans G3 g4
    by_cases x_k : k = 0
    · subst x_k
      go_wp2_with fail
      have T5 := S4.al (.cells #[.int .i64 (-1), .int .i64 20] 2)
      refine (l01Pick_any (g := w4.heap.size) [-1, 20] 2 T5 hn rfl (by omega) (by omega) (by simp) (by have := S4.hB; omega) (nums_at (w := w4) [-1, 20] _ rfl)).mono ?_
      rintro e w5 ⟨f0, rfl, hf0, S5, g5⟩
      have f0b : -1 ≤ f0 ∧ f0 ≤ 20 := by simp at hf0; omega
      obtain ⟨f01, f02⟩ := f0b
      clear hf0 T5
      have A5 := gb_alloc G4 (.cells #[.int .i64 (-1), .int .i64 20] 2)
      have G5 := gb_trans A5 g5
      go_wp2_with fail
      refine bodyPost_ret (v := .tuple #[.int .i64 f0, .int .i64 q, .int .i64 x]) (by simp [results, Tryd.results30, go_sem, *]) rfl ⟨_, _, _, rfl, ?_, ?_⟩
      all_goals (repeat' (first | (with_reducible assumption) | (with_reducible exact Nat.le_refl _)))
    · have d_k : (k == 0) = false := by simpa using x_k
      by_cases x_k : k = 1
      · subst x_k
        go_wp2_with fail
        have T5 := S4.al (.cells #[.int .i64 (-1), .int .i64 5, .int .i64 0] 2)
        refine (l01Pick_any (g := w4.heap.size) [-1, 5, 0] 3 T5 hn rfl (by omega) (by omega) (by simp) (by have := S4.hB; omega) (nums_at (w := w4) [-1, 5, 0] _ rfl)).mono ?_
        rintro e w5 ⟨r0, rfl, hr0, S5, g5⟩
        have r0b : -1 ≤ r0 ∧ r0 ≤ 5 := by simp at hr0; omega
        obtain ⟨r01, r02⟩ := r0b
        clear hr0 T5
        have A5 := gb_alloc G4 (.cells #[.int .i64 (-1), .int .i64 5, .int .i64 0] 2)
        have G5 := gb_trans A5 g5
        go_wp2_with fail
        have T6 := S5.al (.cells #[.int .i64 (-1), .int .i64 7, .int .i64 1] 2)
        refine (l01Pick_any (g := w5.heap.size) [-1, 7, 1] 3 T6 hn rfl (by omega) (by omega) (by simp) (by have := S5.hB; omega) (nums_at (w := w5) [-1, 7, 1] _ rfl)).mono ?_
        rintro e w6 ⟨w0, rfl, hw0, S6, g6⟩
        have w0b : -1 ≤ w0 ∧ w0 ≤ 7 := by simp at hw0; omega
        obtain ⟨w01, w02⟩ := w0b
        clear hw0 T6
        have A6 := gb_alloc G5 (.cells #[.int .i64 (-1), .int .i64 7, .int .i64 1] 2)
        have G6 := gb_trans A6 g6
        go_wp2_with fail
        refine bodyPost_ret (v := .tuple #[.int .i64 p, .int .i64 r0, .int .i64 w0]) (by simp [results, Tryd.results30, go_sem, *]) rfl ⟨_, _, _, rfl, ?_, ?_⟩
        all_goals (repeat' (first | (with_reducible assumption) | (with_reducible exact Nat.le_refl _)))
      · have d_k : (k == 1) = false := by simpa using x_k
        go_wp2_with fail
        refine bodyPost_ret (v := .tuple #[.int .i64 p, .int .i64 q, .int .i64 x]) (by simp [results, Tryd.results30, go_sem, *]) rfl ⟨_, _, _, rfl, ?_, ?_⟩
        all_goals (repeat' (first | (with_reducible assumption) | (with_reducible exact Nat.le_refl _)))

set_option maxRecDepth 10000 in
set_option maxHeartbeats 8000000 in
theorem drawRelatedDay_any (v : Value) (n : Nat) (w : World) (h : RB w w.heap.size v n) (hn : n ≤ 4096) :
    Calls Tryd.prog 11 #[v] w fun e w' => ∃ f r d y : Int, e = .returned (.tuple #[.int .i64 f, .int .i64 r, .int .i64 d, .int .i64 y]) ∧ Below w.heap.size w w' := by
  have hn' : n ≤ 1000000 := by omega
  go_enter Tryd.func11, Tryd.ntmps11
  go_wp2_with fail
  refine (l01From_any v n _ h (by omega)).mono ?_
  rintro e w0 ⟨rfl, S0, b0⟩
  have B0 := below_tt (Below.refl w.heap.size w) b0
  go_wp2_with fail
  refine (l05Draw_any S0 hn').mono ?_
  rintro e w1 ⟨f, r, d, rfl, S1, g1⟩
  have B1 := below_gb B0 g1 B0.size (by omega)
  go_wp2_with fail
  refine (l04DrawYear_any S1 hn').mono ?_
  rintro e w2 ⟨y, rfl, hy, S2, g2⟩
  have B2 := below_gb B1 g2 B1.size (by omega)
  go_wp2_with fail
  refine bodyPost_ret (v := .tuple #[.int .i64 f, .int .i64 r, .int .i64 d, .int .i64 y]) (by simp [results, Tryd.results11, go_sem, *]) rfl ⟨_, _, _, _, rfl, ?_⟩
  (repeat' (first | (with_reducible assumption) | (with_reducible exact Nat.le_refl _)))
end Go.Proofs.YtnjfpipadfcapaaDoor
