/- The draw of spans of the law FnSetTexts. -/
import Derived.Test.YtpinngcdojbndaaGreatDoorDrawT
namespace Go.Proofs.YtpinngcdojbndaaGreatDoor
open Go.RowKit

set_option maxRecDepth 10000 in
set_option maxHeartbeats 8000000 in
theorem drawMakeSet_any (v : Value) (n : Nat) (w : World) (h : RB w w.heap.size v n) (hn : n ≤ 4096) :
    Calls Tryz.prog 11 #[v] w fun e w' => ∃ v' xs, e = .returned v' ∧ OwnS w' w.heap.size v' xs ∧ xs.length ≤ 1000 ∧ Below w.heap.size w w' := by
  have hn' : n ≤ 1000000 := by omega
  go_enter Tryz.func11, Tryz.ntmps11
  go_wp2_with fail
  refine (l01From_any v n _ h (by omega)).mono ?_
  rintro e w0 ⟨rfl, S0, b0⟩
  have B0 := below_tt (Below.refl w.heap.size w) b0
  have hB0 := S0.hB
  go_wp2_with fail
  refine (l02DrawSpans_any 400000 S0 hn' (by omega) (by omega)).mono ?_
  rintro e w1 ⟨v1, xs1, rfl, hO1, ⟨hb1, hle1, hl1⟩, S1, g1⟩
  clear hb1 hle1
  have hO1' := hO1.more (show w.heap.size + 1 ≤ w0.heap.size by omega)
  go_wp2_with fail
  refine (l02DrawSpans_any 400050 S1 hn' (by omega) (by omega)).mono ?_
  rintro e w2 ⟨v2, xs2, rfl, hO2, ⟨hb2, hle2, hl2⟩, S2, g2⟩
  clear hb2 hle2
  have hO3 := hO1'.src g2 (by omega)
  have G2 := gb_trans g1 g2
  have hz2 := G2.size
  have B2 := below_gb B0 G2 B0.size (by omega)
  go_wp2_with (at_builtin; refine app_slice_raw (lo := w.heap.size + 1) (xs := xs1) (ys := xs2) (by omega) hO3 hO2.rs2 (by omega) (by omega) rfl _ _ rfl rfl rfl ?_; intro v3 w3 hO4 g3)
  have hr3 : ∀ g, Value.ownBlock v1 = some g → w.heap.size + 1 ≤ g := fun g e => (ownB_lt hO3 g e).1
  have S3 := S2.grown g3 (fun g e => by have := hr3 g e; omega)
  have B3 := B2.grown g3 B2.size (fun g e => by have := hr3 g e; omega)
  have hl3 : (xs1 ++ xs2).length ≤ 12 := by rw [List.length_append]; omega
  generalize xs1 ++ xs2 = L at hO4 hl3
  clear hO3 hO1' hO2 hO1 g3 g1 g2 G2 B2 S2 hr3 b0
  refine (l01Next_any 40 S3 hn' (by omega)).mono ?_
  rintro e w4 ⟨x, rfl, hx, S4, g4⟩
  obtain ⟨x1, x2⟩ := inN_bd hx (by omega)
  clear hx
  have hO5 := hO4.src g4 (by omega)
  have B4 := below_gb B3 g4 B3.size (by omega)
  have z4 := B4.size
  clear hO4 B3 S3
  by_cases x0 : x = 0
  · subst x0
    go_wp2_with fail
    have T5 := S4.al (.cells #[.int .i64 (-1), .int .i64 0, .int .i64 400000] 2)
    refine (l01Pick_any (g := w4.heap.size) [-1, 0, 400000] 3 T5 hn' rfl (by omega) (by omega) (by simp) (by have := S4.hB; omega) (nums_at (w := w4) [-1, 0, 400000] _ rfl)).mono ?_
    rintro e w5 ⟨a, rfl, ha, S5, g5⟩
    have ab : -1 ≤ a ∧ a ≤ 400000 := by simp at ha; omega
    obtain ⟨a1, a2⟩ := ab
    have A5 := below_al B4 (.cells #[.int .i64 (-1), .int .i64 0, .int .i64 400000] 2)
    have hO6 := (hO5.alloc (.cells #[.int .i64 (-1), .int .i64 0, .int .i64 400000] 2)).src g5 (by omega)
    have B5 := below_gb A5 g5 A5.size (by omega)
    clear ha T5
    go_wp2_with fail
    have T6 := S5.al (.cells #[.int .i64 400000, .int .i64 399999, .int .i64 730499, .int .i64 730500] 2)
    refine (l01Pick_any (g := w5.heap.size) [400000, 399999, 730499, 730500] 4 T6 hn' rfl (by omega) (by omega) (by simp) (by have := S5.hB; omega) (nums_at (w := w5) [400000, 399999, 730499, 730500] _ rfl)).mono ?_
    rintro e w6 ⟨c, rfl, hc, S6, g6⟩
    have cb : 0 ≤ c ∧ c ≤ 730500 := by simp at hc; omega
    obtain ⟨c1, c2⟩ := cb
    have A6 := below_al B5 (.cells #[.int .i64 400000, .int .i64 399999, .int .i64 730499, .int .i64 730500] 2)
    have hO7 := (hO6.alloc (.cells #[.int .i64 400000, .int .i64 399999, .int .i64 730499, .int .i64 730500] 2)).src g6 (by omega)
    have B6 := below_gb A6 g6 A6.size (by omega)
    have z6 := B6.size
    have hz6 : w.heap.size + 1 ≤ w6.heap.size := by have := S6.hB; omega
    clear hc T6 hO5 hO6
    go_wp2_with (at_builtin; refine app_raw (lo := w.heap.size + 1) (p := a) (q := c) (xs := L) (by simp; omega) (hO7.alloc _) (by omega) rfl _ _ rfl rfl rfl (by simp [go_sem]) (by simp [go_sem]) ?_; intro v7 w7 hO8 g7 _)
    have hr : ∀ g, Value.ownBlock v3 = some g → w.heap.size + 1 ≤ g := fun g e => (ownB_lt hO7 g e).1
    have B7 := (below_al B6 (.cells #[.int .i64 a, .int .i64 c] 36)).grown g7 (below_al B6 (.cells #[.int .i64 a, .int .i64 c] 36)).size (fun g e => by have := hr g e; omega)
    go_ret
    exact ⟨_, _, rfl, hO8.more (by omega), by simp; omega, B7⟩
  have d0 : (x == 0) = false := by simpa using x0
  by_cases x9 : x = 1
  · subst x9
    have hz4 : w.heap.size + 1 ≤ w4.heap.size := by have := S4.hB; omega
    have hO6 := OwnS.made w4 hz4
    have S6 := S4.al (.cells #[] 36)
    have B6 := below_al B4 (.cells #[] 36)
    clear hO5 S4 B4 z4
    go_wp2_with fail
    go_loopw [4, 5] (fun s4 s5 wr => ∃ (j : Nat) (xs : List (Int × Int)), s5 = .int .i64 j ∧ j ≤ 301 ∧ xs.length ≤ j ∧ OwnS wr (w.heap.size + 1) s4 xs ∧ Src wr w.heap.size w.heap.size v n ∧ Below w.heap.size w wr) (fun _ s5 _ => 302 - (intOf s5).toNat)
    case atStart => exact ⟨0, [], rfl, by omega, by simp, hO6, S6, B6⟩
    case round =>
      clear hO6 S6 B6
      obtain ⟨j, xs, rfl, hj, hxl, hO, hS, hB⟩ := hrel
      go_wp2_with fail
      have T7 := hS.al (.cells #[.int .i64 300, .int .i64 301] 2)
      refine (l01Pick_any (g := wr.heap.size) [300, 301] 2 T7 hn' rfl (by omega) (by omega) (by simp) (by have := hS.hB; omega) (nums_at (w := wr) [300, 301] _ rfl)).mono ?_
      rintro e w7 ⟨z, rfl, hz, S7, g7⟩
      have zb : 300 ≤ z ∧ z ≤ 301 := by simp at hz; omega
      obtain ⟨z1, z2⟩ := zb
      have A7 := below_al hB (.cells #[.int .i64 300, .int .i64 301] 2)
      have hO7 := (hO.alloc (.cells #[.int .i64 300, .int .i64 301] 2)).src g7 (by omega)
      have B7 := below_gb A7 g7 A7.size (by omega)
      have hz7 : w.heap.size + 1 ≤ w7.heap.size := by have := S7.hB; omega
      clear hz T7 hO hS hB A7
      by_cases hjz : (j : Int) < z
      · go_wp2_with (at_builtin; refine app_raw (lo := w.heap.size + 1) (p := 700 - 2 * (j : Int)) (q := 700 - 2 * (j : Int)) (xs := xs) (by simp; omega) (hO7.alloc _) (by omega) rfl _ _ rfl rfl rfl (by simp [go_sem]) (by simp [go_sem]) ?_; intro v8 w8 hO8 g8 _)
        have hr : ∀ g, Value.ownBlock u4 = some g → w.heap.size + 1 ≤ g := fun g e => (ownB_lt hO7 g e).1
        go_roundw
        case rel => exact ⟨j + 1, _, by simp, by omega, by simp; omega, hO8, (S7.al _).grown g8 (fun g e => by have := hr g e; omega), (below_al B7 _).grown g8 (below_al B7 _).size (fun g e => by have := hr g e; omega)⟩
        case measure => simp [intOf]; omega
      · go_wp2_with fail
        go_ret
        exact ⟨_, xs, rfl, hO7.more (by omega), by omega, B7⟩
  have d1 : (x == 1) = false := by simpa using x9
  go_wp2_with fail
  go_ret
  exact ⟨_, L, rfl, hO5.more (by omega), by omega, B4⟩
end Go.Proofs.YtpinngcdojbndaaGreatDoor
