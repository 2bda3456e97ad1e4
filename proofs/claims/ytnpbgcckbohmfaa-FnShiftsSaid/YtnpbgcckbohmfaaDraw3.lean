/- What the reference draws for CountDays, HasDay, NthDay, ShiftSet. -/
import Derived.Test.YtnpbgcckbohmfaaDraw2
import Derived.Test.YtnpbgcckbohmfaaSets5
namespace Go.Proofs.Ytnpbgcckbohmfaa
open Go.RowKit

theorem sumTo_bdL {xs : List (Int × Int)} (h : bdL xs) (k : Nat) (hk : k ≤ xs.length) : -(k * 20000001 : Int) ≤ sumTo xs k ∧ sumTo xs k ≤ k * 20000001 := by
  induction k with
  | zero => simp [sumTo]
  | succ k ih =>
    have h1 := h _ (gS_mem (show k < xs.length by omega))
    unfold inBd at h1
    have h2 := ih (by omega)
    simp only [sumTo]
    push_cast
    omega

set_option maxHeartbeats 1000000 in
theorem l02CountB_cells (b off cap : Nat) (xs : List (Int × Int)) (w : World) (hb : b < w.heap.size) (h : SpanAt w b off xs) (hl : xs.length ≤ 4000) (hbd0 : bdL xs) :
    Calls Try.prog 50 #[.slice (some ⟨b, off, none⟩) xs.length cap] w fun e w' => e = .returned (.int .i64 (sumTo xs xs.length)) ∧ Below w.heap.size w w' := by
  have rg := cell_rg; have l2 : ∀ n : Nat, n < n + 1 + 1 := (fun _ => by omega); have l3 : ∀ n : Nat, n < n + 1 + 1 + 1 := (fun _ => by omega); have l4 : ∀ n : Nat, n < n + 1 + 1 + 1 + 1 := (fun _ => by omega)
  have hB := Below.refl w.heap.size w
  go_enter Try.func50, Try.ntmps50
  go_wp2
  go_loopw [3, 4] (fun s3 s4 wr => ∃ k : Nat, k ≤ xs.length ∧ s4 = .int .i64 k ∧ s3 = .int .i64 (sumTo xs k) ∧ Below w.heap.size w wr) (fun s3 s4 _ => xs.length - (intOf s4).toNat)
  case atStart => exact ⟨0, by omega, rfl, rfl, hB⟩
  case round =>
    clear hB
    obtain ⟨k, hk, rfl, rfl, hB⟩ := hrel
    have z1 := bsize hB b hb
    have z3 : b < wr.heap.size + 1 := by omega
    have hp := Below.refl wr.heap.size wr
    by_cases hlt : k < xs.length
    · have e1 := h.of_cells fun o => hB.cell (p := ⟨b, o, none⟩) hb
      have e10 := (e1 k hlt).1
      have e11 := (e1 k hlt).2
      have hbd := sumTo_bdL hbd0 k hk
      have hkk := hbd0 _ (gS_mem hlt)
      unfold inBd at hkk
      have hs : Hid (sumTo xs (k + 1) = sumTo xs k + ((gS xs k).2 - (gS xs k).1 + 1)) := Lib.hid rfl
      generalize (gS xs k).1 = x at e10 hkk hs
      generalize (gS xs k).2 = y at e11 hkk hs
      generalize sumTo xs k = n at hbd hs
      clear e1
      obtain ⟨hbd1, hbd2⟩ := hbd
      obtain ⟨hk1, hk2, hk3, hk4⟩ := hkk
      go_wp2
      (refine wp_region_quiet_below (by kernel_rfl) (by kernel_rfl) ?_; (repeat (go_big_quiet_step (fail))); refine wpQuiet_nil ?_; intro w9 hw9; have hb := below_of_regrown hw9; clear hw9; obtain ⟨hc, hf⟩ := bcell hb; have hz := bsize hb; (first | (have hB := below_tt hB hb) | (have hB := below_tt (below_al hB _) hb) | (have hB := below_tt (below_al (below_al hB _) _) hb) | (have hB := hb)); obtain ⟨hc0, hf0⟩ := bcell hB; have hz0 := bsize hB; (first | (have h2 := below_tt hp hb; obtain ⟨hc2, hf2⟩ := bcell h2; have hz2 := bsize h2) | (have h2 := below_tt (below_al hp _) hb; obtain ⟨hc2, hf2⟩ := bcell h2; have hz2 := bsize h2) | skip); have hp := hb)
      go_wp2
      go_roundw
      case rel => exact ⟨k + 1, by omega, by simp, by rw [hs.out]; (try simp); try omega, by (repeat' (first | (with_reducible exact Below.refl _ _) | (with_reducible assumption) | (with_reducible refine below_al ?_ _) | (with_reducible refine Below.drew ?_) | (with_reducible refine Below.setCell ?_ (by first | exact Nat.le_refl _ | (dsimp only; omega) | (simp; omega)) _) | (with_reducible refine below_drewN ?_ _) | (with_reducible refine below_tt ?_ (by assumption))))⟩
      case measure => simp [intOf]; omega
    · obtain rfl : k = xs.length := by omega
      go_wp2
      go_ret
      exact ⟨rfl, hB⟩
theorem l02CountB_any (v : Value) (xs : List (Int × Int)) (w : World) (h : RS w v xs) (hl : xs.length ≤ 4000) (hbd0 : bdL xs) :
    Calls Try.prog 50 #[v] w fun e w' => e = .returned (.int .i64 (sumTo xs xs.length)) ∧ Below w.heap.size w w' := by
  rcases h with ⟨rfl, a, cap, rfl⟩ | ⟨b, off, cap, rfl, hb, hs⟩
  · exact (l02Count_nil a cap w).mono fun _ _ h => ⟨h.1, by rw [← h.2]; exact Below.refl _ _⟩
  · exact l02CountB_cells b off cap xs w hb hs hl hbd0

set_option maxHeartbeats 1000000 in
theorem drawCountDays_any (v : Value) (n : Nat) (w : World) (h : RB w w.heap.size v n) (hn : n ≤ 4096) :
    Calls Try.prog 41 #[v] w fun e w' => ∃ va xs, e = .returned va ∧ OwnS w' w.heap.size va xs ∧ xs.length ≤ 1000 ∧ Below w.heap.size w w' := by
  go_enter Try.func41, Try.ntmps41
  go_wp2_with fail
  refine (l01From_any v n _ h (by omega)).mono ?_
  rintro e w1 ⟨rfl, hS, hB⟩
  go_wp2_with fail
  refine (l02Draw_any hS (by omega)).mono ?_
  rintro e w2 ⟨va, xs, rfl, o1, ⟨_, hl⟩, hS2, hG⟩
  go_wp2
  go_ret
  exact ⟨va, xs, rfl, o1.more hB.size, hl, below_gb hB hG hB.size (Nat.le_refl _)⟩

set_option maxHeartbeats 1000000 in
theorem drawHasDay_any (v : Value) (n : Nat) (w : World) (h : RB w w.heap.size v n) (hn : n ≤ 4096) :
    Calls Try.prog 40 #[v] w fun e w' => ∃ va xs x, e = .returned (.tuple #[va, .int .i64 x]) ∧ OwnS w' w.heap.size va xs ∧ (xs.length ≤ 1000 ∧ -1 ≤ x ∧ x ≤ 730500) ∧ Below w.heap.size w w' := by
  go_enter Try.func40, Try.ntmps40
  go_wp2_with fail
  refine (l01From_any v n _ h (by omega)).mono ?_
  rintro e w1 ⟨rfl, hS, hB⟩
  go_wp2_with fail
  refine (l01Next_any 16 hS (by omega) (by omega)).mono ?_
  rintro e w2 ⟨y, rfl, hy, hS2, hG2⟩
  have B2 := below_gb hB hG2 hB.size (Nat.le_refl _)
  have hz2 := B2.size
  by_cases h0 : y = 0
  · subst h0
    go_wp2_with fail
    refine (l02Draw_any hS2 (by omega)).mono ?_
    rintro e w3 ⟨va, xs, rfl, o1, ⟨_, hl⟩, hS3, hG3⟩
    have B3 := below_gb B2 hG3 B2.size (Nat.le_refl _)
    go_wp2_with fail
    refine (l01DrawDay_any hS3 (by omega)).mono ?_
    rintro e w4 ⟨x, rfl, hx, hS4, hG4⟩
    have B4 := below_gb B3 hG4 B3.size (Nat.le_refl _)
    have o2 := (o1.src hG4 hS2.hB).more hz2
    go_wp2
    go_ret2
    exact ⟨va, xs, x, rfl, o2, ⟨hl, hx⟩, B4⟩
  · have d0 : (y == 0) = false := by simpa using h0
    go_wp2_with fail
    refine (l02Draw_any hS2 (by omega)).mono ?_
    rintro e w3 ⟨va, xs, rfl, o1, ⟨_, hl⟩, hS3, hG3⟩
    have B3 := below_gb B2 hG3 B2.size (Nat.le_refl _)
    go_wp2_with fail
    refine (l01Next_any 250 hS3 (by omega) (by omega)).mono ?_
    rintro e w4 ⟨x, rfl, hx, hS4, hG4⟩
    unfold inN at hx
    obtain ⟨hx0, hx1⟩ := hx
    have hx2 : x ≤ 250 := by omega
    clear hx1
    have B4 := below_gb B3 hG4 B3.size (Nat.le_refl _)
    have o2 := (o1.src hG4 hS2.hB).more hz2
    go_wp2
    go_ret2
    exact ⟨va, xs, 400000 + x, rfl, o2, ⟨hl, by omega, by omega⟩, B4⟩

theorem quo19 {y : Int} (h : inN y 20) : 0 ≤ y.tdiv 19 ∧ y.tdiv 19 ≤ 1 := by
  unfold inN at h
  rw [Int.tdiv_eq_ediv_of_nonneg h.1]
  omega

set_option maxHeartbeats 1000000 in
theorem drawNthDay_any (v : Value) (n : Nat) (w : World) (h : RB w w.heap.size v n) (hn : n ≤ 4096) :
    Calls Try.prog 39 #[v] w fun e w' => ∃ va xs x, e = .returned (.tuple #[va, .int .i64 x]) ∧ OwnS w' w.heap.size va xs ∧ (xs.length ≤ 1000 ∧ -1 ≤ x ∧ x ≤ 1000000000000) ∧ Below w.heap.size w w' := by
  go_enter Try.func39, Try.ntmps39
  go_wp2_with fail
  refine (l01From_any v n _ h (by omega)).mono ?_
  rintro e w1 ⟨rfl, hS1, B1⟩
  go_wp2_with fail
  refine (l02Draw_any hS1 (by omega)).mono ?_
  rintro e w2 ⟨va, xs, rfl, o1, ⟨hbd, hl⟩, hS2, hG2⟩
  have B2 := below_gb B1 hG2 B1.size (Nat.le_refl _)
  have o2 := o1.more B1.size
  have hc := sumTo_bdL hbd xs.length (Nat.le_refl _)
  obtain ⟨hc1, hc2⟩ := hc
  go_wp2_with fail
  refine (l02CountB_any va xs _ o1.rs (by omega) hbd).mono ?_
  rintro e w3 ⟨rfl, b3⟩
  have B3 := below_tt B2 b3
  have o3 := o2.below b3
  have hS3 := hS2.below b3
  obtain ⟨S, hSe⟩ : ∃ S, sumTo xs xs.length = S := ⟨_, rfl⟩
  rw [hSe] at hc1 hc2 ⊢
  clear hSe
  have hS2b : -20000001000 ≤ S ∧ S ≤ 20000001000 := by omega
  obtain ⟨hS2a, hS2b⟩ := hS2b
  clear hc1 hc2
  go_wp2_with fail
  obtain ⟨M, hM⟩ : ∃ M, max 1 S + 1 = M := ⟨_, rfl⟩
  have hM1 : 2 ≤ M := by omega
  have hM2 : M ≤ 20000001001 := by omega
  rw [hM]
  refine (l01Next_any M hS3 (by omega) (by omega)).mono ?_
  rintro e w4 ⟨y, rfl, hy, hS4, hG4⟩
  unfold inN at hy
  obtain ⟨hy0, hy1⟩ := hy
  have hy2 : y ≤ 20000001001 := by omega
  clear hy1 hM hM1 hM2
  have B4 := below_gb B3 hG4 B3.size (Nat.le_refl _)
  go_wp2_with fail
  refine (l01Next_any 20 hS4 (by omega) (by omega)).mono ?_
  rintro e w5 ⟨u, rfl, hu, hS5, hG5⟩
  obtain ⟨hq1, hq2⟩ := quo19 hu
  unfold inN at hu
  obtain ⟨hu0, hu1⟩ := hu
  have hu2 : u ≤ 20 := by omega
  have B5 := below_gb B4 hG5 B4.size (Nat.le_refl _)
  have o5 := (((o1.below b3).src hG4 hS1.hB).src hG5 hS1.hB).more B1.size
  clear hu1
  go_wp2
  go_ret2
  exact ⟨va, xs, _, rfl, o5, ⟨hl, by omega, by omega⟩, B5⟩

set_option maxHeartbeats 1000000 in
theorem drawShiftSet_any (v : Value) (n : Nat) (w : World) (h : RB w w.heap.size v n) (hn : n ≤ 4096) :
    Calls Try.prog 38 #[v] w fun e w' => ∃ va xs x, e = .returned (.tuple #[va, .int .i64 x]) ∧ OwnS w' w.heap.size va xs ∧ (xs.length ≤ 1000 ∧ -1000000 ≤ x ∧ x ≤ 1000000) ∧ Below w.heap.size w w' := by
  go_enter Try.func38, Try.ntmps38
  go_wp2_with fail
  refine (l01From_any v n _ h (by omega)).mono ?_
  rintro e w1 ⟨rfl, hS1, B1⟩
  go_wp2_with fail
  refine (l02Draw_any hS1 (by omega)).mono ?_
  rintro e w2 ⟨va, xs, rfl, o2, ⟨_, hl⟩, hS2, hG2⟩
  have B2 := below_gb B1 hG2 B1.size (Nat.le_refl _)
  go_wp2_with fail
  refine (l01Next_any 60 hS2 (by omega) (by omega)).mono ?_
  rintro e w3 ⟨x, rfl, hx, hS3, hG3⟩
  unfold inN at hx
  obtain ⟨hx0, hx1⟩ := hx
  have hx2 : x ≤ 60 := by omega
  clear hx1
  have B3 := below_gb B2 hG3 B2.size (Nat.le_refl _)
  have o3 := o2.src hG3 hS1.hB
  go_wp2_with fail
  refine (l01Next_any 800000 hS3 (by omega) (by omega)).mono ?_
  rintro e w4 ⟨y, rfl, hy, hS4, hG4⟩
  unfold inN at hy
  obtain ⟨hy0, hy1⟩ := hy
  have hy2 : y ≤ 800000 := by omega
  clear hy1
  have B4 := below_gb B3 hG4 B3.size (Nat.le_refl _)
  have o4 := o3.src hG4 hS1.hB
  go_wp2_with fail
  have hSa := hS4.al (.cells #[.int .i64 (x - 30), .int .i64 (y - 400000), .int .i64 (-400050), .int .i64 730499, .int .i64 (-730500)] 2)
  refine (l01Pick_any [x - 30, y - 400000, -400050, 730499, -730500] 5 hSa (by omega) rfl (by omega) (by omega) (by simp) (by have := hS4.hB; omega) (nums_alloc w4 [x - 30, y - 400000, -400050, 730499, -730500] _)).mono ?_
  rintro e w5 ⟨z, rfl, hz, hS5, hG5⟩
  have hzb : -1000000 ≤ z ∧ z ≤ 1000000 := by simp at hz; omega
  have B5 := below_gb (B4.alloc B4.size (.cells #[.int .i64 (x - 30), .int .i64 (y - 400000), .int .i64 (-400050), .int .i64 730499, .int .i64 (-730500)] 2)) hG5 (by have := B4.size; simp; omega) (Nat.le_refl _)
  have o5 := ((o4.alloc (.cells #[.int .i64 (x - 30), .int .i64 (y - 400000), .int .i64 (-400050), .int .i64 730499, .int .i64 (-730500)] 2)).src hG5 hS1.hB).more B1.size
  go_wp2
  go_ret2
  exact ⟨va, xs, z, rfl, o5, ⟨hl, hzb⟩, B5⟩
end Go.Proofs.Ytnpbgcckbohmfaa
