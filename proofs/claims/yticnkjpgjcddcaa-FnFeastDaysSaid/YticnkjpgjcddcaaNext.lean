/- The next feast: both sides, and the law. -/
import Derived.Test.YticnkjpgjcddcaaOn
namespace Go.Proofs.Yticnkjpgjcddcaa
open Go.RowKit

/-- The first day from n on with a feast, looked for on k days. -/
def nextF : Nat → Int → Int × Int × Int
  | 0, _ => (0, 0, 4)
  | k + 1, n => if onN n = [] then nextF k (n + 1) else (n, (onN n).getD 0 0, 0)
def nextR (n : Int) : Int × Int × Int := if inR n 0 730499 = true then nextF (730500 - n).toNat n else (0, 0, 2)
theorem nextR_f {n : Int} (h : inR n 0 730499 = false) : nextR n = (0, 0, 2) := by unfold nextR; rw [h]; rfl
theorem nextR_t {n : Int} (h : inR n 0 730499 = true) : nextR n = nextF (730500 - n).toNat n := by unfold nextR; rw [if_pos h]
theorem nextF_stop {n : Int} (h : n ≤ 730499) (k : onN n ≠ []) : nextF (730500 - n).toNat n = (n, (onN n).getD 0 0, 0) := by
  obtain ⟨j, hj⟩ : ∃ j, (730500 - n).toNat = j + 1 := ⟨(730499 - n).toNat, by omega⟩
  rw [hj, nextF, if_neg k]
theorem nextF_go {n : Int} (h : n ≤ 730499) (k : onN n = []) : nextF (730500 - n).toNat n = nextF (730500 - (n + 1)).toNat (n + 1) := by
  obtain ⟨j, hj⟩ : ∃ j, (730500 - n).toNat = j + 1 := ⟨(730499 - n).toNat, by omega⟩
  have : (730500 - (n + 1)).toNat = j := by omega
  rw [hj, nextF, if_pos k, this]
theorem nextF_end : nextF (730500 - (730500 : Int)).toNat 730500 = (0, 0, 4) := rfl

set_option maxRecDepth 100000 in
set_option maxHeartbeats 4000000 in
theorem implNextFeast_any (n : Int) (w : World) :
    Calls Try.prog 25 #[.int .i64 n] w fun e w' => e = .returned (.tuple #[.int .i64 (nextR n).1, .int .i64 (nextR n).2.1, .int .i64 (nextR n).2.2]) ∧ Below w.heap.size w w' := by
  cases hi : inR n 0 730499
  · rw [nextR_f hi]
    have h1 := Lib.hid hi
    clear hi
    go_enter Try.func25, Try.ntmps25
    go_wp2_with (go_at_call 104; refine (isDay_is h1.out _).mono ?_; rintro e w' ⟨rfl, rfl⟩)
    go_ret3
    exact ⟨rfl, Below.refl _ _⟩
  · rw [nextR_t hi]
    have h1 := Lib.hid hi
    obtain ⟨k1, k2⟩ := inR_t hi
    clear hi
    have hB := Below.refl w.heap.size w
    obtain ⟨R, hR⟩ : ∃ R, nextF (730500 - n).toNat n = R := ⟨_, rfl⟩
    have hm0 := Lib.hid hR
    rw [hR]
    clear hR
    have rg := cell_rg; have l2 : ∀ n : Nat, n < n + 1 + 1 := (fun _ => by omega); have l3 : ∀ n : Nat, n < n + 1 + 1 + 1 := (fun _ => by omega); have l4 : ∀ n : Nat, n < n + 1 + 1 + 1 + 1 := (fun _ => by omega)
    go_enter Try.func25, Try.ntmps25
    go_wp2_with (go_at_call 104; refine (isDay_is h1.out _).mono ?_; rintro e w' ⟨rfl, rfl⟩)
    go_loopw [0] (fun s0 wr => ∃ m : Int, s0 = .int .i64 m ∧ n ≤ m ∧ m ≤ 730500 ∧ Hid (nextF (730500 - m).toNat m = R) ∧ Below w.heap.size w wr) (fun s0 _ => (730500 - intOf s0).toNat)
    case atStart => exact ⟨n, rfl, by omega, by omega, hm0, hB⟩
    case round =>
      clear hB h1 hm0
      obtain ⟨m, rfl, m1, m2, hm, hB⟩ := hrel
      by_cases hlt : m ≤ 730499
      · have h1 := Lib.hid (inR_mk (show 0 ≤ m by omega) hlt)
        go_wp2_with fail
        refine (isDay_is h1.out _).mono ?_
        rintro e w0 ⟨rfl, rfl⟩
        go_wp2_with fail
        refine (ifeastsOn_any _ (by omega) hlt).mono ?_
        rintro e w1 ⟨v, rfl, hO, b1⟩
        have B1 := below_tt hB b1
        have hl := onN_len m
        by_cases he : onN m = []
        · have hN := Lib.hid (nextF_go hlt he)
          rw [he] at hO
          obtain ⟨a, cap, rfl⟩ := hO.len
          clear he
          go_wp2_with fail
          go_roundw
          case rel => exact ⟨m + 1, by simp, by omega, by omega, Lib.hid (hN.out.symm.trans hm.out), B1⟩
          case measure => simp [intOf]; omega
        · have hN := Lib.hid (nextF_stop hlt he)
          have hN := Lib.hid (hN.out.symm.trans hm.out)
          have hlen : 0 < (onN m).length := List.length_pos_iff.2 he
          rcases hO.rs with ⟨h0, _⟩ | ⟨b, off, cap, rfl, hb, hs⟩
          · exact absurd h0 he
          have c0 := hs 0 hlen
          rw [Nat.add_zero] at c0
          unfold gI at c0
          generalize (onN m).getD 0 0 = x at c0 hN
          generalize (onN m).length = len at hlen hl ⊢
          clear hs he hO
          have i2 : (0 : Int) < (len : Int) := by omega
          have hp := Below.refl w1.heap.size w1
          have hB := B1
          clear B1
          go_wp2_with fail
          (refine wp_region_quiet_below (by kernel_rfl) (by kernel_rfl) ?_; (repeat (go_big_quiet_step (fail))); refine wpQuiet_nil ?_; intro w9 hw9; have hb := below_of_regrown hw9; clear hw9; obtain ⟨hc, hf⟩ := bcell hb; have hz := bsize hb; (first | (have hB := below_tt hB hb) | (have hB := below_tt (below_al hB _) hb) | (have hB := below_tt (below_al (below_al hB _) _) hb) | (have hB := hb)); obtain ⟨hc0, hf0⟩ := bcell hB; have hz0 := bsize hB; (first | (have h2 := below_tt hp hb; obtain ⟨hc2, hf2⟩ := bcell h2; have hz2 := bsize h2) | (have h2 := below_tt (below_al hp _) hb; obtain ⟨hc2, hf2⟩ := bcell h2; have hz2 := bsize h2) | skip); have hp := hb)
          go_wp2
          go_ret3
          exact ⟨by rw [← hN.out]; rfl, hB⟩
      · obtain rfl : m = 730500 := by omega
        have h1 := Lib.hid (inR_not (n := 730500) (a := 0) (b := 730499) (by omega))
        have hN := Lib.hid (nextF_end.symm.trans hm.out)
        go_wp2_with fail
        refine (isDay_is h1.out _).mono ?_
        rintro e w0 ⟨rfl, rfl⟩
        go_wp2_with fail
        go_ret3
        exact ⟨by rw [← hN.out]; rfl, hB⟩
set_option maxRecDepth 100000 in
set_option maxHeartbeats 4000000 in
theorem specNextFeast_any (n : Int) (w : World) :
    Calls Try.prog 24 #[.int .i64 n] w fun e w' => e = .returned (.tuple #[.int .i64 (nextR n).1, .int .i64 (nextR n).2.1, .int .i64 (nextR n).2.2]) ∧ Below w.heap.size w w' := by
  cases hi : inR n 0 730499
  · rw [nextR_f hi]
    have h1 := Lib.hid hi
    clear hi
    go_enter Try.func24, Try.ntmps24
    go_wp2_with (go_at_call 98; refine (l01Day_is h1.out _).mono ?_; rintro e w' ⟨rfl, rfl⟩)
    go_ret3
    exact ⟨rfl, Below.refl _ _⟩
  · rw [nextR_t hi]
    have h1 := Lib.hid hi
    obtain ⟨k1, k2⟩ := inR_t hi
    clear hi
    have hB := Below.refl w.heap.size w
    obtain ⟨R, hR⟩ : ∃ R, nextF (730500 - n).toNat n = R := ⟨_, rfl⟩
    have hm0 := Lib.hid hR
    rw [hR]
    clear hR
    have rg := cell_rg; have l2 : ∀ n : Nat, n < n + 1 + 1 := (fun _ => by omega); have l3 : ∀ n : Nat, n < n + 1 + 1 + 1 := (fun _ => by omega); have l4 : ∀ n : Nat, n < n + 1 + 1 + 1 + 1 := (fun _ => by omega)
    go_enter Try.func24, Try.ntmps24
    go_wp2_with (go_at_call 98; refine (l01Day_is h1.out _).mono ?_; rintro e w' ⟨rfl, rfl⟩)
    go_loopw [0] (fun s0 wr => ∃ m : Int, s0 = .int .i64 m ∧ n ≤ m ∧ m ≤ 730500 ∧ Hid (nextF (730500 - m).toNat m = R) ∧ Below w.heap.size w wr) (fun s0 _ => (730500 - intOf s0).toNat)
    case atStart => exact ⟨n, rfl, by omega, by omega, hm0, hB⟩
    case round =>
      clear hB h1 hm0
      obtain ⟨m, rfl, m1, m2, hm, hB⟩ := hrel
      by_cases hlt : m ≤ 730499
      · have h1 := Lib.hid (inR_mk (show 0 ≤ m by omega) hlt)
        skip
        go_wp2_with fail
        refine (l05On_any _ (by omega) hlt).mono ?_
        rintro e w1 ⟨v, rfl, hO, b1⟩
        have B1 := below_tt hB b1
        have hl := onN_len m
        by_cases he : onN m = []
        · have hN := Lib.hid (nextF_go hlt he)
          rw [he] at hO
          obtain ⟨a, cap, rfl⟩ := hO.len
          clear he
          go_wp2_with fail
          go_roundw
          case rel => exact ⟨m + 1, by simp, by omega, by omega, Lib.hid (hN.out.symm.trans hm.out), B1⟩
          case measure => simp [intOf]; omega
        · have hN := Lib.hid (nextF_stop hlt he)
          have hN := Lib.hid (hN.out.symm.trans hm.out)
          have hlen : 0 < (onN m).length := List.length_pos_iff.2 he
          rcases hO.rs with ⟨h0, _⟩ | ⟨b, off, cap, rfl, hb, hs⟩
          · exact absurd h0 he
          have c0 := hs 0 hlen
          rw [Nat.add_zero] at c0
          unfold gI at c0
          generalize (onN m).getD 0 0 = x at c0 hN
          generalize (onN m).length = len at hlen hl ⊢
          clear hs he hO
          have i2 : (0 : Int) < (len : Int) := by omega
          have hp := Below.refl w1.heap.size w1
          have hB := B1
          clear B1
          go_wp2_with fail
          (refine wp_region_quiet_below (by kernel_rfl) (by kernel_rfl) ?_; (repeat (go_big_quiet_step (fail))); refine wpQuiet_nil ?_; intro w9 hw9; have hb := below_of_regrown hw9; clear hw9; obtain ⟨hc, hf⟩ := bcell hb; have hz := bsize hb; (first | (have hB := below_tt hB hb) | (have hB := below_tt (below_al hB _) hb) | (have hB := below_tt (below_al (below_al hB _) _) hb) | (have hB := hb)); obtain ⟨hc0, hf0⟩ := bcell hB; have hz0 := bsize hB; (first | (have h2 := below_tt hp hb; obtain ⟨hc2, hf2⟩ := bcell h2; have hz2 := bsize h2) | (have h2 := below_tt (below_al hp _) hb; obtain ⟨hc2, hf2⟩ := bcell h2; have hz2 := bsize h2) | skip); have hp := hb)
          go_wp2
          go_ret3
          exact ⟨by rw [← hN.out]; rfl, hB⟩
      · obtain rfl : m = 730500 := by omega
        have h1 := Lib.hid (inR_not (n := 730500) (a := 0) (b := 730499) (by omega))
        have hN := Lib.hid (nextF_end.symm.trans hm.out)
        skip
        go_wp2_with fail
        go_ret3
        exact ⟨by rw [← hN.out]; rfl, hB⟩
theorem walk_FnExactNextFeast (n : Int) (_ : I64 n) (w : World) : Calls Try.prog 6 #[.int .i64 n] w (Yes w) := by
  have rg := cell_rg; have l2 : ∀ n : Nat, n < n + 1 + 1 := (fun _ => by omega); have l3 : ∀ n : Nat, n < n + 1 + 1 + 1 := (fun _ => by omega); have l4 : ∀ n : Nat, n < n + 1 + 1 + 1 + 1 := (fun _ => by omega)
  go_enter Try.func6, Try.ntmps6
  go_wp2_with (first | (go_at_call 24; (refine (specNextFeast_any _ _).mono ?_; rintro e w' ⟨rfl, hb⟩; obtain ⟨hc, hf⟩ := bcell hb; have hz := bsize hb; (first | (have hB := below_tt hB hb) | (have hB := below_tt (below_al hB _) hb) | (have hB := below_tt (below_al (below_al hB _) _) hb) | (have hB := hb)); obtain ⟨hc0, hf0⟩ := bcell hB; have hz0 := bsize hB; (first | (have h2 := below_tt hp hb; obtain ⟨hc2, hf2⟩ := bcell h2; have hz2 := bsize h2) | (have h2 := below_tt (below_al hp _) hb; obtain ⟨hc2, hf2⟩ := bcell h2; have hz2 := bsize h2) | skip); have hp := hb)) | (go_at_call 25; (refine (implNextFeast_any _ _).mono ?_; rintro e w' ⟨rfl, hb⟩; obtain ⟨hc, hf⟩ := bcell hb; have hz := bsize hb; (first | (have hB := below_tt hB hb) | (have hB := below_tt (below_al hB _) hb) | (have hB := below_tt (below_al (below_al hB _) _) hb) | (have hB := hb)); obtain ⟨hc0, hf0⟩ := bcell hB; have hz0 := bsize hB; (first | (have h2 := below_tt hp hb; obtain ⟨hc2, hf2⟩ := bcell h2; have hz2 := bsize h2) | (have h2 := below_tt (below_al hp _) hb; obtain ⟨hc2, hf2⟩ := bcell h2; have hz2 := bsize h2) | skip); have hp := hb)))
  go_ret
  exact ⟨rfl, by (repeat' (first | (with_reducible exact Below.refl _ _) | (with_reducible assumption) | (with_reducible refine below_al ?_ _) | (with_reducible refine Below.drew ?_) | (with_reducible refine Below.setCell ?_ (by first | exact Nat.le_refl _ | (dsimp only; omega) | (simp; omega)) _) | (with_reducible refine below_drewN ?_ _) | (with_reducible refine below_tt ?_ (by assumption))))⟩
end Go.Proofs.Yticnkjpgjcddcaa
