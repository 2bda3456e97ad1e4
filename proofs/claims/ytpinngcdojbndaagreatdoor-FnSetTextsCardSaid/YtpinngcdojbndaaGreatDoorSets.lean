/- Sets of days: which lists are sets; how many days they have. -/
import Derived.Test.YtpinngcdojbndaaGreatDoorSpans
namespace Go.Proofs.YtpinngcdojbndaaGreatDoor
open Go.RowKit

/-- The k-th span. -/
abbrev gS (xs : List (Int × Int)) (k : Nat) : Int × Int := xs.getD k (0, 0)
/-- A span of days. -/
def okS (s : Int × Int) : Bool := inR s.1 0 730499 && inR s.2 0 730499 && decide (s.1 ≤ s.2)
/-- The first k spans are well, and as far apart as must be. -/
def goodTo (xs : List (Int × Int)) (k : Nat) : Prop := ∀ i, i < k → okS (gS xs i) = true ∧ (0 < i → (gS xs (i - 1)).2 + 2 ≤ (gS xs i).1)
/-- Is it a set? -/
noncomputable def isSet (xs : List (Int × Int)) : Bool := @decide (goodTo xs xs.length ∧ xs.length ≤ 300) (Classical.propDecidable _)
theorem isSet_iff {xs : List (Int × Int)} : isSet xs = true ↔ (goodTo xs xs.length ∧ xs.length ≤ 300) := by unfold isSet; simp
theorem isSet_bad {xs : List (Int × Int)} {k : Nat} (hk : k < xs.length) (h : ¬ (okS (gS xs k) = true ∧ (0 < k → (gS xs (k - 1)).2 + 2 ≤ (gS xs k).1))) : isSet xs = false := by
  cases hb : isSet xs
  · rfl
  · exact absurd ((isSet_iff.1 hb).1 k hk) h
theorem okS_bd {s : Int × Int} (h : okS s = true) : s.2 ≤ 730499 ∧ 0 ≤ s.2 := by
  simp [okS, inR] at h; omega
theorem goodTo_succ {xs : List (Int × Int)} {k : Nat} (h : goodTo xs k) (hk : okS (gS xs k) = true) (hg : 0 < k → (gS xs (k - 1)).2 + 2 ≤ (gS xs k).1) : goodTo xs (k + 1) := by
  intro i hi
  rcases Nat.lt_or_ge i k with h3 | h3
  · exact h i h3
  · obtain rfl : i = k := by omega
    exact ⟨hk, hg⟩

theorem l02Span_any (a b : Int) (w : World) :
    Calls Tryz.prog 36 #[.agg #[.int .i64 a, .int .i64 b]] w fun e w' => e = .returned (.bool (okS (a, b))) ∧ Below w.heap.size w w' := by
  go_enter Tryz.func36, Tryz.ntmps36
  go_wp2
  all_goals (go_ret; refine ⟨ret_bool ?_, by (repeat' (first | (with_reducible exact Below.refl _ _) | (with_reducible assumption) | (with_reducible refine below_al ?_ _) | (with_reducible refine Below.drew ?_) | (with_reducible refine Below.setCell ?_ (by first | exact Nat.le_refl _ | (dsimp only; omega) | (simp; omega)) _) | (with_reducible refine below_drewN ?_ _) | (with_reducible refine below_tt ?_ (by assumption))))⟩)
  all_goals (simp_all [okS, inR]; try omega)
theorem l02Span_is {a b : Int} {r : Bool} (h : okS (a, b) = r) (w : World) :
    Calls Tryz.prog 36 #[.agg #[.int .i64 a, .int .i64 b]] w fun e w' => e = .returned (.bool r) ∧ Below w.heap.size w w' := by
  subst h; exact l02Span_any a b w

set_option maxHeartbeats 1000000 in
theorem sIsSet_cells (b off cap : Nat) (xs : List (Int × Int)) (w : World) (hb : b < w.heap.size) (h : SpanAt w b off xs) (hl : xs.length ≤ 4000000) :
    Calls Tryz.prog 20 #[.slice (some ⟨b, off, none⟩) xs.length cap] w fun e w' => e = .returned (.bool (isSet xs)) ∧ Below w.heap.size w w' := by
  have rg := cell_rg; have l2 : ∀ n : Nat, n < n + 1 + 1 := (fun _ => by omega); have l3 : ∀ n : Nat, n < n + 1 + 1 + 1 := (fun _ => by omega); have l4 : ∀ n : Nat, n < n + 1 + 1 + 1 + 1 := (fun _ => by omega)
  have hB := Below.refl w.heap.size w
  go_enter Tryz.func20, Tryz.ntmps20
  go_wp2
  go_loopw [3] (fun s3 wr => ∃ k : Nat, k ≤ xs.length ∧ s3 = .int .i64 k ∧ Hid (goodTo xs k) ∧ Below w.heap.size w wr) (fun s3 _ => xs.length - (intOf s3).toNat)
  case atStart => exact ⟨0, by omega, rfl, Lib.hid (fun i hi => by omega), hB⟩
  case round =>
    clear hB
    obtain ⟨k, hk, rfl, hgt, hB⟩ := hrel
    have z1 := bsize hB b hb
    have hp := Below.refl wr.heap.size wr
    by_cases hlt : k < xs.length
    · have e1 := h.of_cells fun o => hB.cell (p := ⟨b, o, none⟩) hb
      have e10 := (e1 k hlt).1
      have e11 := (e1 k hlt).2
      by_cases hok : okS (gS xs k) = true
      · by_cases hk0 : k = 0
        · have hd : Hid (goodTo xs (k + 1)) := Lib.hid (goodTo_succ hgt.out hok (fun h0 => by omega))
          have hs : okS ((gS xs k).1, (gS xs k).2) = true := hok
          generalize (gS xs k).1 = x at e10 hs
          generalize (gS xs k).2 = y at e11 hs
          have hs' := Lib.hid hs
          clear hs hok e1
          subst hk0
          simp only [Nat.zero_mul, Nat.add_zero] at e10 e11
          go_wp2
          (refine wp_region_quiet_below (by kernel_rfl) (by kernel_rfl) ?_; (repeat (go_big_quiet_step ((go_at_call 36; exact Calls.regrown_of (l02Span_is hs'.out _))))); refine wpQuiet_nil ?_; intro w9 hw9; have hb := below_of_regrown hw9; clear hw9; obtain ⟨hc, hf⟩ := bcell hb; have hz := bsize hb; (first | (have hB := below_tt hB hb) | (have hB := below_tt (below_al hB _) hb) | (have hB := below_tt (below_al (below_al hB _) _) hb) | (have hB := hb)); obtain ⟨hc0, hf0⟩ := bcell hB; have hz0 := bsize hB; (first | (have h2 := below_tt hp hb; obtain ⟨hc2, hf2⟩ := bcell h2; have hz2 := bsize h2) | (have h2 := below_tt (below_al hp _) hb; obtain ⟨hc2, hf2⟩ := bcell h2; have hz2 := bsize h2) | skip); have hp := hb)
          go_wp2
          go_roundw
          case rel => exact ⟨1, by omega, by simp, hd, by (repeat' (first | (with_reducible exact Below.refl _ _) | (with_reducible assumption) | (with_reducible refine below_al ?_ _) | (with_reducible refine Below.drew ?_) | (with_reducible refine Below.setCell ?_ (by first | exact Nat.le_refl _ | (dsimp only; omega) | (simp; omega)) _) | (with_reducible refine below_drewN ?_ _) | (with_reducible refine below_tt ?_ (by assumption))))⟩
          case measure => simp [intOf]; omega
        · by_cases hgap : (gS xs (k - 1)).2 + 2 ≤ (gS xs k).1
          · have hd : Hid (goodTo xs (k + 1)) := Lib.hid (goodTo_succ hgt.out hok (fun h0 => hgap))
            have hpb := okS_bd (hgt.out (k - 1) (by omega)).1
            have f1 := (e1 (k - 1) (by omega)).2
            have hs : okS ((gS xs k).1, (gS xs k).2) = true := hok
            generalize (gS xs k).1 = x at e10 hs hgap
            generalize (gS xs k).2 = y at e11 hs
            generalize (gS xs (k - 1)).2 = z at f1 hgap hpb
            have hs' := Lib.hid hs
            have hk1 : 0 < k := by omega
            clear hs hok e1
            go_wp2
            (refine wp_region_quiet_below (by kernel_rfl) (by kernel_rfl) ?_; (repeat (go_big_quiet_step ((go_at_call 36; exact Calls.regrown_of (l02Span_is hs'.out _))))); refine wpQuiet_nil ?_; intro w9 hw9; have hb := below_of_regrown hw9; clear hw9; obtain ⟨hc, hf⟩ := bcell hb; have hz := bsize hb; (first | (have hB := below_tt hB hb) | (have hB := below_tt (below_al hB _) hb) | (have hB := below_tt (below_al (below_al hB _) _) hb) | (have hB := hb)); obtain ⟨hc0, hf0⟩ := bcell hB; have hz0 := bsize hB; (first | (have h2 := below_tt hp hb; obtain ⟨hc2, hf2⟩ := bcell h2; have hz2 := bsize h2) | (have h2 := below_tt (below_al hp _) hb; obtain ⟨hc2, hf2⟩ := bcell h2; have hz2 := bsize h2) | skip); have hp := hb)
            go_wp2
            go_roundw
            case rel => exact ⟨k + 1, by omega, by simp, hd, by (repeat' (first | (with_reducible exact Below.refl _ _) | (with_reducible assumption) | (with_reducible refine below_al ?_ _) | (with_reducible refine Below.drew ?_) | (with_reducible refine Below.setCell ?_ (by first | exact Nat.le_refl _ | (dsimp only; omega) | (simp; omega)) _) | (with_reducible refine below_drewN ?_ _) | (with_reducible refine below_tt ?_ (by assumption))))⟩
            case measure => simp [intOf]; omega
          · have hd : Hid (isSet xs = false) := Lib.hid (isSet_bad hlt (fun h0 => hgap (h0.2 (by omega))))
            have hpb := okS_bd (hgt.out (k - 1) (by omega)).1
            have f1 := (e1 (k - 1) (by omega)).2
            have hs : okS ((gS xs k).1, (gS xs k).2) = true := hok
            generalize (gS xs k).1 = x at e10 hs hgap
            generalize (gS xs k).2 = y at e11 hs
            generalize (gS xs (k - 1)).2 = z at f1 hgap hpb
            have hs' := Lib.hid hs
            have hk1 : 0 < k := by omega
            clear hs hok e1
            go_wp2
            (refine wp_region_quiet_below (by kernel_rfl) (by kernel_rfl) ?_; (repeat (go_big_quiet_step ((go_at_call 36; exact Calls.regrown_of (l02Span_is hs'.out _))))); refine wpQuiet_nil ?_; intro w9 hw9; have hb := below_of_regrown hw9; clear hw9; obtain ⟨hc, hf⟩ := bcell hb; have hz := bsize hb; (first | (have hB := below_tt hB hb) | (have hB := below_tt (below_al hB _) hb) | (have hB := below_tt (below_al (below_al hB _) _) hb) | (have hB := hb)); obtain ⟨hc0, hf0⟩ := bcell hB; have hz0 := bsize hB; (first | (have h2 := below_tt hp hb; obtain ⟨hc2, hf2⟩ := bcell h2; have hz2 := bsize h2) | (have h2 := below_tt (below_al hp _) hb; obtain ⟨hc2, hf2⟩ := bcell h2; have hz2 := bsize h2) | skip); have hp := hb)
            go_wp2
            go_ret
            exact ⟨ret_bool hd.out.symm, by (repeat' (first | (with_reducible exact Below.refl _ _) | (with_reducible assumption) | (with_reducible refine below_al ?_ _) | (with_reducible refine Below.drew ?_) | (with_reducible refine Below.setCell ?_ (by first | exact Nat.le_refl _ | (dsimp only; omega) | (simp; omega)) _) | (with_reducible refine below_drewN ?_ _) | (with_reducible refine below_tt ?_ (by assumption))))⟩
      · have hd : Hid (isSet xs = false) := Lib.hid (isSet_bad hlt (fun h0 => hok h0.1))
        have hs : okS ((gS xs k).1, (gS xs k).2) = false := by simpa using hok
        generalize (gS xs k).1 = x at e10 hs
        generalize (gS xs k).2 = y at e11 hs
        have hs' := Lib.hid hs
        clear hs hok e1
        go_wp2
        (refine wp_region_quiet_below (by kernel_rfl) (by kernel_rfl) ?_; (repeat (go_big_quiet_step ((go_at_call 36; exact Calls.regrown_of (l02Span_is hs'.out _))))); refine wpQuiet_nil ?_; intro w9 hw9; have hb := below_of_regrown hw9; clear hw9; obtain ⟨hc, hf⟩ := bcell hb; have hz := bsize hb; (first | (have hB := below_tt hB hb) | (have hB := below_tt (below_al hB _) hb) | (have hB := below_tt (below_al (below_al hB _) _) hb) | (have hB := hb)); obtain ⟨hc0, hf0⟩ := bcell hB; have hz0 := bsize hB; (first | (have h2 := below_tt hp hb; obtain ⟨hc2, hf2⟩ := bcell h2; have hz2 := bsize h2) | (have h2 := below_tt (below_al hp _) hb; obtain ⟨hc2, hf2⟩ := bcell h2; have hz2 := bsize h2) | skip); have hp := hb)
        go_wp2
        go_ret
        exact ⟨ret_bool hd.out.symm, by (repeat' (first | (with_reducible exact Below.refl _ _) | (with_reducible assumption) | (with_reducible refine below_al ?_ _) | (with_reducible refine Below.drew ?_) | (with_reducible refine Below.setCell ?_ (by first | exact Nat.le_refl _ | (dsimp only; omega) | (simp; omega)) _) | (with_reducible refine below_drewN ?_ _) | (with_reducible refine below_tt ?_ (by assumption))))⟩
    · obtain rfl : k = xs.length := by omega
      by_cases h3 : xs.length ≤ 300
      · have hd : Hid (isSet xs = true) := Lib.hid (isSet_iff.2 ⟨hgt.out, h3⟩)
        have h3' : (xs.length : Int) ≤ 300 := by omega
        go_wp2
        go_ret
        exact ⟨ret_bool (by simp [hd.out]; try omega), hB⟩
      · have hd : Hid (isSet xs = false) := Lib.hid (by cases hb : isSet xs; · rfl
                                                        · exact absurd (isSet_iff.1 hb).2 h3)
        go_wp2
        go_ret
        exact ⟨ret_bool (by simp [hd.out]; omega), hB⟩
theorem okS_parts (s : Int × Int) : okS s = (inR s.1 0 730499 && inR s.2 0 730499 && decide (s.1 ≤ s.2)) := rfl
set_option maxHeartbeats 2000000 in
theorem iIsSet_cells (b off cap : Nat) (xs : List (Int × Int)) (w : World) (hb : b < w.heap.size) (h : SpanAt w b off xs) (hl : xs.length ≤ 4000000) :
    Calls Tryz.prog 18 #[.slice (some ⟨b, off, none⟩) xs.length cap] w fun e w' => e = .returned (.bool (isSet xs)) ∧ Below w.heap.size w w' := by
  have rg := cell_rg; have l2 : ∀ n : Nat, n < n + 1 + 1 := (fun _ => by omega); have l3 : ∀ n : Nat, n < n + 1 + 1 + 1 := (fun _ => by omega); have l4 : ∀ n : Nat, n < n + 1 + 1 + 1 + 1 := (fun _ => by omega)
  have hB := Below.refl w.heap.size w
  go_enter Tryz.func18, Tryz.ntmps18
  go_wp2
  go_loopw [7] (fun s7 wr => ∃ k : Nat, k ≤ xs.length ∧ s7 = .int .i64 k ∧ Hid (goodTo xs k) ∧ Below w.heap.size w wr) (fun s7 _ => xs.length - (intOf s7).toNat)
  case atStart => exact ⟨0, by omega, rfl, Lib.hid (fun i hi => by omega), hB⟩
  case round =>
    clear hB
    obtain ⟨k, hk, rfl, hgt, hB⟩ := hrel
    have z1 := bsize hB b hb
    have hp := Below.refl wr.heap.size wr
    by_cases hlt : k < xs.length
    · have e1 := h.of_cells fun o => hB.cell (p := ⟨b, o, none⟩) hb
      have e10 := (e1 k hlt).1
      have e11 := (e1 k hlt).2
      have hparts := okS_parts (gS xs k)
      have z3 : b < wr.heap.size + 1 := by omega
      cases hu0 : inR (gS xs k).1 0 730499
      · have hd : Hid (isSet xs = false) := Lib.hid (isSet_bad hlt (fun h0 => by rw [hparts, hu0] at h0; simp at h0))
        clear hparts
        generalize (gS xs k).1 = x at e10 hu0
        generalize (gS xs k).2 = y at e11 
        have hu := Lib.hid hu0
        clear hu0 e1
        go_wp2
        (refine wp_region_quiet_below (by kernel_rfl) (by kernel_rfl) ?_; (repeat (go_big_quiet_step ((go_at_call 33; exact Calls.regrown_of ((isDay_is (by first | exact hu.out | exact hv.out) _).mono fun _ _ h => ⟨h.1, by rw [← h.2]; exact Below.refl _ _⟩))))); refine wpQuiet_nil ?_; intro w9 hw9; have hb := below_of_regrown hw9; clear hw9; obtain ⟨hc, hf⟩ := bcell hb; have hz := bsize hb; (first | (have hB := below_tt hB hb) | (have hB := below_tt (below_al hB _) hb) | (have hB := below_tt (below_al (below_al hB _) _) hb) | (have hB := hb)); obtain ⟨hc0, hf0⟩ := bcell hB; have hz0 := bsize hB; (first | (have h2 := below_tt hp hb; obtain ⟨hc2, hf2⟩ := bcell h2; have hz2 := bsize h2) | (have h2 := below_tt (below_al hp _) hb; obtain ⟨hc2, hf2⟩ := bcell h2; have hz2 := bsize h2) | skip); have hp := hb)
        go_wp2
        go_ret
        exact ⟨ret_bool hd.out.symm, by (repeat' (first | (with_reducible exact Below.refl _ _) | (with_reducible assumption) | (with_reducible refine below_al ?_ _) | (with_reducible refine Below.drew ?_) | (with_reducible refine Below.setCell ?_ (by first | exact Nat.le_refl _ | (dsimp only; omega) | (simp; omega)) _) | (with_reducible refine below_drewN ?_ _) | (with_reducible refine below_tt ?_ (by assumption))))⟩
      · cases hv0 : inR (gS xs k).2 0 730499
        · have hd : Hid (isSet xs = false) := Lib.hid (isSet_bad hlt (fun h0 => by rw [hparts, hv0] at h0; simp at h0))
          clear hparts
          generalize (gS xs k).1 = x at e10 hu0
          generalize (gS xs k).2 = y at e11 hv0
          have hu := Lib.hid hu0
          have hv := Lib.hid hv0
          clear hu0 hv0 e1
          go_wp2
          (refine wp_region_quiet_below (by kernel_rfl) (by kernel_rfl) ?_; (repeat (go_big_quiet_step ((go_at_call 33; exact Calls.regrown_of ((isDay_is (by first | exact hu.out | exact hv.out) _).mono fun _ _ h => ⟨h.1, by rw [← h.2]; exact Below.refl _ _⟩))))); refine wpQuiet_nil ?_; intro w9 hw9; have hb := below_of_regrown hw9; clear hw9; obtain ⟨hc, hf⟩ := bcell hb; have hz := bsize hb; (first | (have hB := below_tt hB hb) | (have hB := below_tt (below_al hB _) hb) | (have hB := below_tt (below_al (below_al hB _) _) hb) | (have hB := hb)); obtain ⟨hc0, hf0⟩ := bcell hB; have hz0 := bsize hB; (first | (have h2 := below_tt hp hb; obtain ⟨hc2, hf2⟩ := bcell h2; have hz2 := bsize h2) | (have h2 := below_tt (below_al hp _) hb; obtain ⟨hc2, hf2⟩ := bcell h2; have hz2 := bsize h2) | skip); have hp := hb)
          go_wp2
          go_ret
          exact ⟨ret_bool hd.out.symm, by (repeat' (first | (with_reducible exact Below.refl _ _) | (with_reducible assumption) | (with_reducible refine below_al ?_ _) | (with_reducible refine Below.drew ?_) | (with_reducible refine Below.setCell ?_ (by first | exact Nat.le_refl _ | (dsimp only; omega) | (simp; omega)) _) | (with_reducible refine below_drewN ?_ _) | (with_reducible refine below_tt ?_ (by assumption))))⟩
        · by_cases hle : (gS xs k).1 ≤ (gS xs k).2
          · have hok : okS (gS xs k) = true := by rw [hparts, hu0, hv0]; simpa using hle
            by_cases hk0 : k = 0
            · have hd : Hid (goodTo xs (k + 1)) := Lib.hid (goodTo_succ hgt.out hok (fun h0 => by omega))
              clear hok
              clear hparts
              generalize (gS xs k).1 = x at e10 hu0 hle
              generalize (gS xs k).2 = y at e11 hv0 hle
              have hu := Lib.hid hu0
              have hv := Lib.hid hv0
              first | have hnl : decide (y < x) = false := decide_eq_false (Int.not_lt.2 hle) | have hnl : decide (y < x) = true := decide_eq_true (Int.not_le.1 hle)
              clear hu0 hv0 e1
              subst hk0
              simp only [Nat.zero_mul, Nat.add_zero] at e10 e11
              go_wp2
              (refine wp_region_quiet_below (by kernel_rfl) (by kernel_rfl) ?_; (repeat (go_big_quiet_step ((go_at_call 33; exact Calls.regrown_of ((isDay_is (by first | exact hu.out | exact hv.out) _).mono fun _ _ h => ⟨h.1, by rw [← h.2]; exact Below.refl _ _⟩))))); refine wpQuiet_nil ?_; intro w9 hw9; have hb := below_of_regrown hw9; clear hw9; obtain ⟨hc, hf⟩ := bcell hb; have hz := bsize hb; (first | (have hB := below_tt hB hb) | (have hB := below_tt (below_al hB _) hb) | (have hB := below_tt (below_al (below_al hB _) _) hb) | (have hB := hb)); obtain ⟨hc0, hf0⟩ := bcell hB; have hz0 := bsize hB; (first | (have h2 := below_tt hp hb; obtain ⟨hc2, hf2⟩ := bcell h2; have hz2 := bsize h2) | (have h2 := below_tt (below_al hp _) hb; obtain ⟨hc2, hf2⟩ := bcell h2; have hz2 := bsize h2) | skip); have hp := hb)
              go_wp2
              go_roundw
              case rel => exact ⟨1, by omega, by simp, hd, by (repeat' (first | (with_reducible exact Below.refl _ _) | (with_reducible assumption) | (with_reducible refine below_al ?_ _) | (with_reducible refine Below.drew ?_) | (with_reducible refine Below.setCell ?_ (by first | exact Nat.le_refl _ | (dsimp only; omega) | (simp; omega)) _) | (with_reducible refine below_drewN ?_ _) | (with_reducible refine below_tt ?_ (by assumption))))⟩
              case measure => simp [intOf]; omega
            · have hk1 : 0 < k := by omega
              have hpb := okS_bd (hgt.out (k - 1) (by omega)).1
              have f1 := (e1 (k - 1) (by omega)).2
              by_cases hgap : (gS xs (k - 1)).2 + 2 ≤ (gS xs k).1
              · have hd : Hid (goodTo xs (k + 1)) := Lib.hid (goodTo_succ hgt.out hok (fun h0 => hgap))
                clear hok
                clear hparts
                generalize (gS xs k).1 = x at e10 hu0 hle hgap
                generalize (gS xs k).2 = y at e11 hv0 hle
                generalize (gS xs (k - 1)).2 = z at f1 hpb hgap
                have hu := Lib.hid hu0
                have hv := Lib.hid hv0
                first | have hnl : decide (y < x) = false := decide_eq_false (Int.not_lt.2 hle) | have hnl : decide (y < x) = true := decide_eq_true (Int.not_le.1 hle)
                clear hu0 hv0 e1
                go_wp2
                (refine wp_region_quiet_below (by kernel_rfl) (by kernel_rfl) ?_; (repeat (go_big_quiet_step ((go_at_call 33; exact Calls.regrown_of ((isDay_is (by first | exact hu.out | exact hv.out) _).mono fun _ _ h => ⟨h.1, by rw [← h.2]; exact Below.refl _ _⟩))))); refine wpQuiet_nil ?_; intro w9 hw9; have hb := below_of_regrown hw9; clear hw9; obtain ⟨hc, hf⟩ := bcell hb; have hz := bsize hb; (first | (have hB := below_tt hB hb) | (have hB := below_tt (below_al hB _) hb) | (have hB := below_tt (below_al (below_al hB _) _) hb) | (have hB := hb)); obtain ⟨hc0, hf0⟩ := bcell hB; have hz0 := bsize hB; (first | (have h2 := below_tt hp hb; obtain ⟨hc2, hf2⟩ := bcell h2; have hz2 := bsize h2) | (have h2 := below_tt (below_al hp _) hb; obtain ⟨hc2, hf2⟩ := bcell h2; have hz2 := bsize h2) | skip); have hp := hb)
                go_wp2
                go_roundw
                case rel => exact ⟨k + 1, by omega, by simp, hd, by (repeat' (first | (with_reducible exact Below.refl _ _) | (with_reducible assumption) | (with_reducible refine below_al ?_ _) | (with_reducible refine Below.drew ?_) | (with_reducible refine Below.setCell ?_ (by first | exact Nat.le_refl _ | (dsimp only; omega) | (simp; omega)) _) | (with_reducible refine below_drewN ?_ _) | (with_reducible refine below_tt ?_ (by assumption))))⟩
                case measure => simp [intOf]; omega
              · have hd : Hid (isSet xs = false) := Lib.hid (isSet_bad hlt (fun h0 => hgap (h0.2 (by omega))))
                clear hok
                clear hparts
                generalize (gS xs k).1 = x at e10 hu0 hle hgap
                generalize (gS xs k).2 = y at e11 hv0 hle
                generalize (gS xs (k - 1)).2 = z at f1 hpb hgap
                have hu := Lib.hid hu0
                have hv := Lib.hid hv0
                first | have hnl : decide (y < x) = false := decide_eq_false (Int.not_lt.2 hle) | have hnl : decide (y < x) = true := decide_eq_true (Int.not_le.1 hle)
                clear hu0 hv0 e1
                go_wp2
                (refine wp_region_quiet_below (by kernel_rfl) (by kernel_rfl) ?_; (repeat (go_big_quiet_step ((go_at_call 33; exact Calls.regrown_of ((isDay_is (by first | exact hu.out | exact hv.out) _).mono fun _ _ h => ⟨h.1, by rw [← h.2]; exact Below.refl _ _⟩))))); refine wpQuiet_nil ?_; intro w9 hw9; have hb := below_of_regrown hw9; clear hw9; obtain ⟨hc, hf⟩ := bcell hb; have hz := bsize hb; (first | (have hB := below_tt hB hb) | (have hB := below_tt (below_al hB _) hb) | (have hB := below_tt (below_al (below_al hB _) _) hb) | (have hB := hb)); obtain ⟨hc0, hf0⟩ := bcell hB; have hz0 := bsize hB; (first | (have h2 := below_tt hp hb; obtain ⟨hc2, hf2⟩ := bcell h2; have hz2 := bsize h2) | (have h2 := below_tt (below_al hp _) hb; obtain ⟨hc2, hf2⟩ := bcell h2; have hz2 := bsize h2) | skip); have hp := hb)
                go_wp2
                go_ret
                exact ⟨ret_bool hd.out.symm, by (repeat' (first | (with_reducible exact Below.refl _ _) | (with_reducible assumption) | (with_reducible refine below_al ?_ _) | (with_reducible refine Below.drew ?_) | (with_reducible refine Below.setCell ?_ (by first | exact Nat.le_refl _ | (dsimp only; omega) | (simp; omega)) _) | (with_reducible refine below_drewN ?_ _) | (with_reducible refine below_tt ?_ (by assumption))))⟩
          · have hd : Hid (isSet xs = false) := Lib.hid (isSet_bad hlt (fun h0 => by rw [hparts, hu0, hv0] at h0; simp at h0; exact hle h0.1))
            clear hparts
            generalize (gS xs k).1 = x at e10 hu0 hle
            generalize (gS xs k).2 = y at e11 hv0 hle
            have hu := Lib.hid hu0
            have hv := Lib.hid hv0
            first | have hnl : decide (y < x) = false := decide_eq_false (Int.not_lt.2 hle) | have hnl : decide (y < x) = true := decide_eq_true (Int.not_le.1 hle)
            clear hu0 hv0 e1
            go_wp2
            (refine wp_region_quiet_below (by kernel_rfl) (by kernel_rfl) ?_; (repeat (go_big_quiet_step ((go_at_call 33; exact Calls.regrown_of ((isDay_is (by first | exact hu.out | exact hv.out) _).mono fun _ _ h => ⟨h.1, by rw [← h.2]; exact Below.refl _ _⟩))))); refine wpQuiet_nil ?_; intro w9 hw9; have hb := below_of_regrown hw9; clear hw9; obtain ⟨hc, hf⟩ := bcell hb; have hz := bsize hb; (first | (have hB := below_tt hB hb) | (have hB := below_tt (below_al hB _) hb) | (have hB := below_tt (below_al (below_al hB _) _) hb) | (have hB := hb)); obtain ⟨hc0, hf0⟩ := bcell hB; have hz0 := bsize hB; (first | (have h2 := below_tt hp hb; obtain ⟨hc2, hf2⟩ := bcell h2; have hz2 := bsize h2) | (have h2 := below_tt (below_al hp _) hb; obtain ⟨hc2, hf2⟩ := bcell h2; have hz2 := bsize h2) | skip); have hp := hb)
            go_wp2
            go_ret
            exact ⟨ret_bool hd.out.symm, by (repeat' (first | (with_reducible exact Below.refl _ _) | (with_reducible assumption) | (with_reducible refine below_al ?_ _) | (with_reducible refine Below.drew ?_) | (with_reducible refine Below.setCell ?_ (by first | exact Nat.le_refl _ | (dsimp only; omega) | (simp; omega)) _) | (with_reducible refine below_drewN ?_ _) | (with_reducible refine below_tt ?_ (by assumption))))⟩
    · obtain rfl : k = xs.length := by omega
      by_cases h3 : xs.length ≤ 300
      · have hd : Hid (isSet xs = true) := Lib.hid (isSet_iff.2 ⟨hgt.out, h3⟩)
        have h3' : (xs.length : Int) ≤ 300 := by omega
        go_wp2
        go_ret
        exact ⟨ret_bool (by simp [hd.out]; try omega), hB⟩
      · have hd : Hid (isSet xs = false) := Lib.hid (by cases hb : isSet xs; · rfl
                                                        · exact absurd (isSet_iff.1 hb).2 h3)
        go_wp2
        go_ret
        exact ⟨ret_bool (by simp [hd.out]; omega), hB⟩
end Go.Proofs.YtpinngcdojbndaaGreatDoor
