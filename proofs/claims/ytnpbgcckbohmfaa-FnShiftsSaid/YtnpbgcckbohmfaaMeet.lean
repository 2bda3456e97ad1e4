/- Sets of days: what both lists hold, on both sides. -/
import Derived.Test.YtnpbgcckbohmfaaSets4
import Derived.Test.YtnpbgcckbohmfaaApp
import Derived.Test.YtnpbgcckbohmfaaOwn
import Derived.Deep.DeepCutAuto
namespace Go.Proofs.Ytnpbgcckbohmfaa
open Go.RowKit

/-- What two spans have in common. -/
def cutS (x y : Int × Int) : Int × Int := (if x.1 < y.1 then y.1 else x.1, if y.2 < x.2 then y.2 else x.2)
def meetL : List (Int × Int) → List (Int × Int) → List (Int × Int)
  | [], _ => []
  | _ :: _, [] => []
  | x :: xs, y :: ys => (if (cutS x y).1 ≤ (cutS x y).2 then [cutS x y] else []) ++ (if x.2 < y.2 then meetL xs (y :: ys) else meetL (x :: xs) ys)
termination_by xs ys => xs.length + ys.length
theorem meetL_nil (ys : List (Int × Int)) : meetL [] ys = [] := by unfold meetL; rfl
theorem meetL_nil' (xs : List (Int × Int)) : meetL xs [] = [] := by cases xs <;> (unfold meetL; rfl)
/-- How far the meeting has come. -/
def meetAt (xs ys P : List (Int × Int)) (i k : Nat) : Prop := P ++ meetL (xs.drop i) (ys.drop k) = meetL xs ys ∧ P.length ≤ i + k
theorem meetAt_end {xs ys P : List (Int × Int)} {i k : Nat} (h : meetAt xs ys P i k) (he : xs.length ≤ i ∨ ys.length ≤ k) : P = meetL xs ys := by
  obtain ⟨h, _⟩ := h
  rcases he with he | he
  · rw [List.drop_eq_nil_of_le he, meetL_nil, List.append_nil] at h; exact h
  · rw [List.drop_eq_nil_of_le he, meetL_nil', List.append_nil] at h; exact h
theorem drop_gS' {xs : List (Int × Int)} {i : Nat} (h : i < xs.length) : xs.drop i = gS xs i :: xs.drop (i + 1) := by
  rw [List.drop_eq_getElem_cons h]
  simp only [gS, List.getD_eq_getElem?_getD, List.getElem?_eq_getElem h, Option.getD_some]
theorem meetAt_unf {xs ys P : List (Int × Int)} {i k : Nat} (h : meetAt xs ys P i k) (hi : i < xs.length) (hk : k < ys.length) :
    (P ++ (if (cutS (gS xs i) (gS ys k)).1 ≤ (cutS (gS xs i) (gS ys k)).2 then [cutS (gS xs i) (gS ys k)] else [])) ++ (if (gS xs i).2 < (gS ys k).2 then meetL (xs.drop (i + 1)) (ys.drop k) else meetL (xs.drop i) (ys.drop (k + 1))) = meetL xs ys := by
  rw [← h.1]
  conv => rhs; rw [drop_gS' hi, drop_gS' hk]; unfold meetL
  rw [List.append_assoc, ← drop_gS' hi, ← drop_gS' hk]
theorem meetAt_step {xs ys P : List (Int × Int)} {i k : Nat} (h : meetAt xs ys P i k) (hi : i < xs.length) (hk : k < ys.length) :
    ((cutS (gS xs i) (gS ys k)).1 ≤ (cutS (gS xs i) (gS ys k)).2 → ((gS xs i).2 < (gS ys k).2 → meetAt xs ys (P ++ [cutS (gS xs i) (gS ys k)]) (i + 1) k) ∧ (¬ (gS xs i).2 < (gS ys k).2 → meetAt xs ys (P ++ [cutS (gS xs i) (gS ys k)]) i (k + 1))) ∧
    (¬ (cutS (gS xs i) (gS ys k)).1 ≤ (cutS (gS xs i) (gS ys k)).2 → ((gS xs i).2 < (gS ys k).2 → meetAt xs ys P (i + 1) k) ∧ (¬ (gS xs i).2 < (gS ys k).2 → meetAt xs ys P i (k + 1))) := by
  have hu := meetAt_unf h hi hk
  have hl := h.2
  refine ⟨fun hc => ⟨fun hlt => ?_, fun hlt => ?_⟩, fun hc => ⟨fun hlt => ?_, fun hlt => ?_⟩⟩
  · rw [if_pos hc, if_pos hlt] at hu; exact ⟨hu, by simp; omega⟩
  · rw [if_pos hc, if_neg hlt] at hu; exact ⟨hu, by simp; omega⟩
  · rw [if_neg hc, if_pos hlt, List.append_nil] at hu; exact ⟨hu, by omega⟩
  · rw [if_neg hc, if_neg hlt, List.append_nil] at hu; exact ⟨hu, by omega⟩
theorem meet_len (xs ys : List (Int × Int)) : (meetL xs ys).length ≤ xs.length + ys.length := by
  suffices h : ∀ n (xs ys : List (Int × Int)), xs.length + ys.length = n → (meetL xs ys).length ≤ xs.length + ys.length from h _ xs ys rfl
  intro n
  induction n using Nat.strongRecOn with
  | _ n ih =>
    intro xs ys hn
    cases xs with
    | nil => simp [meetL_nil]
    | cons x xs =>
      cases ys with
      | nil => simp [meetL_nil']
      | cons y ys =>
        have h1 := ih (xs.length + (y :: ys).length) (by simp at hn ⊢; omega) xs (y :: ys) rfl
        have h2 := ih ((x :: xs).length + ys.length) (by simp at hn ⊢; omega) (x :: xs) ys rfl
        unfold meetL
        rw [List.length_append]
        split <;> split <;> simp at h1 h2 ⊢ <;> omega

theorem met_nil (a b : Option Addr) (n m c1 c2 : Nat) (w : World) (h : n = 0 ∨ m = 0) (hn : (n : Int) ≤ 9000000) (hm : (m : Int) ≤ 9000000) :
    Calls Try.prog 62 #[.slice a n c1, .slice b m c2] w fun e w' => ∃ v, e = .returned v ∧ OwnS w' w.heap.size v [] ∧ Below w.heap.size w w' := by
  have hO := OwnS.made w (Nat.le_refl w.heap.size)
  have hB : Below w.heap.size w (w.alloc (.cells #[] 46)) := by (repeat' (first | (with_reducible exact Below.refl _ _) | (with_reducible assumption) | (with_reducible refine below_al ?_ _) | (with_reducible refine Below.drew ?_) | (with_reducible refine Below.setCell ?_ (by first | exact Nat.le_refl _ | (dsimp only; omega) | (simp; omega)) _) | (with_reducible refine below_drewN ?_ _) | (with_reducible refine below_tt ?_ (by assumption))))
  by_cases h0 : n = 0
  · subst h0
    go_enter Try.func62, Try.ntmps62
    go_wp2
    go_loopw [5, 6, 7] (fun s5 s6 s7 wr => s6 = .int .i64 0 ∧ s7 = .int .i64 0 ∧ OwnS wr w.heap.size s5 [] ∧ Below w.heap.size w wr) (fun _ _ _ _ => 0)
    case atStart => exact ⟨rfl, rfl, hO, hB⟩
    case round =>
      clear hO hB
      obtain ⟨rfl, rfl, hO, hB⟩ := hrel
      go_wp2
      go_ret
      exact ⟨_, rfl, hO, hB⟩
  · obtain rfl : m = 0 := by omega
    have hpos : decide (0 < n) = true := decide_eq_true (by omega)
    go_enter Try.func62, Try.ntmps62
    go_wp2
    go_loopw [5, 6, 7] (fun s5 s6 s7 wr => s6 = .int .i64 0 ∧ s7 = .int .i64 0 ∧ OwnS wr w.heap.size s5 [] ∧ Below w.heap.size w wr) (fun _ _ _ _ => 0)
    case atStart => exact ⟨rfl, rfl, hO, hB⟩
    case round =>
      clear hO hB
      obtain ⟨rfl, rfl, hO, hB⟩ := hrel
      go_wp2
      go_ret
      exact ⟨_, rfl, hO, hB⟩
set_option maxRecDepth 10000 in
set_option maxHeartbeats 4000000 in
theorem met_cells (b1 o1 c1 b2 o2 c2 : Nat) (xs ys : List (Int × Int)) (w : World) (hb1 : b1 < w.heap.size) (h1 : SpanAt w b1 o1 xs) (hb2 : b2 < w.heap.size) (h2 : SpanAt w b2 o2 ys) (hl1 : xs.length ≤ 3000000) (hl2 : ys.length ≤ 3000000) :
    Calls Try.prog 62 #[.slice (some ⟨b1, o1, none⟩) xs.length c1, .slice (some ⟨b2, o2, none⟩) ys.length c2] w fun e w' => ∃ v, e = .returned v ∧ OwnS w' w.heap.size v (meetL xs ys) ∧ Below w.heap.size w w' := by
  have rg := cell_rg; have l2 : ∀ n : Nat, n < n + 1 + 1 := (fun _ => by omega); have l3 : ∀ n : Nat, n < n + 1 + 1 + 1 := (fun _ => by omega); have l4 : ∀ n : Nat, n < n + 1 + 1 + 1 + 1 := (fun _ => by omega)
  have hO := OwnS.made w (Nat.le_refl w.heap.size)
  have hB : Below w.heap.size w (w.alloc (.cells #[] 46)) := by (repeat' (first | (with_reducible exact Below.refl _ _) | (with_reducible assumption) | (with_reducible refine below_al ?_ _) | (with_reducible refine Below.drew ?_) | (with_reducible refine Below.setCell ?_ (by first | exact Nat.le_refl _ | (dsimp only; omega) | (simp; omega)) _) | (with_reducible refine below_drewN ?_ _) | (with_reducible refine below_tt ?_ (by assumption))))
  go_enter Try.func62, Try.ntmps62
  go_wp2
  go_loopw [5, 6, 7] (fun s5 s6 s7 wr => ∃ (i k : Nat) (P : List (Int × Int)), i ≤ xs.length ∧ k ≤ ys.length ∧ s6 = .int .i64 i ∧ s7 = .int .i64 k ∧ OwnS wr w.heap.size s5 P ∧ Hid (meetAt xs ys P i k) ∧ Below w.heap.size w wr) (fun _ s6 s7 _ => xs.length - (intOf s6).toNat + (ys.length - (intOf s7).toNat))
  case atStart => exact ⟨0, 0, [], by omega, by omega, rfl, rfl, hO, ⟨by simp, by simp⟩, hB⟩
  case round =>
    clear hB hO
    obtain ⟨i, k, P, hi, hk, rfl, rfl, hO, hat, hB⟩ := hrel
    by_cases hlt1 : i < xs.length
    · have d1 : decide ((i : Int) < (xs.length : Int)) = true := decide_eq_true (by omega)
      have d1' : decide (i < xs.length) = true := decide_eq_true hlt1
      by_cases hlt2 : k < ys.length
      · have d2 : decide ((k : Int) < (ys.length : Int)) = true := decide_eq_true (by omega)
        have d2' : decide (k < ys.length) = true := decide_eq_true hlt2
        have z1 := bsize hB b1 hb1
        have z2 := bsize hB b2 hb2
        have e1 := h1.of_cells fun o => hB.cell (p := ⟨b1, o, none⟩) hb1
        have e2 := h2.of_cells fun o => hB.cell (p := ⟨b2, o, none⟩) hb2
        have e10 := (e1 i hlt1).1
        have e11 := (e1 i hlt1).2
        have e20 := (e2 k hlt2).1
        have e21 := (e2 k hlt2).2
        have hst := Lib.hid (meetAt_step hat.out hlt1 hlt2)
        have hPl := hat.out.2
        have k1 : ∀ w3 : World, Below w.heap.size w w3 → w3.cell? ⟨b1, o1 + i * 2 + 1, none⟩ = some (.int .i64 (gS xs i).2) := fun w3 hB3 => ((h1.of_cells fun o => hB3.cell (p := ⟨b1, o, none⟩) hb1) i hlt1).2
        have k2 : ∀ w3 : World, Below w.heap.size w w3 → w3.cell? ⟨b2, o2 + k * 2 + 1, none⟩ = some (.int .i64 (gS ys k).2) := fun w3 hB3 => ((h2.of_cells fun o => hB3.cell (p := ⟨b2, o, none⟩) hb2) k hlt2).2
        have K1 := Lib.hid k1
        have K2 := Lib.hid k2
        clear e1 e2 hat k1 k2
        unfold cutS at hst
        generalize (gS xs i).1 = x1 at e10 hst
        generalize (gS xs i).2 = x2 at e11 hst K1
        generalize (gS ys k).1 = y1 at e20 hst
        generalize (gS ys k).2 = y2 at e21 hst K2
        have i1 : (0 : Int) ≤ (i : Int) := by omega
        have i2 : (i : Int) < (xs.length : Int) := by omega
        have i3 : (0 : Int) ≤ (k : Int) := by omega
        have i4 : (k : Int) < (ys.length : Int) := by omega
        have n1 : b1 ≠ wr.heap.size := by omega
        have n2 : wr.heap.size ≠ b1 := by omega
        have n3 : b2 ≠ wr.heap.size := by omega
        have n4 : wr.heap.size ≠ b2 := by omega
        have hp := Below.refl wr.heap.size wr
        go_upto_region 4 with fail
        go_cut [8] (fun s8 wx => s8 = .pointer (some ⟨wr.heap.size, 0, none⟩) ∧ wx = (wr.alloc (.cells #[.int .i64 (if x1 < y1 then y1 else x1), .int .i64 (if y2 < x2 then y2 else x2)] 46)).drew)
        case first =>
          clear hst K1 K2
          go_region_held3 (fun w' => w'.cell? ⟨b1, o1 + i * 2, none⟩ = some (.int .i64 x1) ∧ w'.cell? ⟨b1, o1 + i * 2 + 1, none⟩ = some (.int .i64 x2) ∧ w'.cell? ⟨b2, o2 + k * 2, none⟩ = some (.int .i64 y1) ∧ w'.cell? ⟨b2, o2 + k * 2 + 1, none⟩ = some (.int .i64 y2)) (go_keep) (fail)
          all_goals (go_wp2_with fail)
          all_goals (go_meet; first | exact ⟨rfl, rfl⟩ | exact ⟨rfl, by repeat (first | rw [if_pos (by assumption)] | rw [if_neg (by omega)])⟩)
        obtain ⟨rfl, rfl⟩ := hcut
        generalize (if x1 < y1 then y1 else x1) = X at hst ⊢
        generalize (if y2 < x2 then y2 else x2) = Y at hst ⊢
        by_cases hXY : X ≤ Y
        · have hst' := Lib.hid (hst.out.1 (by omega))
          clear hst
          go_wp2_with (at_builtin; refine app_span (w0 := w) (p := X) (q := Y) (xs := P) (by (repeat' (first | (with_reducible exact Below.refl _ _) | (with_reducible assumption) | (with_reducible refine below_al ?_ _) | (with_reducible refine Below.drew ?_) | (with_reducible refine Below.setCell ?_ (by first | exact Nat.le_refl _ | (dsimp only; omega) | (simp; omega)) _) | (with_reducible refine below_drewN ?_ _) | (with_reducible refine below_tt ?_ (by assumption))))) (((hO.alloc _).alloc _).drew) (by omega) rfl _ _ rfl rfl rfl (by simp [go_sem]) (by simp [go_sem]) ?_; intro v3 w3 hO3 hB3 _)
          clear e11 e21 z1 z2 hB hO hp
          have e11 := K1.out w3 hB3
          have e21 := K2.out w3 hB3
          have z1 := bsize hB3 b1 hb1
          have z2 := bsize hB3 b2 hb2
          have hB := hB3
          have hp := Below.refl w3.heap.size w3
          by_cases hxy : x2 < y2
          · have hq : decide (x2 < y2) = true := decide_eq_true hxy
            have hs := Lib.hid (hst'.out.1 (by omega))
            clear hst' hxy
            go_wp2
            (refine wp_region_quiet_below (by kernel_rfl) (by kernel_rfl) ?_; (repeat (go_big_quiet_step (fail))); refine wpQuiet_nil ?_; intro w9 hw9; have hb := below_of_regrown hw9; clear hw9; obtain ⟨hc, hf⟩ := bcell hb; have hz := bsize hb; (first | (have hB := below_tt hB hb) | (have hB := below_tt (below_al hB _) hb) | (have hB := below_tt (below_al (below_al hB _) _) hb) | (have hB := hb)); obtain ⟨hc0, hf0⟩ := bcell hB; have hz0 := bsize hB; (first | (have h2 := below_tt hp hb; obtain ⟨hc2, hf2⟩ := bcell h2; have hz2 := bsize h2) | (have h2 := below_tt (below_al hp _) hb; obtain ⟨hc2, hf2⟩ := bcell h2; have hz2 := bsize h2) | skip); have hp := hb)
            go_wp2
            go_roundw
            case rel => exact ⟨i + 1, k, _, by omega, by omega, by simp, rfl, hO3.below hb, hs.out, by (repeat' (first | (with_reducible exact Below.refl _ _) | (with_reducible assumption) | (with_reducible refine below_al ?_ _) | (with_reducible refine Below.drew ?_) | (with_reducible refine Below.setCell ?_ (by first | exact Nat.le_refl _ | (dsimp only; omega) | (simp; omega)) _) | (with_reducible refine below_drewN ?_ _) | (with_reducible refine below_tt ?_ (by assumption))))⟩
            case measure => simp [intOf]; omega
          · have hq : decide (x2 < y2) = false := decide_eq_false hxy
            have hs := Lib.hid (hst'.out.2 (by omega))
            clear hst' hxy
            go_wp2
            (refine wp_region_quiet_below (by kernel_rfl) (by kernel_rfl) ?_; (repeat (go_big_quiet_step (fail))); refine wpQuiet_nil ?_; intro w9 hw9; have hb := below_of_regrown hw9; clear hw9; obtain ⟨hc, hf⟩ := bcell hb; have hz := bsize hb; (first | (have hB := below_tt hB hb) | (have hB := below_tt (below_al hB _) hb) | (have hB := below_tt (below_al (below_al hB _) _) hb) | (have hB := hb)); obtain ⟨hc0, hf0⟩ := bcell hB; have hz0 := bsize hB; (first | (have h2 := below_tt hp hb; obtain ⟨hc2, hf2⟩ := bcell h2; have hz2 := bsize h2) | (have h2 := below_tt (below_al hp _) hb; obtain ⟨hc2, hf2⟩ := bcell h2; have hz2 := bsize h2) | skip); have hp := hb)
            go_wp2
            go_roundw
            case rel => exact ⟨i, k + 1, _, by omega, by omega, rfl, by simp, hO3.below hb, hs.out, by (repeat' (first | (with_reducible exact Below.refl _ _) | (with_reducible assumption) | (with_reducible refine below_al ?_ _) | (with_reducible refine Below.drew ?_) | (with_reducible refine Below.setCell ?_ (by first | exact Nat.le_refl _ | (dsimp only; omega) | (simp; omega)) _) | (with_reducible refine below_drewN ?_ _) | (with_reducible refine below_tt ?_ (by assumption))))⟩
            case measure => simp [intOf]; omega
        · have hst' := Lib.hid (hst.out.2 (by omega))
          clear hst
          have hB2 : Below w.heap.size w ((wr.alloc (.cells #[.int .i64 X, .int .i64 Y] 46)).drew) := by (repeat' (first | (with_reducible exact Below.refl _ _) | (with_reducible assumption) | (with_reducible refine below_al ?_ _) | (with_reducible refine Below.drew ?_) | (with_reducible refine Below.setCell ?_ (by first | exact Nat.le_refl _ | (dsimp only; omega) | (simp; omega)) _) | (with_reducible refine below_drewN ?_ _) | (with_reducible refine below_tt ?_ (by assumption))))
          have hO2 : OwnS ((wr.alloc (.cells #[.int .i64 X, .int .i64 Y] 46)).drew) w.heap.size u5 P := (hO.alloc _).drew
          go_wp2
          generalize (wr.alloc (.cells #[.int .i64 X, .int .i64 Y] 46)).drew = w3 at hB2 hO2 ⊢
          clear e10 e11 e20 e21 z1 z2 hB hO hp
          have e11 := K1.out w3 hB2
          have e21 := K2.out w3 hB2
          have z1 := bsize hB2 b1 hb1
          have z2 := bsize hB2 b2 hb2
          have hB := hB2
          have hp := Below.refl w3.heap.size w3
          by_cases hxy : x2 < y2
          · have hq : decide (x2 < y2) = true := decide_eq_true hxy
            have hs := Lib.hid (hst'.out.1 (by omega))
            clear hst' hxy
            (refine wp_region_quiet_below (by kernel_rfl) (by kernel_rfl) ?_; (repeat (go_big_quiet_step (fail))); refine wpQuiet_nil ?_; intro w9 hw9; have hb := below_of_regrown hw9; clear hw9; obtain ⟨hc, hf⟩ := bcell hb; have hz := bsize hb; (first | (have hB := below_tt hB hb) | (have hB := below_tt (below_al hB _) hb) | (have hB := below_tt (below_al (below_al hB _) _) hb) | (have hB := hb)); obtain ⟨hc0, hf0⟩ := bcell hB; have hz0 := bsize hB; (first | (have h2 := below_tt hp hb; obtain ⟨hc2, hf2⟩ := bcell h2; have hz2 := bsize h2) | (have h2 := below_tt (below_al hp _) hb; obtain ⟨hc2, hf2⟩ := bcell h2; have hz2 := bsize h2) | skip); have hp := hb)
            go_wp2
            go_roundw
            case rel => exact ⟨i + 1, k, _, by omega, by omega, by simp, rfl, hO2.below hb, hs.out, by (repeat' (first | (with_reducible exact Below.refl _ _) | (with_reducible assumption) | (with_reducible refine below_al ?_ _) | (with_reducible refine Below.drew ?_) | (with_reducible refine Below.setCell ?_ (by first | exact Nat.le_refl _ | (dsimp only; omega) | (simp; omega)) _) | (with_reducible refine below_drewN ?_ _) | (with_reducible refine below_tt ?_ (by assumption))))⟩
            case measure => simp [intOf]; omega
          · have hq : decide (x2 < y2) = false := decide_eq_false hxy
            have hs := Lib.hid (hst'.out.2 (by omega))
            clear hst' hxy
            (refine wp_region_quiet_below (by kernel_rfl) (by kernel_rfl) ?_; (repeat (go_big_quiet_step (fail))); refine wpQuiet_nil ?_; intro w9 hw9; have hb := below_of_regrown hw9; clear hw9; obtain ⟨hc, hf⟩ := bcell hb; have hz := bsize hb; (first | (have hB := below_tt hB hb) | (have hB := below_tt (below_al hB _) hb) | (have hB := below_tt (below_al (below_al hB _) _) hb) | (have hB := hb)); obtain ⟨hc0, hf0⟩ := bcell hB; have hz0 := bsize hB; (first | (have h2 := below_tt hp hb; obtain ⟨hc2, hf2⟩ := bcell h2; have hz2 := bsize h2) | (have h2 := below_tt (below_al hp _) hb; obtain ⟨hc2, hf2⟩ := bcell h2; have hz2 := bsize h2) | skip); have hp := hb)
            go_wp2
            go_roundw
            case rel => exact ⟨i, k + 1, _, by omega, by omega, rfl, by simp, hO2.below hb, hs.out, by (repeat' (first | (with_reducible exact Below.refl _ _) | (with_reducible assumption) | (with_reducible refine below_al ?_ _) | (with_reducible refine Below.drew ?_) | (with_reducible refine Below.setCell ?_ (by first | exact Nat.le_refl _ | (dsimp only; omega) | (simp; omega)) _) | (with_reducible refine below_drewN ?_ _) | (with_reducible refine below_tt ?_ (by assumption))))⟩
            case measure => simp [intOf]; omega
      · have hP := Lib.hid (meetAt_end hat.out (Or.inr (by omega)))
        have d2 : decide ((k : Int) < (ys.length : Int)) = false := decide_eq_false (by omega)
        have d2' : decide (k < ys.length) = false := decide_eq_false hlt2
        go_wp2
        go_ret
        exact ⟨_, rfl, by rw [← hP.out]; exact hO, hB⟩
    · have hP := Lib.hid (meetAt_end hat.out (Or.inl (by omega)))
      have d1 : decide ((i : Int) < (xs.length : Int)) = false := decide_eq_false (by omega)
      have d1' : decide (i < xs.length) = false := decide_eq_false hlt1
      go_wp2
      go_ret
      exact ⟨_, rfl, by rw [← hP.out]; exact hO, hB⟩
theorem met_any (v u : Value) (xs ys : List (Int × Int)) (w : World) (h1 : RS w v xs) (h2 : RS w u ys) (hl1 : xs.length ≤ 3000000) (hl2 : ys.length ≤ 3000000) :
    Calls Try.prog 62 #[v, u] w fun e w' => ∃ v, e = .returned v ∧ OwnS w' w.heap.size v (meetL xs ys) ∧ Below w.heap.size w w' := by
  rcases h1 with ⟨rfl, a, cap, rfl⟩ | ⟨b, off, cap, rfl, hb, hs⟩
  · obtain ⟨a2, c2, rfl⟩ := h2.val
    rw [meetL_nil]
    exact met_nil a a2 0 _ cap c2 w (Or.inl rfl) (by omega) (by omega)
  · rcases h2 with ⟨rfl, a2, cap2, rfl⟩ | ⟨b2, off2, cap2, rfl, hb2, hs2⟩
    · rw [meetL_nil']
      exact met_nil _ a2 _ 0 cap cap2 w (Or.inr rfl) (by omega) (by omega)
    · exact met_cells b off cap b2 off2 cap2 xs ys w hb hs hb2 hs2 hl1 hl2

theorem l02Meet_nil (a b : Option Addr) (n m c1 c2 : Nat) (w : World) (h : n = 0 ∨ m = 0) (hn : (n : Int) ≤ 9000000) (hm : (m : Int) ≤ 9000000) :
    Calls Try.prog 59 #[.slice a n c1, .slice b m c2] w fun e w' => ∃ v, e = .returned v ∧ OwnS w' w.heap.size v [] ∧ Below w.heap.size w w' := by
  have hO := OwnS.made w (Nat.le_refl w.heap.size)
  have hB : Below w.heap.size w (w.alloc (.cells #[] 46)) := by (repeat' (first | (with_reducible exact Below.refl _ _) | (with_reducible assumption) | (with_reducible refine below_al ?_ _) | (with_reducible refine Below.drew ?_) | (with_reducible refine Below.setCell ?_ (by first | exact Nat.le_refl _ | (dsimp only; omega) | (simp; omega)) _) | (with_reducible refine below_drewN ?_ _) | (with_reducible refine below_tt ?_ (by assumption))))
  by_cases h0 : n = 0
  · subst h0
    go_enter Try.func59, Try.ntmps59
    go_wp2
    go_loopw [5, 6, 7] (fun s5 s6 s7 wr => s6 = .int .i64 0 ∧ s7 = .int .i64 0 ∧ OwnS wr w.heap.size s5 [] ∧ Below w.heap.size w wr) (fun _ _ _ _ => 0)
    case atStart => exact ⟨rfl, rfl, hO, hB⟩
    case round =>
      clear hO hB
      obtain ⟨rfl, rfl, hO, hB⟩ := hrel
      go_wp2
      go_ret
      exact ⟨_, rfl, hO, hB⟩
  · obtain rfl : m = 0 := by omega
    have hpos : decide (0 < n) = true := decide_eq_true (by omega)
    go_enter Try.func59, Try.ntmps59
    go_wp2
    go_loopw [5, 6, 7] (fun s5 s6 s7 wr => s6 = .int .i64 0 ∧ s7 = .int .i64 0 ∧ OwnS wr w.heap.size s5 [] ∧ Below w.heap.size w wr) (fun _ _ _ _ => 0)
    case atStart => exact ⟨rfl, rfl, hO, hB⟩
    case round =>
      clear hO hB
      obtain ⟨rfl, rfl, hO, hB⟩ := hrel
      go_wp2
      go_ret
      exact ⟨_, rfl, hO, hB⟩
set_option maxRecDepth 10000 in
set_option maxHeartbeats 4000000 in
theorem l02Meet_cells (b1 o1 c1 b2 o2 c2 : Nat) (xs ys : List (Int × Int)) (w : World) (hb1 : b1 < w.heap.size) (h1 : SpanAt w b1 o1 xs) (hb2 : b2 < w.heap.size) (h2 : SpanAt w b2 o2 ys) (hl1 : xs.length ≤ 3000000) (hl2 : ys.length ≤ 3000000) :
    Calls Try.prog 59 #[.slice (some ⟨b1, o1, none⟩) xs.length c1, .slice (some ⟨b2, o2, none⟩) ys.length c2] w fun e w' => ∃ v, e = .returned v ∧ OwnS w' w.heap.size v (meetL xs ys) ∧ Below w.heap.size w w' := by
  have rg := cell_rg; have l2 : ∀ n : Nat, n < n + 1 + 1 := (fun _ => by omega); have l3 : ∀ n : Nat, n < n + 1 + 1 + 1 := (fun _ => by omega); have l4 : ∀ n : Nat, n < n + 1 + 1 + 1 + 1 := (fun _ => by omega)
  have hO := OwnS.made w (Nat.le_refl w.heap.size)
  have hB : Below w.heap.size w (w.alloc (.cells #[] 46)) := by (repeat' (first | (with_reducible exact Below.refl _ _) | (with_reducible assumption) | (with_reducible refine below_al ?_ _) | (with_reducible refine Below.drew ?_) | (with_reducible refine Below.setCell ?_ (by first | exact Nat.le_refl _ | (dsimp only; omega) | (simp; omega)) _) | (with_reducible refine below_drewN ?_ _) | (with_reducible refine below_tt ?_ (by assumption))))
  go_enter Try.func59, Try.ntmps59
  go_wp2
  go_loopw [5, 6, 7] (fun s5 s6 s7 wr => ∃ (i k : Nat) (P : List (Int × Int)), i ≤ xs.length ∧ k ≤ ys.length ∧ s6 = .int .i64 i ∧ s7 = .int .i64 k ∧ OwnS wr w.heap.size s5 P ∧ Hid (meetAt xs ys P i k) ∧ Below w.heap.size w wr) (fun _ s6 s7 _ => xs.length - (intOf s6).toNat + (ys.length - (intOf s7).toNat))
  case atStart => exact ⟨0, 0, [], by omega, by omega, rfl, rfl, hO, ⟨by simp, by simp⟩, hB⟩
  case round =>
    clear hB hO
    obtain ⟨i, k, P, hi, hk, rfl, rfl, hO, hat, hB⟩ := hrel
    by_cases hlt1 : i < xs.length
    · have d1 : decide ((i : Int) < (xs.length : Int)) = true := decide_eq_true (by omega)
      have d1' : decide (i < xs.length) = true := decide_eq_true hlt1
      by_cases hlt2 : k < ys.length
      · have d2 : decide ((k : Int) < (ys.length : Int)) = true := decide_eq_true (by omega)
        have d2' : decide (k < ys.length) = true := decide_eq_true hlt2
        have z1 := bsize hB b1 hb1
        have z2 := bsize hB b2 hb2
        have e1 := h1.of_cells fun o => hB.cell (p := ⟨b1, o, none⟩) hb1
        have e2 := h2.of_cells fun o => hB.cell (p := ⟨b2, o, none⟩) hb2
        have e10 := (e1 i hlt1).1
        have e11 := (e1 i hlt1).2
        have e20 := (e2 k hlt2).1
        have e21 := (e2 k hlt2).2
        have hst := Lib.hid (meetAt_step hat.out hlt1 hlt2)
        have hPl := hat.out.2
        have k1 : ∀ w3 : World, Below w.heap.size w w3 → w3.cell? ⟨b1, o1 + i * 2 + 1, none⟩ = some (.int .i64 (gS xs i).2) := fun w3 hB3 => ((h1.of_cells fun o => hB3.cell (p := ⟨b1, o, none⟩) hb1) i hlt1).2
        have k2 : ∀ w3 : World, Below w.heap.size w w3 → w3.cell? ⟨b2, o2 + k * 2 + 1, none⟩ = some (.int .i64 (gS ys k).2) := fun w3 hB3 => ((h2.of_cells fun o => hB3.cell (p := ⟨b2, o, none⟩) hb2) k hlt2).2
        have K1 := Lib.hid k1
        have K2 := Lib.hid k2
        clear e1 e2 hat k1 k2
        unfold cutS at hst
        generalize (gS xs i).1 = x1 at e10 hst
        generalize (gS xs i).2 = x2 at e11 hst K1
        generalize (gS ys k).1 = y1 at e20 hst
        generalize (gS ys k).2 = y2 at e21 hst K2
        have i1 : (0 : Int) ≤ (i : Int) := by omega
        have i2 : (i : Int) < (xs.length : Int) := by omega
        have i3 : (0 : Int) ≤ (k : Int) := by omega
        have i4 : (k : Int) < (ys.length : Int) := by omega
        have n1 : b1 ≠ wr.heap.size := by omega
        have n2 : wr.heap.size ≠ b1 := by omega
        have n3 : b2 ≠ wr.heap.size := by omega
        have n4 : wr.heap.size ≠ b2 := by omega
        have hp := Below.refl wr.heap.size wr
        go_upto_region 4 with fail
        go_cut [8] (fun s8 wx => s8 = .pointer (some ⟨wr.heap.size, 0, none⟩) ∧ wx = (wr.alloc (.cells #[.int .i64 (if x1 < y1 then y1 else x1), .int .i64 (if y2 < x2 then y2 else x2)] 46)).drew)
        case first =>
          clear hst K1 K2
          go_region_held3 (fun w' => w'.cell? ⟨b1, o1 + i * 2, none⟩ = some (.int .i64 x1) ∧ w'.cell? ⟨b1, o1 + i * 2 + 1, none⟩ = some (.int .i64 x2) ∧ w'.cell? ⟨b2, o2 + k * 2, none⟩ = some (.int .i64 y1) ∧ w'.cell? ⟨b2, o2 + k * 2 + 1, none⟩ = some (.int .i64 y2)) (go_keep) (fail)
          all_goals (go_wp2_with fail)
          all_goals (go_meet; first | exact ⟨rfl, rfl⟩ | exact ⟨rfl, by repeat (first | rw [if_pos (by assumption)] | rw [if_neg (by omega)])⟩)
        obtain ⟨rfl, rfl⟩ := hcut
        generalize (if x1 < y1 then y1 else x1) = X at hst ⊢
        generalize (if y2 < x2 then y2 else x2) = Y at hst ⊢
        by_cases hXY : X ≤ Y
        · have hst' := Lib.hid (hst.out.1 (by omega))
          clear hst
          go_wp2_with (at_builtin; refine app_span (w0 := w) (p := X) (q := Y) (xs := P) (by (repeat' (first | (with_reducible exact Below.refl _ _) | (with_reducible assumption) | (with_reducible refine below_al ?_ _) | (with_reducible refine Below.drew ?_) | (with_reducible refine Below.setCell ?_ (by first | exact Nat.le_refl _ | (dsimp only; omega) | (simp; omega)) _) | (with_reducible refine below_drewN ?_ _) | (with_reducible refine below_tt ?_ (by assumption))))) (((hO.alloc _).alloc _).drew) (by omega) rfl _ _ rfl rfl rfl (by simp [go_sem]) (by simp [go_sem]) ?_; intro v3 w3 hO3 hB3 _)
          clear e11 e21 z1 z2 hB hO hp
          have e11 := K1.out w3 hB3
          have e21 := K2.out w3 hB3
          have z1 := bsize hB3 b1 hb1
          have z2 := bsize hB3 b2 hb2
          have hB := hB3
          have hp := Below.refl w3.heap.size w3
          by_cases hxy : x2 < y2
          · have hq : decide (x2 < y2) = true := decide_eq_true hxy
            have hs := Lib.hid (hst'.out.1 (by omega))
            clear hst' hxy
            go_wp2
            (refine wp_region_quiet_below (by kernel_rfl) (by kernel_rfl) ?_; (repeat (go_big_quiet_step (fail))); refine wpQuiet_nil ?_; intro w9 hw9; have hb := below_of_regrown hw9; clear hw9; obtain ⟨hc, hf⟩ := bcell hb; have hz := bsize hb; (first | (have hB := below_tt hB hb) | (have hB := below_tt (below_al hB _) hb) | (have hB := below_tt (below_al (below_al hB _) _) hb) | (have hB := hb)); obtain ⟨hc0, hf0⟩ := bcell hB; have hz0 := bsize hB; (first | (have h2 := below_tt hp hb; obtain ⟨hc2, hf2⟩ := bcell h2; have hz2 := bsize h2) | (have h2 := below_tt (below_al hp _) hb; obtain ⟨hc2, hf2⟩ := bcell h2; have hz2 := bsize h2) | skip); have hp := hb)
            go_wp2
            go_roundw
            case rel => exact ⟨i + 1, k, _, by omega, by omega, by simp, rfl, hO3.below hb, hs.out, by (repeat' (first | (with_reducible exact Below.refl _ _) | (with_reducible assumption) | (with_reducible refine below_al ?_ _) | (with_reducible refine Below.drew ?_) | (with_reducible refine Below.setCell ?_ (by first | exact Nat.le_refl _ | (dsimp only; omega) | (simp; omega)) _) | (with_reducible refine below_drewN ?_ _) | (with_reducible refine below_tt ?_ (by assumption))))⟩
            case measure => simp [intOf]; omega
          · have hq : decide (x2 < y2) = false := decide_eq_false hxy
            have hs := Lib.hid (hst'.out.2 (by omega))
            clear hst' hxy
            go_wp2
            (refine wp_region_quiet_below (by kernel_rfl) (by kernel_rfl) ?_; (repeat (go_big_quiet_step (fail))); refine wpQuiet_nil ?_; intro w9 hw9; have hb := below_of_regrown hw9; clear hw9; obtain ⟨hc, hf⟩ := bcell hb; have hz := bsize hb; (first | (have hB := below_tt hB hb) | (have hB := below_tt (below_al hB _) hb) | (have hB := below_tt (below_al (below_al hB _) _) hb) | (have hB := hb)); obtain ⟨hc0, hf0⟩ := bcell hB; have hz0 := bsize hB; (first | (have h2 := below_tt hp hb; obtain ⟨hc2, hf2⟩ := bcell h2; have hz2 := bsize h2) | (have h2 := below_tt (below_al hp _) hb; obtain ⟨hc2, hf2⟩ := bcell h2; have hz2 := bsize h2) | skip); have hp := hb)
            go_wp2
            go_roundw
            case rel => exact ⟨i, k + 1, _, by omega, by omega, rfl, by simp, hO3.below hb, hs.out, by (repeat' (first | (with_reducible exact Below.refl _ _) | (with_reducible assumption) | (with_reducible refine below_al ?_ _) | (with_reducible refine Below.drew ?_) | (with_reducible refine Below.setCell ?_ (by first | exact Nat.le_refl _ | (dsimp only; omega) | (simp; omega)) _) | (with_reducible refine below_drewN ?_ _) | (with_reducible refine below_tt ?_ (by assumption))))⟩
            case measure => simp [intOf]; omega
        · have hst' := Lib.hid (hst.out.2 (by omega))
          clear hst
          have hB2 : Below w.heap.size w ((wr.alloc (.cells #[.int .i64 X, .int .i64 Y] 46)).drew) := by (repeat' (first | (with_reducible exact Below.refl _ _) | (with_reducible assumption) | (with_reducible refine below_al ?_ _) | (with_reducible refine Below.drew ?_) | (with_reducible refine Below.setCell ?_ (by first | exact Nat.le_refl _ | (dsimp only; omega) | (simp; omega)) _) | (with_reducible refine below_drewN ?_ _) | (with_reducible refine below_tt ?_ (by assumption))))
          have hO2 : OwnS ((wr.alloc (.cells #[.int .i64 X, .int .i64 Y] 46)).drew) w.heap.size u5 P := (hO.alloc _).drew
          go_wp2
          generalize (wr.alloc (.cells #[.int .i64 X, .int .i64 Y] 46)).drew = w3 at hB2 hO2 ⊢
          clear e10 e11 e20 e21 z1 z2 hB hO hp
          have e11 := K1.out w3 hB2
          have e21 := K2.out w3 hB2
          have z1 := bsize hB2 b1 hb1
          have z2 := bsize hB2 b2 hb2
          have hB := hB2
          have hp := Below.refl w3.heap.size w3
          by_cases hxy : x2 < y2
          · have hq : decide (x2 < y2) = true := decide_eq_true hxy
            have hs := Lib.hid (hst'.out.1 (by omega))
            clear hst' hxy
            (refine wp_region_quiet_below (by kernel_rfl) (by kernel_rfl) ?_; (repeat (go_big_quiet_step (fail))); refine wpQuiet_nil ?_; intro w9 hw9; have hb := below_of_regrown hw9; clear hw9; obtain ⟨hc, hf⟩ := bcell hb; have hz := bsize hb; (first | (have hB := below_tt hB hb) | (have hB := below_tt (below_al hB _) hb) | (have hB := below_tt (below_al (below_al hB _) _) hb) | (have hB := hb)); obtain ⟨hc0, hf0⟩ := bcell hB; have hz0 := bsize hB; (first | (have h2 := below_tt hp hb; obtain ⟨hc2, hf2⟩ := bcell h2; have hz2 := bsize h2) | (have h2 := below_tt (below_al hp _) hb; obtain ⟨hc2, hf2⟩ := bcell h2; have hz2 := bsize h2) | skip); have hp := hb)
            go_wp2
            go_roundw
            case rel => exact ⟨i + 1, k, _, by omega, by omega, by simp, rfl, hO2.below hb, hs.out, by (repeat' (first | (with_reducible exact Below.refl _ _) | (with_reducible assumption) | (with_reducible refine below_al ?_ _) | (with_reducible refine Below.drew ?_) | (with_reducible refine Below.setCell ?_ (by first | exact Nat.le_refl _ | (dsimp only; omega) | (simp; omega)) _) | (with_reducible refine below_drewN ?_ _) | (with_reducible refine below_tt ?_ (by assumption))))⟩
            case measure => simp [intOf]; omega
          · have hq : decide (x2 < y2) = false := decide_eq_false hxy
            have hs := Lib.hid (hst'.out.2 (by omega))
            clear hst' hxy
            (refine wp_region_quiet_below (by kernel_rfl) (by kernel_rfl) ?_; (repeat (go_big_quiet_step (fail))); refine wpQuiet_nil ?_; intro w9 hw9; have hb := below_of_regrown hw9; clear hw9; obtain ⟨hc, hf⟩ := bcell hb; have hz := bsize hb; (first | (have hB := below_tt hB hb) | (have hB := below_tt (below_al hB _) hb) | (have hB := below_tt (below_al (below_al hB _) _) hb) | (have hB := hb)); obtain ⟨hc0, hf0⟩ := bcell hB; have hz0 := bsize hB; (first | (have h2 := below_tt hp hb; obtain ⟨hc2, hf2⟩ := bcell h2; have hz2 := bsize h2) | (have h2 := below_tt (below_al hp _) hb; obtain ⟨hc2, hf2⟩ := bcell h2; have hz2 := bsize h2) | skip); have hp := hb)
            go_wp2
            go_roundw
            case rel => exact ⟨i, k + 1, _, by omega, by omega, rfl, by simp, hO2.below hb, hs.out, by (repeat' (first | (with_reducible exact Below.refl _ _) | (with_reducible assumption) | (with_reducible refine below_al ?_ _) | (with_reducible refine Below.drew ?_) | (with_reducible refine Below.setCell ?_ (by first | exact Nat.le_refl _ | (dsimp only; omega) | (simp; omega)) _) | (with_reducible refine below_drewN ?_ _) | (with_reducible refine below_tt ?_ (by assumption))))⟩
            case measure => simp [intOf]; omega
      · have hP := Lib.hid (meetAt_end hat.out (Or.inr (by omega)))
        have d2 : decide ((k : Int) < (ys.length : Int)) = false := decide_eq_false (by omega)
        have d2' : decide (k < ys.length) = false := decide_eq_false hlt2
        go_wp2
        go_ret
        exact ⟨_, rfl, by rw [← hP.out]; exact hO, hB⟩
    · have hP := Lib.hid (meetAt_end hat.out (Or.inl (by omega)))
      have d1 : decide ((i : Int) < (xs.length : Int)) = false := decide_eq_false (by omega)
      have d1' : decide (i < xs.length) = false := decide_eq_false hlt1
      go_wp2
      go_ret
      exact ⟨_, rfl, by rw [← hP.out]; exact hO, hB⟩
theorem l02Meet_any (v u : Value) (xs ys : List (Int × Int)) (w : World) (h1 : RS w v xs) (h2 : RS w u ys) (hl1 : xs.length ≤ 3000000) (hl2 : ys.length ≤ 3000000) :
    Calls Try.prog 59 #[v, u] w fun e w' => ∃ v, e = .returned v ∧ OwnS w' w.heap.size v (meetL xs ys) ∧ Below w.heap.size w w' := by
  rcases h1 with ⟨rfl, a, cap, rfl⟩ | ⟨b, off, cap, rfl, hb, hs⟩
  · obtain ⟨a2, c2, rfl⟩ := h2.val
    rw [meetL_nil]
    exact l02Meet_nil a a2 0 _ cap c2 w (Or.inl rfl) (by omega) (by omega)
  · rcases h2 with ⟨rfl, a2, cap2, rfl⟩ | ⟨b2, off2, cap2, rfl, hb2, hs2⟩
    · rw [meetL_nil']
      exact l02Meet_nil _ a2 _ 0 cap cap2 w (Or.inr rfl) (by omega) (by omega)
    · exact l02Meet_cells b off cap b2 off2 cap2 xs ys w hb hs hb2 hs2 hl1 hl2
end Go.Proofs.Ytnpbgcckbohmfaa
