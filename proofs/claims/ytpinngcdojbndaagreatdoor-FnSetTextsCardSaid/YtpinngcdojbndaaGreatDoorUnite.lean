/- Sets of days: the union of spans, on the program's side. -/
import Derived.Test.YtpinngcdojbndaaGreatDoorSort
import Derived.Test.YtpinngcdojbndaaGreatDoorSets7
namespace Go.Proofs.YtpinngcdojbndaaGreatDoor
open Go.RowKit

/-- Far from the ends of int64. -/
def farB (s : Int × Int) : Prop := -1000000000000000 ≤ s.2 ∧ s.2 ≤ 1000000000000000
theorem putS_far {P : List (Int × Int)} {s : Int × Int} (h : ∀ t ∈ P, farB t) (hs : farB s) : ∀ t ∈ putS P s, farB t := by
  intro t ht
  cases P with
  | nil => simp [putS] at ht; subst ht; exact hs
  | cons l r =>
    have hl := h l List.mem_cons_self
    simp only [putS] at ht
    split at ht
    · rcases List.mem_cons.1 ht with rfl | ht
      · unfold farB at *; simp only; omega
      · exact h t (List.mem_cons_of_mem _ ht)
    · rcases List.mem_cons.1 ht with rfl | ht
      · exact hs
      · exact h t ht
theorem foldl_far {xs : List (Int × Int)} : ∀ {P : List (Int × Int)}, (∀ t ∈ P, farB t) → (∀ t ∈ xs, farB t) → ∀ t ∈ xs.foldl putS P, farB t := by
  induction xs with
  | nil => intro P h _; exact h
  | cons s xs ih => intro P h hx; exact ih (putS_far h (hx s List.mem_cons_self)) (fun t ht => hx t (List.mem_cons_of_mem _ ht))
theorem putB {P ys : List (Int × Int)} {k : Nat} (h : (ys.take k).foldl putS [] = P) (hbd : ∀ t ∈ ys, farB t) : ∀ t ∈ P, farB t := by
  subst h
  exact foldl_far (fun t ht => by cases ht) (fun t ht => hbd t (List.mem_of_mem_take ht))
theorem merge_step {ys : List (Int × Int)} {k : Nat} (hk : k < ys.length) {P : List (Int × Int)} (h : (ys.take k).foldl putS [] = P) : (ys.take (k + 1)).foldl putS [] = putS P (gS ys k) := by
  rw [take_gS hk, List.foldl_append, h]; rfl
theorem merge_end {ys P : List (Int × Int)} (h : (ys.take ys.length).foldl putS [] = P) : P.reverse = mergeL ys := by
  rw [List.take_length] at h; rw [← h]; rfl
theorem OwnS.form {w : World} {base : Nat} {v : Value} {xs : List (Int × Int)} (h : OwnS w base v xs) (hp : 0 < xs.length) : ∃ g cap, v = .slice (some ⟨g, 0, none⟩) xs.length cap ∧ base ≤ g ∧ g < w.heap.size := by
  rcases h.2 with ⟨_, h0⟩ | ⟨g, cap, cur, rfl, hb, hg, _⟩
  · omega
  · exact ⟨g, cap, rfl, hb, (Array.getElem?_eq_some_iff.1 hg).1⟩
theorem own_frz {w : World} {base g n cap : Nat} {xs : List (Int × Int)} (h : OwnS w base (.slice (some ⟨g, 0, none⟩) n cap) xs) (i : Nat) : w.frozen? ⟨g, i, none⟩ = false := by
  rcases h.2 with ⟨e, _⟩ | ⟨g', cap', cur, e, _, hg, _⟩
  · cases e
  · injection e with e1 e2 e3
    injection e1 with e1
    injection e1 with e1
    subst e1
    simp [World.frozen?, hg]
theorem ite_max (a b : Int) : (if a < b then b else a) = max a b := by split <;> omega
theorem flatS_last (r : List (Int × Int)) (l1 l2 M : Int) (m : Nat) (hm : r.length = m) : (flatS ((l1, l2) :: r).reverse).set (m * 2 + 1) (.int .i64 M) = flatS ((l1, M) :: r).reverse := by
  have hl : (flatS r.reverse).length = m * 2 := by rw [flatS_len, List.length_reverse, hm]
  rw [List.reverse_cons, List.reverse_cons, flatS_app, flatS_app, List.set_append, if_neg (by omega), hl, show m * 2 + 1 - m * 2 = 1 by omega]
  rfl
theorem own_last {w : World} {base g m cap : Nat} {r : List (Int × Int)} {l1 l2 : Int} (h : OwnS w base (.slice (some ⟨g, 0, none⟩) (m + 1) cap) ((l1, l2) :: r).reverse) (hm : r.length = m) : w.cell? ⟨g, m * 2 + 1, none⟩ = some (.int .i64 l2) := by
  unfold OwnS at h
  have hl : (flatS r.reverse).length = m * 2 := by rw [flatS_len, List.length_reverse, hm]
  have hlen : ((l1, l2) :: r).reverse.length = m + 1 := by simp [hm]
  rw [hlen] at h
  refine (h.cellAt (m * 2 + 1) (by omega)).trans ?_
  rw [List.reverse_cons, flatS_app, List.getElem?_append_right (by omega), hl, show m * 2 + 1 - m * 2 = 1 by omega]
  rfl
theorem own_last_set {w : World} {base g m cap : Nat} {r : List (Int × Int)} {l1 l2 M : Int} (h : OwnS w base (.slice (some ⟨g, 0, none⟩) (m + 1) cap) ((l1, l2) :: r).reverse) (hm : r.length = m) :
    OwnS (w.setCell ⟨g, m * 2 + 1, none⟩ (.int .i64 M)) base (.slice (some ⟨g, 0, none⟩) (m + 1) cap) ((l1, M) :: r).reverse := by
  unfold OwnS at h ⊢
  have hlen : ((l1, l2) :: r).reverse.length = m + 1 := by simp [hm]
  have hlen' : ((l1, M) :: r).reverse.length = m + 1 := by simp [hm]
  rw [hlen] at h
  rw [hlen', ← flatS_last r l1 l2 M m hm]
  exact (h.stored (m * 2 + 1) (.int .i64 M)).1

set_option maxRecDepth 10000 in
set_option maxHeartbeats 8000000 in
theorem united_any (v : Value) (xs : List (Int × Int)) (w : World) (h : RS2 w v xs) (hl : xs.length ≤ 3000000) (hbd0 : ∀ t ∈ xs, farB t) :
    Calls Tryz.prog 35 #[v] w fun e w' => (∃ v' ys, e = .returned v' ∧ ys.Perm xs ∧ ordS ys ∧ OwnS w' w.heap.size v' (mergeL ys)) ∧ Below w.heap.size w w' := by
  have rg := cell_rg; have l2 : ∀ n : Nat, n < n + 1 + 1 := (fun _ => by omega); have l3 : ∀ n : Nat, n < n + 1 + 1 + 1 := (fun _ => by omega); have l4 : ∀ n : Nat, n < n + 1 + 1 + 1 + 1 := (fun _ => by omega)
  go_enter Tryz.func35, Tryz.ntmps35
  go_wp2_with fail
  refine (clone_any v xs _ h (by omega)).mono ?_
  rintro e w1 ⟨v1, rfl, o1, b1⟩
  go_wp2_with fail
  refine (sort_any _ v1 xs _ o1 (by omega)).mono ?_
  rintro e wz ⟨rfl, ys, hperm, hord, hR, hgr⟩
  have B2 : Below w.heap.size w wz := b1.grown hgr b1.size (fun k hk => (ownB_lt o1 k hk).1)
  have hyl : ys.length ≤ 3000000 := by rw [hperm.length_eq]; exact hl
  have hbd : ∀ t ∈ ys, farB t := fun t ht => hbd0 t (hperm.mem_iff.1 ht)
  clear hbd0 hl o1 b1 hgr h
  have hO := OwnS.made wz (Nat.le_refl wz.heap.size)
  have hB : Below wz.heap.size wz (wz.alloc (.cells #[] 36)) := by (repeat' (first | (with_reducible exact Below.refl _ _) | (with_reducible assumption) | (with_reducible refine below_al ?_ _) | (with_reducible refine Below.drew ?_) | (with_reducible refine Below.setCell ?_ (by first | exact Nat.le_refl _ | (dsimp only; omega) | (simp; omega)) _) | (with_reducible refine below_drewN ?_ _) | (with_reducible refine below_tt ?_ (by assumption))))
  rcases hR with ⟨hy0, hv1⟩ | ⟨b, off, cap, hv1, hb, hs⟩
  · subst hy0 hv1
    go_wp2
    go_loopw [4, 15] (fun s4 s15 wr => s15 = .int .i64 0 ∧ OwnS wr wz.heap.size s4 [] ∧ Below wz.heap.size wz wr) (fun _ _ _ => 0)
    case atStart => exact ⟨rfl, hO, hB⟩
    case round =>
      clear hO hB
      obtain ⟨rfl, hO, hB⟩ := hrel
      go_wp2
      go_ret
      exact ⟨⟨_, [], rfl, hperm, hord, hO.more B2.size⟩, below_tt B2 hB⟩
  · subst hv1
    go_wp2
    go_loopw [4, 15] (fun s4 s15 wr => ∃ (k : Nat) (P : List (Int × Int)), k ≤ ys.length ∧ s15 = .int .i64 k ∧ OwnS wr wz.heap.size s4 P.reverse ∧ Hid ((ys.take k).foldl putS [] = P) ∧ P.length ≤ k ∧ Below wz.heap.size wz wr) (fun _ s15 _ => ys.length - (intOf s15).toNat)
    case atStart => exact ⟨0, [], by omega, rfl, hO, rfl, by simp, hB⟩
    case round =>
      clear hB hO
      obtain ⟨k, P, hk, rfl, hO, hP, hPl, hB⟩ := hrel
      have hp := Below.refl wr.heap.size wr
      have z1 := bsize hB b hb
      have z3 : b < wr.heap.size + 1 := by omega
      by_cases hlt : k < ys.length
      · have e1 := hs.of_cells fun o => hB.cell (p := ⟨b, o, none⟩) hb
        have e10 := (e1 k hlt).1
        have e11 := (e1 k hlt).2
        have hst : Hid ((ys.take (k + 1)).foldl putS [] = putS P ((gS ys k).1, (gS ys k).2)) := Lib.hid (merge_step hlt hP.out)
        clear e1
        have i1 : (0 : Int) ≤ (k : Int) := by omega
        have i2 : (k : Int) < (ys.length : Int) := by omega
        have hbP := putB hP.out hbd
        generalize (gS ys k).1 = x at e10 hst
        generalize (gS ys k).2 = y at e11 hst
        rcases P with _ | ⟨⟨l1, l2⟩, r⟩
        · have hst' := Lib.hid (hst.out.trans (by rfl : putS [] (x, y) = [(x, y)]))
          clear hst hP
          obtain ⟨a3, c3, hv3⟩ := hO.len
          simp only [List.reverse_nil, List.length_nil] at hv3
          subst hv3
          go_wp2
          (refine wp_region_quiet_below (by kernel_rfl) (by kernel_rfl) ?_; (repeat (go_big_quiet_step (fail))); refine wpQuiet_nil ?_; intro w9 hw9; have hb := below_of_regrown hw9; clear hw9; obtain ⟨hc, hf⟩ := bcell hb; have hz := bsize hb; (first | (have hB := below_tt hB hb) | (have hB := below_tt (below_al hB _) hb) | (have hB := below_tt (below_al (below_al hB _) _) hb) | (have hB := hb)); obtain ⟨hc0, hf0⟩ := bcell hB; have hz0 := bsize hB; (first | (have h2 := below_tt hp hb; obtain ⟨hc2, hf2⟩ := bcell h2; have hz2 := bsize h2) | (have h2 := below_tt (below_al hp _) hb; obtain ⟨hc2, hf2⟩ := bcell h2; have hz2 := bsize h2) | skip); have hp := hb)
          have q0 : w9.cell? ⟨wr.heap.size, 0, none⟩ = some (.int .i64 x) := (hc _ _ (by simp)).trans (by simp [go_sem])
          have q1 : w9.cell? ⟨wr.heap.size, 1, none⟩ = some (.int .i64 y) := (hc _ _ (by simp)).trans (by simp [go_sem])
          have hO9 := (hO.alloc _).below hb
          clear hc hf hc0 hf0 hc2 hf2 e10 e11
          go_wp2_with (at_builtin; refine app_span (w0 := wz) (p := x) (q := y) (xs := []) (by (repeat' (first | (with_reducible exact Below.refl _ _) | (with_reducible assumption) | (with_reducible refine below_al ?_ _) | (with_reducible refine Below.drew ?_) | (with_reducible refine Below.setCell ?_ (by first | exact Nat.le_refl _ | (dsimp only; omega) | (simp; omega)) _) | (with_reducible refine below_drewN ?_ _) | (with_reducible refine below_tt ?_ (by assumption))))) (hO9.alloc _) (by simp) rfl _ _ rfl rfl rfl (by simp [go_sem]) (by simp [go_sem]) ?_; intro v3 w3 hO3 hB3 _)
          go_roundw
          case rel => exact ⟨k + 1, [(x, y)], by omega, by simp, by simpa using hO3, hst'.out, by simp, hB3⟩
          case measure => simp [intOf]; omega
        · obtain ⟨m, hm⟩ : ∃ m, r.length = m := ⟨_, rfl⟩
          have hlen : ((l1, l2) :: r).reverse.length = m + 1 := by simp [hm]
          obtain ⟨g, c3, hv3, hg1, hg2⟩ := OwnS.form hO (by omega)
          rw [hlen] at hv3
          subst hv3
          have hl2 := hbP (l1, l2) List.mem_cons_self
          obtain ⟨hl2a, hl2b⟩ := hl2
          simp only at hl2a hl2b
          have cg : wr.cell? ⟨g, m * 2 + 1, none⟩ = some (.int .i64 l2) := own_last hO hm
          have fg : wr.frozen? ⟨g, m * 2 + 1, none⟩ = false := own_frz hO _
          have hPl' : m + 1 ≤ k := by have := hPl; simp at this; omega
          have j1 : (0 : Int) ≤ (m : Int) := by omega
          have j2 : (m : Int) < (m : Int) + 1 := by omega
          have d1 : decide ((0 : Int) ≤ (m : Int)) = true := decide_eq_true (by omega)
          have zg : g < wr.heap.size + 1 := by omega
          clear hbP hP hPl
          by_cases hxy : x ≤ l2 + 1
          · have hst' := Lib.hid (hst.out.trans (show putS ((l1, l2) :: r) (x, y) = (l1, max l2 y) :: r by simp [putS, hxy]))
            have d2 : decide (x ≤ l2 + 1) = true := decide_eq_true hxy
            clear hst
            go_wp2
            (refine wp_region_quiet_below (by kernel_rfl) (by kernel_rfl) ?_; (repeat (go_big_quiet_step (fail))); refine wpQuiet_nil ?_; intro w9 hw9; have hb := below_of_regrown hw9; clear hw9; obtain ⟨hc, hf⟩ := bcell hb; have hz := bsize hb; (first | (have hB := below_tt hB hb) | (have hB := below_tt (below_al hB _) hb) | (have hB := below_tt (below_al (below_al hB _) _) hb) | (have hB := hb)); obtain ⟨hc0, hf0⟩ := bcell hB; have hz0 := bsize hB; (first | (have h2 := below_tt hp hb; obtain ⟨hc2, hf2⟩ := bcell h2; have hz2 := bsize h2) | (have h2 := below_tt (below_al hp _) hb; obtain ⟨hc2, hf2⟩ := bcell h2; have hz2 := bsize h2) | skip); have hp := hb)
            have q1 : w9.cell? ⟨wr.heap.size, 1, none⟩ = some (.int .i64 y) := (hc _ _ (by simp)).trans (by simp [go_sem])
            have q2 : w9.cell? ⟨g, m * 2 + 1, none⟩ = some (.int .i64 l2) := (hc _ _ (by first | (simp; omega) | omega)).trans (by first | exact cg | (rw [World.cell?_alloc_past (hn := by omega)]; exact cg))
            have q3 : w9.frozen? ⟨g, m * 2 + 1, none⟩ = false := (hf _ _ (by first | (simp; omega) | omega)).trans (by first | exact fg | (rw [World.frozen?_alloc_past (hn := by omega)]; exact fg))
            have hO9 := (hO.alloc _).below hb
            have hB9 : Below wz.heap.size wz w9 := by (repeat' (first | (with_reducible exact Below.refl _ _) | (with_reducible assumption) | (with_reducible refine below_al ?_ _) | (with_reducible refine Below.drew ?_) | (with_reducible refine Below.setCell ?_ (by first | exact Nat.le_refl _ | (dsimp only; omega) | (simp; omega)) _) | (with_reducible refine below_drewN ?_ _) | (with_reducible refine below_tt ?_ (by assumption))))
            clear hc hf hc0 hf0 hc2 hf2 e10 e11 cg fg
            go_wp2
            refine tail_quiet 12 (by kernel_rfl) (by kernel_rfl) ?_
            intro w2 hw2
            have q4 : w2.cell? ⟨g, m * 2 + 1, none⟩ = some (.int .i64 l2) := by rw [hw2]; exact q2
            have q5 : w2.cell? ⟨wr.heap.size, 1, none⟩ = some (.int .i64 y) := by rw [hw2]; exact q1
            have q6 : w2.frozen? ⟨g, m * 2 + 1, none⟩ = false := by rw [hw2]; exact q3
            have hO2 : OwnS w2 wz.heap.size (.slice (some ⟨g, 0, none⟩) (m + 1) c3) ((l1, l2) :: r).reverse := by rw [hw2]; exact hO9.drew
            have hB2 : Below wz.heap.size wz w2 := by rw [hw2]; exact hB9.drew
            clear hw2 q1 q2 q3 hO9 hB9 hb hB h2 hp
            simp only [List.take_succ_cons, List.take_zero, List.drop_succ_cons, List.drop_zero]
            repeat (go_big_quiet_step (fail))
            refine wpQuiet_nil ?_
            try rw [ite_max l2 y]
            obtain ⟨M, hM⟩ : ∃ M, max l2 y = M := ⟨_, rfl⟩
            rw [hM]
            have hM' := Lib.hid hM
            clear hM
            have hO3 := own_last_set (M := M) hO2 hm
            have hB3 : Below wz.heap.size wz (w2.setCell ⟨g, m * 2 + 1, none⟩ (.int .i64 M)) := hB2.setCell hg1 _
            go_wp2
            go_roundw
            case rel => exact ⟨k + 1, (l1, M) :: r, by omega, by simp, hO3, by rw [← hM'.out]; exact hst'.out, by simp [hm]; omega, hB3⟩
            case measure => simp [intOf]; omega
          · have hst' := Lib.hid (hst.out.trans (show putS ((l1, l2) :: r) (x, y) = (x, y) :: (l1, l2) :: r by simp [putS, hxy]))
            have d2 : decide (x ≤ l2 + 1) = false := decide_eq_false hxy
            clear hst
            go_wp2
            (refine wp_region_quiet_below (by kernel_rfl) (by kernel_rfl) ?_; (repeat (go_big_quiet_step (fail))); refine wpQuiet_nil ?_; intro w9 hw9; have hb := below_of_regrown hw9; clear hw9; obtain ⟨hc, hf⟩ := bcell hb; have hz := bsize hb; (first | (have hB := below_tt hB hb) | (have hB := below_tt (below_al hB _) hb) | (have hB := below_tt (below_al (below_al hB _) _) hb) | (have hB := hb)); obtain ⟨hc0, hf0⟩ := bcell hB; have hz0 := bsize hB; (first | (have h2 := below_tt hp hb; obtain ⟨hc2, hf2⟩ := bcell h2; have hz2 := bsize h2) | (have h2 := below_tt (below_al hp _) hb; obtain ⟨hc2, hf2⟩ := bcell h2; have hz2 := bsize h2) | skip); have hp := hb)
            have q0 : w9.cell? ⟨wr.heap.size, 0, none⟩ = some (.int .i64 x) := (hc _ _ (by simp)).trans (by simp [go_sem])
            have q1 : w9.cell? ⟨wr.heap.size, 1, none⟩ = some (.int .i64 y) := (hc _ _ (by simp)).trans (by simp [go_sem])
            have hO9 := (hO.alloc _).below hb
            clear hc hf hc0 hf0 hc2 hf2 e10 e11 cg fg
            go_wp2_with (at_builtin; refine app_span (w0 := wz) (p := x) (q := y) (xs := ((l1, l2) :: r).reverse) (by (repeat' (first | (with_reducible exact Below.refl _ _) | (with_reducible assumption) | (with_reducible refine below_al ?_ _) | (with_reducible refine Below.drew ?_) | (with_reducible refine Below.setCell ?_ (by first | exact Nat.le_refl _ | (dsimp only; omega) | (simp; omega)) _) | (with_reducible refine below_drewN ?_ _) | (with_reducible refine below_tt ?_ (by assumption))))) (hO9.alloc _) (by omega) rfl _ _ rfl rfl rfl (by simp [go_sem]) (by simp [go_sem]) ?_; intro v3 w3 hO3 hB3 _)
            go_roundw
            case rel => exact ⟨k + 1, (x, y) :: (l1, l2) :: r, by omega, by simp, by rw [List.reverse_cons]; exact hO3, hst'.out, by simp [hm]; omega, hB3⟩
            case measure => simp [intOf]; omega
      · obtain rfl : k = ys.length := by omega
        have he := Lib.hid (merge_end hP.out)
        rw [he.out] at hO
        go_wp2
        go_ret
        exact ⟨⟨_, ys, rfl, hperm, hord, hO.more B2.size⟩, below_tt B2 hB⟩
end Go.Proofs.YtpinngcdojbndaaGreatDoor
