/- Sets of days: the union of spans, on the reference's side. -/
import Derived.Test.YtpinngcdojbndaaGreatDoorUnite
namespace Go.Proofs.YtpinngcdojbndaaGreatDoor
open Go.RowKit

/-- Where a span with first day n goes. -/
def posS (n : Int) (S : List (Int × Int)) : Nat := (S.takeWhile fun s => decide (s.1 ≤ n)).length
theorem posS_cons (n : Int) (s : Int × Int) (S : List (Int × Int)) : posS n (s :: S) = if s.1 ≤ n then posS n S + 1 else 0 := by
  unfold posS
  rw [List.takeWhile_cons]
  by_cases h : s.1 ≤ n <;> simp [h]
theorem posS_le (n : Int) (S : List (Int × Int)) : posS n S ≤ S.length := by
  induction S with
  | nil => simp [posS]
  | cons s S ih => rw [posS_cons]; split <;> simp; exact ih
theorem posS_lt (n : Int) (S : List (Int × Int)) : ∀ i, i < posS n S → (gS S i).1 ≤ n := by
  induction S with
  | nil => intro i hi; simp [posS] at hi
  | cons s S ih =>
    intro i hi
    rw [posS_cons] at hi
    split at hi
    · cases i with
      | zero => simpa [gS] using ‹s.1 ≤ n›
      | succ i => simpa [gS] using ih i (by omega)
    · omega
theorem posS_at (n : Int) (S : List (Int × Int)) : posS n S < S.length → n < (gS S (posS n S)).1 := by
  induction S with
  | nil => intro h; simp at h
  | cons s S ih =>
    intro h
    rw [posS_cons] at h ⊢
    split
    · rename_i h1
      rw [if_pos h1] at h
      have := ih (by simpa using h)
      simpa [gS] using this
    · simp [gS]; omega
/-- A span put in order. -/
def insS (S : List (Int × Int)) (x : Int × Int) : List (Int × Int) := S.take (posS x.1 S) ++ x :: S.drop (posS x.1 S)
/-- Spans in order. -/
def sortI (xs : List (Int × Int)) : List (Int × Int) := xs.foldl insS []
theorem insS_perm (S : List (Int × Int)) (x : Int × Int) : (insS S x).Perm (x :: S) := by
  unfold insS
  refine List.perm_middle.trans ?_
  rw [List.take_append_drop]
theorem insS_len (S : List (Int × Int)) (x : Int × Int) : (insS S x).length = S.length + 1 := by
  have := (insS_perm S x).length_eq
  simpa using this
def lePair (S : List (Int × Int)) : Prop := S.Pairwise fun s t => s.1 ≤ t.1
theorem insS_cons (s x : Int × Int) (S : List (Int × Int)) : insS (s :: S) x = if s.1 ≤ x.1 then s :: insS S x else x :: s :: S := by
  unfold insS
  rw [posS_cons]
  split <;> simp
theorem insS_pair {S : List (Int × Int)} {x : Int × Int} (h : lePair S) : lePair (insS S x) := by
  induction S with
  | nil => simp [insS, posS, lePair]
  | cons s S ih =>
    unfold lePair at h ih ⊢
    rw [List.pairwise_cons] at h
    rw [insS_cons]
    split
    · rename_i h1
      rw [List.pairwise_cons]
      refine ⟨fun t ht => ?_, ih h.2⟩
      rcases List.mem_cons.1 ((insS_perm S x).mem_iff.1 ht) with rfl | ht
      · exact h1
      · exact h.1 t ht
    · rename_i h1
      rw [List.pairwise_cons, List.pairwise_cons]
      refine ⟨fun t ht => ?_, h⟩
      rcases List.mem_cons.1 ht with rfl | ht
      · omega
      · have := h.1 t ht; omega
theorem sortI_aux (xs : List (Int × Int)) : ∀ S, lePair S → lePair (xs.foldl insS S) ∧ (xs.foldl insS S).Perm (xs ++ S) := by
  induction xs with
  | nil => intro S h; exact ⟨h, List.Perm.refl _⟩
  | cons x xs ih =>
    intro S h
    obtain ⟨h1, h2⟩ := ih (insS S x) (insS_pair h)
    refine ⟨h1, h2.trans ?_⟩
    rw [List.cons_append]
    exact (List.Perm.append_left xs (insS_perm S x)).trans List.perm_middle
theorem sortI_perm (xs : List (Int × Int)) : (sortI xs).Perm xs := by have := (sortI_aux xs [] List.Pairwise.nil).2; rw [List.append_nil] at this; exact this
theorem sortI_ord (xs : List (Int × Int)) : ordS (sortI xs) := ordS_of (sortI_aux xs [] List.Pairwise.nil).1
/-- The union of spans. -/
def uniteL (xs : List (Int × Int)) : List (Int × Int) := mergeL (sortI xs)
theorem unite_of {xs ys : List (Int × Int)} (hp : ys.Perm xs) (ho : ordS ys) (hv : ∀ s ∈ xs, s.1 ≤ s.2) : mergeL ys = uniteL xs :=
  merge_perm (hp.trans (sortI_perm xs).symm) ho (sortI_ord xs) (fun s hs => hv s (hp.mem_iff.1 hs))
theorem ins_step {xs S : List (Int × Int)} {k : Nat} (hk : k < xs.length) (h : (xs.take k).foldl insS [] = S) : (xs.take (k + 1)).foldl insS [] = insS S (gS xs k) := by
  rw [take_gS hk, List.foldl_append, h]; rfl

theorem own_cells {w : World} {base g n cap : Nat} {T : List (Int × Int)} (h : OwnS w base (.slice (some ⟨g, 0, none⟩) n cap) T) {i : Nat} (hi : i < T.length) :
    w.cell? ⟨g, i * 2, none⟩ = some (.int .i64 (gS T i).1) ∧ w.cell? ⟨g, i * 2 + 1, none⟩ = some (.int .i64 (gS T i).2) := by
  obtain ⟨a, c, hv⟩ := h.len
  injection hv with e1 e2 e3
  subst e2
  unfold OwnS at h
  obtain ⟨h1, h2⟩ := flatS_get T i hi
  exact ⟨(h.cellAt (i * 2) (by omega)).trans h1, (h.cellAt (i * 2 + 1) (by omega)).trans h2⟩
theorem flatS_set (T : List (Int × Int)) (i : Nat) (a b : Int) (hi : i < T.length) : ((flatS T).set (i * 2) (.int .i64 a)).set (i * 2 + 1) (.int .i64 b) = flatS (T.set i (a, b)) := by
  induction T generalizing i with
  | nil => simp at hi
  | cons s T ih =>
    cases i with
    | zero => simp [flatS]
    | succ i =>
      have := ih i (by simpa using hi)
      simp only [flatS, List.flatMap_cons, List.set_cons_succ] at this ⊢
      rw [show (i + 1) * 2 = i * 2 + 1 + 1 by omega]
      simp only [List.cons_append, List.nil_append, List.set_cons_succ]
      rw [this]
theorem own_set {w : World} {base g n cap : Nat} {T : List (Int × Int)} (h : OwnS w base (.slice (some ⟨g, 0, none⟩) n cap) T) {i : Nat} (hi : i < T.length) (a b : Int) :
    OwnS ((w.setCell ⟨g, i * 2, none⟩ (.int .i64 a)).setCell ⟨g, i * 2 + 1, none⟩ (.int .i64 b)) base (.slice (some ⟨g, 0, none⟩) n cap) (T.set i (a, b)) := by
  obtain ⟨a', c, hv⟩ := h.len
  injection hv with e1 e2 e3
  subst e2
  unfold OwnS at h ⊢
  rw [List.length_set, ← flatS_set T i a b hi]
  exact (h.stored (i * 2) (.int .i64 a)).1.stored (i * 2 + 1) (.int .i64 b) |>.1
/-- The list while it is shifted: a place at j. -/
def holeS (S : List (Int × Int)) (j : Nat) (y : Int × Int) : List (Int × Int) := S.take j ++ y :: S.drop j
theorem hole_len (S : List (Int × Int)) (j : Nat) (y : Int × Int) : (holeS S j y).length = S.length + 1 := by
  have : S.length = (S.take j ++ S.drop j).length := by rw [List.take_append_drop]
  unfold holeS; rw [this]; simp; omega
theorem hole_start (S : List (Int × Int)) (y : Int × Int) : S ++ [y] = holeS S S.length y := by simp [holeS]
theorem hole_get {S : List (Int × Int)} {j : Nat} {y : Int × Int} (h : j + 1 ≤ S.length) : gS (holeS S (j + 1) y) j = gS S j := by
  simp only [gS, holeS, List.getD_eq_getElem?_getD]
  rw [List.getElem?_append_left (by simp; omega), List.getElem?_take_of_lt (by omega)]
theorem hole_step {S : List (Int × Int)} {j : Nat} {y : Int × Int} (h : j + 1 ≤ S.length) : (holeS S (j + 1) y).set (j + 1) (gS S j) = holeS S j (gS S j) := by
  unfold holeS
  rw [List.set_append, if_neg (by simp; omega), show j + 1 - (S.take (j + 1)).length = 0 by simp; omega, List.set_cons_zero, take_gS (by omega), List.append_assoc, List.drop_eq_getElem_cons (show j < S.length by omega)]
  have e : S[j] = gS S j := by simp only [gS, List.getD_eq_getElem?_getD, List.getElem?_eq_getElem (show j < S.length by omega), Option.getD_some]
  rw [e]; rfl
theorem hole_end {S : List (Int × Int)} {x y : Int × Int} {j : Nat} (hj : j = posS x.1 S) : (holeS S j y).set j x = insS S x := by
  subst hj
  have := posS_le x.1 S
  unfold holeS insS
  rw [List.set_append, if_neg (by rw [List.length_take]; omega), show posS x.1 S - (S.take (posS x.1 S)).length = 0 by simp [List.length_take]; omega, List.set_cons_zero]

theorem len_snoc (S : List (Int × Int)) (z : Int × Int) : (S ++ [z]).length = S.length + 1 := by simp
set_option maxRecDepth 10000 in
set_option maxHeartbeats 8000000 in
theorem l02Make_any (v : Value) (xs : List (Int × Int)) (w : World) (h : RS2 w v xs) (hl : xs.length ≤ 3000000) (hbd0 : ∀ t ∈ xs, farB t) :
    Calls Tryz.prog 38 #[v] w fun e w' => ∃ v', e = .returned v' ∧ OwnS w' w.heap.size v' (uniteL xs) ∧ Below w.heap.size w w' := by
  have rg := cell_rg; have l2 : ∀ n : Nat, n < n + 1 + 1 := (fun _ => by omega); have l3 : ∀ n : Nat, n < n + 1 + 1 + 1 := (fun _ => by omega); have l4 : ∀ n : Nat, n < n + 1 + 1 + 1 + 1 := (fun _ => by omega)
  have hR := h
  have hO := OwnS.made w (Nat.le_refl w.heap.size)
  have hB : Below w.heap.size w (w.alloc (.cells #[] 36)) := by (repeat' (first | (with_reducible exact Below.refl _ _) | (with_reducible assumption) | (with_reducible refine below_al ?_ _) | (with_reducible refine Below.drew ?_) | (with_reducible refine Below.setCell ?_ (by first | exact Nat.le_refl _ | (dsimp only; omega) | (simp; omega)) _) | (with_reducible refine below_drewN ?_ _) | (with_reducible refine below_tt ?_ (by assumption))))
  rcases hR with ⟨hy0, hv1⟩ | ⟨b, off, cap, hv1, hb, hs⟩
  · subst hy0 hv1
    go_enter Tryz.func38, Tryz.ntmps38
    go_wp2
    go_loopw [3, 4] (fun s3 s4 wr => s4 = .int .i64 0 ∧ s3 = .slice (some ⟨w.heap.size, 0, none⟩) 0 0 ∧ Below w.heap.size w wr) (fun _ _ _ => 0)
    case atStart => exact ⟨rfl, rfl, hB⟩
    case round =>
      clear hO hB
      obtain ⟨rfl, rfl, hB⟩ := hrel
      have hO := OwnS.made wr hB.size
      have hB2 : Below w.heap.size w (wr.alloc (.cells #[] 36)) := by (repeat' (first | (with_reducible exact Below.refl _ _) | (with_reducible assumption) | (with_reducible refine below_al ?_ _) | (with_reducible refine Below.drew ?_) | (with_reducible refine Below.setCell ?_ (by first | exact Nat.le_refl _ | (dsimp only; omega) | (simp; omega)) _) | (with_reducible refine below_drewN ?_ _) | (with_reducible refine below_tt ?_ (by assumption))))
      go_wp2
      go_loopw [7, 8] (fun s7 s8 wr => s8 = .int .i64 0 ∧ OwnS wr w.heap.size s7 [] ∧ Below w.heap.size w wr) (fun _ _ _ => 0)
      case atStart => exact ⟨rfl, hO, hB2⟩
      case round =>
        clear hO hB hB2
        obtain ⟨rfl, hO, hB⟩ := hrel
        go_wp2
        go_ret
        exact ⟨_, rfl, hO, hB⟩
  · subst hv1
    go_enter Tryz.func38, Tryz.ntmps38
    go_wp2
    go_loopw [3, 4] (fun s3 s4 wr => ∃ (k : Nat) (S : List (Int × Int)), k ≤ xs.length ∧ s4 = .int .i64 k ∧ OwnS wr w.heap.size s3 S ∧ Hid ((xs.take k).foldl insS [] = S) ∧ S.length = k ∧ Below w.heap.size w wr) (fun _ s4 _ => xs.length - (intOf s4).toNat)
    case atStart => exact ⟨0, [], by omega, rfl, hO, rfl, rfl, hB⟩
    case round =>
      clear hB hO
      obtain ⟨k, S, hk, rfl, hO, hS, hSl, hB⟩ := hrel
      obtain ⟨wo, rfl⟩ : ∃ wo : World, wo = wr := ⟨_, rfl⟩
      obtain ⟨a3, c3, hv3⟩ := hO.len
      subst hv3
      have hSl' := Lib.hid hSl
      have hSk : S.length ≤ k := by omega
      clear hSl
      have zo := bsize hB b hb
      by_cases hlt : k < xs.length
      · have k1 : ∀ w3 : World, Below w.heap.size w w3 → w3.cell? ⟨b, off + k * 2, none⟩ = some (.int .i64 (gS xs k).1) ∧ w3.cell? ⟨b, off + k * 2 + 1, none⟩ = some (.int .i64 (gS xs k).2) := fun w3 hB3 => (hs.of_cells fun o => hB3.cell (p := ⟨b, o, none⟩) hb) k hlt
        have K1 := Lib.hid k1
        have hst := Lib.hid (ins_step hlt hS.out)
        have i1 : (0 : Int) ≤ (k : Int) := by omega
        have i2 : (k : Int) < (xs.length : Int) := by omega
        clear k1
        have p1 := posS_le (gS xs k).1 S
        have p2 := Lib.hid (posS_lt (gS xs k).1 S)
        have p3 := Lib.hid (posS_at (gS xs k).1 S)
        have hend := Lib.hid (fun (y : Int × Int) => @hole_end S (gS xs k) y (posS (gS xs k).1 S) rfl)
        obtain ⟨x, hx⟩ : ∃ x, (gS xs k).1 = x := ⟨_, rfl⟩
        obtain ⟨y, hy⟩ : ∃ y, (gS xs k).2 = y := ⟨_, rfl⟩
        have hxy : gS xs k = (x, y) := Prod.ext hx hy
        have hxy' := Lib.hid hxy
        rw [hx] at p1 p2 p3 hend
        rw [hx, hy] at K1
        clear hx hy hxy
        generalize hp0 : posS x S = p at p1 p2 p3 hend
        clear hp0
        go_wp2
        go_loopw [5] (fun s5 wr => ∃ a : Nat, a ≤ p ∧ s5 = .int .i64 a ∧ Below wo.heap.size wo wr) (fun s5 _ => p - (intOf s5).toNat)
        case atStart => exact ⟨0, by omega, rfl, Below.refl _ _⟩
        case round =>
          obtain ⟨a, ha, rfl, hBo⟩ := hrel
          have hO1 := hO.below hBo
          have hB1 := below_tt hB hBo
          have hp := Below.refl wr.heap.size wr
          have z1 := bsize hB1 b hb
          have e10 := (K1.out wr hB1).1
          by_cases hap : a < p
          · have haS : a < S.length := by omega
            obtain ⟨g, cg, hvg, hg1, hg2⟩ := OwnS.form hO1 (by omega)
            injection hvg with ev1 ev2 ev3
            subst ev1 ev3
            have cS := (own_cells hO1 haS).1
            have hle := p2.out a hap
            generalize (gS S a).1 = q at cS hle
            have d1 : decide ((a : Int) < (S.length : Int)) = true := decide_eq_true (by omega)
            have d1' : decide (a < S.length) = true := decide_eq_true haS
            have d2 : decide (q ≤ x) = true := decide_eq_true hle
            have j1 : (0 : Int) ≤ (a : Int) := by omega
            have j2 : (a : Int) < (S.length : Int) := by omega
            go_wp2
            (refine wp_region_quiet_below (by kernel_rfl) (by kernel_rfl) ?_; (repeat (go_big_quiet_step (fail))); refine wpQuiet_nil ?_; intro w9 hw9; have hb := below_of_regrown hw9; clear hw9; obtain ⟨hc, hf⟩ := bcell hb; have hz := bsize hb; (first | (have hB := below_tt hB hb) | (have hB := below_tt (below_al hB _) hb) | (have hB := below_tt (below_al (below_al hB _) _) hb) | (have hB := hb)); obtain ⟨hc0, hf0⟩ := bcell hB; have hz0 := bsize hB; (first | (have h2 := below_tt hp hb; obtain ⟨hc2, hf2⟩ := bcell h2; have hz2 := bsize h2) | (have h2 := below_tt (below_al hp _) hb; obtain ⟨hc2, hf2⟩ := bcell h2; have hz2 := bsize h2) | skip); have hp := hb)
            go_wp2
            go_roundw
            case rel => exact ⟨a + 1, by omega, by simp, by (repeat' (first | (with_reducible exact Below.refl _ _) | (with_reducible assumption) | (with_reducible refine below_al ?_ _) | (with_reducible refine Below.drew ?_) | (with_reducible refine Below.setCell ?_ (by first | exact Nat.le_refl _ | (dsimp only; omega) | (simp; omega)) _) | (with_reducible refine below_drewN ?_ _) | (with_reducible refine below_tt ?_ (by assumption))))⟩
            case measure => simp [intOf]; omega
          · obtain rfl : a = p := by omega
            by_cases haS : a < S.length
            · obtain ⟨g, cg, hvg, hg1, hg2⟩ := OwnS.form hO1 (by omega)
              injection hvg with ev1 ev2 ev3
              subst ev1 ev3
              have cS := (own_cells hO1 haS).1
              have hle := p3.out haS
              generalize (gS S a).1 = q at cS hle
              have d1 : decide ((a : Int) < (S.length : Int)) = true := decide_eq_true (by omega)
              have d1' : decide (a < S.length) = true := decide_eq_true haS
              have d2 : decide (q ≤ x) = false := decide_eq_false (by omega)
              have j1 : (0 : Int) ≤ (a : Int) := by omega
              have j2 : (a : Int) < (S.length : Int) := by omega
              go_wp2
              (refine wp_region_quiet_below (by kernel_rfl) (by kernel_rfl) ?_; (repeat (go_big_quiet_step (fail))); refine wpQuiet_nil ?_; intro w9 hw9; have hb := below_of_regrown hw9; clear hw9; obtain ⟨hc, hf⟩ := bcell hb; have hz := bsize hb; (first | (have hB := below_tt hB hb) | (have hB := below_tt (below_al hB _) hb) | (have hB := below_tt (below_al (below_al hB _) _) hb) | (have hB := hb)); obtain ⟨hc0, hf0⟩ := bcell hB; have hz0 := bsize hB; (first | (have h2 := below_tt hp hb; obtain ⟨hc2, hf2⟩ := bcell h2; have hz2 := bsize h2) | (have h2 := below_tt (below_al hp _) hb; obtain ⟨hc2, hf2⟩ := bcell h2; have hz2 := bsize h2) | skip); have hp := hb)
              have hO9 := hO1.below hb
              have hB9 := below_tt hB1 hb
              clear hc hf hc0 hf0 hc2 hf2 hB hp h2 hb cS e10 hO hO1 hB1 hBo z1 d1 d1' d2 j1 j2
              go_wp2_with (at_builtin; refine app_span (w0 := w) (p := 0) (q := 0) (xs := S) (by (repeat' (first | (with_reducible exact Below.refl _ _) | (with_reducible assumption) | (with_reducible refine below_al ?_ _) | (with_reducible refine Below.drew ?_) | (with_reducible refine Below.setCell ?_ (by first | exact Nat.le_refl _ | (dsimp only; omega) | (simp; omega)) _) | (with_reducible refine below_drewN ?_ _) | (with_reducible refine below_tt ?_ (by assumption))))) (hO9.alloc _) (by omega) rfl _ _ rfl rfl rfl (by simp [go_sem]) (by simp [go_sem]) ?_; intro v4 w4 hO4 hB4 _; obtain ⟨g4, c4, hv4, hg41, hg42⟩ := OwnS.form hO4 (by simp); rw [len_snoc] at hv4; subst hv4)
              go_loopw [6] (fun s6 wr => ∃ (j : Nat) (z : Int × Int), a ≤ j ∧ j ≤ S.length ∧ s6 = .int .i64 j ∧ OwnS wr w.heap.size (.slice (some ⟨g4, 0, none⟩) (S.length + 1) c4) (holeS S j z) ∧ Below w.heap.size w wr) (fun s6 _ => (intOf s6).toNat - a)
              case atStart => exact ⟨S.length, (0, 0), by omega, by omega, by simp, by rw [← hole_start]; exact hO4, hB4⟩
              case round =>
                clear hO4 hB4 hO9 hB9
                obtain ⟨j, z, hj1, hj2, rfl, hO5, hB5⟩ := hrel
                have hhl := hole_len S j z
                by_cases hja : a < j
                · obtain ⟨j', rfl⟩ : ∃ j', j = j' + 1 := ⟨j - 1, by omega⟩
                  have cS := own_cells hO5 (i := j') (by omega)
                  rw [hole_get (by omega)] at cS
                  obtain ⟨cS0, cS1⟩ := cS
                  have cT := own_cells hO5 (i := j' + 1) (by omega)
                  obtain ⟨cT0, cT1⟩ := cT
                  have fT0 := own_frz hO5 ((j' + 1) * 2)
                  have fT1 := own_frz hO5 ((j' + 1) * 2 + 1)
                  have hnew := Lib.hid (own_set hO5 (i := j' + 1) (by omega) (gS S j').1 (gS S j').2)
                  have hstep := Lib.hid (hole_step (S := S) (y := z) (j := j') (by omega))
                  generalize hu1 : (gS S j').1 = u1 at cS0 hnew
                  generalize hu2 : (gS S j').2 = u2 at cS1 hnew
                  have hu : gS S j' = (u1, u2) := Prod.ext hu1 hu2
                  rw [hu] at hstep
                  clear hu hu1 hu2
                  generalize (gS (holeS S (j' + 1) z) (j' + 1)).1 = t1 at cT0
                  generalize (gS (holeS S (j' + 1) z) (j' + 1)).2 = t2 at cT1
                  have j1 : (0 : Int) ≤ (j' : Int) := by omega
                  have j2 : (j' : Int) < (S.length : Int) + 1 := by omega
                  have j3 : (j' : Int) + 1 < (S.length : Int) + 1 := by omega
                  go_wp2
                  go_roundw
                  case rel => exact ⟨j', (u1, u2), by omega, by omega, by (try simp), by rw [← hstep.out]; exact hnew.out, (hB5.setCell hg41 _).setCell hg41 _⟩
                  case measure => simp [intOf]; omega
                · obtain rfl : j = a := by omega
                  have e1 := K1.out wr hB5
                  obtain ⟨e10, e11⟩ := e1
                  have z5 := bsize hB5 b hb
                  have cT := own_cells hO5 (i := j) (by omega)
                  obtain ⟨cT0, cT1⟩ := cT
                  have fT0 := own_frz hO5 (j * 2)
                  have fT1 := own_frz hO5 (j * 2 + 1)
                  have hnew := Lib.hid (own_set hO5 (i := j) (by omega) x y)
                  have hstep := Lib.hid (hend.out z)
                  generalize (gS (holeS S j z) j).1 = t1 at cT0
                  generalize (gS (holeS S j z) j).2 = t2 at cT1
                  have j1 : (0 : Int) ≤ (j : Int) := by omega
                  have j2 : (j : Int) < (S.length : Int) + 1 := by omega
                  have nb1 : b ≠ g4 := by omega
                  have nb2 : g4 ≠ b := by omega
                  go_wp2
                  go_roundw
                  case rel => exact ⟨k + 1, insS S (x, y), by omega, by simp, by rw [← hxy'.out, ← hstep.out, hxy'.out]; exact hnew.out, by rw [← hxy'.out]; exact hst.out, by rw [insS_len]; have := hSl'.out; omega, (hB5.setCell hg41 _).setCell hg41 _⟩
                  case measure => simp [intOf]; omega
            · have d1 : decide ((a : Int) < (S.length : Int)) = false := decide_eq_false (by omega)
              have d1' : decide (a < S.length) = false := decide_eq_false haS
              go_wp2
              (refine wp_region_quiet_below (by kernel_rfl) (by kernel_rfl) ?_; (repeat (go_big_quiet_step (fail))); refine wpQuiet_nil ?_; intro w9 hw9; have hb := below_of_regrown hw9; clear hw9; obtain ⟨hc, hf⟩ := bcell hb; have hz := bsize hb; (first | (have hB := below_tt hB hb) | (have hB := below_tt (below_al hB _) hb) | (have hB := below_tt (below_al (below_al hB _) _) hb) | (have hB := hb)); obtain ⟨hc0, hf0⟩ := bcell hB; have hz0 := bsize hB; (first | (have h2 := below_tt hp hb; obtain ⟨hc2, hf2⟩ := bcell h2; have hz2 := bsize h2) | (have h2 := below_tt (below_al hp _) hb; obtain ⟨hc2, hf2⟩ := bcell h2; have hz2 := bsize h2) | skip); have hp := hb)
              have hO9 := hO1.below hb
              have hB9 := below_tt hB1 hb
              clear hc hf hc0 hf0 hc2 hf2 hB hp h2 hb e10 hO hO1 hB1 hBo z1 d1 d1'
              go_wp2_with (at_builtin; refine app_span (w0 := w) (p := 0) (q := 0) (xs := S) (by (repeat' (first | (with_reducible exact Below.refl _ _) | (with_reducible assumption) | (with_reducible refine below_al ?_ _) | (with_reducible refine Below.drew ?_) | (with_reducible refine Below.setCell ?_ (by first | exact Nat.le_refl _ | (dsimp only; omega) | (simp; omega)) _) | (with_reducible refine below_drewN ?_ _) | (with_reducible refine below_tt ?_ (by assumption))))) (hO9.alloc _) (by omega) rfl _ _ rfl rfl rfl (by simp [go_sem]) (by simp [go_sem]) ?_; intro v4 w4 hO4 hB4 _; obtain ⟨g4, c4, hv4, hg41, hg42⟩ := OwnS.form hO4 (by simp); rw [len_snoc] at hv4; subst hv4)
              go_loopw [6] (fun s6 wr => ∃ (j : Nat) (z : Int × Int), a ≤ j ∧ j ≤ S.length ∧ s6 = .int .i64 j ∧ OwnS wr w.heap.size (.slice (some ⟨g4, 0, none⟩) (S.length + 1) c4) (holeS S j z) ∧ Below w.heap.size w wr) (fun s6 _ => (intOf s6).toNat - a)
              case atStart => exact ⟨S.length, (0, 0), by omega, by omega, by simp, by rw [← hole_start]; exact hO4, hB4⟩
              case round =>
                clear hO4 hB4 hO9 hB9
                obtain ⟨j, z, hj1, hj2, rfl, hO5, hB5⟩ := hrel
                have hhl := hole_len S j z
                by_cases hja : a < j
                · exact absurd hja (by omega)
                · obtain rfl : j = a := by omega
                  have e1 := K1.out wr hB5
                  obtain ⟨e10, e11⟩ := e1
                  have z5 := bsize hB5 b hb
                  have cT := own_cells hO5 (i := j) (by omega)
                  obtain ⟨cT0, cT1⟩ := cT
                  have fT0 := own_frz hO5 (j * 2)
                  have fT1 := own_frz hO5 (j * 2 + 1)
                  have hnew := Lib.hid (own_set hO5 (i := j) (by omega) x y)
                  have hstep := Lib.hid (hend.out z)
                  generalize (gS (holeS S j z) j).1 = t1 at cT0
                  generalize (gS (holeS S j z) j).2 = t2 at cT1
                  have j1 : (0 : Int) ≤ (j : Int) := by omega
                  have j2 : (j : Int) < (S.length : Int) + 1 := by omega
                  have nb1 : b ≠ g4 := by omega
                  have nb2 : g4 ≠ b := by omega
                  go_wp2
                  go_roundw
                  case rel => exact ⟨k + 1, insS S (x, y), by omega, by simp, by rw [← hxy'.out, ← hstep.out, hxy'.out]; exact hnew.out, by rw [← hxy'.out]; exact hst.out, by rw [insS_len]; have := hSl'.out; omega, (hB5.setCell hg41 _).setCell hg41 _⟩
                  case measure => simp [intOf]; omega
      · obtain rfl : k = xs.length := by omega
        have hS2 : S = sortI xs := by have := hS.out; rw [List.take_length] at this; exact this.symm
        have hbd : ∀ t ∈ S, farB t := fun t ht => hbd0 t ((sortI_perm xs).mem_iff.1 (by rw [← hS2]; exact ht))
        have hS3 := Lib.hid hS2
        have hR2 := hO.rs2
        clear hS2 hS hSl' hs hb zo hbd0
        obtain ⟨ys, rfl⟩ : ∃ ys, ys = S := ⟨_, rfl⟩
        have hyl : ys.length ≤ 3000000 := by omega
        obtain ⟨wz, rfl⟩ : ∃ wz : World, wz = wo := ⟨_, rfl⟩
        have B2 := hB
        clear hB
        have hO' := OwnS.made wz (Nat.le_refl wz.heap.size)
        have hB : Below wz.heap.size wz (wz.alloc (.cells #[] 36)) := by (repeat' (first | (with_reducible exact Below.refl _ _) | (with_reducible assumption) | (with_reducible refine below_al ?_ _) | (with_reducible refine Below.drew ?_) | (with_reducible refine Below.setCell ?_ (by first | exact Nat.le_refl _ | (dsimp only; omega) | (simp; omega)) _) | (with_reducible refine below_drewN ?_ _) | (with_reducible refine below_tt ?_ (by assumption))))
        clear hO
        have hO := hO'
        clear hO'
        rcases hR2 with ⟨hy0, hv1⟩ | ⟨b2, off2, cap2, hv1, hb2, hs2⟩
        · injection hv1 with ev1 ev2 ev3
          subst ev1 ev3 hy0
          go_wp2
          go_loopw [7, 8] (fun s7 s8 wr => s8 = .int .i64 0 ∧ OwnS wr wz.heap.size s7 [] ∧ Below wz.heap.size wz wr) (fun _ _ _ => 0)
          case atStart => exact ⟨rfl, hO, hB⟩
          case round =>
            clear hO hB
            obtain ⟨rfl, hO, hB⟩ := hrel
            go_wp2
            go_ret
            exact ⟨_, rfl, by unfold uniteL; rw [← hS3.out]; exact hO.more B2.size, below_tt B2 hB⟩
        · injection hv1 with ev1 ev2 ev3
          subst ev1 ev3
          go_wp2
          go_loopw [7, 8] (fun s7 s8 wr => ∃ (k : Nat) (P : List (Int × Int)), k ≤ ys.length ∧ s8 = .int .i64 k ∧ OwnS wr wz.heap.size s7 P.reverse ∧ Hid ((ys.take k).foldl putS [] = P) ∧ P.length ≤ k ∧ Below wz.heap.size wz wr) (fun _ s8 _ => ys.length - (intOf s8).toNat)
          case atStart => exact ⟨0, [], by omega, rfl, hO, rfl, by simp, hB⟩
          case round =>
            clear hB hO
            obtain ⟨k, P, hk, rfl, hO, hP, hPl, hB⟩ := hrel
            have hp := Below.refl wr.heap.size wr
            have z1 := bsize hB b2 hb2
            by_cases hlt : k < ys.length
            · have e1 := hs2.of_cells fun o => hB.cell (p := ⟨b2, o, none⟩) hb2
              have e10 := (e1 k hlt).1
              have e11 := (e1 k hlt).2
              have hst : Hid ((ys.take (k + 1)).foldl putS [] = putS P ((gS ys k).1, (gS ys k).2)) := Lib.hid (merge_step hlt hP.out)
              clear e1
              have i1 : (0 : Int) ≤ (k : Int) := by omega
              have i2 : (k : Int) < (ys.length : Int) := by omega
              have hbP := putB hP.out hbd
              generalize (gS ys k).1 = x at e10 hst
              generalize (gS ys k).2 = y at e11 hst
              rcases P with _ | ⟨⟨l1, l2⟩, r⟩
              · have hst' := Lib.hid (hst.out.trans (by rfl : putS [] (x, y) = [(x, y)]))
                clear hst hP
                obtain ⟨a3, c3, hv3⟩ := hO.len
                simp only [List.reverse_nil, List.length_nil] at hv3
                subst hv3
                go_wp2
                (refine wp_region_quiet_below (by kernel_rfl) (by kernel_rfl) ?_; (repeat (go_big_quiet_step (fail))); refine wpQuiet_nil ?_; intro w9 hw9; have hb := below_of_regrown hw9; clear hw9; obtain ⟨hc, hf⟩ := bcell hb; have hz := bsize hb; (first | (have hB := below_tt hB hb) | (have hB := below_tt (below_al hB _) hb) | (have hB := below_tt (below_al (below_al hB _) _) hb) | (have hB := hb)); obtain ⟨hc0, hf0⟩ := bcell hB; have hz0 := bsize hB; (first | (have h2 := below_tt hp hb; obtain ⟨hc2, hf2⟩ := bcell h2; have hz2 := bsize h2) | (have h2 := below_tt (below_al hp _) hb; obtain ⟨hc2, hf2⟩ := bcell h2; have hz2 := bsize h2) | skip); have hp := hb)
                have hO9 := hO.below hb
                clear hf hc0 hf0 hc2 hf2
                go_wp2_with (at_builtin; refine app_span (w0 := wz) (p := x) (q := y) (xs := []) (by (repeat' (first | (with_reducible exact Below.refl _ _) | (with_reducible assumption) | (with_reducible refine below_al ?_ _) | (with_reducible refine Below.drew ?_) | (with_reducible refine Below.setCell ?_ (by first | exact Nat.le_refl _ | (dsimp only; omega) | (simp; omega)) _) | (with_reducible refine below_drewN ?_ _) | (with_reducible refine below_tt ?_ (by assumption))))) (hO9.alloc _) (by simp) rfl _ _ rfl rfl rfl (by simp [go_sem]) (by simp [go_sem]) ?_; intro v3 w3 hO3 hB3 _)
                go_roundw
                case rel => exact ⟨k + 1, [(x, y)], by omega, by simp, by simpa using hO3, hst'.out, by simp, hB3⟩
                case measure => simp [intOf]; omega
              · obtain ⟨m, hm⟩ : ∃ m, r.length = m := ⟨_, rfl⟩
                have hlen : ((l1, l2) :: r).reverse.length = m + 1 := by simp [hm]
                obtain ⟨g, c3, hv3, hg1, hg2⟩ := OwnS.form hO (by omega)
                rw [hlen] at hv3
                subst hv3
                have hl2 := hbP (l1, l2) List.mem_cons_self
                obtain ⟨hl2a, hl2b⟩ := hl2
                simp only at hl2a hl2b
                have cg : wr.cell? ⟨g, m * 2 + 1, none⟩ = some (.int .i64 l2) := own_last hO hm
                have fg : wr.frozen? ⟨g, m * 2 + 1, none⟩ = false := own_frz hO _
                have hPl' : m + 1 ≤ k := by have := hPl; simp at this; omega
                have j1 : (0 : Int) ≤ (m : Int) := by omega
                have j2 : (m : Int) < (m : Int) + 1 := by omega
                have d1 : decide ((0 : Int) ≤ (m : Int)) = true := decide_eq_true (by omega)
                have zg : g < wr.heap.size + 1 := by omega
                clear hbP hP hPl
                by_cases hxy : x ≤ l2 + 1
                · have hst' := Lib.hid (hst.out.trans (show putS ((l1, l2) :: r) (x, y) = (l1, max l2 y) :: r by simp [putS, hxy]))
                  have d2 : decide (x ≤ l2 + 1) = true := decide_eq_true hxy
                  clear hst
                  go_wp2
                  (refine wp_region_quiet_below (by kernel_rfl) (by kernel_rfl) ?_; (repeat (go_big_quiet_step (fail))); refine wpQuiet_nil ?_; intro w9 hw9; have hb := below_of_regrown hw9; clear hw9; obtain ⟨hc, hf⟩ := bcell hb; have hz := bsize hb; (first | (have hB := below_tt hB hb) | (have hB := below_tt (below_al hB _) hb) | (have hB := below_tt (below_al (below_al hB _) _) hb) | (have hB := hb)); obtain ⟨hc0, hf0⟩ := bcell hB; have hz0 := bsize hB; (first | (have h2 := below_tt hp hb; obtain ⟨hc2, hf2⟩ := bcell h2; have hz2 := bsize h2) | (have h2 := below_tt (below_al hp _) hb; obtain ⟨hc2, hf2⟩ := bcell h2; have hz2 := bsize h2) | skip); have hp := hb)
                  have q1 : w9.cell? ⟨b2, off2 + k * 2 + 1, none⟩ = some (.int .i64 y) := (hc _ _ z1).trans e11
                  have q2 : w9.cell? ⟨g, m * 2 + 1, none⟩ = some (.int .i64 l2) := (hc _ _ (by first | (simp; omega) | omega)).trans (by first | exact cg | (rw [World.cell?_alloc_past (hn := by omega)]; exact cg))
                  have q3 : w9.frozen? ⟨g, m * 2 + 1, none⟩ = false := (hf _ _ (by first | (simp; omega) | omega)).trans (by first | exact fg | (rw [World.frozen?_alloc_past (hn := by omega)]; exact fg))
                  have hO9 := hO.below hb
                  have hB9 : Below wz.heap.size wz w9 := by (repeat' (first | (with_reducible exact Below.refl _ _) | (with_reducible assumption) | (with_reducible refine below_al ?_ _) | (with_reducible refine Below.drew ?_) | (with_reducible refine Below.setCell ?_ (by first | exact Nat.le_refl _ | (dsimp only; omega) | (simp; omega)) _) | (with_reducible refine below_drewN ?_ _) | (with_reducible refine below_tt ?_ (by assumption))))
                  clear hc hf hc0 hf0 hc2 hf2 e10 e11 cg fg
                  go_wp2
                  refine tail_quiet 15 (by kernel_rfl) (by kernel_rfl) ?_
                  intro w2 hw2
                  have q4 : w2.cell? ⟨g, m * 2 + 1, none⟩ = some (.int .i64 l2) := by rw [hw2]; exact q2
                  have q5 : w2.cell? ⟨b2, off2 + k * 2 + 1, none⟩ = some (.int .i64 y) := by rw [hw2]; exact q1
                  have q6 : w2.frozen? ⟨g, m * 2 + 1, none⟩ = false := by rw [hw2]; exact q3
                  have hO2 : OwnS w2 wz.heap.size (.slice (some ⟨g, 0, none⟩) (m + 1) c3) ((l1, l2) :: r).reverse := by rw [hw2]; exact hO9.drew
                  have hB2 : Below wz.heap.size wz w2 := by rw [hw2]; exact hB9.drew
                  clear hw2 q1 q2 q3 hO9 hB9 hb hB h2 hp
                  simp only [List.take_succ_cons, List.take_zero, List.drop_succ_cons, List.drop_zero]
                  repeat (go_big_quiet_step (fail))
                  refine wpQuiet_nil ?_
                  try rw [ite_max l2 y]
                  obtain ⟨M, hM⟩ : ∃ M, max l2 y = M := ⟨_, rfl⟩
                  rw [hM]
                  have hM' := Lib.hid hM
                  clear hM
                  have hO3 := own_last_set (M := M) hO2 hm
                  have hB3 : Below wz.heap.size wz (w2.setCell ⟨g, m * 2 + 1, none⟩ (.int .i64 M)) := hB2.setCell hg1 _
                  go_wp2
                  go_roundw
                  case rel => exact ⟨k + 1, (l1, M) :: r, by omega, by simp, hO3, by rw [← hM'.out]; exact hst'.out, by simp [hm]; omega, hB3⟩
                  case measure => simp [intOf]; omega
                · have hst' := Lib.hid (hst.out.trans (show putS ((l1, l2) :: r) (x, y) = (x, y) :: (l1, l2) :: r by simp [putS, hxy]))
                  have d2 : decide (x ≤ l2 + 1) = false := decide_eq_false hxy
                  clear hst
                  go_wp2
                  (refine wp_region_quiet_below (by kernel_rfl) (by kernel_rfl) ?_; (repeat (go_big_quiet_step (fail))); refine wpQuiet_nil ?_; intro w9 hw9; have hb := below_of_regrown hw9; clear hw9; obtain ⟨hc, hf⟩ := bcell hb; have hz := bsize hb; (first | (have hB := below_tt hB hb) | (have hB := below_tt (below_al hB _) hb) | (have hB := below_tt (below_al (below_al hB _) _) hb) | (have hB := hb)); obtain ⟨hc0, hf0⟩ := bcell hB; have hz0 := bsize hB; (first | (have h2 := below_tt hp hb; obtain ⟨hc2, hf2⟩ := bcell h2; have hz2 := bsize h2) | (have h2 := below_tt (below_al hp _) hb; obtain ⟨hc2, hf2⟩ := bcell h2; have hz2 := bsize h2) | skip); have hp := hb)
                  have hO9 := hO.below hb
                  clear hf hc0 hf0 hc2 hf2 cg fg
                  go_wp2_with (at_builtin; refine app_span (w0 := wz) (p := x) (q := y) (xs := ((l1, l2) :: r).reverse) (by (repeat' (first | (with_reducible exact Below.refl _ _) | (with_reducible assumption) | (with_reducible refine below_al ?_ _) | (with_reducible refine Below.drew ?_) | (with_reducible refine Below.setCell ?_ (by first | exact Nat.le_refl _ | (dsimp only; omega) | (simp; omega)) _) | (with_reducible refine below_drewN ?_ _) | (with_reducible refine below_tt ?_ (by assumption))))) (hO9.alloc _) (by omega) rfl _ _ rfl rfl rfl (by simp [go_sem]) (by simp [go_sem]) ?_; intro v3 w3 hO3 hB3 _)
                  go_roundw
                  case rel => exact ⟨k + 1, (x, y) :: (l1, l2) :: r, by omega, by simp, by rw [List.reverse_cons]; exact hO3, hst'.out, by simp [hm]; omega, hB3⟩
                  case measure => simp [intOf]; omega
            · obtain rfl : k = ys.length := by omega
              have he := Lib.hid (merge_end hP.out)
              rw [he.out] at hO
              go_wp2
              go_ret
              exact ⟨_, rfl, by unfold uniteL; rw [← hS3.out]; exact hO.more B2.size, below_tt B2 hB⟩
end Go.Proofs.YtpinngcdojbndaaGreatDoor
