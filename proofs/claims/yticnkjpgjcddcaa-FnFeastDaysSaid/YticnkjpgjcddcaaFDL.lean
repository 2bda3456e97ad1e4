/- Plain laws of feasts: the nearest one, the next one, the days with a relation to one. -/
import Derived.Test.YticnkjpgjcddcaaNear
import Derived.Test.YticnkjpgjcddcaaNext
import Derived.Test.YticnkjpgjcddcaaFD
import Derived.Test.YticnkjpgjcddcaaDays
import Derived.Test.YticnkjpgjcddcaaOne
namespace Go.Proofs.Yticnkjpgjcddcaa
open Go.RowKit

def distI (n d : Int) : Int := max (d - n) (n - d)
theorem stepN_best (n : Int) (p : Int × Int) (f d : Int) : distI n (stepN n p f d).2 ≤ distI n d ∧ (0 ≤ p.1 → distI n (stepN n p f d).2 ≤ distI n p.2) ∧ (stepN n p f d = (f, d) ∨ stepN n p f d = p) := by
  unfold stepN distI
  split
  · rename_i h
    refine ⟨Int.le_refl _, fun h0 => ?_, Or.inl rfl⟩
    dsimp only
    omega
  · rename_i h
    refine ⟨by omega, fun _ => Int.le_refl _, Or.inr rfl⟩
theorem nearK_best (n y : Int) (p : Int × Int) (k : Nat) : (∀ j : Nat, j < k → distI n (nearK n y p k).2 ≤ distI n (feastI j y)) ∧ (0 ≤ p.1 → distI n (nearK n y p k).2 ≤ distI n p.2) ∧ (nearK n y p k = p ∨ ∃ j : Nat, j < k ∧ nearK n y p k = ((j : Int), feastI j y)) ∧ (0 ≤ p.1 ∨ 0 < k → 0 ≤ (nearK n y p k).1) := by
  induction k with
  | zero => exact ⟨fun j hj => by omega, fun _ => Int.le_refl _, Or.inl rfl, fun h => by rcases h with h | h; exact h; omega⟩
  | succ k ih =>
    obtain ⟨i1, i2, i3, i4⟩ := ih
    have s := stepN_best n (nearK n y p k) k (feastI k y)
    rw [← nearK_succ] at s
    obtain ⟨s1, s2, s3⟩ := s
    refine ⟨fun j hj => ?_, fun h0 => ?_, ?_, fun _ => ?_⟩
    · by_cases hjk : j = k
      · rw [hjk]; exact s1
      · have := i1 j (by omega)
        have h0 := i4 (Or.inr (by omega))
        have := s2 h0
        omega
    · have := i2 h0
      have := s2 (i4 (Or.inl h0))
      omega
    · rcases s3 with s3 | s3
      · exact Or.inr ⟨k, by omega, s3⟩
      · rw [s3]
        rcases i3 with i3 | ⟨j, hj, i3⟩
        · exact Or.inl i3
        · exact Or.inr ⟨j, by omega, i3⟩
    · rw [nearK_succ]
      exact stepN_pos (by omega)
theorem nearM_best (n a : Int) (j : Nat) : (∀ i : Nat, i < j → inR (a + i) 1 2000 = true → ∀ f : Nat, f < 20 → distI n (nearM n a j).2 ≤ distI n (feastI f (a + i))) ∧
    (0 ≤ (nearM n a j).1 → ∃ (f : Nat) (y : Int), f < 20 ∧ 1 ≤ y ∧ y ≤ 2000 ∧ nearM n a j = ((f : Int), feastI f y)) ∧ ((∃ i : Nat, i < j ∧ inR (a + i) 1 2000 = true) → 0 ≤ (nearM n a j).1) := by
  induction j with
  | zero => exact ⟨fun i hi => by omega, fun h => by simp [nearM] at h, fun ⟨i, hi, _⟩ => by omega⟩
  | succ j ih =>
    obtain ⟨i1, i2, i3⟩ := ih
    cases h : inR (a + j) 1 2000
    · rw [nearM_skip h]
      refine ⟨fun i hi hin f hf => ?_, i2, fun ⟨i, hi, hin⟩ => ?_⟩
      · refine i1 i ?_ hin f hf
        have : i ≠ j := by rintro rfl; rw [h] at hin; simp at hin
        omega
      · refine i3 ⟨i, ?_, hin⟩
        have : i ≠ j := by rintro rfl; rw [h] at hin; simp at hin
        omega
    · rw [nearM_go h]
      have hy := inR_t h
      obtain ⟨k1, k2, k3, k4⟩ := nearK_best n (a + j) (nearM n a j) 20
      refine ⟨fun i hi hin f hf => ?_, fun h0 => ?_, fun _ => k4 (Or.inr (by omega))⟩
      · by_cases hij : i = j
        · rw [hij]; exact k1 f hf
        · have h0 := i3 ⟨i, by omega, hin⟩
          have := i1 i (by omega) hin f hf
          have := k2 h0
          omega
      · rcases k3 with k3 | ⟨f, hf, k3⟩
        · rw [k3] at h0 ⊢; exact i2 h0
        · exact ⟨f, a + j, hf, hy.1, hy.2, k3⟩
/-- What is known of the nearest feast. -/
theorem near_facts {n k a e : Int} (h : nearR n = (k, a, e)) (he : e = 0) : 0 ≤ n ∧ n ≤ 730499 ∧ 0 ≤ n - a ∧ n - a ≤ 730499 ∧ k ∈ onN (n - a) ∧
    ∀ (f y : Int), 0 ≤ f → f ≤ 19 → 1 ≤ y → y ≤ 2000 → (dat n false).1 - 1 ≤ y → y ≤ (dat n false).1 + 1 → distI n (n - a) ≤ distI n (feastI f y) := by
  cases hi : inR n 0 730499
  · rw [nearR_f hi] at h; injection h with h1 h2; injection h2 with h2 h3; omega
  rw [nearR_t hi] at h
  obtain ⟨n1, n2⟩ := inR_t hi
  have hy := dat_yr n1 n2
  have hp := nearN_pos n1 n2
  injection h with h1 h2
  injection h2 with h2 h3
  have hat : n - a = (nearN n).2 := by omega
  obtain ⟨b1, b2, b3⟩ := nearM_best n ((dat n false).1 - 1) 3
  obtain ⟨f, y, hf, y1, y2, hfy⟩ := b2 hp
  have hN : nearN n = ((f : Int), feastI f y) := hfy
  have fd := feast_day (f := (f : Int)) (y := y) (by omega) (by omega) y1 y2
  have fi := feast_in (f := (f : Int)) (y := y) (by omega) (by omega) y1 y2
  have hat2 : n - a = feastI f y := by rw [hat, hN]
  have en := nyear_ends
  refine ⟨n1, n2, by omega, by omega, ?_, ?_⟩
  · rw [hat2, ← h1, hN]
    unfold onN
    have hyr : (dat (feastI f y) false).1 = y := (dat_year (n := feastI f y) (f := false) (y := y) (by omega) (by omega) y1).2 fi
    rw [hyr, onL_mem]
    exact ⟨by show (0 : Int) ≤ f; omega, by show (f : Int) < _; omega, rfl⟩
  · intro g z g1 g2 z1 z2 z3 z4
    rw [hat]
    obtain ⟨i, hi⟩ : ∃ i : Nat, z = (dat n false).1 - 1 + i := ⟨(z - ((dat n false).1 - 1)).toNat, by omega⟩
    obtain ⟨q, hq⟩ : ∃ q : Nat, g = q := ⟨g.toNat, by omega⟩
    have := b1 i (by omega) (by rw [← hi]; exact inR_mk z1 z2) q (by omega)
    rw [← hi] at this
    rw [hq]
    exact this
theorem nextF_zero (n : Int) : nextF 0 n = (0, 0, 4) := rfl
theorem nextF_succ (k : Nat) (n : Int) : nextF (k + 1) n = if onN n = [] then nextF k (n + 1) else (n, (onN n).getD 0 0, 0) := rfl
theorem nextF_facts (k : Nat) : ∀ {n d x e : Int}, nextF k n = (d, x, e) → e = 0 → n ≤ d ∧ d < n + k ∧ x ∈ onN d ∧ ∀ c, n ≤ c → c < d → onN c = [] := by
  induction k with
  | zero =>
    intro n d x e h he
    rw [nextF_zero] at h
    have h3 := (Prod.mk.inj (Prod.mk.inj h).2).2
    omega
  | succ k ih =>
    intro n d x e h he
    rw [nextF_succ] at h
    by_cases ho : onN n = []
    · rw [if_pos ho] at h
      obtain ⟨a1, a2, a3, a4⟩ := ih h he
      refine ⟨by omega, by omega, a3, fun c c1 c2 => ?_⟩
      by_cases hc : c = n
      · rw [hc]; exact ho
      · exact a4 c (by omega) c2
    · rw [if_neg ho] at h
      have hh := Prod.mk.inj h
      have h1 := hh.1
      have h2 := (Prod.mk.inj hh.2).1
      clear h hh
      subst h1
      refine ⟨Int.le_refl _, by omega, ?_, fun c c1 c2 => by omega⟩
      rw [← h2]
      have hl : 0 < (onN n).length := List.length_pos_iff.2 ho
      generalize onN n = l at hl
      simp only [List.getD_eq_getElem?_getD, List.getElem?_eq_getElem hl, Option.getD_some]
      exact List.getElem_mem hl
theorem next_facts {n d x e : Int} (h : nextR n = (d, x, e)) (he : e = 0) : 0 ≤ n ∧ n ≤ d ∧ d ≤ 730499 ∧ x ∈ onN d ∧ ∀ c, n ≤ c → c < d → onN c = [] := by
  cases hi : inR n 0 730499
  · rw [nextR_f hi] at h; injection h with h1 h2; injection h2 with h2 h3; omega
  rw [nextR_t hi] at h
  obtain ⟨n1, n2⟩ := inR_t hi
  obtain ⟨a1, a2, a3, a4⟩ := nextF_facts _ h he
  exact ⟨n1, a1, by omega, a3, a4⟩
/-- No feast that comes next is nearer than the nearest one. -/
theorem near_next {n k a d x : Int} (h : nearR n = (k, a, 0)) (g : nextR n = (d, x, 0)) : max a (-a) ≤ d - n := by
  obtain ⟨n1, n2, a1, a2, _, hbest⟩ := near_facts h rfl
  obtain ⟨_, d1, d2, hx, hmin⟩ := next_facts g rfl
  have hy := dat_yr n1 n2
  have hyd := dat_yr (n := d) (by omega) d2
  have yn := yr_of n1 n2
  have yd := yr_of (n := d) (by omega) d2
  have en := nyear_ends
  have hm := (onL_mem d (dat d false).1 x 20).1 hx
  have lo : (dat n false).1 ≤ (dat d false).1 := by
    by_cases q : (dat n false).1 ≤ (dat d false).1
    · exact q
    · have := nyear_mono false (a := (dat d false).1 + 1) (b := (dat n false).1) (by omega) (by omega)
      omega
  have hi : (dat d false).1 ≤ (dat n false).1 + 1 := by
    by_cases q : (dat d false).1 ≤ (dat n false).1 + 1
    · exact q
    · exfalso
      have z1 : 1 ≤ (dat n false).1 + 1 := by omega
      have z2 : (dat n false).1 + 1 ≤ 2000 := by omega
      have e0 : feastI 0 ((dat n false).1 + 1) = nyear ((dat n false).1 + 1) false := by
        unfold feastI
        rw [if_pos (by omega)]
        show num _ 1 1 false = _
        exact num_jan _ _
      have hlt := nyear_mono false (a := (dat n false).1 + 1) (b := (dat d false).1) (by omega) (by omega)
      have h2000 := nyear_mono false (a := (dat n false).1 + 1) (b := 2001) (by omega) (by omega)
      have hyr : (dat (nyear ((dat n false).1 + 1) false) false).1 = (dat n false).1 + 1 := by
        have s := nyear_mono false (a := (dat n false).1 + 1) (b := (dat n false).1 + 1 + 1) (by omega) (by omega)
        exact (dat_year (f := false) (by omega) (by omega) z1).2 ⟨Int.le_refl _, by omega⟩
      have hno := hmin (nyear ((dat n false).1 + 1) false) (by omega) (by omega)
      have hin : (0 : Int) ∈ onN (nyear ((dat n false).1 + 1) false) := by
        unfold onN
        rw [hyr, onL_mem]
        exact ⟨by omega, by omega, e0⟩
      rw [hno] at hin
      simp at hin
  have hb := hbest x (dat d false).1 hm.1 (by omega) hyd.1 hyd.2 (by omega) hi
  rw [hm.2.2] at hb
  unfold distI at hb
  omega

theorem foldl_put_ends (xs P : List (Int × Int)) : ∀ t ∈ xs.foldl putS P, (∃ u, (u ∈ P ∨ u ∈ xs) ∧ u.1 = t.1) ∧ ∃ u, (u ∈ P ∨ u ∈ xs) ∧ u.2 = t.2 := by
  induction xs generalizing P with
  | nil => intro t ht; exact ⟨⟨t, Or.inl ht, rfl⟩, ⟨t, Or.inl ht, rfl⟩⟩
  | cons x xs ih =>
    intro t ht
    have hput : ∀ u ∈ putS P x, (∃ v, (v ∈ P ∨ v = x) ∧ v.1 = u.1) ∧ ∃ v, (v ∈ P ∨ v = x) ∧ v.2 = u.2 := by
      intro u hu
      cases P with
      | nil => simp [putS] at hu; subst hu; exact ⟨⟨_, Or.inr rfl, rfl⟩, ⟨_, Or.inr rfl, rfl⟩⟩
      | cons l r =>
        simp only [putS] at hu
        split at hu
        · rcases List.mem_cons.1 hu with rfl | hu
          · refine ⟨⟨l, Or.inl List.mem_cons_self, rfl⟩, ?_⟩
            by_cases hm : l.2 ≤ x.2
            · exact ⟨x, Or.inr rfl, by show x.2 = max l.2 x.2; omega⟩
            · exact ⟨l, Or.inl List.mem_cons_self, by show l.2 = max l.2 x.2; omega⟩
          · exact ⟨⟨u, Or.inl (List.mem_cons_of_mem _ hu), rfl⟩, ⟨u, Or.inl (List.mem_cons_of_mem _ hu), rfl⟩⟩
        · rcases List.mem_cons.1 hu with rfl | hu
          · exact ⟨⟨_, Or.inr rfl, rfl⟩, ⟨_, Or.inr rfl, rfl⟩⟩
          · exact ⟨⟨u, Or.inl hu, rfl⟩, ⟨u, Or.inl hu, rfl⟩⟩
    obtain ⟨⟨u, hu, e1⟩, ⟨v, hv, e2⟩⟩ := ih (putS P x) t ht
    constructor
    · rcases hu with hu | hu
      · obtain ⟨⟨w, hw, e⟩, _⟩ := hput u hu
        refine ⟨w, ?_, e.trans e1⟩
        rcases hw with hw | rfl
        · exact Or.inl hw
        · exact Or.inr List.mem_cons_self
      · exact ⟨u, Or.inr (List.mem_cons_of_mem _ hu), e1⟩
    · rcases hv with hv | hv
      · obtain ⟨_, ⟨w, hw, e⟩⟩ := hput v hv
        refine ⟨w, ?_, e.trans e2⟩
        rcases hw with hw | rfl
        · exact Or.inl hw
        · exact Or.inr List.mem_cons_self
      · exact ⟨v, Or.inr (List.mem_cons_of_mem _ hv), e2⟩
theorem unite_ends {xs : List (Int × Int)} {t : Int × Int} (h : t ∈ uniteL xs) : (∃ u ∈ xs, u.1 = t.1) ∧ ∃ u ∈ xs, u.2 = t.2 := by
  unfold uniteL mergeL mergeR at h
  rw [List.mem_reverse] at h
  obtain ⟨⟨u, hu, e1⟩, ⟨v, hv, e2⟩⟩ := foldl_put_ends (sortI xs) [] t h
  have hp := sortI_perm xs
  refine ⟨⟨u, ?_, e1⟩, ⟨v, ?_, e2⟩⟩
  · rcases hu with hu | hu
    · simp at hu
    · exact hp.mem_iff.1 hu
  · rcases hv with hv | hv
    · simp at hv
    · exact hp.mem_iff.1 hv
/-- What is known of the days with a relation to a feast. -/
theorem fd_facts {f r d a b : Int} (h : fdB f r d a b = true) : ∃ L, fdR f r d a b = (L, 0) ∧ L.length ≤ 4000000 ∧ relB f r d = true ∧
    ∀ k, k < L.length → a ≤ (gS L k).1 ∧ (gS L k).2 ≤ b ∧ 0 ≤ (gS L k).1 ∧ (gS L k).1 ≤ 730499 ∧ ∃ y, 1 ≤ y ∧ y ≤ 2000 ∧ (dat (gS L k).1 false).1 - 1 ≤ y ∧ y ≤ (dat (gS L k).1 false).1 + 1 ∧ relR f r d y = ((gS L k).1, 0) := by
  obtain ⟨hr, h1, h2, h3, h4⟩ := fdB_t h
  have hlen := fdR_len f r d a b
  rw [fdR_t h] at hlen ⊢
  refine ⟨_, rfl, hlen, hr, fun k hk => ?_⟩
  have hm : gS (uniteL (fdL f r d a b)) k ∈ uniteL (fdL f r d a b) := by
    unfold gS
    simp only [List.getD_eq_getElem?_getD, List.getElem?_eq_getElem hk, Option.getD_some]; exact List.getElem_mem hk
  generalize gS (uniteL (fdL f r d a b)) k = t at hm ⊢
  obtain ⟨⟨u, hu, e1⟩, ⟨v, hv, e2⟩⟩ := unite_ends hm
  obtain ⟨_, u2, u3, y, y1, y2, y3⟩ := daysL_in hu
  obtain ⟨v1, v2, v3, _⟩ := daysL_in hv
  have hyu := dat_yr (n := t.1) (by omega) (by omega)
  have yt := yr_of (n := t.1) (by omega) (by omega)
  have ha := dat_yr h1 (show a ≤ 730499 by omega)
  have hb := dat_yr (show 0 ≤ b by omega) h3
  have hlo : loY a = max 1 ((dat a false).1 - 1) := rfl
  have hhi : hiY b = min 2000 ((dat b false).1 + 1) := rfl
  have z1 : 1 ≤ y := by omega
  have z2 : y ≤ 2000 := by omega
  obtain ⟨hf, hd⟩ := relB_t hr
  have hff := inR_t hf
  have fi := feast_in hff.1 hff.2 z1 z2
  have ro := relO_bd (n := feastI f y) hd
  have hro : relI f r d y = relO r d (feastI f y) := rfl
  rw [← hro] at ro
  have hi2 : inR (relI f r d y) 0 730499 = true := inR_mk (by omega) (by omega)
  refine ⟨by omega, by omega, by omega, by omega, y, z1, z2, ?_, ?_, ?_⟩
  · by_cases q : (dat t.1 false).1 - 1 ≤ y
    · exact q
    · have := nyear_mono false (a := y + 1) (b := (dat t.1 false).1) (by omega) (by omega)
      have := nyear_mono false (a := y + 1) (b := y + 2) (by omega) (by omega)
      have := nyear_mono false (a := y + 2) (b := (dat t.1 false).1) (by omega) (by omega)
      omega
  · by_cases q : y ≤ (dat t.1 false).1 + 1
    · exact q
    · have := nyear_mono false (a := (dat t.1 false).1 + 1) (b := y) (by omega) (by omega)
      omega
  · rw [relR_yes hr (inR_mk z1 z2) hi2]
    simp
    omega
theorem fd_no {f r d a b : Int} (h : fdB f r d a b = false) : fdR f r d a b = ([], 2) := fdR_no h
theorem rel_ways (f r d y : Int) : ∃ o e, relR f r d y = (o, e) := ⟨_, _, rfl⟩
theorem onR_day {n : Int} (h1 : 0 ≤ n) (h2 : n ≤ 730499) : onR n = (onN n, 0) := onR_t (inR_mk h1 h2)
end Go.Proofs.Yticnkjpgjcddcaa
