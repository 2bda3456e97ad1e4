/- Spans: clone and sort by the shelf's contracts. -/
import Derived.Test.YtpinngcdojbndaaGreatDoorLay
import Derived.Test.YtpinngcdojbndaaGreatDoorApp
import Derived.Test.YtpinngcdojbndaaGreatDoorSetL
namespace Go.Proofs.YtpinngcdojbndaaGreatDoor
open Go.RowKit Go.Sort Go.Shelf

/-- A slice that reads as xs: nil, or in a block that is there. -/
def RS2 (w : World) (v : Value) (xs : List (Int × Int)) : Prop :=
  (xs = [] ∧ v = .slice none 0 0) ∨ (∃ b off cap, v = .slice (some ⟨b, off, none⟩) xs.length cap ∧ b < w.heap.size ∧ SpanAt w b off xs)
theorem RS2.rs {w : World} {v : Value} {xs : List (Int × Int)} (h : RS2 w v xs) : RS w v xs := by
  rcases h with ⟨h0, hv⟩ | h
  · exact Or.inl ⟨h0, none, 0, hv⟩
  · exact Or.inr h
theorem RS2.below {w w' : World} {v : Value} {xs : List (Int × Int)} (h : RS2 w v xs) (hb : Below w.heap.size w w') : RS2 w' v xs := by
  rcases h with h | ⟨b, off, cap, hv, hlt, hs⟩
  · exact Or.inl h
  · exact Or.inr ⟨b, off, cap, hv, Nat.lt_of_lt_of_le hlt hb.size, hs.of_cells fun o => hb.cell (p := ⟨b, o, none⟩) hlt⟩
theorem OwnS.rs2 {w : World} {base : Nat} {v : Value} {xs : List (Int × Int)} (h : OwnS w base v xs) : RS2 w v xs := by
  have h' := h
  unfold OwnS at h'
  rcases h.2 with ⟨rfl, h0⟩ | ⟨g, cap, cur, rfl, _, hg, _⟩
  · exact Or.inl ⟨List.length_eq_zero_iff.1 h0, rfl⟩
  · refine Or.inr ⟨g, 0, cap, rfl, (Array.getElem?_eq_some_iff.1 hg).1, fun i hi => ?_⟩
    obtain ⟨h1, h2⟩ := flatS_get xs i hi
    rw [Nat.zero_add]
    exact ⟨(h'.cellAt (i * 2) (by omega)).trans h1, (h'.cellAt (i * 2 + 1) (by omega)).trans h2⟩
theorem flatS_one (xs : List (Int × Int)) : ∀ u ∈ flatS xs, u.oneCell' = true := by
  intro u hu
  simp only [flatS, List.mem_flatMap] at hu
  obtain ⟨s, _, hs⟩ := hu
  simp at hs
  rcases hs with rfl | rfl <;> rfl

theorem clone_any (v : Value) (xs : List (Int × Int)) (w : World) (h : RS2 w v xs) (hl : xs.length ≤ 4000000) :
    Calls Tryz.prog 49 #[v] w fun e w' => ∃ v', e = .returned v' ∧ OwnS w' w.heap.size v' xs ∧ Below w.heap.size w w' := by
  rcases h with ⟨rfl, rfl⟩ | ⟨b, off, cap, rfl, hb, hs⟩
  · exact (AnyE.slices_Clone_nil lay_cloneSpan 0 0 w).mono fun e w' h => ⟨_, h.1, World.ownsRow_nil _ _ _ 2, by rw [h.2]; exact Below.refl _ _⟩
  · obtain ⟨i, hi, hz0, hz1, hz2⟩ := info_parts infoSpan
    refine (AnyE.slices_Clone lay_cloneSpan i _ 2 16 hi hz0 hz1 hz2 rfl (by omega) Tryz.sizeOf36 b off xs.length cap (flatS xs) w (flatS_len xs) (by simp only [maxLen]; omega) (by omega) ?_ (flatS_one xs)).mono fun e w' ⟨v', he, ho, _, hB⟩ => ⟨v', he, ho, hB⟩
    intro j u hj
    have hj' : j < (flatS xs).length := (List.getElem?_eq_some_iff.1 hj).1
    rw [flatS_len] at hj'
    obtain ⟨g1, g2⟩ := flatS_get xs (j / 2) (by omega)
    obtain ⟨c1, c2⟩ := hs (j / 2) (by omega)
    rcases Nat.mod_two_eq_zero_or_one j with h0 | h0
    · have e : j / 2 * 2 = j := by omega
      rw [e] at g1 c1
      rw [c1, ← hj, g1]
    · have e : j / 2 * 2 + 1 = j := by omega
      rw [show off + j / 2 * 2 + 1 = off + (j / 2 * 2 + 1) by omega, e] at c2
      rw [e] at g2
      rw [c2, ← hj, g2]

/-- What cmp.Compare answers. -/
def cmpI (a b : Int) : Int := if a < b then -1 else if b < a then 1 else 0
theorem isNaN_any (a : Int) (w : World) : Calls Tryz.prog 67 #[.int .i64 a] w fun e w' => e = .returned (.bool false) ∧ w = w' := by
  go_enter Tryz.func67, Tryz.ntmps67
  go_wp2
  go_ret
  exact ⟨rfl, rfl⟩
theorem compare_any (a b : Int) (w : World) : Calls Tryz.prog 52 #[.int .i64 a, .int .i64 b] w fun e w' => e = .returned (.int .i64 (cmpI a b)) ∧ w = w' := by
  unfold cmpI
  by_cases h1 : a < b
  · rw [if_pos h1]
    go_enter Tryz.func52, Tryz.ntmps52
    go_wp2_with (go_at_call 67; refine (isNaN_any _ _).mono ?_; rintro e w' ⟨rfl, rfl⟩)
    go_ret
    exact ⟨rfl, rfl⟩
  · rw [if_neg h1]
    by_cases h2 : b < a
    · rw [if_pos h2]
      go_enter Tryz.func52, Tryz.ntmps52
      go_wp2_with (go_at_call 67; refine (isNaN_any _ _).mono ?_; rintro e w' ⟨rfl, rfl⟩)
      go_ret
      exact ⟨rfl, rfl⟩
    · rw [if_neg h2]
      go_enter Tryz.func52, Tryz.ntmps52
      go_wp2_with (go_at_call 67; refine (isNaN_any _ _).mono ?_; rintro e w' ⟨rfl, rfl⟩)
      go_ret
      exact ⟨rfl, rfl⟩
/-- A span's two cells. -/
def encS (x : Int × Int) : List Value := [.int .i64 x.1, .int .i64 x.2]
theorem united1_any (x y : Int × Int) (W : World) : Calls Tryz.prog 51 #[.agg #[.int .i64 x.1, .int .i64 x.2], .agg #[.int .i64 y.1, .int .i64 y.2]] W fun e w' => e = .returned (.int .i64 (cmpI x.1 y.1)) ∧ ∃ q os', w' = grow (W.drewN q) os' := by
  generalize hr : cmpI x.1 y.1 = r
  have hcon : ∀ W', Calls Tryz.prog 52 #[.int .i64 x.1, .int .i64 y.1] W' fun e w' => e = .returned (.int .i64 r) ∧ W' = w' := fun W' => by rw [← hr]; exact compare_any _ _ W'
  clear hr
  go_enter Tryz.func51, Tryz.ntmps51
  go_wp2_with (go_at_call 52; refine (hcon _).mono ?_; rintro e w' ⟨rfl, rfl⟩)
  go_ret
  exact ⟨rfl, 0, _, by rw [alloc_eq_grow, alloc_eq_grow, grow_grow]; rfl⟩
theorem ltS (x y : Int × Int) : ltOf (fun x y : Int × Int => cmpI x.1 y.1) x y = decide (x.1 < y.1) := by
  unfold ltOf cmpI
  by_cases h1 : x.1 < y.1
  · simp [h1]
  · by_cases h2 : y.1 < x.1 <;> simp [h1, h2]
theorem swoS : SWO (ltOf fun x y : Int × Int => cmpI x.1 y.1) where
  irrefl x := by rw [ltS]; simp
  trans x y z h1 h2 := by rw [ltS] at *; simp at *; omega
  ntrans x y z h1 h2 := by rw [ltS] at *; simp at *; omega

theorem ordF_of {xs : List (Int × Int)} (h : xs.Pairwise fun s t => s.1 ≤ t.1) {a : Int} (ha : ∀ s ∈ xs, a ≤ s.1) : ordF a xs := by
  induction xs generalizing a with
  | nil => trivial
  | cons s xs ih =>
    rw [List.pairwise_cons] at h
    exact ⟨ha s List.mem_cons_self, ih h.2 h.1⟩
theorem ordS_of {xs : List (Int × Int)} (h : xs.Pairwise fun s t => s.1 ≤ t.1) : ordS xs := by
  cases xs with
  | nil => exact ⟨0, trivial⟩
  | cons s xs =>
    rw [List.pairwise_cons] at h
    exact ⟨s.1, Int.le_refl _, ordF_of h.2 h.1⟩
theorem heap_putRow_other {w : World} {blk off : Nat} {d : Array (Int × Int)} {k : Nat} (hk : k ≠ blk) : (putRowK encS 2 w blk off d).heap[k]? = w.heap[k]? := by
  simp only [putRowK, putRow, mapBlock, Array.getElem?_modify]
  rw [if_neg (Ne.symm hk)]

set_option maxHeartbeats 1000000 in
theorem sort_any (base : Nat) (v : Value) (xs : List (Int × Int)) (w : World) (h : OwnS w base v xs) (hl : xs.length ≤ 4000000) :
    Calls Tryz.prog 50 #[v, .func (.func 51) #[] #[]] w fun e w' =>
      e = .returned (.tuple #[]) ∧ ∃ ys : List (Int × Int), ys.Perm xs ∧ ordS ys ∧ RS2 w' v ys ∧ w.grownBy w' v.ownBlock := by
  have h' := h
  unfold OwnS at h'
  rcases h.2 with ⟨rfl, h0⟩ | ⟨g, cap, cur, rfl, _, hg, _⟩
  · obtain rfl : xs = [] := List.length_eq_zero_iff.1 h0
    exact (AnyF.slices_SortFunc_none lay_sortSpan none 0 _ w).mono fun e w' hh => ⟨hh.1, [], List.Perm.refl _, ⟨0, trivial⟩, Or.inl ⟨rfl, rfl⟩, by rw [hh.2]; exact World.grownBy.refl _ _⟩
  · have eg : ∀ args w, (callFunc 51 args).run Tryz.prog w = .ok (.enter 51 args) w := enters_of Tryz.func51 (by kernel_rfl) rfl
    have hblk : g < w.heap.size := (Array.getElem?_eq_some_iff.1 hg).1
    have hH : HoldsK encS 2 w g 0 xs.toArray := by
      intro j hj
      rw [size_flatK] at hj
      simp only [List.size_toArray] at hj
      rw [get_flatK _ _ _ _ (by simpa using hj)]
      obtain ⟨g1, g2⟩ := flatS_get xs (j / 2) (by omega)
      have e1 : xs.toArray[j / 2]! = xs.getD (j / 2) (0, 0) := by
        have : j / 2 < xs.length := by omega
        simp [List.getD_eq_getElem?_getD, this]
      rw [e1, Nat.zero_add]
      refine ⟨?_, h'.frozenAt j⟩
      rcases Nat.mod_two_eq_zero_or_one j with h0 | h0
      · have e : j / 2 * 2 = j := by omega
        rw [e] at g1
        rw [h0]
        exact (h'.cellAt j (by omega)).trans g1
      · have e : j / 2 * 2 + 1 = j := by omega
        rw [e] at g2
        rw [h0]
        exact (h'.cellAt j (by omega)).trans g2
    have hcon := AnyQ.slices_SortFunc lay_sortSpan 2 Tryz.isAgg36 Tryz.sizeOf36 encS (fun _ => rfl) (fun x v hv => by simp [encS] at hv; rcases hv with rfl | rfl <;> rfl) (fun x y => cmpI x.1 y.1) swoS 51 #[] g 0 cap xs.toArray w eg
      (fun _ _ _ _ x y => united1_any x y _) hH hblk (by simp; omega)
    refine hcon.mono fun e w' ⟨he, d', n, os, hp, hs, hw⟩ => ?_
    refine ⟨he, d'.toList, ?_, ?_, ?_, ?_⟩
    · have h1 := hp.2.2
      have hsz := hp.1
      rw [show d'.extract 0 xs.toArray.size = d' by rw [← hsz]; exact Array.extract_size, Array.extract_size] at h1
      simpa using h1
    · refine ordS_of (List.pairwise_iff_getElem.2 fun i j hi hj hij => ?_)
      have hsz := hp.1
      have h1 := hs i j (Nat.zero_le _) hij (by rw [← hsz]; simpa using hj)
      rw [ltS] at h1
      simp only [Array.length_toList] at hi hj
      rw [getElem!_pos d' j hj, getElem!_pos d' i hi] at h1
      simp at h1 ⊢
      omega
    · refine Or.inr ⟨g, 0, cap, ?_, ?_, ?_⟩
      · have hsz := hp.1
        simp only [List.size_toArray] at hsz
        have e : d'.toList.length = xs.length := hsz
        rw [e]
      · rw [hw]; unfold sortWorldK; simp [putRowK]; omega
      · have hK : HoldsK encS 2 w' g 0 d' := by
          rw [hw]
          exact holdsK_grow _ _ _ _ _ _ _ (by simp [putRowK]; exact hblk) (holdsK_putRowK _ _ _ g 0 xs.toArray d' (holdsK_ahead _ _ _ _ _ _ _ hH) hp.1)
        intro i hi
        have hi' : i < d'.size := by simpa using hi
        have c0 := (hK.cell (i := i) (c := 0) hi' (by omega)).1
        have c1 := (hK.cell (i := i) (c := 1) hi' (by omega)).1
        have e1 : d'[i]! = d'.toList.getD i (0, 0) := by
          simp [List.getD_eq_getElem?_getD, hi']
        rw [e1] at c0 c1
        exact ⟨c0, c1⟩
    · rw [hw]
      refine ⟨rfl, rfl, rfl, by unfold sortWorldK; simp [putRowK], fun k hk hne => ?_⟩
      have hkg : k ≠ g := fun e => hne (by rw [e]; rfl)
      unfold sortWorldK
      have hk' : k < (putRowK encS 2 (Sort.ahead w n) g 0 d').heap.size := by simpa [putRowK] using hk
      rw [show (grow (putRowK encS 2 (Sort.ahead w n) g 0 d') os).heap[k]? = (putRowK encS 2 (Sort.ahead w n) g 0 d').heap[k]? by simp [grow, Array.getElem?_append, hk']]
      rw [heap_putRow_other hkg]
      rfl
end Go.Proofs.YtpinngcdojbndaaGreatDoor
