/- The names of the feasts. -/
import Derived.Test.YtnjfpipadfcapaaDoorLayD
import Derived.Test.YtnjfpipadfcapaaDoorFrame
import Derived.Test.YtnjfpipadfcapaaDoorFeast2
import Derived.Deep.LoopGhost
import Derived.Lib.Hide
import Derived.IntWalk
namespace Go.Proofs.YtnjfpipadfcapaaDoor
open Go.RowKit

abbrev nmAll : ByteArray := ⟨#[99, 105, 114, 99, 117, 109, 99, 105, 115, 105, 111, 110, 32, 101, 112, 105, 112, 104, 97, 110, 121, 32, 99, 97, 110, 100, 108, 101, 109, 97, 115, 32, 97, 110, 110, 117, 110, 99, 105, 97, 116, 105, 111, 110, 32, 106, 111, 104, 110, 32, 112, 101, 116, 101, 114, 32, 108, 97, 117, 114, 101, 110, 99, 101, 32, 97, 115, 115, 117, 109, 112, 116, 105, 111, 110, 32, 109, 105, 99, 104, 97, 101, 108, 32, 97, 108, 108, 115, 97, 105, 110, 116, 115, 32, 109, 97, 114, 116, 105, 110, 32, 97, 110, 100, 114, 101, 119, 32, 110, 105, 99, 104, 111, 108, 97, 115, 32, 99, 104, 114, 105, 115, 116, 109, 97, 115, 32, 97, 115, 104, 101, 115, 32, 112, 97, 108, 109, 115, 32, 101, 97, 115, 116, 101, 114, 32, 97, 115, 99, 101, 110, 115, 105, 111, 110, 32, 112, 101, 110, 116, 101, 99, 111, 115, 116, 32, 116, 114, 105, 110, 105, 116, 121]⟩
abbrev nmSep : ByteArray := ⟨#[32]⟩
def nms : List ByteArray := [⟨#[99, 105, 114, 99, 117, 109, 99, 105, 115, 105, 111, 110]⟩, ⟨#[101, 112, 105, 112, 104, 97, 110, 121]⟩, ⟨#[99, 97, 110, 100, 108, 101, 109, 97, 115]⟩, ⟨#[97, 110, 110, 117, 110, 99, 105, 97, 116, 105, 111, 110]⟩, ⟨#[106, 111, 104, 110]⟩, ⟨#[112, 101, 116, 101, 114]⟩, ⟨#[108, 97, 117, 114, 101, 110, 99, 101]⟩, ⟨#[97, 115, 115, 117, 109, 112, 116, 105, 111, 110]⟩, ⟨#[109, 105, 99, 104, 97, 101, 108]⟩, ⟨#[97, 108, 108, 115, 97, 105, 110, 116, 115]⟩, ⟨#[109, 97, 114, 116, 105, 110]⟩, ⟨#[97, 110, 100, 114, 101, 119]⟩, ⟨#[110, 105, 99, 104, 111, 108, 97, 115]⟩, ⟨#[99, 104, 114, 105, 115, 116, 109, 97, 115]⟩, ⟨#[97, 115, 104, 101, 115]⟩, ⟨#[112, 97, 108, 109, 115]⟩, ⟨#[101, 97, 115, 116, 101, 114]⟩, ⟨#[97, 115, 99, 101, 110, 115, 105, 111, 110]⟩, ⟨#[112, 101, 110, 116, 101, 99, 111, 115, 116]⟩, ⟨#[116, 114, 105, 110, 105, 116, 121]⟩]
theorem nms_len : nms.length = 20 := rfl
theorem nm_count : Lib.countB nmAll nmSep = 19 := by kernel_rfl
theorem nm_split : Lib.splitB nmSep 0 19 nmAll = nms := by kernel_rfl
/-- The name of a feast. -/
def nmF (f : Int) : ByteArray := if 0 ≤ f ∧ f ≤ 19 then nms.getD f.toNat ByteArray.empty else ByteArray.empty
theorem nm_cell (w : World) (k : Nat) (hk : k < 20) (t : TypeId) : (w.alloc (.cells (nms.map Value.string).toArray t)).cell? ⟨w.heap.size, k, none⟩ = some (.string (nms.getD k ByteArray.empty)) := by
  rw [World.cell?_alloc_at (hn := rfl)]
  have : k < nms.length := hk
  simp [List.getElem?_map, List.getElem?_eq_getElem this, List.getD_eq_getElem?_getD]

/-- The cell of internal/bytealg.MaxLen. -/
structure ML (w : World) (m : Int) : Prop where
  c0 : w.cell? ⟨0, 0, none⟩ = some (.int .i64 m)
theorem ML.lt {w : World} {m : Int} (h : ML w m) : 0 < w.heap.size := by
  have h := h.c0
  by_cases e : 0 < w.heap.size
  · exact e
  · have : w.heap[0]? = none := Array.getElem?_eq_none (by omega)
    simp [World.cell?, this] at h
theorem ML.below {w w' : World} {m : Int} (h : ML w m) (hb : Below w.heap.size w w') : ML w' m := ⟨(hb.cell (p := ⟨0, 0, none⟩) h.lt).trans h.c0⟩
theorem ML.al {w : World} {m : Int} (h : ML w m) (u : Obj) : ML (w.alloc u) m := h.below ((Below.refl _ _).alloc (Nat.le_refl _) u)

set_option maxHeartbeats 1000000 in
theorem feastNames_c {m : Int} {w : World} (h : ML w m) :
    Calls Tryd.prog 26 #[] w fun e w' => e = .returned (.slice (some ⟨w.heap.size, 0, none⟩) 20 20) ∧ w' = w.alloc (.cells (nms.map Value.string).toArray 9) := by
  go_enter Tryd.func26, Tryd.ntmps26
  go_wp2_with fail
  refine (lay_strings_Split nmAll nmSep m w (by decide +kernel) h.c0 (by decide +kernel)).mono ?_
  rintro e w1 ⟨rfl, rfl⟩
  rw [nm_count, nm_split]
  go_wp2_with fail
  go_ret
  exact ⟨rfl, rfl⟩
set_option maxHeartbeats 1000000 in
theorem l05Names_c (w : World) :
    Calls Tryd.prog 24 #[] w fun e w' => e = .returned (.slice (some ⟨w.heap.size, 0, none⟩) 20 20) ∧ w' = w.alloc (.cells (nms.map Value.string).toArray 9) := by
  go_enter Tryd.func24, Tryd.ntmps24
  go_wp2_with fail
  go_ret
  exact ⟨rfl, rfl⟩

/-- The place of a name, or -1. -/
def idxN (s : ByteArray) : Int := Lib.idxBy (fun x y => x.toList == y.toList) nms s
theorem nms_get (j : Nat) : nms[j]! = nms.getD j ByteArray.empty := by
  rw [List.getElem!_eq_getElem?_getD, List.getD_eq_getElem?_getD]; rfl

set_option maxHeartbeats 1000000 in
theorem l01Text_c (b c : Nat) (s : ByteArray) (w : World) (hc : ∀ j, j < 20 → w.cell? ⟨b, j, none⟩ = some (.string (nms.getD j ByteArray.empty))) :
    Calls Tryd.prog 27 #[.slice (some ⟨b, 0, none⟩) 20 c, .string s] w fun e w' => e = .returned (.int .i64 (idxN s)) ∧ w = w' := by
  go_enter Tryd.func27, Tryd.ntmps27
  go_wp2_with fail
  go_loop [4, 5] (fun _ i => ∃ k : Nat, k ≤ 20 ∧ i = .int .i64 k ∧ ∀ j, j < k → (s.toList == (nms[j]!).toList) = false) (fun _ i => match i with | .int _ m => 20 - m.toNat | _ => 0)
  case atStart => exact ⟨0, Nat.zero_le _, rfl, fun j hj => absurd hj (Nat.not_lt_zero _)⟩
  case round =>
    obtain ⟨k, hk, rfl, hne⟩ := hrel
    by_cases hlt : k < 20
    · have hcell := hc k hlt
      clear hc
      generalize hx : nms.getD k ByteArray.empty = x at hcell
      have hx9 : nms[k]! = x := by rw [nms_get, hx]
      cases hq : (x.toList == s.toList)
      · go_wp2_with fail
        refine ⟨⟨k + 1, by omega, rfl, fun j hj => ?_⟩, by simp; omega⟩
        by_cases e : j = k
        · subst e
          rw [hx9, beq_eq_false_iff_ne] at *
          exact fun h => hq h.symm
        · exact hne j (by omega)
      · go_wp2_with fail
        go_ret
        refine ⟨?_, rfl⟩
        have h9 := Lib.idxBy_hit (fun x y : ByteArray => x.toList == y.toList) nms 20 k s hlt (by decide) (by rw [hx9]; rw [beq_iff_eq] at hq ⊢; exact hq.symm) hne
        unfold idxN
        rw [show nms = nms.take 20 from rfl, h9]; rfl
    · have : k = 20 := by omega
      subst this
      go_wp2_with fail
      go_ret
      refine ⟨?_, rfl⟩
      have h9 := Lib.idxBy_miss (fun x y : ByteArray => x.toList == y.toList) nms 20 s hne
      unfold idxN
      rw [show nms = nms.take 20 from rfl, h9]; rfl

theorem nmF_no {f : Int} (h : inR f 0 19 = false) : nmF f = ByteArray.empty := by
  unfold nmF; rw [if_neg]; intro k; rw [inR_mk k.1 k.2] at h; exact absurd h (by simp)
theorem nmF_nat (k : Nat) (h : k < 20) : nmF k = nms.getD k ByteArray.empty := by
  unfold nmF; rw [if_pos (by omega)]; rfl
/-- Whether there is a feast of a name, and which. -/
def namedR (s : ByteArray) : Int × Bool := if idxN s < 0 then (0, false) else (idxN s, true)
theorem idxFrom_bd (s : ByteArray) : ∀ (l : List ByteArray) (i : Nat), Lib.idxByFrom (fun x y : ByteArray => x.toList == y.toList) s l i = -1 ∨ ((i : Int) ≤ Lib.idxByFrom (fun x y : ByteArray => x.toList == y.toList) s l i ∧ Lib.idxByFrom (fun x y : ByteArray => x.toList == y.toList) s l i < i + l.length)
  | [], i => Or.inl rfl
  | y :: r, i => by
    unfold Lib.idxByFrom
    split
    · right; simp only [List.length_cons]; omega
    · rcases idxFrom_bd s r (i + 1) with h | h
      · exact Or.inl h
      · right; simp only [List.length_cons]; omega
theorem idxN_bd (s : ByteArray) : -1 ≤ idxN s ∧ idxN s ≤ 19 := by
  have h := idxFrom_bd s nms 0
  have e : (nms.length : Int) = 20 := rfl
  rw [e] at h
  unfold idxN Lib.idxBy
  omega

/-- The world with the names laid. -/
def WN (w : World) (t : TypeId) : World := w.alloc (.cells (nms.map Value.string).toArray t)
theorem WN_below (w : World) (t : TypeId) : Below w.heap.size w (WN w t) := below_al (Below.refl _ _) _
theorem WN_cell (w : World) (k : Nat) (hk : k < 20) (t : TypeId) : (WN w t).cell? ⟨w.heap.size, k, none⟩ = some (.string (nms.getD k ByteArray.empty)) := nm_cell w k hk t
theorem feastNames_w {m : Int} {w w1 : World} (h : ML w m) (hw : WN w 9 = w1) :
    Calls Tryd.prog 26 #[] w fun e w' => e = .returned (.slice (some ⟨w.heap.size, 0, none⟩) 20 20) ∧ w1 = w' := by
  subst hw
  exact (feastNames_c h).mono fun e w' ⟨a, b⟩ => ⟨a, b.symm⟩
theorem l05Names_w {w w1 : World} (hw : WN w 9 = w1) :
    Calls Tryd.prog 24 #[] w fun e w' => e = .returned (.slice (some ⟨w.heap.size, 0, none⟩) 20 20) ∧ w1 = w' := by
  subst hw
  exact (l05Names_c w).mono fun e w' ⟨a, b⟩ => ⟨a, b.symm⟩
theorem names_index (b c : Nat) (s : ByteArray) (w : World) (hc : ∀ j, j < 20 → w.cell? ⟨b, j, none⟩ = some (.string (nms.getD j ByteArray.empty))) :
    Calls Tryd.prog 28 #[.slice (some ⟨b, 0, none⟩) 20 c, .string s] w fun e w' => e = .returned (.int .i64 (idxN s)) ∧ w = w' := by
  refine (lay_slices_Index Value.string (fun x y : ByteArray => x.toList == y.toList) (EqlAt.string _ _) b 0 20 c nms s w (by decide) (by decide) (fun j hj => ?_)).mono ?_
  · rw [nms_get, Nat.zero_add]; exact hc j hj
  · rintro e w' ⟨rfl, rfl⟩; exact ⟨rfl, rfl⟩

set_option maxHeartbeats 1000000 in
theorem implFeastName_any {m : Int} {w : World} (h : ML w m) (f : Int) :
    Calls Tryd.prog 7 #[.int .i64 f] w fun e w' => e = .returned (.string (nmF f)) ∧ Below w.heap.size w w' := by
  cases hs : inR f 0 19
  · have h1 := Lib.hid hs
    rw [nmF_no hs]
    clear hs
    go_enter Tryd.func7, Tryd.ntmps7
    go_wp2_with (go_at_call 25; refine (isFeast_is h1.out _).mono ?_; rintro e w' ⟨rfl, rfl⟩)
    go_ret
    exact ⟨rfl, by (repeat' (first | (with_reducible exact Below.refl _ _) | (with_reducible assumption) | (with_reducible refine below_al ?_ _) | (with_reducible refine Below.drew ?_) | (with_reducible refine Below.setCell ?_ (by first | exact Nat.le_refl _ | (dsimp only; omega) | (simp; omega)) _) | (with_reducible refine below_drewN ?_ _) | (with_reducible refine below_tt ?_ (by assumption))))⟩
  · have h1 := Lib.hid hs
    have hb := inR_t hs
    obtain ⟨k, rfl⟩ : ∃ k : Nat, f = k := ⟨f.toNat, by omega⟩
    have hk : k < 20 := by omega
    rw [nmF_nat k hk]
    have hcell := WN_cell w k hk 9
    have hB := WN_below w 9
    generalize nms.getD k ByteArray.empty = x at hcell ⊢
    obtain ⟨w1, hw1⟩ : ∃ w1, WN w 9 = w1 := ⟨_, rfl⟩
    rw [hw1] at hcell hB
    clear hs
    go_enter Tryd.func7, Tryd.ntmps7
    go_wp2_with (first | (go_at_call 25; refine (isFeast_is h1.out _).mono ?_; rintro e w' ⟨rfl, rfl⟩) | (go_at_call 26; refine (feastNames_w h hw1).mono ?_; rintro e w' ⟨rfl, rfl⟩))
    go_ret
    exact ⟨rfl, hB⟩

set_option maxHeartbeats 1000000 in
theorem specFeastName_any (f : Int) (w : World) :
    Calls Tryd.prog 6 #[.int .i64 f] w fun e w' => e = .returned (.string (nmF f)) ∧ Below w.heap.size w w' := by
  cases hs : inR f 0 19
  · have h1 := Lib.hid hs
    rw [nmF_no hs]
    clear hs
    go_enter Tryd.func6, Tryd.ntmps6
    go_wp2_with (go_at_call 23; refine (l05Feast_is h1.out _).mono ?_; rintro e w' ⟨rfl, rfl⟩)
    go_ret
    exact ⟨rfl, by (repeat' (first | (with_reducible exact Below.refl _ _) | (with_reducible assumption) | (with_reducible refine below_al ?_ _) | (with_reducible refine Below.drew ?_) | (with_reducible refine Below.setCell ?_ (by first | exact Nat.le_refl _ | (dsimp only; omega) | (simp; omega)) _) | (with_reducible refine below_drewN ?_ _) | (with_reducible refine below_tt ?_ (by assumption))))⟩
  · have h1 := Lib.hid hs
    have hb := inR_t hs
    obtain ⟨k, rfl⟩ : ∃ k : Nat, f = k := ⟨f.toNat, by omega⟩
    have hk : k < 20 := by omega
    rw [nmF_nat k hk]
    have hcell := WN_cell w k hk 9
    have hB := WN_below w 9
    generalize nms.getD k ByteArray.empty = x at hcell ⊢
    obtain ⟨w1, hw1⟩ : ∃ w1, WN w 9 = w1 := ⟨_, rfl⟩
    rw [hw1] at hcell hB
    clear hs
    go_enter Tryd.func6, Tryd.ntmps6
    go_wp2_with (first | (go_at_call 23; refine (l05Feast_is h1.out _).mono ?_; rintro e w' ⟨rfl, rfl⟩) | (go_at_call 24; refine (l05Names_w hw1).mono ?_; rintro e w' ⟨rfl, rfl⟩))
    go_ret
    exact ⟨rfl, hB⟩

set_option maxHeartbeats 1000000 in
theorem implFeastNamed_any {m : Int} {w : World} (h : ML w m) (s : ByteArray) :
    Calls Tryd.prog 9 #[.string s] w fun e w' => e = .returned (.tuple #[.int .i64 (namedR s).1, .bool (namedR s).2]) ∧ Below w.heap.size w w' := by
  have hcell := fun k hk => WN_cell w k hk 9
  have hB := WN_below w 9
  obtain ⟨w1, hw1⟩ : ∃ w1, WN w 9 = w1 := ⟨_, rfl⟩
  rw [hw1] at hcell hB
  have hcell := Lib.hid hcell
  by_cases hi : idxN s < 0
  · have hd := decide_eq_true hi
    have hv : namedR s = (0, false) := by unfold namedR; rw [if_pos hi]
    rw [hv]
    clear hv hi
    go_enter Tryd.func9, Tryd.ntmps9
    go_wp2_with (first | (go_at_call 26; refine (feastNames_w h hw1).mono ?_; rintro e w' ⟨rfl, rfl⟩) | (go_at_call 28; refine (names_index _ _ s _ hcell.out).mono ?_; rintro e w' ⟨rfl, rfl⟩))
    go_ret2
    exact ⟨rfl, hB⟩
  · have hd := decide_eq_false hi
    have hv : namedR s = (idxN s, true) := by unfold namedR; rw [if_neg hi]
    rw [hv]
    have hbd := idxN_bd s
    have hwr : IntKind.i64.wrap (idxN s) = idxN s := IntWalk.i64_in _ (by omega)
    clear hv hi
    go_enter Tryd.func9, Tryd.ntmps9
    go_wp2_with (first | (go_at_call 26; refine (feastNames_w h hw1).mono ?_; rintro e w' ⟨rfl, rfl⟩) | (go_at_call 28; refine (names_index _ _ s _ hcell.out).mono ?_; rintro e w' ⟨rfl, rfl⟩))
    go_ret2
    exact ⟨rfl, hB⟩

set_option maxHeartbeats 1000000 in
theorem specFeastNamed_any (s : ByteArray) (w : World) :
    Calls Tryd.prog 8 #[.string s] w fun e w' => e = .returned (.tuple #[.int .i64 (namedR s).1, .bool (namedR s).2]) ∧ Below w.heap.size w w' := by
  have hcell := fun k hk => WN_cell w k hk 9
  have hB := WN_below w 9
  obtain ⟨w1, hw1⟩ : ∃ w1, WN w 9 = w1 := ⟨_, rfl⟩
  rw [hw1] at hcell hB
  have hcell := Lib.hid hcell
  by_cases hi : idxN s < 0
  · have hd := decide_eq_true hi
    have hv : namedR s = (0, false) := by unfold namedR; rw [if_pos hi]
    rw [hv]
    clear hv hi
    go_enter Tryd.func8, Tryd.ntmps8
    go_wp2_with (first | (go_at_call 24; refine (l05Names_w hw1).mono ?_; rintro e w' ⟨rfl, rfl⟩) | (go_at_call 27; refine (l01Text_c _ _ s _ hcell.out).mono ?_; rintro e w' ⟨rfl, rfl⟩))
    go_ret2
    exact ⟨rfl, hB⟩
  · have hd := decide_eq_false hi
    have hv : namedR s = (idxN s, true) := by unfold namedR; rw [if_neg hi]
    rw [hv]
    have hbd := idxN_bd s
    have hwr : IntKind.i64.wrap (idxN s) = idxN s := IntWalk.i64_in _ (by omega)
    clear hv hi
    go_enter Tryd.func8, Tryd.ntmps8
    go_wp2_with (first | (go_at_call 24; refine (l05Names_w hw1).mono ?_; rintro e w' ⟨rfl, rfl⟩) | (go_at_call 27; refine (l01Text_c _ _ s _ hcell.out).mono ?_; rintro e w' ⟨rfl, rfl⟩))
    go_ret2
    exact ⟨rfl, hB⟩
end Go.Proofs.YtnjfpipadfcapaaDoor
