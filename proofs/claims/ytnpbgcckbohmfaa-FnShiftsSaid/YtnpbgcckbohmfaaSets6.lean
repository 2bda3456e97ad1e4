/- Sets of days: the shift on both sides. -/
import Derived.Test.YtnpbgcckbohmfaaSets4
import Derived.Test.YtnpbgcckbohmfaaApp
import Derived.Outline
namespace Go.Proofs.Ytnpbgcckbohmfaa
open Go.RowKit

/-- A span moved, cut at the ends. -/
def shS (n : Int) (s : Int × Int) : Int × Int := (if 0 < s.1 + n then s.1 + n else 0, if s.2 + n < 730499 then s.2 + n else 730499)
def shiftL (n : Int) (xs : List (Int × Int)) : List (Int × Int) := (xs.map (shS n)).filter fun s => decide (s.1 ≤ s.2)
theorem take_gS {xs : List (Int × Int)} {k : Nat} (h : k < xs.length) : xs.take (k + 1) = xs.take k ++ [gS xs k] := by
  rw [List.take_add_one, List.getElem?_eq_getElem h]
  simp only [gS, List.getD_eq_getElem?_getD, List.getElem?_eq_getElem h, Option.getD_some, Option.toList_some]
theorem shift_put {n : Int} {xs : List (Int × Int)} {k : Nat} (h : k < xs.length) (hs : (shS n (gS xs k)).1 ≤ (shS n (gS xs k)).2) : shiftL n (xs.take (k + 1)) = shiftL n (xs.take k) ++ [shS n (gS xs k)] := by
  rw [take_gS h]; simp only [shiftL, List.map_append, List.filter_append, List.map_cons, List.map_nil]; rw [List.filter_cons_of_pos (by simpa using hs)]; rfl
theorem shift_skip {n : Int} {xs : List (Int × Int)} {k : Nat} (h : k < xs.length) (hs : ¬ (shS n (gS xs k)).1 ≤ (shS n (gS xs k)).2) : shiftL n (xs.take (k + 1)) = shiftL n (xs.take k) := by
  rw [take_gS h]; simp only [shiftL, List.map_append, List.filter_append, List.map_cons, List.map_nil]; rw [List.filter_cons_of_neg (by simpa using hs)]; simp
theorem shift_len (n : Int) (xs : List (Int × Int)) (k : Nat) : (shiftL n (xs.take k)).length ≤ k := by
  unfold shiftL
  refine Nat.le_trans (List.length_filter_le _ _) ?_
  rw [List.length_map, List.length_take]; omega

set_option maxRecDepth 10000 in
set_option maxHeartbeats 1000000 in
theorem l02Shift_cells (b off cap : Nat) (xs : List (Int × Int)) (m : Int) (w : World) (hb : b < w.heap.size) (h : SpanAt w b off xs) (hl : xs.length ≤ 4000000) (hok : ∀ i, i < xs.length → okS (gS xs i) = true) (hm1 : -730499 ≤ m) (hm2 : m ≤ 730499) :
    Calls Try.prog 57 #[.slice (some ⟨b, off, none⟩) xs.length cap, .int .i64 m] w fun e w' => ∃ v, e = .returned v ∧ OwnS w' w.heap.size v (shiftL m xs) ∧ Below w.heap.size w w' := by
  have rg := cell_rg; have l2 : ∀ n : Nat, n < n + 1 + 1 := (fun _ => by omega); have l3 : ∀ n : Nat, n < n + 1 + 1 + 1 := (fun _ => by omega); have l4 : ∀ n : Nat, n < n + 1 + 1 + 1 + 1 := (fun _ => by omega)
  have hB := Below.refl w.heap.size w
  have hO := OwnS.made w (Nat.le_refl w.heap.size)
  go_enter Try.func57, Try.ntmps57
  go_wp2
  go_loopw [5, 6] (fun s5 s6 wr => ∃ k : Nat, k ≤ xs.length ∧ s6 = .int .i64 k ∧ OwnS wr w.heap.size s5 (shiftL m (xs.take k)) ∧ Below w.heap.size w wr) (fun _ s6 _ => xs.length - (intOf s6).toNat)
  case atStart => exact ⟨0, by omega, rfl, by simpa [shiftL] using hO, by (repeat' (first | (with_reducible exact Below.refl _ _) | (with_reducible assumption) | (with_reducible refine below_al ?_ _) | (with_reducible refine Below.drew ?_) | (with_reducible refine Below.setCell ?_ (by first | exact Nat.le_refl _ | (dsimp only; omega) | (simp; omega)) _) | (with_reducible refine below_drewN ?_ _) | (with_reducible refine below_tt ?_ (by assumption))))⟩
  case round =>
    clear hB hO
    obtain ⟨k, hk, rfl, hO, hB⟩ := hrel
    have z1 := bsize hB b hb
    have z3 : b < wr.heap.size + 1 := by omega
    have hp := Below.refl wr.heap.size wr
    by_cases hlt : k < xs.length
    · have e1 := h.of_cells fun o => hB.cell (p := ⟨b, o, none⟩) hb
      have e10 := (e1 k hlt).1
      have e11 := (e1 k hlt).2
      have hkk := okS_iff.1 (hok k hlt)
      have hlen := shift_len m xs k
      have hput := Lib.hid (shift_put (n := m) hlt)
      have hskip : Hid (¬ (shS m (gS xs k)).1 ≤ (shS m (gS xs k)).2 → _) := Lib.hid (shift_skip (n := m) hlt)
      unfold shS at hput hskip
      generalize (gS xs k).1 = x at e10 hkk hput hskip
      generalize (gS xs k).2 = y at e11 hkk hput hskip
      clear e1
      obtain ⟨hk1, hk2, hk3⟩ := hkk
      go_wp2
      have i1 : (0 : Int) ≤ (k : Int) := by omega
      have i2 : (k : Int) < (xs.length : Int) := by omega
      have hne : b ≠ wr.heap.size := by omega
      have hne2 : wr.heap.size ≠ b := by omega
      go_region
      generalize (if 0 < x + m then x + m else 0) = X at hput hskip ⊢
      generalize (if y + m < 730499 then y + m else 730499) = Y at hput hskip ⊢
      by_cases hXY : X ≤ Y
      · have hput' := Lib.hid (hput.out hXY)
        clear hput hskip
        go_wp2_with (at_builtin; refine app_span (w0 := w) (p := X) (q := Y) (xs := shiftL m (xs.take k)) (by (repeat' (first | (with_reducible exact Below.refl _ _) | (with_reducible assumption) | (with_reducible refine below_al ?_ _) | (with_reducible refine Below.drew ?_) | (with_reducible refine Below.setCell ?_ (by first | exact Nat.le_refl _ | (dsimp only; omega) | (simp; omega)) _) | (with_reducible refine below_drewN ?_ _) | (with_reducible refine below_tt ?_ (by assumption))))) (((hO.alloc _).alloc _).drew) (by omega) rfl _ _ rfl rfl rfl (by simp [go_sem]) (by simp [go_sem]) ?_; intro v3 w3 hO3 hB3 _)
        go_wp2
        go_roundw
        case rel => exact ⟨k + 1, by omega, by simp, by rw [hput'.out]; exact hO3, hB3⟩
        case measure => simp [intOf]; omega
      · have hskip' := Lib.hid (hskip.out (Int.not_le.1 hXY))
        clear hput hskip
        go_wp2
        go_roundw
        case rel => exact ⟨k + 1, by omega, by simp, by rw [hskip'.out]; exact (hO.alloc _).drew, by (repeat' (first | (with_reducible exact Below.refl _ _) | (with_reducible assumption) | (with_reducible refine below_al ?_ _) | (with_reducible refine Below.drew ?_) | (with_reducible refine Below.setCell ?_ (by first | exact Nat.le_refl _ | (dsimp only; omega) | (simp; omega)) _) | (with_reducible refine below_drewN ?_ _) | (with_reducible refine below_tt ?_ (by assumption))))⟩
        case measure => simp [intOf]; omega
    · obtain rfl : k = xs.length := by omega
      rw [List.take_length] at hO
      go_wp2
      go_ret
      exact ⟨_, rfl, hO, hB⟩
end Go.Proofs.Ytnpbgcckbohmfaa
