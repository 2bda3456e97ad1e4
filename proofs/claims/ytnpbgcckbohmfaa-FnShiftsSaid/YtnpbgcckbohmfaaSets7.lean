/- Sets of days: ShiftSet on both sides. -/
import Derived.Test.YtnpbgcckbohmfaaSets6
namespace Go.Proofs.Ytnpbgcckbohmfaa
open Go.RowKit

/-- What ShiftSet answers. -/
noncomputable def shiftR (xs : List (Int × Int)) (m : Int) : List (Int × Int) × Int := if isSet xs = true then (if inR m (-730499) 730499 = true then (shiftL m xs, 0) else ([], 2)) else ([], 1)
theorem OwnS.nil (w : World) (base : Nat) : OwnS w base (.slice none 0 0) [] := World.ownsRow_nil w base _ 2
theorem l02Shift_nil (a : Option Addr) (cap : Nat) (m : Int) (w : World) :
    Calls Try.prog 57 #[.slice a 0 cap, .int .i64 m] w fun e w' => ∃ v, e = .returned v ∧ OwnS w' w.heap.size v [] ∧ Below w.heap.size w w' := by
  have hO := OwnS.made w (Nat.le_refl w.heap.size)
  have hB : Below w.heap.size w (w.alloc (.cells #[] 46)) := by (repeat' (first | (with_reducible exact Below.refl _ _) | (with_reducible assumption) | (with_reducible refine below_al ?_ _) | (with_reducible refine Below.drew ?_) | (with_reducible refine Below.setCell ?_ (by first | exact Nat.le_refl _ | (dsimp only; omega) | (simp; omega)) _) | (with_reducible refine below_drewN ?_ _) | (with_reducible refine below_tt ?_ (by assumption))))
  go_enter Try.func57, Try.ntmps57
  go_wp2
  go_loopw [5, 6] (fun s5 s6 wr => s6 = .int .i64 0 ∧ OwnS wr w.heap.size s5 [] ∧ Below w.heap.size w wr) (fun _ _ _ => 0)
  case atStart => exact ⟨rfl, hO, hB⟩
  case round =>
    clear hO hB
    obtain ⟨rfl, hO, hB⟩ := hrel
    go_wp2
    go_ret
    exact ⟨_, rfl, hO, hB⟩
theorem l02Shift_any (v : Value) (xs : List (Int × Int)) (m : Int) (w : World) (h : RS w v xs) (hl : xs.length ≤ 4000000) (hok : ∀ i, i < xs.length → okS (gS xs i) = true) (hm1 : -730499 ≤ m) (hm2 : m ≤ 730499) :
    Calls Try.prog 57 #[v, .int .i64 m] w fun e w' => ∃ v, e = .returned v ∧ OwnS w' w.heap.size v (shiftL m xs) ∧ Below w.heap.size w w' := by
  rcases h with ⟨rfl, a, cap, rfl⟩ | ⟨b, off, cap, rfl, hb, hs⟩
  · exact l02Shift_nil a cap m w
  · exact l02Shift_cells b off cap xs m w hb hs hl hok hm1 hm2
theorem OwnS.more {w : World} {base base' : Nat} {v : Value} {xs : List (Int × Int)} (h : OwnS w base v xs) (hb : base' ≤ base) : OwnS w base' v xs := by
  refine ⟨h.1, ?_⟩
  rcases h.2 with h | ⟨g, cap, cur, hv, hg, rest⟩
  · exact Or.inl h
  · exact Or.inr ⟨g, cap, cur, hv, Nat.le_trans hb hg, rest⟩

set_option maxHeartbeats 1000000 in
theorem iShiftSet_nil (a : Option Addr) (cap : Nat) (m : Int) (w : World) (hn : inR m (-730499) 730499 = true) :
    Calls Try.prog 26 #[.slice a 0 cap, .int .i64 m] w fun e w' => ∃ v', e = .returned (.tuple #[v', .int .i64 0]) ∧ OwnS w' w.heap.size v' [] ∧ Below w.heap.size w w' := by
  have hO := OwnS.made w (Nat.le_refl w.heap.size)
  have hB : Below w.heap.size w (w.alloc (.cells #[] 46)) := by (repeat' (first | (with_reducible exact Below.refl _ _) | (with_reducible assumption) | (with_reducible refine below_al ?_ _) | (with_reducible refine Below.drew ?_) | (with_reducible refine Below.setCell ?_ (by first | exact Nat.le_refl _ | (dsimp only; omega) | (simp; omega)) _) | (with_reducible refine below_drewN ?_ _) | (with_reducible refine below_tt ?_ (by assumption))))
  have hn' := Lib.hid hn
  clear hn
  go_enter Try.func26, Try.ntmps26
  go_wp2_with (first | (go_at_call 17; refine (iIsSet_nil _ _ _).mono ?_; rintro e w' ⟨rfl, rfl⟩) | (go_at_call 56; refine (within_is hn'.out _).mono ?_; rintro e w' ⟨rfl, rfl⟩))
  go_loopw [6, 21] (fun s5 s6 wr => s6 = .int .i64 0 ∧ OwnS wr w.heap.size s5 [] ∧ Below w.heap.size w wr) (fun _ _ _ => 0)
  case atStart => exact ⟨rfl, hO, hB⟩
  case round =>
    clear hO hB
    obtain ⟨rfl, hO, hB⟩ := hrel
    go_wp2
    go_ret2
    exact ⟨_, rfl, hO, hB⟩
set_option maxRecDepth 10000 in
set_option maxHeartbeats 1000000 in
theorem iShiftSet_cells (b off cap : Nat) (xs : List (Int × Int)) (m : Int) (w : World) (hb : b < w.heap.size) (h : SpanAt w b off xs) (hl : xs.length ≤ 4000000) (hs : isSet xs = true) (hn : inR m (-730499) 730499 = true) :
    Calls Try.prog 26 #[.slice (some ⟨b, off, none⟩) xs.length cap, .int .i64 m] w fun e w' => ∃ v', e = .returned (.tuple #[v', .int .i64 0]) ∧ OwnS w' w.heap.size v' (shiftL m xs) ∧ Below w.heap.size w w' := by
  have rg := cell_rg; have l2 : ∀ n : Nat, n < n + 1 + 1 := (fun _ => by omega); have l3 : ∀ n : Nat, n < n + 1 + 1 + 1 := (fun _ => by omega); have l4 : ∀ n : Nat, n < n + 1 + 1 + 1 + 1 := (fun _ => by omega)
  have hok := isSet_ok hs
  obtain ⟨h300, hok⟩ := hok
  have hm1 := (inR_t hn).1
  have hm2 := (inR_t hn).2
  have hs' := Lib.hid hs
  have hn' := Lib.hid hn
  clear hs hn
  go_enter Try.func26, Try.ntmps26
  go_wp2_with fail
  refine (iIsSet_cells b off cap xs _ hb h hl).mono ?_
  rintro e w1 ⟨rfl, b1⟩
  rw [hs'.out]
  have hO := OwnS.made w1 b1.size
  have hB : Below w.heap.size w (w1.alloc (.cells #[] 46)) := by (repeat' (first | (with_reducible exact Below.refl _ _) | (with_reducible assumption) | (with_reducible refine below_al ?_ _) | (with_reducible refine Below.drew ?_) | (with_reducible refine Below.setCell ?_ (by first | exact Nat.le_refl _ | (dsimp only; omega) | (simp; omega)) _) | (with_reducible refine below_drewN ?_ _) | (with_reducible refine below_tt ?_ (by assumption))))
  go_wp2_with (go_at_call 56; refine (within_is hn'.out _).mono ?_; rintro e w' ⟨rfl, rfl⟩)
  go_loopw [6, 21] (fun s5 s6 wr => ∃ k : Nat, k ≤ xs.length ∧ s6 = .int .i64 k ∧ OwnS wr w.heap.size s5 (shiftL m (xs.take k)) ∧ Below w.heap.size w wr) (fun _ s6 _ => xs.length - (intOf s6).toNat)
  case atStart => exact ⟨0, by omega, rfl, by simpa [shiftL] using hO, hB⟩
  case round =>
    clear hB hO b1
    obtain ⟨k, hk, rfl, hO, hB⟩ := hrel
    have z1 := bsize hB b hb
    have z3 : b < wr.heap.size + 1 := by omega
    have hp := Below.refl wr.heap.size wr
    by_cases hlt : k < xs.length
    · have e1 := h.of_cells fun o => hB.cell (p := ⟨b, o, none⟩) hb
      have e10 := (e1 k hlt).1
      have e11 := (e1 k hlt).2
      have hkk := okS_iff.1 (hok k hlt)
      have hlen := shift_len m xs k
      have hput := Lib.hid (shift_put (n := m) hlt)
      have hskip : Hid (¬ (shS m (gS xs k)).1 ≤ (shS m (gS xs k)).2 → _) := Lib.hid (shift_skip (n := m) hlt)
      unfold shS at hput hskip
      generalize (gS xs k).1 = x at e10 hkk hput hskip
      generalize (gS xs k).2 = y at e11 hkk hput hskip
      clear e1
      obtain ⟨hk1, hk2, hk3⟩ := hkk
      have i1 : (0 : Int) ≤ (k : Int) := by omega
      have i2 : (k : Int) < (xs.length : Int) := by omega
      have hne : b ≠ wr.heap.size := by omega
      have hne2 : wr.heap.size ≠ b := by omega
      obtain ⟨X, hX⟩ : ∃ X, (if 0 < x + m then x + m else 0) = X := ⟨_, rfl⟩
      obtain ⟨Y, hY⟩ : ∃ Y, (if y + m < 730499 then y + m else 730499) = Y := ⟨_, rfl⟩
      rw [hX, hY] at hput
      rw [hX, hY] at hskip
      by_cases hXY : X ≤ Y
      · have hput' := Lib.hid (hput.out hXY)
        clear hput hskip
        go_wp2_with (at_builtin; refine app_span (w0 := w) (p := X) (q := Y) (xs := shiftL m (xs.take k)) (by (repeat' (first | (with_reducible exact Below.refl _ _) | (with_reducible assumption) | (with_reducible refine below_al ?_ _) | (with_reducible refine Below.drew ?_) | (with_reducible refine Below.setCell ?_ (by first | exact Nat.le_refl _ | (dsimp only; omega) | (simp; omega)) _) | (with_reducible refine below_drewN ?_ _) | (with_reducible refine below_tt ?_ (by assumption))))) (by first | exact (((hO.alloc _).alloc _).alloc _) | exact (((hO.alloc _).alloc _).alloc _).drew) (by omega) rfl _ _ rfl rfl rfl (by simp [go_sem]) (by simp [go_sem]) ?_; intro v3 w3 hO3 hB3 _)
        clear hX hY
        go_wp2
        go_roundw
        case rel => exact ⟨k + 1, by omega, by simp, by rw [hput'.out]; exact hO3, hB3⟩
        case measure => simp [intOf]; omega
      · have hskip' := Lib.hid (hskip.out hXY)
        clear hput hskip
        go_wp2
        go_roundw
        case rel => exact ⟨k + 1, by omega, by simp, by rw [hskip'.out]; exact ((hO.alloc _).alloc _), by (repeat' (first | (with_reducible exact Below.refl _ _) | (with_reducible assumption) | (with_reducible refine below_al ?_ _) | (with_reducible refine Below.drew ?_) | (with_reducible refine Below.setCell ?_ (by first | exact Nat.le_refl _ | (dsimp only; omega) | (simp; omega)) _) | (with_reducible refine below_drewN ?_ _) | (with_reducible refine below_tt ?_ (by assumption))))⟩
        case measure => simp [intOf]; omega
    · obtain rfl : k = xs.length := by omega
      rw [List.take_length] at hO
      go_wp2
      go_ret2
      exact ⟨_, rfl, hO, hB⟩

set_option maxRecDepth 10000 in
set_option maxHeartbeats 1000000 in
theorem sShiftSet_any (v : Value) (xs : List (Int × Int)) (m : Int) (w : World) (h : RS w v xs) (hl : xs.length ≤ 4000000) :
    Calls Try.prog 25 #[v, .int .i64 m] w fun e w' => ∃ v', e = .returned (.tuple #[v', .int .i64 (shiftR xs m).2]) ∧ OwnS w' w.heap.size v' (shiftR xs m).1 ∧ Below w.heap.size w w' := by
  cases hs : isSet xs
  · have hr : Hid (shiftR xs m = ([], 1)) := Lib.hid (by simp [shiftR, hs])
    have hs' := Lib.hid hs
    clear hs
    rw [hr.out]
    go_enter Try.func25, Try.ntmps25
    go_wp2_with fail
    refine (sIsSet_any v xs _ h hl).mono ?_
    rintro e w1 ⟨rfl, b1⟩
    rw [hs'.out]
    go_wp2
    go_ret2
    exact ⟨_, rfl, OwnS.nil _ _, b1⟩
  · cases hn : inR m (-730499) 730499
    · have hr : Hid (shiftR xs m = ([], 2)) := Lib.hid (by simp [shiftR, hs, hn])
      have hs' := Lib.hid hs
      have hn' := Lib.hid hn
      clear hs hn
      rw [hr.out]
      go_enter Try.func25, Try.ntmps25
      go_wp2_with fail
      refine (sIsSet_any v xs _ h hl).mono ?_
      rintro e w1 ⟨rfl, b1⟩
      rw [hs'.out]
      go_wp2_with (go_at_call 55; refine (l01In_is hn'.out _).mono ?_; rintro e w' ⟨rfl, rfl⟩)
      go_ret2
      exact ⟨_, rfl, OwnS.nil _ _, b1⟩
    · have hr : Hid (shiftR xs m = (shiftL m xs, 0)) := Lib.hid (by simp [shiftR, hs, hn])
      have hs' := Lib.hid hs
      have hn' := Lib.hid hn
      have hok := isSet_ok hs
      obtain ⟨h300, hok⟩ := hok
      have hm1 := (inR_t hn).1
      have hm2 := (inR_t hn).2
      clear hs hn
      rw [hr.out]
      go_enter Try.func25, Try.ntmps25
      go_wp2_with fail
      refine (sIsSet_any v xs _ h hl).mono ?_
      rintro e w1 ⟨rfl, b1⟩
      rw [hs'.out]
      go_wp2_with (go_at_call 55; refine (l01In_is hn'.out _).mono ?_; rintro e w' ⟨rfl, rfl⟩)
      refine (l02Shift_any v xs m _ (h.below b1) hl hok hm1 hm2).mono ?_
      rintro e w2 ⟨v2, rfl, o2, b2⟩
      go_wp2
      go_ret2
      exact ⟨_, rfl, o2.more b1.size, below_tt b1 b2⟩

set_option maxRecDepth 10000 in
set_option maxHeartbeats 1000000 in
theorem iShiftSet_any (v : Value) (xs : List (Int × Int)) (m : Int) (w : World) (h : RS w v xs) (hl : xs.length ≤ 4000000) :
    Calls Try.prog 26 #[v, .int .i64 m] w fun e w' => ∃ v', e = .returned (.tuple #[v', .int .i64 (shiftR xs m).2]) ∧ OwnS w' w.heap.size v' (shiftR xs m).1 ∧ Below w.heap.size w w' := by
  cases hs : isSet xs
  · have hr : Hid (shiftR xs m = ([], 1)) := Lib.hid (by simp [shiftR, hs])
    have hs' := Lib.hid hs
    clear hs
    rw [hr.out]
    go_enter Try.func26, Try.ntmps26
    go_wp2_with fail
    refine (iIsSet_any v xs _ h hl).mono ?_
    rintro e w1 ⟨rfl, b1⟩
    rw [hs'.out]
    go_wp2
    go_ret2
    exact ⟨_, rfl, OwnS.nil _ _, b1⟩
  · cases hn : inR m (-730499) 730499
    · have hr : Hid (shiftR xs m = ([], 2)) := Lib.hid (by simp [shiftR, hs, hn])
      have hs' := Lib.hid hs
      have hn' := Lib.hid hn
      clear hs hn
      rw [hr.out]
      go_enter Try.func26, Try.ntmps26
      go_wp2_with fail
      refine (iIsSet_any v xs _ h hl).mono ?_
      rintro e w1 ⟨rfl, b1⟩
      rw [hs'.out]
      go_wp2_with (go_at_call 56; refine (within_is hn'.out _).mono ?_; rintro e w' ⟨rfl, rfl⟩)
      go_ret2
      exact ⟨_, rfl, OwnS.nil _ _, b1⟩
    · have hok := isSet_ok hs
      have hr : shiftR xs m = (shiftL m xs, 0) := by simp [shiftR, hs, hn]
      rw [hr]
      rcases h with ⟨rfl, a, cap, rfl⟩ | ⟨b, off, cap, rfl, hb, hs0⟩
      · exact iShiftSet_nil a cap m w hn
      · exact iShiftSet_cells b off cap xs m w hb hs0 hl hs hn
end Go.Proofs.Ytnpbgcckbohmfaa
