/- Sets of days: HasDay, NthDay on both sides, and their laws. -/
import Derived.Test.YtpinngcdojbndaaGreatDoorSets3
namespace Go.Proofs.YtpinngcdojbndaaGreatDoor
open Go.RowKit

/-- Is the day in a span of the list? -/
def hasB (xs : List (Int × Int)) (n : Int) : Bool := xs.any fun s => inR n s.1 s.2
theorem gS_mem {xs : List (Int × Int)} {i : Nat} (h : i < xs.length) : gS xs i ∈ xs := by
  simp only [gS, List.getD_eq_getElem?_getD, List.getElem?_eq_getElem h, Option.getD_some]; exact List.getElem_mem h
theorem mem_gS {xs : List (Int × Int)} {s : Int × Int} (h : s ∈ xs) : ∃ i, i < xs.length ∧ gS xs i = s := by
  obtain ⟨i, hi, e⟩ := List.getElem_of_mem h
  exact ⟨i, hi, by simp only [gS, List.getD_eq_getElem?_getD, List.getElem?_eq_getElem hi, Option.getD_some]; exact e⟩
theorem hasB_yes {xs : List (Int × Int)} {n : Int} {i : Nat} (hi : i < xs.length) (h : inR n (gS xs i).1 (gS xs i).2 = true) : hasB xs n = true :=
  List.any_eq_true.2 ⟨_, gS_mem hi, h⟩
theorem hasB_no {xs : List (Int × Int)} {n : Int} (h : ∀ i, i < xs.length → inR n (gS xs i).1 (gS xs i).2 = false) : hasB xs n = false := by
  refine List.any_eq_false.2 fun s hs => ?_
  obtain ⟨i, hi, rfl⟩ := mem_gS hs
  rw [h i hi]; simp

/-- The closure of hasDay. -/
theorem hasDay1_is {n a b : Int} {r : Bool} (B : Nat) {W : World} (hr : inR n a b = r) (hc : W.cell? ⟨B, 0, none⟩ = some (.int .i64 n)) (hB : B < W.heap.size) :
    Calls Tryz.prog 54 #[.agg #[.int .i64 a, .int .i64 b], .pointer (some ⟨B, 0, none⟩)] W fun e w' => e = .returned (.bool r) ∧ Below W.heap.size W w' := by
  have hr' := Lib.hid hr
  clear hr
  go_enter Tryz.func54, Tryz.ntmps54
  go_wp2_with (go_at_call 48; refine (within_is hr'.out _).mono ?_; rintro e w' ⟨rfl, rfl⟩)
  go_ret
  exact ⟨rfl, by (repeat' (first | (with_reducible exact Below.refl _ _) | (with_reducible assumption) | (with_reducible refine below_al ?_ _) | (with_reducible refine Below.drew ?_) | (with_reducible refine Below.setCell ?_ (by first | exact Nat.le_refl _ | (dsimp only; omega) | (simp; omega)) _) | (with_reducible refine below_drewN ?_ _) | (with_reducible refine below_tt ?_ (by assumption))))⟩

set_option maxHeartbeats 1000000 in
theorem idxHas_cells (b off cap : Nat) (xs : List (Int × Int)) (n : Int) (B : Nat) (w : World) (hb : b < w.heap.size) (h : SpanAt w b off xs) (hl : xs.length ≤ 4000000) (hc : w.cell? ⟨B, 0, none⟩ = some (.int .i64 n)) (hB : B < w.heap.size) :
    Calls Tryz.prog 47 #[.slice (some ⟨b, off, none⟩) xs.length cap, .func (.func 54) #[] #[.pointer (some ⟨B, 0, none⟩)]] w fun e w' => (∃ r : Int, e = .returned (.int .i64 r) ∧ decide (0 ≤ r) = hasB xs n) ∧ Below w.heap.size w w' := by
  have rg := cell_rg; have l2 : ∀ n : Nat, n < n + 1 + 1 := (fun _ => by omega); have l3 : ∀ n : Nat, n < n + 1 + 1 + 1 := (fun _ => by omega); have l4 : ∀ n : Nat, n < n + 1 + 1 + 1 + 1 := (fun _ => by omega)
  have hc0 := Lib.hid hc
  have hB0 := hB
  clear hc hB
  have hB := Below.refl w.heap.size w
  go_enter Tryz.func47, Tryz.ntmps47
  go_wp2
  go_loopw [8] (fun s8 wr => ∃ k : Nat, k ≤ xs.length ∧ s8 = .int .i64 k ∧ Hid (∀ i, i < k → inR n (gS xs i).1 (gS xs i).2 = false) ∧ Below w.heap.size w wr) (fun s8 _ => xs.length - (intOf s8).toNat)
  case atStart => exact ⟨0, by omega, rfl, Lib.hid (fun i hi => by omega), hB⟩
  case round =>
    clear hB
    obtain ⟨k, hk, rfl, hno, hB⟩ := hrel
    have z1 := bsize hB b hb
    have hp := Below.refl wr.heap.size wr
    by_cases hlt : k < xs.length
    · have e1 := h.of_cells fun o => hB.cell (p := ⟨b, o, none⟩) hb
      have e10 := (e1 k hlt).1
      have e11 := (e1 k hlt).2
      have hcn : Hid (wr.cell? ⟨B, 0, none⟩ = some (.int .i64 n)) := Lib.hid ((hB.cell (p := ⟨B, 0, none⟩) hB0).trans hc0.out)
      have hBn := bsize hB B hB0
      cases hin : inR n (gS xs k).1 (gS xs k).2
      · have hd : Hid (∀ i, i < k + 1 → inR n (gS xs i).1 (gS xs i).2 = false) := Lib.hid fun i hi => by
          rcases Nat.lt_or_ge i k with h3 | h3
          · exact hno.out i h3
          · obtain rfl : i = k := by omega
            exact hin
        generalize (gS xs k).1 = x at e10 hin
        generalize (gS xs k).2 = y at e11 hin
        have hin' := Lib.hid hin
        clear hin e1
        go_wp2_with (go_at_call 54; refine (hasDay1_is B hin'.out hcn.out hBn).mono ?_; rintro e w' ⟨rfl, hb9⟩)
        go_roundw
        case rel => exact ⟨k + 1, by omega, by simp, hd, below_tt hB hb9⟩
        case measure => simp [intOf]; omega
      · have hd : Hid (hasB xs n = true) := Lib.hid (hasB_yes hlt hin)
        generalize (gS xs k).1 = x at e10 hin
        generalize (gS xs k).2 = y at e11 hin
        have hin' := Lib.hid hin
        clear hin e1
        go_wp2_with (go_at_call 54; refine (hasDay1_is B hin'.out hcn.out hBn).mono ?_; rintro e w' ⟨rfl, hb9⟩)
        go_ret
        exact ⟨⟨_, rfl, by rw [hd.out]; exact decide_eq_true (by omega)⟩, below_tt hB hb9⟩
    · obtain rfl : k = xs.length := by omega
      have hd : Hid (hasB xs n = false) := Lib.hid (hasB_no hno.out)
      go_wp2
      go_ret
      exact ⟨⟨-1, rfl, by rw [hd.out]; rfl⟩, hB⟩
theorem idxHas_nil (a : Option Addr) (cap : Nat) (c : Value) (w : World) :
    Calls Tryz.prog 47 #[.slice a 0 cap, c] w fun e w' => e = .returned (.int .i64 (-1)) ∧ w = w' := by
  go_enter Tryz.func47, Tryz.ntmps47
  go_wp2
  go_loopw [8] (fun s3 wr => s3 = .int .i64 0 ∧ wr = w) (fun _ _ => 0)
  case atStart => exact ⟨rfl, rfl⟩
  case round =>
    obtain ⟨rfl, rfl⟩ := hrel
    go_wp2
    go_ret
    exact ⟨rfl, rfl⟩
theorem idxHas_any (v : Value) (xs : List (Int × Int)) (n : Int) (B : Nat) (w : World) (h : RS w v xs) (hl : xs.length ≤ 4000000) (hc : w.cell? ⟨B, 0, none⟩ = some (.int .i64 n)) (hB : B < w.heap.size) :
    Calls Tryz.prog 47 #[v, .func (.func 54) #[] #[.pointer (some ⟨B, 0, none⟩)]] w fun e w' => (∃ r : Int, e = .returned (.int .i64 r) ∧ decide (0 ≤ r) = hasB xs n) ∧ Below w.heap.size w w' := by
  rcases h with ⟨rfl, a, cap, rfl⟩ | ⟨b, off, cap, rfl, hb, hs⟩
  · exact (idxHas_nil a cap _ w).mono fun _ _ h => ⟨⟨-1, h.1, rfl⟩, by rw [← h.2]; exact Below.refl _ _⟩
  · exact idxHas_cells b off cap xs n B w hb hs hl hc hB
theorem conHas_any (v : Value) (xs : List (Int × Int)) (n : Int) (B : Nat) (w : World) (h : RS w v xs) (hl : xs.length ≤ 4000000) (hc : w.cell? ⟨B, 0, none⟩ = some (.int .i64 n)) (hB : B < w.heap.size) :
    Calls Tryz.prog 31 #[v, .func (.func 54) #[] #[.pointer (some ⟨B, 0, none⟩)]] w fun e w' => e = .returned (.bool (hasB xs n)) ∧ Below w.heap.size w w' := by
  go_enter Tryz.func31, Tryz.ntmps31
  go_wp2_with fail
  refine (idxHas_any v xs n B _ h hl hc hB).mono ?_
  rintro e w1 ⟨⟨r, rfl, hr⟩, b1⟩
  have hr' := Lib.hid hr
  clear hr
  go_wp2
  go_ret
  exact ⟨ret_bool (by rw [← hr'.out]; (try rfl); try simp), b1⟩

set_option maxHeartbeats 1000000 in
theorem hasDay_any (v : Value) (xs : List (Int × Int)) (n : Int) (w : World) (h : RS w v xs) (hl : xs.length ≤ 4000000) :
    Calls Tryz.prog 39 #[v, .int .i64 n] w fun e w' => e = .returned (.bool (hasB xs n)) ∧ Below w.heap.size w w' := by
  have hmf : ∀ (fn : Fn) (first cap : Array Value) (w : World), (Instr.makeFunc fn first cap).run Tryz.prog w = .ok (.func fn first cap) w := fun _ _ _ _ => rfl
  go_enter Tryz.func39, Tryz.ntmps39
  go_wp2_with fail
  refine (conHas_any v xs n w.heap.size _ (h.below ((Below.refl _ _).alloc (Nat.le_refl _) _)) hl (by simp [go_sem]) (by simp)).mono ?_
  rintro e w1 ⟨rfl, b1⟩
  go_wp2
  go_ret
  exact ⟨rfl, below_tt ((Below.refl _ _).alloc (Nat.le_refl _) _) b1⟩

/-- What HasDay answers. -/
noncomputable def hasR (xs : List (Int × Int)) (n : Int) : Bool × Int := if isSet xs = true then (if inR n 0 730499 = true then (hasB xs n, 0) else (false, 2)) else (false, 1)

set_option maxHeartbeats 1000000 in
theorem iHasDay_any (v : Value) (xs : List (Int × Int)) (n : Int) (w : World) (h : RS w v xs) (hl : xs.length ≤ 4000000) :
    Calls Tryz.prog 15 #[v, .int .i64 n] w fun e w' => e = .returned (.tuple #[.bool (hasR xs n).1, .int .i64 (hasR xs n).2]) ∧ Below w.heap.size w w' := by
  cases hs : isSet xs
  · have hr : Hid (hasR xs n = (false, 1)) := Lib.hid (by simp [hasR, hs])
    have hs' := Lib.hid hs
    clear hs
    rw [hr.out]
    go_enter Tryz.func15, Tryz.ntmps15
    go_wp2_with fail
    refine (iIsSet_any v xs _ h hl).mono ?_
    rintro e w1 ⟨rfl, b1⟩
    rw [hs'.out]
    go_wp2
    go_ret2
    exact ⟨rfl, b1⟩
  · cases hn : inR n 0 730499
    · have hr : Hid (hasR xs n = (false, 2)) := Lib.hid (by simp [hasR, hs, hn])
      have hs' := Lib.hid hs
      have hn' := Lib.hid hn
      clear hs hn
      rw [hr.out]
      go_enter Tryz.func15, Tryz.ntmps15
      go_wp2_with fail
      refine (iIsSet_any v xs _ h hl).mono ?_
      rintro e w1 ⟨rfl, b1⟩
      rw [hs'.out]
      go_wp2_with (go_at_call 33; refine (isDay_is hn'.out _).mono ?_; rintro e w' ⟨rfl, rfl⟩)
      go_ret2
      exact ⟨rfl, b1⟩
    · have hr : Hid (hasR xs n = (hasB xs n, 0)) := Lib.hid (by simp [hasR, hs, hn])
      have hs' := Lib.hid hs
      have hn' := Lib.hid hn
      clear hs hn
      rw [hr.out]
      go_enter Tryz.func15, Tryz.ntmps15
      go_wp2_with fail
      refine (iIsSet_any v xs _ h hl).mono ?_
      rintro e w1 ⟨rfl, b1⟩
      rw [hs'.out]
      go_wp2_with (go_at_call 33; refine (isDay_is hn'.out _).mono ?_; rintro e w' ⟨rfl, rfl⟩)
      refine (hasDay_any v xs n _ (h.below b1) hl).mono ?_
      rintro e w2 ⟨rfl, b2⟩
      go_wp2
      go_ret2
      exact ⟨rfl, below_tt b1 b2⟩
end Go.Proofs.YtpinngcdojbndaaGreatDoor
