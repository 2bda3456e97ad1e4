/- Sets of days: the functions at every slice that can be read. -/
import Derived.Test.YtpinngcdojbndaaGreatDoorSets
import Derived.Test.YtpinngcdojbndaaGreatDoorFrame
namespace Go.Proofs.YtpinngcdojbndaaGreatDoor
open Go.RowKit

theorem isSet_nil : isSet [] = true := isSet_iff.2 ⟨fun i hi => by simp at hi, by simp⟩
theorem sIsSet_nil (a : Option Addr) (cap : Nat) (w : World) :
    Calls Tryz.prog 20 #[.slice a 0 cap] w fun e w' => e = .returned (.bool true) ∧ w = w' := by
  go_enter Tryz.func20, Tryz.ntmps20
  go_wp2
  go_loopw [3] (fun s3 wr => s3 = .int .i64 0 ∧ wr = w) (fun _ _ => 0)
  case atStart => exact ⟨rfl, rfl⟩
  case round =>
    obtain ⟨rfl, rfl⟩ := hrel
    go_wp2
    go_ret
    exact ⟨rfl, rfl⟩
theorem iIsSet_nil (a : Option Addr) (cap : Nat) (w : World) :
    Calls Tryz.prog 18 #[.slice a 0 cap] w fun e w' => e = .returned (.bool true) ∧ w = w' := by
  go_enter Tryz.func18, Tryz.ntmps18
  go_wp2
  go_loopw [7] (fun s3 wr => s3 = .int .i64 0 ∧ wr = w) (fun _ _ => 0)
  case atStart => exact ⟨rfl, rfl⟩
  case round =>
    obtain ⟨rfl, rfl⟩ := hrel
    go_wp2
    go_ret
    exact ⟨rfl, rfl⟩
theorem sIsSet_any (v : Value) (xs : List (Int × Int)) (w : World) (h : RS w v xs) (hl : xs.length ≤ 4000000) :
    Calls Tryz.prog 20 #[v] w fun e w' => e = .returned (.bool (isSet xs)) ∧ Below w.heap.size w w' := by
  rcases h with ⟨rfl, a, cap, rfl⟩ | ⟨b, off, cap, rfl, hb, hs⟩
  · exact (sIsSet_nil a cap w).mono fun _ _ h => ⟨by rw [isSet_nil]; exact h.1, by rw [← h.2]; exact Below.refl _ _⟩
  · exact sIsSet_cells b off cap xs w hb hs hl
theorem iIsSet_any (v : Value) (xs : List (Int × Int)) (w : World) (h : RS w v xs) (hl : xs.length ≤ 4000000) :
    Calls Tryz.prog 18 #[v] w fun e w' => e = .returned (.bool (isSet xs)) ∧ Below w.heap.size w w' := by
  rcases h with ⟨rfl, a, cap, rfl⟩ | ⟨b, off, cap, rfl, hb, hs⟩
  · exact (iIsSet_nil a cap w).mono fun _ _ h => ⟨by rw [isSet_nil]; exact h.1, by rw [← h.2]; exact Below.refl _ _⟩
  · exact iIsSet_cells b off cap xs w hb hs hl

section
open Go.ChangeShapes Go.WideShapes Go.ChangeAt Go.Joins Go.Deep
variable {H : Type} {enc : TypeId × Value → H} {P : Program} {w : World} {base : Nat} {spare : Nat → Bool} {held : Bool}
theorem open_spans {r : Reach} {b0 : Nat} {t e : TypeId} {f0 f1 : Field} {v : Value} {d : DataW H} {p : List MemPlace} (ht : P.underlying t = some (.slice e)) (he : P.underlying e = some (.struct #[f0, f1]))
    (ce : P.cellsOf e = 2) (o0 : f0.offset = 0) (o1 : f1.offset = 1) (c0 : P.cellsOf f0.type = 1) (c1 : P.cellsOf f1.type = 1)
    (u0 : P.underlying f0.type = some (.int .i64)) (u1 : P.underlying f1.type = some (.int .i64)) (hv : Value.okWide P w r b0 t v) (h : DataW.Trod enc P w base spare held t v d p) :
    ∃ xs : List (Int × Int), RS w v xs ∧ (xs.length : Int) ≤ 9223372036854775807 := by
  obtain ⟨a, len, cap, rfl⟩ := okWide_slice ht hv
  obtain ⟨fuel, hf⟩ := h
  rcases open_slice_pairs ht he ce o0 o1 c0 c1 hf with ⟨h0, _⟩ | ⟨a', len', cap', m, n, V0, V1, D0, D1, P0, P1, h0, hb, hl, hm, hmm, _, hx⟩
  · simp [Value.cells] at h0
    obtain ⟨rfl, rfl, rfl⟩ := h0
    exact ⟨[], Or.inl ⟨rfl, none, 0, rfl⟩, by simp⟩
  · simp [Value.cells] at h0
    obtain ⟨rfl, rfl, rfl⟩ := h0
    have hlm : len ≤ m := by rw [hmm]; split <;> omega
    have hmx : (len : Int) ≤ 9223372036854775807 := by simp only [maxLen] at hm; omega
    by_cases hn : len = 0
    · subst hn
      exact ⟨[], Or.inl ⟨rfl, some a', cap, rfl⟩, by simp⟩
    · have hsp := World.cell?_spot (hx 0 (by omega)).1
      obtain ⟨b, off, spot⟩ := a'
      have : spot = none := by simpa [Addr.add] using hsp
      subst this
      let xs : List (Int × Int) := (List.range len).map fun i => (intOf (V0 i), intOf (V1 i))
      have hxl : xs.length = len := by simp [xs]
      have hg0 := (hx 0 (by omega)).1
      rw [add_plain] at hg0
      have hlt : b < w.heap.size := World.block_lt_of_cell? w _ hg0
      refine ⟨xs, Or.inr ⟨b, off, cap, by rw [hxl], hlt, fun i hi => ?_⟩, by rw [hxl]; exact hmx⟩
      rw [hxl] at hi
      obtain ⟨g0, g1, t0, t1⟩ := hx i (by omega)
      obtain ⟨n0, e0, _, _⟩ := DataW.trod_int u0 t0
      obtain ⟨n1, e1, _, _⟩ := DataW.trod_int u1 t1
      simp at e0 e1
      have hg : xs.getD i (0, 0) = (n0, n1) := by simp [xs, List.getD_eq_getElem?_getD, List.getElem?_map, List.getElem?_range hi, e0, e1, intOf]
      rw [hg, ← e0, ← e1]
      rw [add_plain] at g0 g1
      exact ⟨g0, g1⟩
end
end Go.Proofs.YtpinngcdojbndaaGreatDoor
