/- The code that a law is handed: a slice of bytes. -/
import Derived.Test.YtpinngcdojbndaaGreatDoorDraw
import Derived.Test.YtpinngcdojbndaaGreatDoorFrame
namespace Go.Proofs.YtpinngcdojbndaaGreatDoor
open Go.RowKit
section
open Go.ChangeShapes Go.WideShapes Go.ChangeAt Go.Joins Go.Deep
variable {H : Type} {enc : TypeId × Value → H} {P : Program} {w : World} {base : Nat} {spare : Nat → Bool} {held : Bool}
theorem open_bytes {r : Reach} {b0 : Nat} {t e : TypeId} {v : Value} {d : DataW H} {p : List MemPlace} (ht : P.underlying t = some (.slice e)) (he : P.underlying e = some (.int .u8)) (hc : P.cellsOf e = 1)
    (hv : Value.okWide P w r b0 t v) (h : DataW.Trod enc P w base spare held t v d p) : ∃ n : Nat, RB w w.heap.size v n ∧ (n : Int) ≤ 9223372036854775807 := by
  obtain ⟨a, len, cap, rfl⟩ := okWide_slice ht hv
  obtain ⟨fuel, hf⟩ := h
  rcases open_ints ht he hc hf with ⟨hcs, _⟩ | ⟨a', len', cap', zs, hcs, _, hl, hm, hz, _, hcell, hwz⟩
  · simp [Value.cells] at hcs
    obtain ⟨rfl, rfl, rfl⟩ := hcs
    exact ⟨0, Or.inl ⟨rfl, none, 0, rfl⟩, by omega⟩
  · simp [Value.cells] at hcs
    obtain ⟨rfl, rfl, rfl⟩ := hcs
    have hlz : len ≤ zs.length := by rw [hz]; split <;> omega
    have hmx : (len : Int) ≤ 9223372036854775807 := by simp only [maxLen] at hm; omega
    by_cases hn : len = 0
    · subst hn
      exact ⟨0, Or.inl ⟨rfl, some a', cap, rfl⟩, by omega⟩
    · have hg0 := hcell 0 (by omega)
      have hsp := World.cell?_spot hg0
      obtain ⟨b, off, spot⟩ := a'
      have : spot = none := by simpa [Addr.add] using hsp
      subst this
      rw [add_plain] at hg0
      have hlt : b < w.heap.size := World.block_lt_of_cell? w _ hg0
      refine ⟨len, Or.inr ⟨b, off, cap, rfl, hlt, hlt, fun i hi => ?_⟩, hmx⟩
      have h1 := hcell i (by omega)
      rw [add_plain] at h1
      have hmem : zs.getD i 0 ∈ zs := by
        simp only [List.getD_eq_getElem?_getD, List.getElem?_eq_getElem (show i < zs.length by omega), Option.getD_some]; exact List.getElem_mem _
      have hw := Go.bounds_u8 (hwz _ hmem)
      exact ⟨zs.getD i 0, hw.1, hw.2, h1⟩
end
theorem big_any (a : Option Addr) (n cap : Nat) (w : World) (_hn : (n : Int) ≤ 9223372036854775807) :
    Calls Tryz.prog 4 #[.slice a n cap] w fun e w' => e = .returned (.bool (decide ((4096 : Int) < n))) ∧ w = w' := by
  go_enter Tryz.func4, Tryz.ntmps4
  go_wp2
  all_goals (go_ret; exact ⟨ret_bool (by first | rfl | (simp; omega) | simp_all), rfl⟩)
end Go.Proofs.YtpinngcdojbndaaGreatDoor
