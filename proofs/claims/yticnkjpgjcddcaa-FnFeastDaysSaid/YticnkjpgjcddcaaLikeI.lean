/- Two lists of numbers compared, a number looked for, by the law's own helpers. -/
import Derived.Test.YticnkjpgjcddcaaInts
namespace Go.Proofs.Yticnkjpgjcddcaa
open Go.RowKit

theorem hasInt_cells (b off cap : Nat) (xs : List Int) (x : Int) (w : World) (hb : b < w.heap.size) (hs : IntAt w b off xs) (hl : xs.length ≤ 4000000000000) :
    Calls Try.prog 86 #[.slice (some ⟨b, off, none⟩) xs.length cap, .int .i64 x] w fun e w' => e = .returned (.bool (decide (x ∈ xs))) ∧ Below w.heap.size w w' := by
  go_enter Try.func86, Try.ntmps86
  go_wp2
  go_loopw [5] (fun s3 wr => ∃ k : Nat, k ≤ xs.length ∧ s3 = .int .i64 k ∧ Hid (∀ i, i < k → gI xs i ≠ x) ∧ wr = w) (fun s3 _ => xs.length - (intOf s3).toNat)
  case atStart => exact ⟨0, by omega, rfl, Lib.hid (fun i hi => by omega), rfl⟩
  case round =>
    obtain ⟨k, hk, rfl, hno, rfl⟩ := hrel
    by_cases hlt : k < xs.length
    · have e0 := hs k hlt
      obtain ⟨z, hz⟩ : ∃ z, gI xs k = z := ⟨_, rfl⟩
      rw [hz] at e0
      by_cases hq : z = x
      · have hm : Hid (x ∈ xs) := Lib.hid (by
          rw [← hq, ← hz]; unfold gI
          simp only [List.getD_eq_getElem?_getD, List.getElem?_eq_getElem hlt, Option.getD_some]; exact List.getElem_mem hlt)
        have d1 : (z == x) = true := by simpa using hq
        have d2 : decide (z = x) = true := decide_eq_true hq
        clear hz hq
        go_wp2
        go_ret
        exact ⟨ret_bool (by rw [decide_eq_true hm.out]), Below.refl _ _⟩
      · have hno2 : Hid (∀ i, i < k + 1 → gI xs i ≠ x) := Lib.hid fun i hi => by
          by_cases h1 : i = k
          · rw [h1, hz]; exact hq
          · exact hno.out i (by omega)
        have d1 : (z == x) = false := by simpa using hq
        have d2 : decide (z = x) = false := decide_eq_false hq
        clear hz
        go_wp2
        go_roundw
        case rel => exact ⟨k + 1, by omega, by simp, hno2, by trivial⟩
        case measure => simp [intOf]; omega
    · obtain rfl : k = xs.length := by omega
      have hm : Hid (¬ x ∈ xs) := Lib.hid fun h => by
        obtain ⟨i, hi, e⟩ := List.getElem_of_mem h
        refine hno.out i hi ?_
        unfold gI
        simp only [List.getD_eq_getElem?_getD, List.getElem?_eq_getElem hi, Option.getD_some]
        exact e
      go_wp2
      go_ret
      exact ⟨ret_bool (by rw [decide_eq_false hm.out]), Below.refl _ _⟩
theorem hasInt_nil (a : Option Addr) (cap : Nat) (x : Int) (w : World) :
    Calls Try.prog 86 #[.slice a 0 cap, .int .i64 x] w fun e w' => e = .returned (.bool false) ∧ Below w.heap.size w w' := by
  have hB := Below.refl w.heap.size w
  go_enter Try.func86, Try.ntmps86
  go_wp2
  go_loopw [5] (fun s3 wr => s3 = .int .i64 0 ∧ Below w.heap.size w wr) (fun _ _ => 0)
  case atStart => exact ⟨rfl, hB⟩
  case round =>
    clear hB
    obtain ⟨rfl, hB⟩ := hrel
    go_wp2
    go_ret
    exact ⟨rfl, hB⟩
theorem hasInt_any (v : Value) (xs : List Int) (x : Int) (w : World) (h : RI w v xs) (hl : xs.length ≤ 4000000000000) :
    Calls Try.prog 86 #[v, .int .i64 x] w fun e w' => e = .returned (.bool (decide (x ∈ xs))) ∧ Below w.heap.size w w' := by
  rcases h with ⟨rfl, a, cap, rfl⟩ | ⟨b, off, cap, rfl, hb, hs⟩
  · simpa using hasInt_nil a cap x w
  · exact hasInt_cells b off cap xs x w hb hs hl
end Go.Proofs.Yticnkjpgjcddcaa
