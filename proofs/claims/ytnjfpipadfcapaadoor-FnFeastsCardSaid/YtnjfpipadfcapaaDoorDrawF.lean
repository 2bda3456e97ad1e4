/- The draws of the law FnFeasts: a day with feasts, a feast's number, a name. -/
import Derived.Test.YtnjfpipadfcapaaDoorDraw9
import Derived.Test.YtnjfpipadfcapaaDoorNames
namespace Go.Proofs.YtnjfpipadfcapaaDoor
open Go.RowKit

set_option maxRecDepth 10000 in
set_option maxHeartbeats 8000000 in
theorem drawFeastsOn_any (v : Value) (n : Nat) (w : World) (h : RB w w.heap.size v n) (hn : n ≤ 4096) :
    Calls Tryd.prog 14 #[v] w fun e w' => ∃ x : Int, e = .returned (.int .i64 x) ∧ (-1 ≤ x ∧ x ≤ 730500) ∧ Below w.heap.size w w' := by
  have hn' : n ≤ 1000000 := by omega
  go_enter Tryd.func14, Tryd.ntmps14
  go_wp2_with fail
  refine (l01From_any v n _ h (by omega)).mono ?_
  rintro e w0 ⟨rfl, S0, b0⟩
  have B0 := below_tt (Below.refl w.heap.size w) b0
  go_wp2_with fail
  refine (l01Next_any 20 S0 hn' (by omega)).mono ?_
  rintro e w1 ⟨f, rfl, hf, S1, g1⟩
  obtain ⟨f1, f2⟩ := inN_bd hf (by omega)
  clear hf
  have B1 := below_gb B0 g1 B0.size (by omega)
  go_wp2_with fail
  refine (l01Next_any 2000 S1 hn' (by omega)).mono ?_
  rintro e w2 ⟨y, rfl, hy, S2, g2⟩
  obtain ⟨y1, y2⟩ := inN_bd hy (by omega)
  clear hy
  have B2 := below_gb B1 g2 B1.size (by omega)
  have hd := feast_day f1 (by omega) (show 1 ≤ 1 + y by omega) (by omega)
  go_wp2_with fail
  refine (l05Day_any f (1 + y) _ f1 (by omega) (by omega) (by omega)).mono ?_
  rintro e w3 ⟨rfl, b3⟩
  have S3 := S2.below b3
  have B3 := below_tt B2 b3
  generalize feastI f (1 + y) = d at hd
  obtain ⟨d1, d2⟩ := hd
  go_wp2_with fail
  refine (l01Next_any 3 S3 hn' (by omega)).mono ?_
  rintro e w4 ⟨x, rfl, hx, S4, g4⟩
  obtain ⟨x1, x2⟩ := inN_bd hx (by omega)
  clear hx
  have B4 := below_gb B3 g4 B3.size (by omega)
  by_cases x_x : x = 0
  · subst x_x
    go_wp2_with fail
    refine (l01DrawDay_any S4 hn').mono ?_
    rintro e w5 ⟨a, rfl, ha, S5, g5⟩
    have B5 := below_gb B4 g5 B4.size (by omega)
    go_wp2_with fail
    go_ret
    exact ⟨a, rfl, ha, B5⟩
  · have d_x : (x == 0) = false := by simpa using x_x
    go_wp2_with fail
    go_ret
    exact ⟨d, rfl, ⟨by omega, by omega⟩, B4⟩

set_option maxRecDepth 10000 in
set_option maxHeartbeats 8000000 in
theorem drawFeastName_any (v : Value) (n : Nat) (w : World) (h : RB w w.heap.size v n) (hn : n ≤ 4096) :
    Calls Tryd.prog 17 #[v] w fun e w' => ∃ x : Int, e = .returned (.int .i64 x) ∧ (-1 ≤ x ∧ x ≤ 20) ∧ Below w.heap.size w w' := by
  have hn' : n ≤ 1000000 := by omega
  go_enter Tryd.func17, Tryd.ntmps17
  go_wp2_with fail
  refine (l01From_any v n _ h (by omega)).mono ?_
  rintro e w0 ⟨rfl, S0, b0⟩
  have B0 := below_tt (Below.refl w.heap.size w) b0
  go_wp2_with fail
  refine (l01Next_any 22 S0 hn' (by omega)).mono ?_
  rintro e w1 ⟨x, rfl, hx, S1, g1⟩
  obtain ⟨x1, x2⟩ := inN_bd hx (by omega)
  clear hx
  have B1 := below_gb B0 g1 B0.size (by omega)
  go_wp2_with fail
  go_ret
  exact ⟨x - 1, rfl, ⟨by omega, by omega⟩, B1⟩

/-- The other names that are drawn. -/
def odd5 : List ByteArray := [⟨#[]⟩, ⟨#[108, 101, 110, 116]⟩, ⟨#[101, 97, 115, 116, 101]⟩, ⟨#[106, 111, 104, 110, 115]⟩, ⟨#[69, 97, 115, 116, 101, 114]⟩]
theorem odd_cell (w : World) (k : Nat) (hk : k < 5) (t : TypeId) : (w.alloc (.cells #[.string ⟨#[]⟩, .string ⟨#[108, 101, 110, 116]⟩, .string ⟨#[101, 97, 115, 116, 101]⟩, .string ⟨#[106, 111, 104, 110, 115]⟩, .string ⟨#[69, 97, 115, 116, 101, 114]⟩] t)).cell? ⟨w.heap.size, k, none⟩ = some (.string (odd5.getD k ByteArray.empty)) := by
  rw [World.cell?_alloc_at (hn := rfl)]
  rcases (show k = 0 ∨ k = 1 ∨ k = 2 ∨ k = 3 ∨ k = 4 by omega) with rfl | rfl | rfl | rfl | rfl <;> rfl
theorem str_src {w w' : World} {g B o : Nat} {s : ByteArray} (h : w.cell? ⟨g, o, none⟩ = some (.string s)) (hlt : g < w.heap.size) (hg : w.grownBy w' (some B)) (hne : g ≠ B) : w'.cell? ⟨g, o, none⟩ = some (.string s) :=
  (World.cell?_of_block (a := ⟨g, o, none⟩) (hg.block g hlt (fun e => hne (by injection e)))).trans h

set_option maxRecDepth 10000 in
set_option maxHeartbeats 8000000 in
theorem drawFeastNamed_any (v : Value) (n : Nat) (w : World) (h : RB w w.heap.size v n) (hn : n ≤ 4096) :
    Calls Tryd.prog 18 #[v] w fun e w' => ∃ s : ByteArray, e = .returned (.string s) ∧ Below w.heap.size w w' := by
  have hn' : n ≤ 1000000 := by omega
  go_enter Tryd.func18, Tryd.ntmps18
  go_wp2_with fail
  refine (l01From_any v n _ h (by omega)).mono ?_
  rintro e w0 ⟨rfl, S0, b0⟩
  have B0 := below_tt (Below.refl w.heap.size w) b0
  go_wp2_with fail
  refine (l01Next_any 4 S0 hn' (by omega)).mono ?_
  rintro e w1 ⟨x, rfl, hx, S1, g1⟩
  obtain ⟨x1, x2⟩ := inN_bd hx (by omega)
  clear hx
  have B1 := below_gb B0 g1 B0.size (by omega)
  have hB1 := S1.hB
  by_cases x_x : x = 0
  · subst x_x
    go_wp2_with fail
    have S2 := S1.al (.cells #[.string ⟨#[]⟩, .string ⟨#[108, 101, 110, 116]⟩, .string ⟨#[101, 97, 115, 116, 101]⟩, .string ⟨#[106, 111, 104, 110, 115]⟩, .string ⟨#[69, 97, 115, 116, 101, 114]⟩] 9)
    have A2 := below_al B1 (.cells #[.string ⟨#[]⟩, .string ⟨#[108, 101, 110, 116]⟩, .string ⟨#[101, 97, 115, 116, 101]⟩, .string ⟨#[106, 111, 104, 110, 115]⟩, .string ⟨#[69, 97, 115, 116, 101, 114]⟩] 9)
    have C2 := fun k hk => odd_cell w1 k hk 9
    refine (l01Next_any 5 S2 hn' (by omega)).mono ?_
    rintro e w2 ⟨k, rfl, hk, S3, g2⟩
    obtain ⟨k1, k2⟩ := inN_bd hk (by omega)
    clear hk
    obtain ⟨j, rfl⟩ : ∃ j : Nat, k = j := ⟨k.toNat, by omega⟩
    have hc := str_src (C2 j (by omega)) (by simp) g2 (by omega)
    have B3 := below_gb A2 g2 A2.size (by omega)
    clear C2 S1 S2 A2 g2
    generalize odd5.getD j ByteArray.empty = s at hc
    go_wp2_with fail
    go_ret
    exact ⟨s, rfl, B3⟩
  · have d_x : (x == 0) = false := by simpa using x_x
    obtain ⟨w2, hw2⟩ : ∃ w2, WN w1 9 = w2 := ⟨_, rfl⟩
    have C2 := fun k hk => WN_cell w1 k hk 9
    have b2 := WN_below w1 9
    have z2 : w2.heap.size = w1.heap.size + 1 := by rw [← hw2]; simp [WN]
    rw [hw2] at C2 b2
    go_wp2_with fail
    refine (l05Names_w hw2).mono ?_
    rintro e w3 ⟨rfl, rfl⟩
    have S2 := S1.below b2
    have B2 := below_tt B1 b2
    go_wp2_with fail
    refine (l01Next_any 20 S2 hn' (by omega)).mono ?_
    rintro e w3 ⟨k, rfl, hk, S3, g2⟩
    obtain ⟨k1, k2⟩ := inN_bd hk (by omega)
    clear hk
    obtain ⟨j, rfl⟩ : ∃ j : Nat, k = j := ⟨k.toNat, by omega⟩
    have hc := str_src (C2 j (by omega)) (by omega) g2 (by omega)
    have B3 := below_gb B2 g2 B2.size (by omega)
    clear C2 S1 S2 b2 g2
    generalize nms.getD j ByteArray.empty = s at hc
    go_wp2_with fail
    go_ret
    exact ⟨s, rfl, B3⟩
end Go.Proofs.YtnjfpipadfcapaaDoor
