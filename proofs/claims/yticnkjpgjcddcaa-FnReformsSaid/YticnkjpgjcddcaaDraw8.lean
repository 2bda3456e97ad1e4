/- What the reference draws for the laws of reforms and feasts. -/
import Derived.Test.YticnkjpgjcddcaaDraw7
import Derived.Test.YticnkjpgjcddcaaLoc2
import Derived.Test.YticnkjpgjcddcaaLoc3
import Derived.Deep.DeepCutAuto
namespace Go.Proofs.Yticnkjpgjcddcaa
open Go.RowKit

theorem D1.set_o {w : World} {g b o : Nat} {c : Int} {u : Value} (h : D1 w g c) (hne : b ≠ g) : D1 (w.setCell ⟨b, o, none⟩ u) g c :=
  ⟨by simpa using h.lt, set_other h.c0 (Or.inl hne), (World.frozen?_setCell _ _ _ _).trans h.fr⟩
theorem set_blk {w : World} {b o c p : Nat} {v u : Value} (h : w.cell? ⟨c, p, none⟩ = some u) (hne : b ≠ c) : (w.setCell ⟨b, o, none⟩ v).cell? ⟨c, p, none⟩ = some u := set_other h (Or.inl hne)
theorem D3.set_o {w : World} {g b o : Nat} {y m d : Int} {u : Value} (h : D3 w g y m d) (hne : b ≠ g) : D3 (w.setCell ⟨b, o, none⟩ u) g y m d :=
  ⟨by simpa using h.lt, set_other h.c0 (Or.inl hne), set_other h.c1 (Or.inl hne), set_other h.c2 (Or.inl hne), fun i => (World.frozen?_setCell _ _ _ _).trans (h.fr i)⟩
theorem loc_bd {c y m d : Int} (h : (locR c y m d).2 = true) : 0 ≤ (locR c y m d).1 ∧ (locR c y m d).1 ≤ 730499 := by
  have en := nyear_ends
  unfold locR at h ⊢
  split at h
  · rename_i ho
    rw [if_pos ho]
    have v := valid_t ho.1
    have b := num_bd ho.1
    have e1 := nyear_mono false (a := 1) (b := y) (by omega) (by omega)
    have e2 := nyear_mono false (a := y + 1) (b := 2001) (by omega) (by omega)
    dsimp only
    omega
  · rename_i ho
    rw [if_neg ho]
    split at h
    · rename_i hn
      rw [if_pos hn]
      have v := valid_t hn.1
      have b := num_bd hn.1
      have e1 := nyear_mono true (a := 1) (b := y) (by omega) (by omega)
      have e2 := nyear_mono true (a := y + 1) (b := 2001) (by omega) (by omega)
      dsimp only
      omega
    · simp at h
/-- All that the call of DrawSameDay has laid. -/
structure DS (w W : World) (B bC bQ bO : Nat) (c y m d o : Int) : Prop where
  n0 : w.heap.size ≠ B
  n1 : w.heap.size + 1 ≠ B
  n2 : w.heap.size + 1 + 1 ≠ B
  n3 : w.heap.size + 1 + 1 + 1 ≠ B
  nC : bC ≠ B
  nQ : bQ ≠ B
  nO : bO ≠ B
  bb : w.heap.size ≤ B
  E0 : D1 W w.heap.size 0
  E1 : D3 W (w.heap.size + 1) 0 0 0
  E2 : D1 W (w.heap.size + 1 + 1) 0
  E3 : D3 W (w.heap.size + 1 + 1 + 1) 0 0 0
  C : D1 W bC c
  Q : D3 W bQ y m d
  O : D1 W bO o
  Bl : Below w.heap.size w W
theorem DS.src {w W W' : World} {B bC bQ bO : Nat} {c y m d o : Int} (h : DS w W B bC bQ bO c y m d o) (g : W.grownBy W' (some B)) : DS w W' B bC bQ bO c y m d o :=
  ⟨h.n0, h.n1, h.n2, h.n3, h.nC, h.nQ, h.nO, h.bb, h.E0.src g h.n0, h.E1.src g h.n1, h.E2.src g h.n2, h.E3.src g h.n3, h.C.src g h.nC, h.Q.src g h.nQ, h.O.src g h.nO, below_gb h.Bl g h.Bl.size h.bb⟩
theorem DS.below {w W W' : World} {B bC bQ bO : Nat} {c y m d o : Int} (h : DS w W B bC bQ bO c y m d o) (g : Below W.heap.size W W') : DS w W' B bC bQ bO c y m d o :=
  ⟨h.n0, h.n1, h.n2, h.n3, h.nC, h.nQ, h.nO, h.bb, h.E0.below g, h.E1.below g, h.E2.below g, h.E3.below g, h.C.below g, h.Q.below g, h.O.below g, below_tt h.Bl g⟩
theorem DS.al {w W : World} {B bC bQ bO : Nat} {c y m d o : Int} (h : DS w W B bC bQ bO c y m d o) (u : Obj) : DS w (W.alloc u) B bC bQ bO c y m d o := h.below (below_al (Below.refl _ _) u)
theorem DS.drew {w W : World} {B bC bQ bO : Nat} {c y m d o : Int} (h : DS w W B bC bQ bO c y m d o) : DS w W.drew B bC bQ bO c y m d o := h.below (Below.refl _ _).drew
theorem DS.set {w W : World} {B bC bQ bO b k : Nat} {c y m d o : Int} {u : Value} (h : DS w W B bC bQ bO c y m d o) (x0 : w.heap.size + 1 + 1 + 1 < b) (xC : b ≠ bC) (xQ : b ≠ bQ) (xO : b ≠ bO) : DS w (W.setCell ⟨b, k, none⟩ u) B bC bQ bO c y m d o :=
  ⟨h.n0, h.n1, h.n2, h.n3, h.nC, h.nQ, h.nO, h.bb, h.E0.set_o (by omega), h.E1.set_o (by omega), h.E2.set_o (by omega), h.E3.set_o (by omega), h.C.set_o xC, h.Q.set_o xQ, h.O.set_o xO, h.Bl.setCell (by dsimp only; omega) u⟩
/-- What the last line of DrawSameDay reads. -/
structure S8 (w : World) (bC bQ bO bN : Nat) (c y m d o p q r : Int) : Prop where
  a0 : w.cell? ⟨bC, 0, none⟩ = some (.int .i64 c)
  a1 : w.cell? ⟨bQ, 0, none⟩ = some (.int .i64 y)
  a2 : w.cell? ⟨bQ, 1, none⟩ = some (.int .i64 m)
  a3 : w.cell? ⟨bQ, 2, none⟩ = some (.int .i64 d)
  a4 : w.cell? ⟨bO, 0, none⟩ = some (.int .i64 o)
  a5 : w.cell? ⟨bN, 0, none⟩ = some (.int .i64 p)
  a6 : w.cell? ⟨bN, 1, none⟩ = some (.int .i64 q)
  a7 : w.cell? ⟨bN, 2, none⟩ = some (.int .i64 r)
theorem S8.out {w : World} {bC bQ bO bN : Nat} {c y m d o p q r : Int} (h : S8 w bC bQ bO bN c y m d o p q r) :
    w.cell? ⟨bC, 0, none⟩ = some (.int .i64 c) ∧ w.cell? ⟨bQ, 0, none⟩ = some (.int .i64 y) ∧ w.cell? ⟨bQ, 1, none⟩ = some (.int .i64 m) ∧ w.cell? ⟨bQ, 2, none⟩ = some (.int .i64 d) ∧ w.cell? ⟨bO, 0, none⟩ = some (.int .i64 o) ∧ w.cell? ⟨bN, 0, none⟩ = some (.int .i64 p) ∧ w.cell? ⟨bN, 1, none⟩ = some (.int .i64 q) ∧ w.cell? ⟨bN, 2, none⟩ = some (.int .i64 r) := ⟨h.a0, h.a1, h.a2, h.a3, h.a4, h.a5, h.a6, h.a7⟩
theorem S8.set {w : World} {bC bQ bO bN b k : Nat} {c y m d o p q r : Int} {u : Value} (h : S8 w bC bQ bO bN c y m d o p q r) (n : b ≠ bC ∧ b ≠ bQ ∧ b ≠ bO ∧ b ≠ bN) : S8 (w.setCell ⟨b, k, none⟩ u) bC bQ bO bN c y m d o p q r :=
  ⟨set_blk h.a0 n.1, set_blk h.a1 n.2.1, set_blk h.a2 n.2.1, set_blk h.a3 n.2.1, set_blk h.a4 n.2.2.1, set_blk h.a5 n.2.2.2, set_blk h.a6 n.2.2.2, set_blk h.a7 n.2.2.2⟩
theorem S8.drew {w : World} {bC bQ bO bN : Nat} {c y m d o p q r : Int} (h : S8 w bC bQ bO bN c y m d o p q r) : S8 w.drew bC bQ bO bN c y m d o p q r := ⟨h.a0, h.a1, h.a2, h.a3, h.a4, h.a5, h.a6, h.a7⟩
theorem l03Date_ex {c n : Int} (h1 : 0 ≤ n) (h2 : n ≤ 730499) (hc : 2 ≤ c) (w : World) :
    Calls Try.prog 134 #[.agg #[.int .i64 c], .int .i64 n] w fun e w' => ∃ (p q r : Int) (b : Bool), e = .returned (.tuple #[.agg #[.int .i64 p, .int .i64 q, .int .i64 r], .bool b]) ∧ Below w.heap.size w w' := by
  by_cases h : n < c
  · exact (l03Date_old h h1 h2 w).mono fun _ _ ⟨a, b⟩ => ⟨_, _, _, _, a, b⟩
  · exact (l03Date_new (by omega) (by omega) h2 rfl rfl w).mono fun _ _ ⟨a, b⟩ => ⟨_, _, _, _, a, b⟩


set_option maxRecDepth 10000 in
set_option maxHeartbeats 8000000 in
theorem drawSameDay_any (v : Value) (n : Nat) (w : World) (h : RB w w.heap.size v n) (hn : n ≤ 4096) :
    Calls Try.prog 79 #[v] w fun e w' => ∃ c y m d o p q r : Int, e = .returned (.tuple #[.agg #[.int .i64 c], .agg #[.int .i64 y, .int .i64 m, .int .i64 d], .agg #[.int .i64 o], .agg #[.int .i64 p, .int .i64 q, .int .i64 r]]) ∧ Below w.heap.size w w' := by
  have hn' : n ≤ 1000000 := by omega
  have r0 := rb_al h (.cells #[.int .i64 0] 54)
  have E0 := D1.made w 0 54
  have A0 := below_al (Below.refl w.heap.size w) (.cells #[.int .i64 0] 54)
  have r1 := rb_al r0 (.cells #[.int .i64 0, .int .i64 0, .int .i64 0] 43)
  have E0 := E0.al (.cells #[.int .i64 0, .int .i64 0, .int .i64 0] 43)
  have E1 := D3.made (w.alloc (.cells #[.int .i64 0] 54)) 0 0 0 43
  simp only [World.size_alloc] at E1
  have A1 := below_al A0 (.cells #[.int .i64 0, .int .i64 0, .int .i64 0] 43)
  have r2 := rb_al r1 (.cells #[.int .i64 0] 54)
  have E0 := E0.al (.cells #[.int .i64 0] 54)
  have E1 := E1.al (.cells #[.int .i64 0] 54)
  have E2 := D1.made ((w.alloc (.cells #[.int .i64 0] 54)).alloc (.cells #[.int .i64 0, .int .i64 0, .int .i64 0] 43)) 0 54
  simp only [World.size_alloc] at E2
  have A2 := below_al A1 (.cells #[.int .i64 0] 54)
  have r3 := rb_al r2 (.cells #[.int .i64 0, .int .i64 0, .int .i64 0] 43)
  have E0 := E0.al (.cells #[.int .i64 0, .int .i64 0, .int .i64 0] 43)
  have E1 := E1.al (.cells #[.int .i64 0, .int .i64 0, .int .i64 0] 43)
  have E2 := E2.al (.cells #[.int .i64 0, .int .i64 0, .int .i64 0] 43)
  have E3 := D3.made (((w.alloc (.cells #[.int .i64 0] 54)).alloc (.cells #[.int .i64 0, .int .i64 0, .int .i64 0] 43)).alloc (.cells #[.int .i64 0] 54)) 0 0 0 43
  simp only [World.size_alloc] at E3
  have A3 := below_al A2 (.cells #[.int .i64 0, .int .i64 0, .int .i64 0] 43)
  go_enter Try.func79, Try.ntmps79
  go_wp2_with fail
  refine (l01From_any v n _ r3 (by omega)).mono ?_
  rintro e w0 ⟨rfl, S0, b0⟩
  have E0 := E0.below b0
  have E1 := E1.below b0
  have E2 := E2.below b0
  have E3 := E3.below b0
  have B0 := below_tt A3 b0
  simp only [World.size_alloc] at S0 ⊢
  have ne0 : w.heap.size ≠ w.heap.size + 4 := by omega
  have ne1 : w.heap.size + 1 ≠ w.heap.size + 4 := by omega
  have ne2 : w.heap.size + 2 ≠ w.heap.size + 4 := by omega
  have ne3 : w.heap.size + 3 ≠ w.heap.size + 4 := by omega
  go_wp2_with fail
  refine (l03DrawDate_any S0 hn').mono ?_
  rintro e w1 ⟨c, y, m, d, rfl, hc, S1, g1⟩
  have E0 := E0.src g1 ne0
  have E1 := E1.src g1 ne1
  have E2 := E2.src g1 ne2
  have E3 := E3.src g1 ne3
  have B1 := below_gb B0 g1 B0.size (by omega)
  obtain ⟨c1, c2⟩ := hc
  have E0 := E0.al (.cells #[.int .i64 c] 54)
  have E1 := E1.al (.cells #[.int .i64 c] 54)
  have E2 := E2.al (.cells #[.int .i64 c] 54)
  have E3 := E3.al (.cells #[.int .i64 c] 54)
  have C := D1.made w1 c 54
  have neC := Nat.ne_of_gt S1.hB
  have SbC := S1.al (.cells #[.int .i64 c] 54)
  have BbC := below_al B1 (.cells #[.int .i64 c] 54)
  have E0 := E0.al (.cells #[.int .i64 y, .int .i64 m, .int .i64 d] 43)
  have E1 := E1.al (.cells #[.int .i64 y, .int .i64 m, .int .i64 d] 43)
  have E2 := E2.al (.cells #[.int .i64 y, .int .i64 m, .int .i64 d] 43)
  have E3 := E3.al (.cells #[.int .i64 y, .int .i64 m, .int .i64 d] 43)
  have C := C.al (.cells #[.int .i64 y, .int .i64 m, .int .i64 d] 43)
  have Q := D3.made (w1.alloc (.cells #[.int .i64 c] 54)) y m d 43
  simp only [World.size_alloc] at Q
  have neQ := Nat.ne_of_gt SbC.hB
  simp only [World.size_alloc] at neQ
  have SbQ := SbC.al (.cells #[.int .i64 y, .int .i64 m, .int .i64 d] 43)
  have BbQ := below_al BbC (.cells #[.int .i64 y, .int .i64 m, .int .i64 d] 43)
  go_wp2_with fail
  refine (l03Draw_any SbQ hn').mono ?_
  rintro e w2 ⟨o, rfl, ho, S2, g2⟩
  have E0 := E0.src g2 ne0
  have E1 := E1.src g2 ne1
  have E2 := E2.src g2 ne2
  have E3 := E3.src g2 ne3
  have C := C.src g2 neC
  have Q := Q.src g2 neQ
  have B2 := below_gb BbQ g2 BbQ.size (by omega)
  obtain ⟨o1, o2⟩ := ho
  have E0 := E0.al (.cells #[.int .i64 o] 54)
  have E1 := E1.al (.cells #[.int .i64 o] 54)
  have E2 := E2.al (.cells #[.int .i64 o] 54)
  have E3 := E3.al (.cells #[.int .i64 o] 54)
  have C := C.al (.cells #[.int .i64 o] 54)
  have Q := Q.al (.cells #[.int .i64 o] 54)
  have O := D1.made w2 o 54
  have neO := Nat.ne_of_gt S2.hB
  have SbO := S2.al (.cells #[.int .i64 o] 54)
  have BbO := below_al B2 (.cells #[.int .i64 o] 54)
  have E0c := E0.c0
  have E0f := E0.fr
  have E1c0 := E1.c0
  have E1f0 := E1.fr 0
  have E1c1 := E1.c1
  have E1f1 := E1.fr 1
  have E1c2 := E1.c2
  have E1f2 := E1.fr 2
  have E2c := E2.c0
  have E2f := E2.fr
  have E3c0 := E3.c0
  have E3f0 := E3.fr 0
  have E3c1 := E3.c1
  have E3f1 := E3.fr 1
  have E3c2 := E3.c2
  have E3f2 := E3.fr 2
  have Cc := C.c0
  have Cf := C.fr
  have Qc0 := Q.c0
  have Qf0 := Q.fr 0
  have Qc1 := Q.c1
  have Qf1 := Q.fr 1
  have Qc2 := Q.c2
  have Qf2 := Q.fr 2
  have Oc := O.c0
  have Of := O.fr
  have hlb := loc_bd (c := c) (y := y) (m := m) (d := d)
  go_wp2_with fail
  refine (l03Day_any c y m d _).mono ?_
  rintro e w3 ⟨rfl, b3⟩
  have E0 := E0.below b3
  have E1 := E1.below b3
  have E2 := E2.below b3
  have E3 := E3.below b3
  have C := C.below b3
  have Q := Q.below b3
  have O := O.below b3
  have S3 := SbO.below b3
  have B3 := below_tt BbO b3
  generalize (locR c y m d).1 = k at hlb ⊢
  cases hok : (locR c y m d).2
  · clear hlb hok
    have E0c := E0.c0
    have E0f := E0.fr
    have E1c0 := E1.c0
    have E1f0 := E1.fr 0
    have E1c1 := E1.c1
    have E1f1 := E1.fr 1
    have E1c2 := E1.c2
    have E1f2 := E1.fr 2
    have E2c := E2.c0
    have E2f := E2.fr
    have E3c0 := E3.c0
    have E3f0 := E3.fr 0
    have E3c1 := E3.c1
    have E3f1 := E3.fr 1
    have E3c2 := E3.c2
    have E3f2 := E3.fr 2
    have Cc := C.c0
    have Cf := C.fr
    have Qc0 := Q.c0
    have Qf0 := Q.fr 0
    have Qc1 := Q.c1
    have Qf1 := Q.fr 1
    have Qc2 := Q.c2
    have Qf2 := Q.fr 2
    have Oc := O.c0
    have Of := O.fr
    have zz2 : w1.heap.size + 2 ≤ w2.heap.size := by have := g2.size; (try simp at this); omega
    have zz1 : w.heap.size + 4 < w1.heap.size := by have := g1.size; (try simp at this); have := b0.size; (try simp at this); have := S0.hB; omega
    have ne0C : w.heap.size ≠ w1.heap.size := by omega
    have ne0Q : w.heap.size ≠ w1.heap.size + 1 := by omega
    have ne0O : w.heap.size ≠ w2.heap.size := by omega
    have ne1C : w.heap.size + 1 ≠ w1.heap.size := by omega
    have ne1Q : w.heap.size + 1 ≠ w1.heap.size + 1 := by omega
    have ne1O : w.heap.size + 1 ≠ w2.heap.size := by omega
    have ne2C : w.heap.size + 1 + 1 ≠ w1.heap.size := by omega
    have ne2Q : w.heap.size + 1 + 1 ≠ w1.heap.size + 1 := by omega
    have ne2O : w.heap.size + 1 + 1 ≠ w2.heap.size := by omega
    have ne3C : w.heap.size + 1 + 1 + 1 ≠ w1.heap.size := by omega
    have ne3Q : w.heap.size + 1 + 1 + 1 ≠ w1.heap.size + 1 := by omega
    have ne3O : w.heap.size + 1 + 1 + 1 ≠ w2.heap.size := by omega
    go_wp2_with fail
    have Sd := Src.drew S3
    have E0d := E0.drew
    have E1d := E1.drew
    have E2d := E2.drew
    have E3d := E3.drew
    have Cd := C.drew
    have Qd := Q.drew
    have Od := O.drew
    have znE0 : w.heap.size < w1.heap.size := by have := g1.size; (try simp at this); have := b0.size; (try simp at this); omega
    have znE1 : w.heap.size + 1 < w1.heap.size := by have := g1.size; (try simp at this); have := b0.size; (try simp at this); omega
    have znE2 : w.heap.size + 1 + 1 < w1.heap.size := by have := g1.size; (try simp at this); have := b0.size; (try simp at this); omega
    have znE3 : w.heap.size + 1 + 1 + 1 < w1.heap.size := by have := g1.size; (try simp at this); have := b0.size; (try simp at this); omega
    have Gd := Below.drew B3
    have Cdc0 := Cd.c0
    have Qdc0 := Qd.c0
    have Qdc1 := Qd.c1
    have Qdc2 := Qd.c2
    have Odc0 := Od.c0
    go_region_held3 (fun w'' => w''.cell? ⟨w1.heap.size, 0, none⟩ = some (.int .i64 c) ∧ w''.cell? ⟨w1.heap.size + 1, 0, none⟩ = some (.int .i64 y) ∧ w''.cell? ⟨w1.heap.size + 1, 1, none⟩ = some (.int .i64 m) ∧ w''.cell? ⟨w1.heap.size + 1, 2, none⟩ = some (.int .i64 d) ∧ w''.cell? ⟨w2.heap.size, 0, none⟩ = some (.int .i64 o) ) ((refine ⟨?_, ?_, ?_, ?_, ?_⟩ <;> ((repeat (refine set_blk ?_ (by first | with_reducible assumption | omega))); with_reducible assumption))) (first | (go_at_call 114; refine (l01DrawDate_any (by with_reducible assumption) hn').mono ?_; rintro e w4 ⟨p, q, r, rfl, S4, g4⟩; have E0 := D1.src (g := w.heap.size) (c := 0) (by with_reducible assumption) g4 ne0; have E1 := D3.src (g := w.heap.size + 1) (y := 0) (m := 0) (d := 0) (by with_reducible assumption) g4 ne1; have E2 := D1.src (g := w.heap.size + 1 + 1) (c := 0) (by with_reducible assumption) g4 ne2; have E3 := D3.src (g := w.heap.size + 1 + 1 + 1) (y := 0) (m := 0) (d := 0) (by with_reducible assumption) g4 ne3; have C := D1.src (g := w1.heap.size) (c := c) (by with_reducible assumption) g4 neC; have Q := D3.src (g := w1.heap.size + 1) (y := y) (m := m) (d := d) (by with_reducible assumption) g4 neQ; have O := D1.src (g := w2.heap.size) (c := o) (by with_reducible assumption) g4 neO; have B4 := below_gb (by with_reducible assumption) g4 (Below.size (by with_reducible assumption)) (by omega); have Ch0 := C.c0; have Qh0 := Q.c0; have Qh1 := Q.c1; have Qh2 := Q.c2; have Oh0 := O.c0; have E0c := E0.c0; have E0f := E0.fr; have E1c0 := E1.c0; have E1f0 := E1.fr 0; have E1c1 := E1.c1; have E1f1 := E1.fr 1; have E1c2 := E1.c2; have E1f2 := E1.fr 2; have E2c := E2.c0; have E2f := E2.fr; have E3c0 := E3.c0; have E3f0 := E3.fr 0; have E3c1 := E3.c1; have E3f1 := E3.fr 1; have E3c2 := E3.c2; have E3f2 := E3.fr 2))
    have E0c := E0.c0
    have E0f := E0.fr
    have E1c0 := E1.c0
    have E1f0 := E1.fr 0
    have E1c1 := E1.c1
    have E1f1 := E1.fr 1
    have E1c2 := E1.c2
    have E1f2 := E1.fr 2
    have E2c := E2.c0
    have E2f := E2.fr
    have E3c0 := E3.c0
    have E3f0 := E3.fr 0
    have E3c1 := E3.c1
    have E3f1 := E3.fr 1
    have E3c2 := E3.c2
    have E3f2 := E3.fr 2
    have Cc := C.c0
    have Cf := C.fr
    have Qc0 := Q.c0
    have Qf0 := Q.fr 0
    have Qc1 := Q.c1
    have Qf1 := Q.fr 1
    have Qc2 := Q.c2
    have Qf2 := Q.fr 2
    have Oc := O.c0
    have Of := O.fr
    have nn01 : w.heap.size ≠ w.heap.size + 1 := by omega
    have nn02 : w.heap.size ≠ w.heap.size + 1 + 1 := by omega
    have nn03 : w.heap.size ≠ w.heap.size + 1 + 1 + 1 := by omega
    have nn10 : w.heap.size + 1 ≠ w.heap.size := by omega
    have nn12 : w.heap.size + 1 ≠ w.heap.size + 1 + 1 := by omega
    have nn13 : w.heap.size + 1 ≠ w.heap.size + 1 + 1 + 1 := by omega
    have nn20 : w.heap.size + 1 + 1 ≠ w.heap.size := by omega
    have nn21 : w.heap.size + 1 + 1 ≠ w.heap.size + 1 := by omega
    have nn23 : w.heap.size + 1 + 1 ≠ w.heap.size + 1 + 1 + 1 := by omega
    have nn30 : w.heap.size + 1 + 1 + 1 ≠ w.heap.size := by omega
    have nn31 : w.heap.size + 1 + 1 + 1 ≠ w.heap.size + 1 := by omega
    have nn32 : w.heap.size + 1 + 1 + 1 ≠ w.heap.size + 1 + 1 := by omega
    go_wp2_with fail
    refine bodyPost_ret (v := .tuple #[.agg #[.int .i64 c], .agg #[.int .i64 y, .int .i64 m, .int .i64 d], .agg #[.int .i64 o], .agg #[.int .i64 p, .int .i64 q, .int .i64 r]]) (by simp [results, Try.results79, go_sem, *]) rfl ⟨c, y, m, d, o, p, q, r, rfl, ?_⟩
    (repeat' (first | (with_reducible assumption) | (with_reducible exact Nat.le_refl _) | (with_reducible refine Below.setCell ?_ ?_ _) | (with_reducible refine below_al ?_ _) | omega | (dsimp only; omega)))
  · obtain ⟨k1, k2⟩ := hlb hok
    clear hlb hok
    go_wp2_with fail
    refine (l01Next_any 4 S3 hn' (by omega)).mono ?_
    rintro e w4 ⟨x, rfl, hx, S4, g4⟩
    obtain ⟨x1, x2⟩ := inN_bd hx (by omega)
    clear hx
    have E0 := E0.src g4 ne0
    have E1 := E1.src g4 ne1
    have E2 := E2.src g4 ne2
    have E3 := E3.src g4 ne3
    have C := C.src g4 neC
    have Q := Q.src g4 neQ
    have O := O.src g4 neO
    have B4 := below_gb B3 g4 B3.size (by omega)
    by_cases x_x : x = 0
    · subst x_x
      have E0c := E0.c0
      have E0f := E0.fr
      have E1c0 := E1.c0
      have E1f0 := E1.fr 0
      have E1c1 := E1.c1
      have E1f1 := E1.fr 1
      have E1c2 := E1.c2
      have E1f2 := E1.fr 2
      have E2c := E2.c0
      have E2f := E2.fr
      have E3c0 := E3.c0
      have E3f0 := E3.fr 0
      have E3c1 := E3.c1
      have E3f1 := E3.fr 1
      have E3c2 := E3.c2
      have E3f2 := E3.fr 2
      have Cc := C.c0
      have Cf := C.fr
      have Qc0 := Q.c0
      have Qf0 := Q.fr 0
      have Qc1 := Q.c1
      have Qf1 := Q.fr 1
      have Qc2 := Q.c2
      have Qf2 := Q.fr 2
      have Oc := O.c0
      have Of := O.fr
      have zz2 : w1.heap.size + 2 ≤ w2.heap.size := by have := g2.size; (try simp at this); omega
      have zz1 : w.heap.size + 4 < w1.heap.size := by have := g1.size; (try simp at this); have := b0.size; (try simp at this); have := S0.hB; omega
      have ne0C : w.heap.size ≠ w1.heap.size := by omega
      have ne0Q : w.heap.size ≠ w1.heap.size + 1 := by omega
      have ne0O : w.heap.size ≠ w2.heap.size := by omega
      have ne1C : w.heap.size + 1 ≠ w1.heap.size := by omega
      have ne1Q : w.heap.size + 1 ≠ w1.heap.size + 1 := by omega
      have ne1O : w.heap.size + 1 ≠ w2.heap.size := by omega
      have ne2C : w.heap.size + 1 + 1 ≠ w1.heap.size := by omega
      have ne2Q : w.heap.size + 1 + 1 ≠ w1.heap.size + 1 := by omega
      have ne2O : w.heap.size + 1 + 1 ≠ w2.heap.size := by omega
      have ne3C : w.heap.size + 1 + 1 + 1 ≠ w1.heap.size := by omega
      have ne3Q : w.heap.size + 1 + 1 + 1 ≠ w1.heap.size + 1 := by omega
      have ne3O : w.heap.size + 1 + 1 + 1 ≠ w2.heap.size := by omega
      go_wp2_with fail
      have Sd := Src.drew S4
      have E0d := E0.drew
      have E1d := E1.drew
      have E2d := E2.drew
      have E3d := E3.drew
      have Cd := C.drew
      have Qd := Q.drew
      have Od := O.drew
      have znE0 : w.heap.size < w1.heap.size := by have := g1.size; (try simp at this); have := b0.size; (try simp at this); omega
      have znE1 : w.heap.size + 1 < w1.heap.size := by have := g1.size; (try simp at this); have := b0.size; (try simp at this); omega
      have znE2 : w.heap.size + 1 + 1 < w1.heap.size := by have := g1.size; (try simp at this); have := b0.size; (try simp at this); omega
      have znE3 : w.heap.size + 1 + 1 + 1 < w1.heap.size := by have := g1.size; (try simp at this); have := b0.size; (try simp at this); omega
      have Gd := Below.drew B4
      have Cdc0 := Cd.c0
      have Qdc0 := Qd.c0
      have Qdc1 := Qd.c1
      have Qdc2 := Qd.c2
      have Odc0 := Od.c0
      go_region_held3 (fun w'' => w''.cell? ⟨w1.heap.size, 0, none⟩ = some (.int .i64 c) ∧ w''.cell? ⟨w1.heap.size + 1, 0, none⟩ = some (.int .i64 y) ∧ w''.cell? ⟨w1.heap.size + 1, 1, none⟩ = some (.int .i64 m) ∧ w''.cell? ⟨w1.heap.size + 1, 2, none⟩ = some (.int .i64 d) ∧ w''.cell? ⟨w2.heap.size, 0, none⟩ = some (.int .i64 o) ) ((refine ⟨?_, ?_, ?_, ?_, ?_⟩ <;> ((repeat (refine set_blk ?_ (by first | with_reducible assumption | omega))); with_reducible assumption))) (first | (go_at_call 114; refine (l01DrawDate_any (by with_reducible assumption) hn').mono ?_; rintro e w5 ⟨p, q, r, rfl, S5, g5⟩; have E0 := D1.src (g := w.heap.size) (c := 0) (by with_reducible assumption) g5 ne0; have E1 := D3.src (g := w.heap.size + 1) (y := 0) (m := 0) (d := 0) (by with_reducible assumption) g5 ne1; have E2 := D1.src (g := w.heap.size + 1 + 1) (c := 0) (by with_reducible assumption) g5 ne2; have E3 := D3.src (g := w.heap.size + 1 + 1 + 1) (y := 0) (m := 0) (d := 0) (by with_reducible assumption) g5 ne3; have C := D1.src (g := w1.heap.size) (c := c) (by with_reducible assumption) g5 neC; have Q := D3.src (g := w1.heap.size + 1) (y := y) (m := m) (d := d) (by with_reducible assumption) g5 neQ; have O := D1.src (g := w2.heap.size) (c := o) (by with_reducible assumption) g5 neO; have B5 := below_gb (by with_reducible assumption) g5 (Below.size (by with_reducible assumption)) (by omega); have Ch0 := C.c0; have Qh0 := Q.c0; have Qh1 := Q.c1; have Qh2 := Q.c2; have Oh0 := O.c0; have E0c := E0.c0; have E0f := E0.fr; have E1c0 := E1.c0; have E1f0 := E1.fr 0; have E1c1 := E1.c1; have E1f1 := E1.fr 1; have E1c2 := E1.c2; have E1f2 := E1.fr 2; have E2c := E2.c0; have E2f := E2.fr; have E3c0 := E3.c0; have E3f0 := E3.fr 0; have E3c1 := E3.c1; have E3f1 := E3.fr 1; have E3c2 := E3.c2; have E3f2 := E3.fr 2))
      have E0c := E0.c0
      have E0f := E0.fr
      have E1c0 := E1.c0
      have E1f0 := E1.fr 0
      have E1c1 := E1.c1
      have E1f1 := E1.fr 1
      have E1c2 := E1.c2
      have E1f2 := E1.fr 2
      have E2c := E2.c0
      have E2f := E2.fr
      have E3c0 := E3.c0
      have E3f0 := E3.fr 0
      have E3c1 := E3.c1
      have E3f1 := E3.fr 1
      have E3c2 := E3.c2
      have E3f2 := E3.fr 2
      have Cc := C.c0
      have Cf := C.fr
      have Qc0 := Q.c0
      have Qf0 := Q.fr 0
      have Qc1 := Q.c1
      have Qf1 := Q.fr 1
      have Qc2 := Q.c2
      have Qf2 := Q.fr 2
      have Oc := O.c0
      have Of := O.fr
      have nn01 : w.heap.size ≠ w.heap.size + 1 := by omega
      have nn02 : w.heap.size ≠ w.heap.size + 1 + 1 := by omega
      have nn03 : w.heap.size ≠ w.heap.size + 1 + 1 + 1 := by omega
      have nn10 : w.heap.size + 1 ≠ w.heap.size := by omega
      have nn12 : w.heap.size + 1 ≠ w.heap.size + 1 + 1 := by omega
      have nn13 : w.heap.size + 1 ≠ w.heap.size + 1 + 1 + 1 := by omega
      have nn20 : w.heap.size + 1 + 1 ≠ w.heap.size := by omega
      have nn21 : w.heap.size + 1 + 1 ≠ w.heap.size + 1 := by omega
      have nn23 : w.heap.size + 1 + 1 ≠ w.heap.size + 1 + 1 + 1 := by omega
      have nn30 : w.heap.size + 1 + 1 + 1 ≠ w.heap.size := by omega
      have nn31 : w.heap.size + 1 + 1 + 1 ≠ w.heap.size + 1 := by omega
      have nn32 : w.heap.size + 1 + 1 + 1 ≠ w.heap.size + 1 + 1 := by omega
      go_wp2_with fail
      refine bodyPost_ret (v := .tuple #[.agg #[.int .i64 c], .agg #[.int .i64 y, .int .i64 m, .int .i64 d], .agg #[.int .i64 o], .agg #[.int .i64 p, .int .i64 q, .int .i64 r]]) (by simp [results, Try.results79, go_sem, *]) rfl ⟨c, y, m, d, o, p, q, r, rfl, ?_⟩
      (repeat' (first | (with_reducible assumption) | (with_reducible exact Nat.le_refl _) | (with_reducible refine Below.setCell ?_ ?_ _) | (with_reducible refine below_al ?_ _) | omega | (dsimp only; omega)))
    · have d_x : (x == 0) = false := by simpa using x_x
      have E0c := E0.c0
      have E0f := E0.fr
      have E1c0 := E1.c0
      have E1f0 := E1.fr 0
      have E1c1 := E1.c1
      have E1f1 := E1.fr 1
      have E1c2 := E1.c2
      have E1f2 := E1.fr 2
      have E2c := E2.c0
      have E2f := E2.fr
      have E3c0 := E3.c0
      have E3f0 := E3.fr 0
      have E3c1 := E3.c1
      have E3f1 := E3.fr 1
      have E3c2 := E3.c2
      have E3f2 := E3.fr 2
      have Cc := C.c0
      have Cf := C.fr
      have Qc0 := Q.c0
      have Qf0 := Q.fr 0
      have Qc1 := Q.c1
      have Qf1 := Q.fr 1
      have Qc2 := Q.c2
      have Qf2 := Q.fr 2
      have Oc := O.c0
      have Of := O.fr
      have zz2 : w1.heap.size + 2 ≤ w2.heap.size := by have := g2.size; (try simp at this); omega
      have zz1 : w.heap.size + 4 < w1.heap.size := by have := g1.size; (try simp at this); have := b0.size; (try simp at this); have := S0.hB; omega
      have ne0C : w.heap.size ≠ w1.heap.size := by omega
      have ne0Q : w.heap.size ≠ w1.heap.size + 1 := by omega
      have ne0O : w.heap.size ≠ w2.heap.size := by omega
      have ne1C : w.heap.size + 1 ≠ w1.heap.size := by omega
      have ne1Q : w.heap.size + 1 ≠ w1.heap.size + 1 := by omega
      have ne1O : w.heap.size + 1 ≠ w2.heap.size := by omega
      have ne2C : w.heap.size + 1 + 1 ≠ w1.heap.size := by omega
      have ne2Q : w.heap.size + 1 + 1 ≠ w1.heap.size + 1 := by omega
      have ne2O : w.heap.size + 1 + 1 ≠ w2.heap.size := by omega
      have ne3C : w.heap.size + 1 + 1 + 1 ≠ w1.heap.size := by omega
      have ne3Q : w.heap.size + 1 + 1 + 1 ≠ w1.heap.size + 1 := by omega
      have ne3O : w.heap.size + 1 + 1 + 1 ≠ w2.heap.size := by omega
      have Sd := Src.drew S4
      have ltE0 := E0.lt
      have ltE1 := E1.lt
      have ltE2 := E2.lt
      have ltE3 := E3.lt
      have ltC := C.lt
      have ltQ := Q.lt
      have ltO := O.lt
      have SBB := S4.hB
      have K : DS w _ (w.heap.size + 4) (w1.heap.size) (w1.heap.size + 1) (w2.heap.size) c y m d o := ⟨ne0, ne1, ne2, ne3, neC, neQ, neO, by omega, E0, E1, E2, E3, C, Q, O, B4⟩
      have Oh0 := K.O.c0
      have Kd := K.drew
      clear E0 E1 E2 E3 C Q O B4
      go_upto_region 7 with fail
      go_cut [12, 13] from 36 (fun s12 s13 wx => ∃ (g : Nat) (p q r : Int), s12 = .pointer (some ⟨g, 0, none⟩) ∧ w.heap.size + 4 < g ∧ D3 wx g p q r ∧ DS w wx (w.heap.size + 4) (w1.heap.size) (w1.heap.size + 1) (w2.heap.size) c y m d o)
      case first =>
        have ho2 : 2 ≤ o := by omega
        go_region_held3 (fun w'' => w''.cell? ⟨w2.heap.size, 0, none⟩ = some (.int .i64 o)) ((refine (DS.O (w := w) (B := w.heap.size + 4) (bC := w1.heap.size) (bQ := w1.heap.size + 1) (c := c) (y := y) (m := m) (d := d) ?_).c0; (repeat' (first | with_reducible assumption | (with_reducible refine DS.drew ?_) | (with_reducible refine DS.al ?_ _) | (with_reducible refine DS.set ?_ ?_ ?_ ?_ ?_) | omega)))) (first | (go_at_call 126; refine (l01Next_any 10 (by first | with_reducible assumption | exact Src.al (by with_reducible assumption) _) hn' (by omega)).mono ?_; rintro e w5 ⟨u, rfl, hu, S5, g5⟩; have K5 := DS.src (by first | with_reducible assumption | exact DS.al (by with_reducible assumption) _) g5; have Oh0 := K5.O.c0; have lO5 := K5.O.lt; have lC5 := K5.C.lt; have lQ5 := K5.Q.lt; have lE5 := K5.E3.lt; (first | (have A := D3.src (D3.made _ 0 0 0 _) g5 (by omega); have Ac0 := A.c0; have Ac1 := A.c1; have Ac2 := A.c2; have Af := A.fr; have Al := A.lt) | (have A := D3.src (D3.drew (D3.made _ 0 0 0 _)) g5 (by omega); have Ac0 := A.c0; have Ac1 := A.c1; have Ac2 := A.c2; have Af := A.fr; have Al := A.lt) | (have A := D3.src (D3.drew (D3.drew (D3.made _ 0 0 0 _))) g5 (by omega); have Ac0 := A.c0; have Ac1 := A.c1; have Ac2 := A.c2; have Af := A.fr; have Al := A.lt) | skip); obtain ⟨u1, u2⟩ := inN_bd hu (by omega); clear hu; have hz0 : 0 ≤ u.tdiv 9 ∧ u.tdiv 9 ≤ 1 := (by rw [Int.tdiv_eq_ediv_of_nonneg (by omega)]; omega); obtain ⟨z, hz⟩ : ∃ z, u.tdiv 9 = z := ⟨_, rfl⟩; rw [hz] at hz0; obtain ⟨hz1, hz2⟩ := hz0; have sz1 : IntKind.i64.wrap z = z := IntWalk.i64_in _ (by omega); have sz2 : IntKind.i64.wrap (k + z) = k + z := IntWalk.i64_in _ (by omega); obtain ⟨M, hM⟩ : ∃ M, min 730400 (k + z) = M := ⟨_, rfl⟩; have hM2 : (if k + z < 730400 then k + z else 730400) = M := (by split <;> omega); have hM3 : 0 ≤ M := (by omega); have hM4 : M ≤ 730499 := (by omega)) | (go_at_call 134; refine (l03Date_ex hM3 hM4 ho2 _).mono ?_; rintro e w6 ⟨p, q, r, bb, rfl, b6⟩; have K6 := DS.below (by first | with_reducible assumption | exact DS.al (by with_reducible assumption) _) b6; have Oh0 := K6.O.c0; have lO6 := K6.O.lt; have lC6 := K6.C.lt; have lQ6 := K6.Q.lt; have lE6 := K6.E3.lt; (first | (have A := D3.below A b6; have Ac0 := A.c0; have Ac1 := A.c1; have Ac2 := A.c2; have Af := A.fr; have Al := A.lt) | (have A := D3.below (D3.drew A) b6; have Ac0 := A.c0; have Ac1 := A.c1; have Ac2 := A.c2; have Af := A.fr; have Al := A.lt) | (have A := D3.below (D3.drew (D3.drew A)) b6; have Ac0 := A.c0; have Ac1 := A.c1; have Ac2 := A.c2; have Af := A.fr; have Al := A.lt) | (have A := D3.below (D3.made _ 0 0 0 _) b6; have Ac0 := A.c0; have Ac1 := A.c1; have Ac2 := A.c2; have Af := A.fr; have Al := A.lt) | (have A := D3.below (D3.drew (D3.made _ 0 0 0 _)) b6; have Ac0 := A.c0; have Ac1 := A.c1; have Ac2 := A.c2; have Af := A.fr; have Al := A.lt) | (have A := D3.below (D3.drew (D3.drew (D3.made _ 0 0 0 _))) b6; have Ac0 := A.c0; have Ac1 := A.c1; have Ac2 := A.c2; have Af := A.fr; have Al := A.lt) | skip)))
        all_goals (go_wp2_with fail)
        all_goals (go_meet; refine ⟨_, p, q, r, rfl, ?_, ?_, ?_⟩)
        all_goals (repeat' (first | (with_reducible assumption) | (with_reducible exact D3.made _ _ _ _ _) | (with_reducible refine DS.drew ?_) | (with_reducible refine D3.drew ?_) | (with_reducible refine DS.al ?_ _) | (with_reducible refine D3.al ?_ _) | (with_reducible refine D3.set2 (d := 0) ?_ _) | (with_reducible refine D3.set1 (m := 0) ?_ _) | (with_reducible refine D3.set0 (y := 0) ?_ _) | (with_reducible refine DS.set ?_ ?_ ?_ ?_ ?_) | omega | (simp; omega)))
      skip
      obtain ⟨gN, p, q, r, rfl, gN4, N, K⟩ := hcut
      have E0 := K.E0
      have E1 := K.E1
      have E2 := K.E2
      have E3 := K.E3
      have C := K.C
      have Q := K.Q
      have O := K.O
      have BN := K.Bl
      have E0c := E0.c0
      have E0f := E0.fr
      have E1c0 := E1.c0
      have E1f0 := E1.fr 0
      have E1c1 := E1.c1
      have E1f1 := E1.fr 1
      have E1c2 := E1.c2
      have E1f2 := E1.fr 2
      have E2c := E2.c0
      have E2f := E2.fr
      have E3c0 := E3.c0
      have E3f0 := E3.fr 0
      have E3c1 := E3.c1
      have E3f1 := E3.fr 1
      have E3c2 := E3.c2
      have E3f2 := E3.fr 2
      have Cc := C.c0
      have Cf := C.fr
      have Qc0 := Q.c0
      have Qf0 := Q.fr 0
      have Qc1 := Q.c1
      have Qf1 := Q.fr 1
      have Qc2 := Q.c2
      have Qf2 := Q.fr 2
      have Oc := O.c0
      have Of := O.fr
      have Nc0 := N.c0
      have Nf0 := N.fr 0
      have Nc1 := N.c1
      have Nf1 := N.fr 1
      have Nc2 := N.c2
      have Nf2 := N.fr 2
      have nn01 : w.heap.size ≠ w.heap.size + 1 := by omega
      have nn02 : w.heap.size ≠ w.heap.size + 1 + 1 := by omega
      have nn03 : w.heap.size ≠ w.heap.size + 1 + 1 + 1 := by omega
      have nn10 : w.heap.size + 1 ≠ w.heap.size := by omega
      have nn12 : w.heap.size + 1 ≠ w.heap.size + 1 + 1 := by omega
      have nn13 : w.heap.size + 1 ≠ w.heap.size + 1 + 1 + 1 := by omega
      have nn20 : w.heap.size + 1 + 1 ≠ w.heap.size := by omega
      have nn21 : w.heap.size + 1 + 1 ≠ w.heap.size + 1 := by omega
      have nn23 : w.heap.size + 1 + 1 ≠ w.heap.size + 1 + 1 + 1 := by omega
      have nn30 : w.heap.size + 1 + 1 + 1 ≠ w.heap.size := by omega
      have nn31 : w.heap.size + 1 + 1 + 1 ≠ w.heap.size + 1 := by omega
      have nn32 : w.heap.size + 1 + 1 + 1 ≠ w.heap.size + 1 + 1 := by omega
      go_wp2_with fail
      have BN9 := BN.drew
      have E09 := E0.drew
      have lt9E0 := E0.lt
      have E19 := E1.drew
      have lt9E1 := E1.lt
      have E29 := E2.drew
      have lt9E2 := E2.lt
      have E39 := E3.drew
      have lt9E3 := E3.lt
      have C9 := C.drew
      have lt9C := C.lt
      have Q9 := Q.drew
      have lt9Q := Q.lt
      have O9 := O.drew
      have lt9O := O.lt
      have N9 := N.drew
      have lt9N := N.lt
      have C9c0 := C9.c0
      have Q9c0 := Q9.c0
      have Q9c1 := Q9.c1
      have Q9c2 := Q9.c2
      have O9c0 := O9.c0
      have N9c0 := N9.c0
      have N9c1 := N9.c1
      have N9c2 := N9.c2
      have hs8 : S8 _ (w1.heap.size) (w1.heap.size + 1) (w2.heap.size) (gN) c y m d o p q r := ⟨C.c0, Q.c0, Q.c1, Q.c2, O.c0, N.c0, N.c1, N.c2⟩
      have hs9 : S8 _ (w1.heap.size) (w1.heap.size + 1) (w2.heap.size) (gN) c y m d o p q r := ⟨C9.c0, Q9.c0, Q9.c1, Q9.c2, O9.c0, N9.c0, N9.c1, N9.c2⟩
      have lCC := C.lt
      have lQQ := Q.lt
      have lOO := O.lt
      have nn0x : w.heap.size ≠ w1.heap.size ∧ w.heap.size ≠ w1.heap.size + 1 ∧ w.heap.size ≠ w2.heap.size ∧ w.heap.size ≠ gN := ⟨by omega, by omega, by omega, by omega⟩
      have nn1x : w.heap.size + 1 ≠ w1.heap.size ∧ w.heap.size + 1 ≠ w1.heap.size + 1 ∧ w.heap.size + 1 ≠ w2.heap.size ∧ w.heap.size + 1 ≠ gN := ⟨by omega, by omega, by omega, by omega⟩
      have nn2x : w.heap.size + 1 + 1 ≠ w1.heap.size ∧ w.heap.size + 1 + 1 ≠ w1.heap.size + 1 ∧ w.heap.size + 1 + 1 ≠ w2.heap.size ∧ w.heap.size + 1 + 1 ≠ gN := ⟨by omega, by omega, by omega, by omega⟩
      have nn3x : w.heap.size + 1 + 1 + 1 ≠ w1.heap.size ∧ w.heap.size + 1 + 1 + 1 ≠ w1.heap.size + 1 ∧ w.heap.size + 1 + 1 + 1 ≠ w2.heap.size ∧ w.heap.size + 1 + 1 + 1 ≠ gN := ⟨by omega, by omega, by omega, by omega⟩
      go_region_held3 (fun w'' => w''.cell? ⟨w1.heap.size, 0, none⟩ = some (.int .i64 c) ∧ w''.cell? ⟨w1.heap.size + 1, 0, none⟩ = some (.int .i64 y) ∧ w''.cell? ⟨w1.heap.size + 1, 1, none⟩ = some (.int .i64 m) ∧ w''.cell? ⟨w1.heap.size + 1, 2, none⟩ = some (.int .i64 d) ∧ w''.cell? ⟨w2.heap.size, 0, none⟩ = some (.int .i64 o) ∧ w''.cell? ⟨gN, 0, none⟩ = some (.int .i64 p) ∧ w''.cell? ⟨gN, 1, none⟩ = some (.int .i64 q) ∧ w''.cell? ⟨gN, 2, none⟩ = some (.int .i64 r)) ((refine S8.out ?_; (repeat (first | with_reducible refine S8.drew ?_ | with_reducible refine S8.set ?_ (by with_reducible assumption))); with_reducible assumption)) (fail)
      go_wp2_with fail
      refine bodyPost_ret (v := .tuple #[.agg #[.int .i64 c], .agg #[.int .i64 y, .int .i64 m, .int .i64 d], .agg #[.int .i64 o], .agg #[.int .i64 p, .int .i64 q, .int .i64 r]]) (by simp [results, Try.results79, go_sem, *]) rfl ⟨c, y, m, d, o, p, q, r, rfl, ?_⟩
      (repeat' (first | (with_reducible assumption) | (with_reducible exact Nat.le_refl _) | (with_reducible refine Below.setCell ?_ ?_ _) | (with_reducible refine Below.drew ?_) | (with_reducible refine below_al ?_ _) | omega | (dsimp only; omega)))
end Go.Proofs.Yticnkjpgjcddcaa
