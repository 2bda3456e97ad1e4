/- The reference's source of numbers: what it hands out lies in its range; nothing but its own block is turned. -/
import Derived.Test.YtpinngcdojbndaaGreatDoorBase
import Derived.Lib.Hide
import Derived.Deep.LoopGhost
import Derived.Test.YtpinngcdojbndaaGreatDoorTail
namespace Go.Proofs.YtpinngcdojbndaaGreatDoor
open Go.RowKit

/-- A slice of n bytes below block base. -/
def RB (w : World) (base : Nat) (v : Value) (n : Nat) : Prop :=
  (n = 0 ∧ ∃ a cap, v = .slice a 0 cap) ∨ (∃ b off cap, v = .slice (some ⟨b, off, none⟩) n cap ∧ b < base ∧ b < w.heap.size ∧ ∀ i, i < n → ∃ x : Int, 0 ≤ x ∧ x ≤ 255 ∧ w.cell? ⟨b, off + i, none⟩ = some (.int .u8 x))
theorem RB.val {w : World} {base : Nat} {v : Value} {n : Nat} (h : RB w base v n) : ∃ a cap, v = .slice a n cap := by
  rcases h with ⟨rfl, a, cap, rfl⟩ | ⟨b, off, cap, rfl, _⟩
  · exact ⟨a, cap, rfl⟩
  · exact ⟨_, cap, rfl⟩
theorem RB.keep {w w' : World} {base : Nat} {v : Value} {n : Nat} (h : RB w base v n) (hs : w.heap.size ≤ w'.heap.size) (hc : ∀ b o, b < base → b < w.heap.size → w'.cell? ⟨b, o, none⟩ = w.cell? ⟨b, o, none⟩) : RB w' base v n := by
  rcases h with h | ⟨b, off, cap, hv, hb, hlt, hx⟩
  · exact Or.inl h
  · refine Or.inr ⟨b, off, cap, hv, hb, Nat.lt_of_lt_of_le hlt hs, fun i hi => ?_⟩
    obtain ⟨x, h0, h1, hcx⟩ := hx i hi
    exact ⟨x, h0, h1, (hc b _ hb hlt).trans hcx⟩
theorem RB.more {w : World} {base base' : Nat} {v : Value} {n : Nat} (h : RB w base v n) (hb : base ≤ base') : RB w base' v n := by
  rcases h with h | ⟨b, off, cap, hv, hlt, h2⟩
  · exact Or.inl h
  · exact Or.inr ⟨b, off, cap, hv, Nat.lt_of_lt_of_le hlt hb, h2⟩
theorem RB.below {w w' : World} {base : Nat} {v : Value} {n : Nat} (h : RB w base v n) (hb : Below w.heap.size w w') : RB w' base v n := h.keep hb.size fun b o _ hlt => hb.cell (p := ⟨b, o, none⟩) hlt
theorem RB.at_ {w : World} {base : Nat} {v : Value} {n i : Nat} (h : RB w base v n) (hi : i < n) : ∃ b off cap x, v = .slice (some ⟨b, off, none⟩) n cap ∧ b < base ∧ b < w.heap.size ∧ 0 ≤ x ∧ x ≤ 255 ∧ w.cell? ⟨b, off + i, none⟩ = some (.int .u8 x) := by
  rcases h with ⟨h0, _⟩ | ⟨b, off, cap, hv, hb, hlt, hx⟩
  · omega
  · obtain ⟨x, h1, h2, h3⟩ := hx i hi
    exact ⟨b, off, cap, x, hv, hb, hlt, h1, h2, h3⟩

/-- The source in block B: its code, how far it has been read, its seed. -/
structure SrcC (w : World) (base B : Nat) (v : Value) (n k : Nat) (sd : Int) : Prop where
  hb : base ≤ B
  hB : B < w.heap.size
  c0 : w.cell? ⟨B, 0, none⟩ = some v
  c1 : w.cell? ⟨B, 1, none⟩ = some (.int .i64 k)
  c2 : w.cell? ⟨B, 2, none⟩ = some (.int .i64 sd)
  fr : ∀ i, w.frozen? ⟨B, i, none⟩ = false
  rb : RB w base v n
  hk : k ≤ n
  h1 : 0 ≤ sd
  h2 : sd ≤ 2147483646
def Src (w : World) (base B : Nat) (v : Value) (n : Nat) : Prop := ∃ k sd, SrcC w base B v n k sd
theorem set_other {w : World} {b o c p : Nat} {v u : Value} (h : w.cell? ⟨c, p, none⟩ = some u) (hne : b ≠ c ∨ o ≠ p) : (w.setCell ⟨b, o, none⟩ v).cell? ⟨c, p, none⟩ = some u := by
  rw [World.cell?_setCell_other _ _ _ _ (by intro e; simp at e; omega)]; exact h
theorem rb_set {w : World} {base B o n : Nat} {v u : Value} (h : RB w base v n) (hb : base ≤ B) : RB (w.setCell ⟨B, o, none⟩ u) base v n :=
  h.keep (by simp) fun b p hlt _ => World.cell?_setCell_other _ _ _ _ (by intro e; injection e with e1; omega)
theorem SrcC.setSeed {w : World} {base B n k : Nat} {v : Value} {sd s2 : Int} (h : SrcC w base B v n k sd) (h1 : 0 ≤ s2) (h2 : s2 ≤ 2147483646) : SrcC (w.setCell ⟨B, 2, none⟩ (.int .i64 s2)) base B v n k s2 :=
  ⟨h.hb, by simpa using h.hB, set_other h.c0 (by omega), set_other h.c1 (by omega), World.cell?_setCell_same _ _ _ h.c2, fun i => (World.frozen?_setCell _ _ _ _).trans (h.fr i), rb_set h.rb h.hb, h.hk, h1, h2⟩
theorem SrcC.setAt {w : World} {base B n k k' : Nat} {v : Value} {sd : Int} (h : SrcC w base B v n k sd) (hk : k' ≤ n) : SrcC (w.setCell ⟨B, 1, none⟩ (.int .i64 k')) base B v n k' sd :=
  ⟨h.hb, by simpa using h.hB, set_other h.c0 (by omega), World.cell?_setCell_same _ _ _ h.c1, set_other h.c2 (by omega), fun i => (World.frozen?_setCell _ _ _ _).trans (h.fr i), rb_set h.rb h.hb, hk, h.h1, h.h2⟩
theorem SrcC.drewN {w : World} {base B n k : Nat} {v : Value} {sd : Int} (h : SrcC w base B v n k sd) (m : Nat) : SrcC (w.drewN m) base B v n k sd :=
  ⟨h.hb, h.hB, h.c0, h.c1, h.c2, h.fr, h.rb, h.hk, h.h1, h.h2⟩
theorem SrcC.drew {w : World} {base B n k : Nat} {v : Value} {sd : Int} (h : SrcC w base B v n k sd) : SrcC w.drew base B v n k sd :=
  ⟨h.hb, h.hB, h.c0, h.c1, h.c2, h.fr, h.rb, h.hk, h.h1, h.h2⟩
theorem SrcC.below {w w' : World} {base B n k : Nat} {v : Value} {sd : Int} (h : SrcC w base B v n k sd) (hb : Below w.heap.size w w') : SrcC w' base B v n k sd :=
  ⟨h.hb, Nat.lt_of_lt_of_le h.hB hb.size, (hb.cell (p := ⟨B, 0, none⟩) h.hB).trans h.c0, (hb.cell (p := ⟨B, 1, none⟩) h.hB).trans h.c1, (hb.cell (p := ⟨B, 2, none⟩) h.hB).trans h.c2, fun i => (hb.frozen (p := ⟨B, i, none⟩) h.hB).trans (h.fr i), h.rb.below hb, h.hk, h.h1, h.h2⟩
theorem Src.below {w w' : World} {base B n : Nat} {v : Value} (h : Src w base B v n) (hb : Below w.heap.size w w') : Src w' base B v n := by
  obtain ⟨k, sd, h⟩ := h; exact ⟨k, sd, h.below hb⟩
/-- A step that turns no block but the source's. -/
theorem gb_drewN {a w : World} {row : Option Nat} (h : a.grownBy w row) (n : Nat) : a.grownBy (w.drewN n) row := ⟨h.os, h.tape, h.output, h.size, h.block⟩
theorem gb_drew {a w : World} {row : Option Nat} (h : a.grownBy w row) : a.grownBy w.drew row := ⟨h.os, h.tape, h.output, h.size, h.block⟩
theorem gb_set {a w : World} {g : Nat} (h : a.grownBy w (some g)) (o : Nat) (u : Value) : a.grownBy (w.setCell ⟨g, o, none⟩ u) (some g) :=
  ⟨h.os, h.tape, h.output, by simpa using h.size, fun i hi hne => (Below.heap_setCell w ⟨g, o, none⟩ u i (by rintro rfl; exact hne rfl)).trans (h.block i hi hne)⟩
theorem gb_below {a w w' : World} {row : Option Nat} (h : a.grownBy w row) (hb : Below w.heap.size w w') : a.grownBy w' row :=
  ⟨hb.os.trans h.os, hb.tape.trans h.tape, hb.output.trans h.output, Nat.le_trans h.size hb.size, fun i hi hne => (hb.block i (Nat.lt_of_lt_of_le hi h.size)).trans (h.block i hi hne)⟩
theorem gb_alloc {a w : World} {row : Option Nat} (h : a.grownBy w row) (o : Obj) : a.grownBy (w.alloc o) row := gb_below h ((Below.refl _ _).alloc (Nat.le_refl _) o)
theorem below_gb {B0 g : Nat} {w0 w w' : World} (hB : Below B0 w0 w) (hg : w.grownBy w' (some g)) (h1 : B0 ≤ w.heap.size) (h2 : B0 ≤ g) : Below B0 w0 w' := hB.grown hg h1 (fun k hk => by injection hk with e; omega)

/-- What the source hands out below m. -/
def inN (x m : Int) : Prop := 0 ≤ x ∧ (x < m ∨ x = 0)
theorem inN_mod {a m : Int} (_ha : 0 ≤ a) (hm : 1 < m) : inN (a % m) m := ⟨Int.emod_nonneg _ (by omega), Or.inl (Int.emod_lt_of_pos _ (by omega))⟩

set_option maxRecDepth 10000 in
set_option maxHeartbeats 2000000 in
theorem l01Next_any {base B : Nat} {v : Value} {n : Nat} (m : Int) {w : World} (h : Src w base B v n) (hn : n ≤ 1000000) (hm : m ≤ 1000000000000) :
    Calls Tryz.prog 22 #[.pointer (some ⟨B, 0, none⟩), .int .i64 m] w fun e w' => ∃ x : Int, e = .returned (.int .i64 x) ∧ inN x m ∧ Src w' base B v n ∧ w.grownBy w' (some B) := by
  by_cases h1 : m ≤ 1
  · go_enter Tryz.func22, Tryz.ntmps22
    go_wp2
    go_ret
    exact ⟨0, rfl, ⟨by omega, by omega⟩, h, World.grownBy.refl _ _⟩
  · obtain ⟨k, sd, hS⟩ := h
    obtain ⟨a, cap, hv⟩ := hS.rb.val
    obtain ⟨s2, hs2⟩ : ∃ s2, (sd * 48271 + 67) % 2147483647 = s2 := ⟨_, rfl⟩
    have b1 := hS.h1
    have b2 := hS.h2
    have b3 : 0 ≤ s2 := by omega
    have b4 : s2 ≤ 2147483646 := by omega
    obtain ⟨q, hq⟩ : ∃ q, s2 / 43 = q := ⟨_, rfl⟩
    have b5 : 0 ≤ q := by omega
    have b6 : q ≤ 50000000 := by omega
    have c2 := hS.c2
    have f2 := hS.fr 2
    have hk := hS.hk
    have h1' : ¬ m ≤ 1 := h1
    have hS1 := hS.setSeed b3 b4
    have hG1 := gb_set (World.grownBy.refl w (some B)) 2 (.int .i64 s2)
    go_enter Tryz.func22, Tryz.ntmps22
    go_wp2
    clear hs2 hq
    generalize w.setCell ⟨B, 2, none⟩ (.int .i64 s2) = w1 at hS1 hG1 ⊢
    clear c2 f2 hS
    have c0 := hS1.c0
    have c1 := hS1.c1
    subst hv
    by_cases hkn : k < n
    · have d1 : decide ((k : Int) < (n : Int)) = true := decide_eq_true (by omega)
      have d1' : decide (k < n) = true := decide_eq_true hkn
      go_quiet (fail)
      have hS2 := hS1.drewN nq
      have hG2 := gb_drewN hG1 nq
      generalize w1.drewN nq = w2 at hS2 hG2 ⊢
      clear c0 c1 hS1 hG1
      have c0 := hS2.c0
      have c1 := hS2.c1
      obtain ⟨b, off, cap', x, hvv, hb1, hb2, hx1, hx2, hcx⟩ := hS2.rb.at_ hkn
      injection hvv with e1 e2 e3
      subst e1 e3
      have i1 : (0 : Int) ≤ (k : Int) := by omega
      have i2 : (k : Int) < (n : Int) := by omega
      have f1 := hS2.fr 1
      have hne := hS2.hb
      go_wp2
      go_quiet (fail)
      have hS3 := hS2.drewN nq
      have hG3 := gb_drewN hG2 nq
      generalize w2.drewN nq = w3 at hS3 hG3 ⊢
      clear c0 c1 hS2 hG2 hcx f1
      have c1 := hS3.c1
      have f1 := hS3.fr 1
      have hS4 := hS3.setAt (k' := k + 1) (by omega)
      rw [show ((k + 1 : Nat) : Int) = (k : Int) + 1 by omega] at hS4
      have hG4 := gb_set hG3 1 (.int .i64 ((k : Int) + 1))
      have m1 : 1 < m := by omega
      by_cases h256 : m ≤ 256
      · by_cases hev : ((k : Int) + 1) % 2 = 0
        · have d2 : (((k : Int) + 1) % 2 == 0) = true := by simpa using hev
          have d3 : decide (((k : Int) + 1) % 2 = 0) = true := decide_eq_true hev
          go_wp2
          generalize w3.setCell ⟨B, 1, none⟩ (.int .i64 ((k : Int) + 1)) = w4 at hS4 hG4 ⊢
          clear c1 f1 hS3 hG3
          have c0 := hS4.c0
          have c1 := hS4.c1
          rw [show ((k + 1 : Nat) : Int) = (k : Int) + 1 by omega] at c1
          obtain ⟨b', off', cap2, y, hvv, hb3, hb4, hy1, hy2, hcy⟩ := hS4.rb.at_ hkn
          injection hvv with e1 e2 e3
          injection e1 with e1
          injection e1 with e1 e4 e5
          subst e1 e4 e3
          go_quiet (fail)
          have hS5 := hS4.drewN nq
          have hG5 := gb_drewN hG4 nq
          go_wp2
          go_ret
          exact ⟨_, rfl, inN_mod hy1 m1, ⟨_, _, hS5⟩, hG5⟩
        · have d2 : (((k : Int) + 1) % 2 == 0) = false := by simpa using hev
          have d3 : decide (((k : Int) + 1) % 2 = 0) = false := decide_eq_false hev
          go_wp2
          go_ret
          exact ⟨_, rfl, inN_mod (by omega) m1, ⟨_, _, hS4⟩, hG4⟩
      · go_wp2
        go_ret
        exact ⟨_, rfl, inN_mod (by omega) m1, ⟨_, _, hS4⟩, hG4⟩
    · have d1 : decide ((k : Int) < (n : Int)) = false := decide_eq_false (by omega)
      have d1' : decide (k < n) = false := decide_eq_false hkn
      go_quiet (fail)
      have hS2 := hS1.drewN nq
      have hG2 := gb_drewN hG1 nq
      go_wp2
      go_ret
      exact ⟨_, rfl, inN_mod b5 (by omega), ⟨_, _, hS2⟩, hG2⟩

theorem seed_bd {s x : Int} (_h1 : 0 ≤ s) (_h2 : s ≤ 2147483646) (_h3 : 0 ≤ x) (_h4 : x ≤ 255) : 0 ≤ (s * 67 + x) % 2147483647 ∧ (s * 67 + x) % 2147483647 ≤ 2147483646 := by omega
set_option maxRecDepth 10000 in
set_option maxHeartbeats 2000000 in
theorem l01From_any (v : Value) (n : Nat) (w : World) (h : RB w w.heap.size v n) (hn : n ≤ 1000000) :
    Calls Tryz.prog 17 #[v] w fun e w' => e = .returned (.pointer (some ⟨w.heap.size, 0, none⟩)) ∧ Src w' w.heap.size w.heap.size v n ∧ Below w.heap.size w w' := by
  obtain ⟨a, cap, hv⟩ := h.val
  have hw1 : Below w.heap.size w (w.alloc (.cells #[v, .int .i64 0, .int .i64 34001] 60)) := (Below.refl _ _).alloc (Nat.le_refl _) _
  have hS : SrcC (w.alloc (.cells #[v, .int .i64 0, .int .i64 34001] 60)) w.heap.size w.heap.size v n 0 34001 :=
    ⟨Nat.le_refl _, by simp, by simp [go_sem], by simp [go_sem], by simp [go_sem], fun i => by simp [go_sem], h.below hw1, Nat.zero_le _, by omega, by omega⟩
  subst hv
  go_enter Tryz.func17, Tryz.ntmps17
  go_wp2
  go_loopw [4] (fun s4 wr => ∃ (k : Nat) (sd : Int), k ≤ n ∧ s4 = .int .i64 k ∧ SrcC wr w.heap.size w.heap.size (.slice a n cap) n 0 sd ∧ Below w.heap.size w wr) (fun s4 _ => n - (intOf s4).toNat)
  case atStart => exact ⟨0, 34001, by omega, rfl, hS, hw1⟩
  case round =>
    clear hS hw1
    obtain ⟨k, sd, hk, rfl, hS, hB⟩ := hrel
    by_cases hkn : k < n
    · by_cases h64 : k < 64
      · have c2 := hS.c2
        have f2 := hS.fr 2
        have b1 := hS.h1
        have b2 := hS.h2
        obtain ⟨b, off, cap', x, hvv, hb1, hb2, hx1, hx2, hcx⟩ := hS.rb.at_ hkn
        injection hvv with e1 e2 e3
        subst e1 e3
        have i1 : (0 : Int) ≤ (k : Int) := by omega
        have i2 : (k : Int) < (n : Int) := by omega
        have d2 : decide ((k : Int) < 64) = true := decide_eq_true (by omega)
        go_wp2
        refine T.tail_quiet 15 (by kernel_rfl) (by kernel_rfl) ?_
        intro w2 hw2
        have hS2 : SrcC w2 w.heap.size w.heap.size (.slice (some ⟨b, off, none⟩) n cap) n 0 sd := by rw [hw2]; exact hS.drew
        have hB2 : Below w.heap.size w w2 := by rw [hw2]; exact hB.drew
        have q2 : w2.cell? ⟨w.heap.size, 2, none⟩ = some (.int .i64 sd) := hS2.c2
        have qx : w2.cell? ⟨b, off + k, none⟩ = some (.int .u8 x) := by rw [hw2]; exact hcx
        have qf := hS2.fr 2
        clear hw2 hS hB c2 f2 hcx
        simp only [List.take_succ_cons, List.take_zero, List.drop_succ_cons, List.drop_zero]
        repeat (go_big_quiet_step (fail))
        refine wpQuiet_nil ?_
        obtain ⟨s2, hs2⟩ : ∃ s2, (sd * 67 + x) % 2147483647 = s2 := ⟨_, rfl⟩
        have hs3 := seed_bd b1 b2 hx1 hx2
        rw [hs2] at hs3
        obtain ⟨b3, b4⟩ := hs3
        have hS3 := hS2.setSeed b3 b4
        go_wp2
        clear hs2
        go_roundw
        case rel => exact ⟨k + 1, s2, by omega, by simp, hS3, hB2.setCell (Nat.le_refl _) _⟩
        case measure => simp [intOf]; omega
      · have d2 : decide ((k : Int) < 64) = false := decide_eq_false (by omega)
        go_wp2
        go_ret
        exact ⟨rfl, ⟨_, _, hS⟩, hB⟩
    · go_wp2
      go_ret
      exact ⟨rfl, ⟨_, _, hS⟩, hB⟩

/-- A row of numbers. -/
def NumsAt (w : World) (g : Nat) (zs : List Int) : Prop := ∀ i, i < zs.length → w.cell? ⟨g, i, none⟩ = some (.int .i64 (zs.getD i 0))
set_option maxHeartbeats 1000000 in
theorem l01Pick_any {base B g : Nat} {v : Value} {n : Nat} (zs : List Int) (kz : Nat) {w : World} (h : Src w base B v n) (hn : n ≤ 1000000) (hkz : zs.length = kz) (hz : 0 < kz) (hz2 : kz ≤ 1000) (hg : g < w.heap.size) (hne : g ≠ B) (hc : NumsAt w g zs) :
    Calls Tryz.prog 30 #[.pointer (some ⟨B, 0, none⟩), .slice (some ⟨g, 0, none⟩) kz kz] w fun e w' => ∃ x, e = .returned (.int .i64 x) ∧ x ∈ zs ∧ Src w' base B v n ∧ w.grownBy w' (some B) := by
  subst hkz
  go_enter Tryz.func30, Tryz.ntmps30
  go_wp2_with fail
  refine (l01Next_any (zs.length : Int) h hn (by omega)).mono ?_
  rintro e w1 ⟨x, rfl, ⟨hx0, hx1⟩, hS, hG⟩
  obtain ⟨i, rfl⟩ : ∃ i : Nat, x = i := ⟨x.toNat, by omega⟩
  have hi : i < zs.length := by omega
  have cz : w1.cell? ⟨g, i, none⟩ = some (.int .i64 (zs.getD i 0)) := by
    rw [World.cell?_of_block (a := ⟨g, i, none⟩) (hG.block g hg (fun e => hne (by injection e)))]; exact hc i hi
  have hm : zs.getD i 0 ∈ zs := by
    simp only [List.getD_eq_getElem?_getD, List.getElem?_eq_getElem hi, Option.getD_some]; exact List.getElem_mem hi
  generalize zs.getD i 0 = z at cz hm
  have i1 : (0 : Int) ≤ (i : Int) := by omega
  have i2 : (i : Int) < (zs.length : Int) := by omega
  go_wp2
  go_ret
  exact ⟨z, rfl, hm, hS, hG⟩
end Go.Proofs.YtpinngcdojbndaaGreatDoor
