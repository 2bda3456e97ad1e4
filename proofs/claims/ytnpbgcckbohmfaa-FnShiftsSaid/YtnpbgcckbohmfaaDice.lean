/- The dice of a law: what they answer lies below what is asked. -/
import Derived.Test.YtnpbgcckbohmfaaDraw
namespace Go.Proofs.Ytnpbgcckbohmfaa
open Go.RowKit

/-- The dice in block B: their code, how far it has been read, their state. -/
structure DiceC (w : World) (base B : Nat) (v : Value) (n k : Nat) (sd : Int) : Prop where
  hb : base ≤ B
  hB : B < w.heap.size
  c0 : w.cell? ⟨B, 0, none⟩ = some v
  c1 : w.cell? ⟨B, 1, none⟩ = some (.int .i64 k)
  c2 : w.cell? ⟨B, 2, none⟩ = some (.int .u64 sd)
  fr : ∀ i, w.frozen? ⟨B, i, none⟩ = false
  rb : RB w base v n
  hk : k ≤ n
  h1 : 0 ≤ sd
  h2 : sd ≤ 18446744073709551615
theorem DiceC.setState {w : World} {base B n k : Nat} {v : Value} {sd s2 : Int} (h : DiceC w base B v n k sd) (h1 : 0 ≤ s2) (h2 : s2 ≤ 18446744073709551615) : DiceC (w.setCell ⟨B, 2, none⟩ (.int .u64 s2)) base B v n k s2 :=
  ⟨h.hb, by simpa using h.hB, set_other h.c0 (by omega), set_other h.c1 (by omega), World.cell?_setCell_same _ _ _ h.c2, fun i => (World.frozen?_setCell _ _ _ _).trans (h.fr i), rb_set h.rb h.hb, h.hk, h1, h2⟩
theorem DiceC.setAt {w : World} {base B n k k' : Nat} {v : Value} {sd : Int} (h : DiceC w base B v n k sd) (hk : k' ≤ n) : DiceC (w.setCell ⟨B, 1, none⟩ (.int .i64 k')) base B v n k' sd :=
  ⟨h.hb, by simpa using h.hB, set_other h.c0 (by omega), World.cell?_setCell_same _ _ _ h.c1, set_other h.c2 (by omega), fun i => (World.frozen?_setCell _ _ _ _).trans (h.fr i), rb_set h.rb h.hb, hk, h.h1, h.h2⟩
theorem DiceC.drewN {w : World} {base B n k : Nat} {v : Value} {sd : Int} (h : DiceC w base B v n k sd) (m : Nat) : DiceC (w.drewN m) base B v n k sd :=
  ⟨h.hb, h.hB, h.c0, h.c1, h.c2, h.fr, h.rb, h.hk, h.h1, h.h2⟩
theorem DiceC.drew {w : World} {base B n k : Nat} {v : Value} {sd : Int} (h : DiceC w base B v n k sd) : DiceC w.drew base B v n k sd :=
  ⟨h.hb, h.hB, h.c0, h.c1, h.c2, h.fr, h.rb, h.hk, h.h1, h.h2⟩
theorem DiceC.below {w w' : World} {base B n k : Nat} {v : Value} {sd : Int} (h : DiceC w base B v n k sd) (hb : Below w.heap.size w w') : DiceC w' base B v n k sd :=
  ⟨h.hb, Nat.lt_of_lt_of_le h.hB hb.size, (hb.cell (p := ⟨B, 0, none⟩) h.hB).trans h.c0, (hb.cell (p := ⟨B, 1, none⟩) h.hB).trans h.c1, (hb.cell (p := ⟨B, 2, none⟩) h.hB).trans h.c2, fun i => (hb.frozen (p := ⟨B, i, none⟩) h.hB).trans (h.fr i), h.rb.below hb, h.hk, h.h1, h.h2⟩

def Dice (w : World) (base B : Nat) (v : Value) (n : Nat) : Prop := ∃ k sd, DiceC w base B v n k sd
theorem Dice.below {w w' : World} {base B n : Nat} {v : Value} (h : Dice w base B v n) (hb : Below w.heap.size w w') : Dice w' base B v n := by
  obtain ⟨k, sd, h⟩ := h; exact ⟨k, sd, h.below hb⟩

theorem wraps63 (n : Int) (h₀ : 0 ≤ n) (h₁ : n < 2 ^ 63) : IntKind.u64.wrap n = n := by rw [IntKind.wrap_u64]; omega
theorem dice_bits {s2 : Int} (h0 : 0 ≤ s2) (h1 : s2 ≤ 18446744073709551615) : 0 ≤ bits .and .u64 (s2 / 8589934592) 16777215 ∧ bits .and .u64 (s2 / 8589934592) 16777215 ≤ 16777215 := by
  have h := bits_mask .u64 63 (by decide) wraps63 24 (by decide) (s2 / 8589934592) (by omega) (by omega)
  have e : ((2 : Int) ^ 24 - 1) = 16777215 := by decide
  have e2 : ((2 : Int) ^ 24) = 16777216 := by decide
  rw [e, e2] at h
  rw [h]
  omega
theorem w64_in (n : Int) (h : -9223372036854775808 ≤ n ∧ n ≤ 9223372036854775807) : wrap64 n = n := by unfold wrap64; omega
theorem wrap_bd (x : Int) : 0 ≤ IntKind.u64.wrap x ∧ IntKind.u64.wrap x ≤ 18446744073709551615 := by
  rw [IntKind.wrap_u64]; omega

set_option maxRecDepth 10000 in
set_option maxHeartbeats 2000000 in
theorem below_any {base B : Nat} {v : Value} {n : Nat} (m : Int) {w : World} (h : Dice w base B v n) (hn : n ≤ 1000000) (hm : 0 < m) (hm2 : m ≤ 1000000000000) :
    Calls Try.prog 44 #[.pointer (some ⟨B, 0, none⟩), .int .i64 m] w fun e w' => ∃ x : Int, e = .returned (.int .i64 x) ∧ (0 ≤ x ∧ x < m) ∧ Dice w' base B v n ∧ w.grownBy w' (some B) := by
  obtain ⟨k, sd, hS⟩ := h
  obtain ⟨a, cap, hv⟩ := hS.rb.val
  have b1 := hS.h1
  have b2 := hS.h2
  have c2 := hS.c2
  have f2 := hS.fr 2
  have hk := hS.hk
  have hw := wrap_bd (IntKind.u64.wrap (sd * 6364136223846793005) + 1442695040888963407)
  go_enter Try.func44, Try.ntmps44
  go_wp2
  generalize IntKind.u64.wrap (IntKind.u64.wrap (sd * 6364136223846793005) + 1442695040888963407) = s2 at hw ⊢
  obtain ⟨b3, b4⟩ := hw
  obtain ⟨b5, b6⟩ := dice_bits b3 b4
  generalize bits .and .u64 (s2 / 8589934592) 16777215 = y at b5 b6 ⊢
  rw [w64_in y (by omega)]
  have hS1 := hS.setState b3 b4
  have hG1 := gb_set (World.grownBy.refl w (some B)) 2 (.int .u64 s2)
  generalize w.setCell ⟨B, 2, none⟩ (.int .u64 s2) = w1 at hS1 hG1 ⊢
  clear c2 f2 hS b1 b2
  have c0 := hS1.c0
  have c1 := hS1.c1
  subst hv
  by_cases hkn : k < n
  · have d1 : decide ((k : Int) < (n : Int)) = true := decide_eq_true (by omega)
    have d1' : decide (k < n) = true := decide_eq_true hkn
    go_quiet (fail)
    have hS2 := hS1.drewN nq
    have hG2 := gb_drewN hG1 nq
    generalize w1.drewN nq = w2 at hS2 hG2 ⊢
    clear c0 c1 hS1 hG1
    have c0 := hS2.c0
    have c1 := hS2.c1
    obtain ⟨b, off, cap', x, hvv, hb1, hb2, hx1, hx2, hcx⟩ := hS2.rb.at_ hkn
    injection hvv with e1 e2 e3
    subst e1 e3
    have i1 : (0 : Int) ≤ (k : Int) := by omega
    have i2 : (k : Int) < (n : Int) := by omega
    have f1 := hS2.fr 1
    have hne := hS2.hb
    go_wp2
    go_quiet (fail)
    have hS3 := hS2.drewN nq
    have hG3 := gb_drewN hG2 nq
    generalize w2.drewN nq = w3 at hS3 hG3 ⊢
    clear c0 c1 hS2 hG2 hcx f1
    have c1 := hS3.c1
    have f1 := hS3.fr 1
    have hS4 := hS3.setAt (k' := k + 1) (by omega)
    rw [show ((k + 1 : Nat) : Int) = (k : Int) + 1 by omega] at hS4
    have hG4 := gb_set hG3 1 (.int .i64 ((k : Int) + 1))
    go_wp2
    go_ret
    exact ⟨_, rfl, ⟨Int.emod_nonneg _ (by omega), Int.emod_lt_of_pos _ hm⟩, ⟨_, _, hS4⟩, hG4⟩
  · have d1 : decide ((k : Int) < (n : Int)) = false := decide_eq_false (by omega)
    have d1' : decide (k < n) = false := decide_eq_false hkn
    go_quiet (fail)
    have hS2 := hS1.drewN nq
    have hG2 := gb_drewN hG1 nq
    go_wp2
    go_ret
    exact ⟨_, rfl, ⟨Int.emod_nonneg _ (by omega), Int.emod_lt_of_pos _ hm⟩, ⟨_, _, hS2⟩, hG2⟩

set_option maxRecDepth 10000 in
set_option maxHeartbeats 2000000 in
theorem roll_any (v : Value) (n : Nat) (c : Int) (w : World) (h : RB w w.heap.size v n) (hn : n ≤ 1000000) (hc : 0 ≤ c ∧ c ≤ 1000000) :
    Calls Try.prog 43 #[v, .int .u64 c] w fun e w' => e = .returned (.pointer (some ⟨w.heap.size, 0, none⟩)) ∧ Dice w' w.heap.size w.heap.size v n ∧ Below w.heap.size w w' := by
  obtain ⟨a, cap, hv⟩ := h.val
  obtain ⟨hc1, hc2⟩ := hc
  have hw1 : Below w.heap.size w (w.alloc (.cells #[v, .int .i64 0, .int .u64 (c * 9419 + n)] 73)) := (Below.refl _ _).alloc (Nat.le_refl _) _
  have hS : DiceC (w.alloc (.cells #[v, .int .i64 0, .int .u64 (c * 9419 + n)] 73)) w.heap.size w.heap.size v n 0 (c * 9419 + n) :=
    ⟨Nat.le_refl _, by simp, by simp [go_sem], by simp [go_sem], by simp [go_sem], fun i => by simp [go_sem], h.below hw1, Nat.zero_le _, by omega, by omega⟩
  subst hv
  go_enter Try.func43, Try.ntmps43
  go_wp2
  go_loopw [6] (fun s6 wr => ∃ (k : Nat) (sd : Int), k ≤ n ∧ s6 = .int .i64 k ∧ DiceC wr w.heap.size w.heap.size (.slice a n cap) n 0 sd ∧ Below w.heap.size w wr) (fun s6 _ => n - (intOf s6).toNat)
  case atStart => exact ⟨0, _, by omega, rfl, hS, hw1⟩
  case round =>
    clear hS hw1
    obtain ⟨k, sd, hk, rfl, hS, hB⟩ := hrel
    by_cases hkn : k < n
    · have c2 := hS.c2
      have f2 := hS.fr 2
      have b1 := hS.h1
      have b2 := hS.h2
      obtain ⟨b, off, cap', x, hvv, hb1, hb2, hx1, hx2, hcx⟩ := hS.rb.at_ hkn
      injection hvv with e1 e2 e3
      subst e1 e3
      have i1 : (0 : Int) ≤ (k : Int) := by omega
      have i2 : (k : Int) < (n : Int) := by omega
      go_wp2
      refine T.tail_quiet 15 (by kernel_rfl) (by kernel_rfl) ?_
      intro w2 hw2
      have hS2 : DiceC w2 w.heap.size w.heap.size (.slice (some ⟨b, off, none⟩) n cap) n 0 sd := by rw [hw2]; exact hS.drew
      have hB2 : Below w.heap.size w w2 := by rw [hw2]; exact hB.drew
      have q2 : w2.cell? ⟨w.heap.size, 2, none⟩ = some (.int .u64 sd) := hS2.c2
      have qx : w2.cell? ⟨b, off + k, none⟩ = some (.int .u8 x) := by rw [hw2]; exact hcx
      have qf := hS2.fr 2
      clear hw2 hS hB c2 f2 hcx
      simp only [List.take_succ_cons, List.take_zero, List.drop_succ_cons, List.drop_zero]
      repeat (go_big_quiet_step (fail))
      refine wpQuiet_nil ?_
      obtain ⟨b3, b4⟩ := wrap_bd (IntKind.u64.wrap (IntKind.u64.wrap (sd * 1099511628211) + x) + 5)
      generalize IntKind.u64.wrap (IntKind.u64.wrap (IntKind.u64.wrap (sd * 1099511628211) + x) + 5) = s2 at b3 b4 ⊢
      have hS3 := hS2.setState b3 b4
      go_wp2
      go_roundw
      case rel => exact ⟨k + 1, s2, by omega, by simp, hS3, hB2.setCell (Nat.le_refl _) _⟩
      case measure => simp [intOf]; omega
    · go_wp2
      go_ret
      exact ⟨rfl, ⟨_, _, hS⟩, hB⟩
end Go.Proofs.Ytnpbgcckbohmfaa
