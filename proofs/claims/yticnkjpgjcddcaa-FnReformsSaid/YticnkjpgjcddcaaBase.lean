/- The small functions of the calendars: what each returns, whatever the numbers. -/
import Derived.Test.YticnkjpgjcddcaaRows
import Derived.Test.YticnkjpgjcddcaaCal
import Derived.WalkKit
import Derived.WalkSpells
import Derived.Handy
import Derived.Deep.QuietTactic
import Derived.BigQuiet
import Derived.Lib.QuietBelow
namespace Go.Proofs.Yticnkjpgjcddcaa
open Go.RowKit

theorem quiet_eq {P : Program} {f : FuncId} {args : Array Value} {w : World} {n : Nat} {v : Value}
    (h : Calls P f args (w.drewN n) fun e w' => e = .returned v ∧ w.drewN n = w') : Calls P f args (w.drewN n) fun e w'' => e = .returned v ∧ ∃ m, w'' = w.drewN m :=
  h.mono fun _ _ ⟨he, hm⟩ => ⟨he, n, hm.symm⟩
theorem ret_bool {a b : Bool} (h : a = b) : Ending.returned (.bool a) = .returned (.bool b) := by rw [h]
theorem ret_int {k : IntKind} {a b : Int} (h : a = b) : Ending.returned (.int k a) = .returned (.int k b) := by rw [h]
theorem below_drewN {B : Nat} {a w : World} (h : Below B a w) (n : Nat) : Below B a (w.drewN n) := by
  induction n with
  | zero => exact h
  | succ k ih => exact ih.drew

theorem below_tt {a b c : World} (h : Below a.heap.size a b) (k : Below b.heap.size b c) : Below a.heap.size a c := h.trans (k.mono h.size)
theorem below_al {a b : World} (h : Below a.heap.size a b) (o : Obj) : Below a.heap.size a (b.alloc o) := h.alloc h.size o

theorem bcell {W w1 : World} (hb : Below W.heap.size W w1) : (∀ b o, b < W.heap.size → w1.cell? ⟨b, o, none⟩ = W.cell? ⟨b, o, none⟩) ∧ (∀ b o, b < W.heap.size → w1.frozen? ⟨b, o, none⟩ = W.frozen? ⟨b, o, none⟩) :=
  ⟨fun b o h => hb.cell (p := ⟨b, o, none⟩) h, fun b o h => hb.frozen (p := ⟨b, o, none⟩) h⟩
theorem bsize {W w1 : World} (hb : Below W.heap.size W w1) : ∀ b, b < W.heap.size → b < w1.heap.size := fun _ h => Nat.lt_of_lt_of_le h hb.size

theorem below_of_regrown {w w' : World} (h : ∃ p : Regrown, w' = Go.Sort.grow (redrawn w p.d) p.os) : Below w.heap.size w w' := by
  obtain ⟨⟨d, os⟩, rfl⟩ := h; exact below_regrown w d os
theorem cell_rg (W : World) (d : Nat) (os : Array Obj) (b o : Nat) (h : b < W.heap.size) : (Go.Sort.grow (redrawn W d) os).cell? ⟨b, o, none⟩ = W.cell? ⟨b, o, none⟩ := (below_regrown W d os).cell (p := ⟨b, o, none⟩) h

set_option maxHeartbeats 400000 in
theorem within_any (n a b : Int) (w : World) :
    Calls Try.prog 110 #[.int .i64 n, .int .i64 a, .int .i64 b] w fun e w' => e = .returned (.bool (inR n a b)) ∧ w = w' := by
  go_enter Try.func110, Try.ntmps110
  go_wp2
  all_goals (go_ret; exact ⟨ret_bool (by simp [inR]; try omega), rfl⟩)
theorem l01In_any (n a b : Int) (w : World) :
    Calls Try.prog 88 #[.int .i64 n, .int .i64 a, .int .i64 b] w fun e w' => e = .returned (.bool (inR n a b)) ∧ w = w' := by
  go_enter Try.func88, Try.ntmps88
  go_wp2
  all_goals (go_ret; exact ⟨ret_bool (by simp [inR]; try omega), rfl⟩)
theorem isDay_any (n : Int) (w : World) :
    Calls Try.prog 104 #[.int .i64 n] w fun e w' => e = .returned (.bool (inR n 0 730499)) ∧ w = w' := by
  go_enter Try.func104, Try.ntmps104
  go_wp2_with (go_at_call 110; refine (within_any _ _ _ _).mono ?_; rintro e w' ⟨rfl, rfl⟩)
  go_ret
  exact ⟨rfl, rfl⟩
theorem l01Day_any (n : Int) (w : World) :
    Calls Try.prog 98 #[.int .i64 n] w fun e w' => e = .returned (.bool (inR n 0 730499)) ∧ w = w' := by
  go_enter Try.func98, Try.ntmps98
  go_wp2_with (go_at_call 88; refine (l01In_any _ _ _ _).mono ?_; rintro e w' ⟨rfl, rfl⟩)
  go_ret
  exact ⟨rfl, rfl⟩
theorem isYear_any (n : Int) (w : World) :
    Calls Try.prog 91 #[.int .i64 n] w fun e w' => e = .returned (.bool (inR n 1 2000)) ∧ w = w' := by
  go_enter Try.func91, Try.ntmps91
  go_wp2_with (go_at_call 110; refine (within_any _ _ _ _).mono ?_; rintro e w' ⟨rfl, rfl⟩)
  go_ret
  exact ⟨rfl, rfl⟩
theorem l04Year_any (n : Int) (w : World) :
    Calls Try.prog 87 #[.int .i64 n] w fun e w' => e = .returned (.bool (inR n 1 2000)) ∧ w = w' := by
  go_enter Try.func87, Try.ntmps87
  go_wp2_with (go_at_call 88; refine (l01In_any _ _ _ _).mono ?_; rintro e w' ⟨rfl, rfl⟩)
  go_ret
  exact ⟨rfl, rfl⟩
theorem isLeap_any (y : Int) (f : Bool) (w : World) (h : 0 ≤ y) :
    Calls Try.prog 124 #[.int .i64 y, .bool f] w fun e w' => e = .returned (.bool (leap y f)) ∧ w = w' := by
  go_enter Try.func124, Try.ntmps124
  go_wp2
  all_goals (go_ret; refine ⟨ret_bool ?_, rfl⟩; rw [Bool.eq_iff_iff]; simp_all [leap]; try omega)
theorem l01Leap_any (y : Int) (f : Bool) (w : World) (h : 0 ≤ y) :
    Calls Try.prog 125 #[.int .i64 y, .bool f] w fun e w' => e = .returned (.bool (leap y f)) ∧ w = w' := by
  go_enter Try.func125, Try.ntmps125
  go_wp2
  all_goals (go_ret; refine ⟨ret_bool ?_, rfl⟩; rw [Bool.eq_iff_iff]; simp_all [leap]; try omega)
theorem lengthOfMonth_any (y m : Int) (f : Bool) (w : World) (h : 0 ≤ y) :
    Calls Try.prog 145 #[.int .i64 y, .int .i64 m, .bool f] w fun e w' => e = .returned (.int .i64 (mlen y m f)) ∧ w = w' := by
  go_enter Try.func145, Try.ntmps145
  go_wp2_with (go_at_call 124; refine (isLeap_any _ _ _ h).mono ?_; rintro e w' ⟨rfl, rfl⟩)
  all_goals (go_ret; refine ⟨ret_int ?_, rfl⟩; simp_all [mlen])
theorem l01Length_any (y m : Int) (f : Bool) (w : World) (h : 0 ≤ y) :
    Calls Try.prog 154 #[.int .i64 y, .int .i64 m, .bool f] w fun e w' => e = .returned (.int .i64 (mlen y m f)) ∧ w = w' := by
  go_enter Try.func154, Try.ntmps154
  go_wp2_with (go_at_call 125; refine (l01Leap_any _ _ _ h).mono ?_; rintro e w' ⟨rfl, rfl⟩)
  all_goals (go_ret; refine ⟨ret_int ?_, rfl⟩; simp_all [mlen])

theorem within_is {n a b : Int} {r : Bool} (h : inR n a b = r) (w : World) :
    Calls Try.prog 110 #[.int .i64 n, .int .i64 a, .int .i64 b] w fun e w' => e = .returned (.bool r) ∧ w = w' := by
  subst h; exact within_any n a b w
theorem l01In_is {n a b : Int} {r : Bool} (h : inR n a b = r) (w : World) :
    Calls Try.prog 88 #[.int .i64 n, .int .i64 a, .int .i64 b] w fun e w' => e = .returned (.bool r) ∧ w = w' := by
  subst h; exact l01In_any n a b w

theorem isDay_is {n : Int} {r : Bool} (h : inR n 0 730499 = r) (w : World) :
    Calls Try.prog 104 #[.int .i64 n] w fun e w' => e = .returned (.bool r) ∧ w = w' := by
  subst h; exact isDay_any _ w
theorem l01Day_is {n : Int} {r : Bool} (h : inR n 0 730499 = r) (w : World) :
    Calls Try.prog 98 #[.int .i64 n] w fun e w' => e = .returned (.bool r) ∧ w = w' := by
  subst h; exact l01Day_any _ w
theorem isYear_is {n : Int} {r : Bool} (h : inR n 1 2000 = r) (w : World) :
    Calls Try.prog 91 #[.int .i64 n] w fun e w' => e = .returned (.bool r) ∧ w = w' := by
  subst h; exact isYear_any _ w
theorem l04Year_is {n : Int} {r : Bool} (h : inR n 1 2000 = r) (w : World) :
    Calls Try.prog 87 #[.int .i64 n] w fun e w' => e = .returned (.bool r) ∧ w = w' := by
  subst h; exact l04Year_any _ w

theorem isDate_any (y m d : Int) (f : Bool) (w : World) :
    Calls Try.prog 121 #[.agg #[.int .i64 y, .int .i64 m, .int .i64 d], .bool f] w fun e w' => e = .returned (.bool (valid y m d f)) ∧ Below w.heap.size w w' := by
  cases hy : inR y 1 2000
  · have hv : Hid (valid y m d f = false) := valid_y (m := m) (d := d) (f := f) hy
    have hyy : Hid (inR y 1 2000 = false) := hy
    clear hy
    go_enter Try.func121, Try.ntmps121
    go_wp2
    go_quiet ((go_at_call 110; exact quiet_eq (within_is (by first | exact hyy.out | exact hmm.out | rfl) _)))
    go_wp2
    go_ret
    exact ⟨ret_bool hv.out.symm, below_drewN ((Below.refl _ _).alloc (Nat.le_refl _) _) _⟩
  · cases hm : inR m 1 12
    · have hv : Hid (valid y m d f = false) := valid_m (y := y) (d := d) (f := f) hm
      have hyy : Hid (inR y 1 2000 = true) := hy
      have hmm : Hid (inR m 1 12 = false) := hm
      clear hy hm
      go_enter Try.func121, Try.ntmps121
      go_wp2
      go_quiet (first | (go_at_call 110; exact quiet_eq (within_is (by first | exact hyy.out | exact hmm.out | rfl) _)))
      go_wp2
      go_ret
      exact ⟨ret_bool hv.out.symm, below_drewN ((Below.refl _ _).alloc (Nat.le_refl _) _) _⟩
    · have hv : Hid (valid y m d f = inR d 1 (mlen y m f)) := valid_d hy hm
      have hyy : Hid (inR y 1 2000 = true) := hy
      have hmm : Hid (inR m 1 12 = true) := hm
      have hb := inR_t hy
      clear hy hm
      go_enter Try.func121, Try.ntmps121
      go_wp2
      go_quiet (first | (go_at_call 110; exact quiet_eq (within_is (by first | exact hyy.out | exact hmm.out | rfl) _)) | (go_at_call 145; exact quiet_eq (lengthOfMonth_any _ _ _ _ (by omega))))
      go_wp2
      go_ret
      exact ⟨ret_bool hv.out.symm, below_drewN ((Below.refl _ _).alloc (Nat.le_refl _) _) _⟩
theorem l01Valid_any (y m d : Int) (f : Bool) (w : World) :
    Calls Try.prog 142 #[.agg #[.int .i64 y, .int .i64 m, .int .i64 d], .bool f] w fun e w' => e = .returned (.bool (valid y m d f)) ∧ Below w.heap.size w w' := by
  cases hy : inR y 1 2000
  · have hv : Hid (valid y m d f = false) := valid_y (m := m) (d := d) (f := f) hy
    have hyy : Hid (inR y 1 2000 = false) := hy
    clear hy
    go_enter Try.func142, Try.ntmps142
    go_wp2
    go_quiet ((go_at_call 88; exact quiet_eq (l01In_is (by first | exact hyy.out | exact hmm.out | rfl) _)))
    go_wp2
    go_ret
    exact ⟨ret_bool hv.out.symm, below_drewN ((Below.refl _ _).alloc (Nat.le_refl _) _) _⟩
  · cases hm : inR m 1 12
    · have hv : Hid (valid y m d f = false) := valid_m (y := y) (d := d) (f := f) hm
      have hyy : Hid (inR y 1 2000 = true) := hy
      have hmm : Hid (inR m 1 12 = false) := hm
      clear hy hm
      go_enter Try.func142, Try.ntmps142
      go_wp2
      go_quiet (first | (go_at_call 88; exact quiet_eq (l01In_is (by first | exact hyy.out | exact hmm.out | rfl) _)))
      go_wp2
      go_ret
      exact ⟨ret_bool hv.out.symm, below_drewN ((Below.refl _ _).alloc (Nat.le_refl _) _) _⟩
    · have hv : Hid (valid y m d f = inR d 1 (mlen y m f)) := valid_d hy hm
      have hyy : Hid (inR y 1 2000 = true) := hy
      have hmm : Hid (inR m 1 12 = true) := hm
      have hb := inR_t hy
      clear hy hm
      go_enter Try.func142, Try.ntmps142
      go_wp2
      go_quiet (first | (go_at_call 88; exact quiet_eq (l01In_is (by first | exact hyy.out | exact hmm.out | rfl) _)) | (go_at_call 154; exact quiet_eq (l01Length_any _ _ _ _ (by omega))))
      go_wp2
      go_ret
      exact ⟨ret_bool hv.out.symm, below_drewN ((Below.refl _ _).alloc (Nat.le_refl _) _) _⟩

end Go.Proofs.Yticnkjpgjcddcaa
