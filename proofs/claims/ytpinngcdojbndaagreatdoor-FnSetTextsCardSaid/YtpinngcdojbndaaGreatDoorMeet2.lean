/- Sets of days: MeetSets and WithoutSet on both sides. -/
import Derived.Test.YtpinngcdojbndaaGreatDoorMeet
import Derived.Test.YtpinngcdojbndaaGreatDoorSets7
namespace Go.Proofs.YtpinngcdojbndaaGreatDoor
open Go.RowKit
def setsTo (xs ys : List (Int × Int)) (k : Nat) : Prop := (0 < k → isSet xs = true) ∧ (1 < k → isSet ys = true)
/-- A list, if it is not too long. -/
def limR (L : List (Int × Int)) : List (Int × Int) × Int := if 300 < L.length then ([], 3) else (L, 0)
theorem limited_any (v : Value) (L : List (Int × Int)) (base : Nat) (w : World) (h : OwnS w base v L) (hl : L.length ≤ 9000000) :
    Calls Tryz.prog 34 #[v] w fun e w' => ∃ v', e = .returned (.tuple #[v', .int .i64 (limR L).2]) ∧ OwnS w' base v' (limR L).1 ∧ w = w' := by
  obtain ⟨a, cap, hv⟩ := h.len
  subst hv
  by_cases hb : 300 < L.length
  · have hr : Hid (limR L = ([], 3)) := Lib.hid (by simp [limR, hb])
    have hb' : (300 : Int) < (L.length : Int) := by omega
    rw [hr.out]
    go_enter Tryz.func34, Tryz.ntmps34
    go_wp2
    go_ret2
    exact ⟨_, rfl, OwnS.nil _ _, rfl⟩
  · have hr : Hid (limR L = (L, 0)) := Lib.hid (by simp [limR, hb])
    have hb' : ¬ (300 : Int) < (L.length : Int) := by omega
    rw [hr.out]
    go_enter Tryz.func34, Tryz.ntmps34
    go_wp2
    go_ret2
    exact ⟨_, rfl, h, rfl⟩
theorem l02Result_any (v : Value) (L : List (Int × Int)) (base : Nat) (w : World) (h : OwnS w base v L) (hl : L.length ≤ 9000000) :
    Calls Tryz.prog 37 #[v] w fun e w' => ∃ v', e = .returned (.tuple #[v', .int .i64 (limR L).2]) ∧ OwnS w' base v' (limR L).1 ∧ w = w' := by
  obtain ⟨a, cap, hv⟩ := h.len
  subst hv
  by_cases hb : 300 < L.length
  · have hr : Hid (limR L = ([], 3)) := Lib.hid (by simp [limR, hb])
    have hb' : (300 : Int) < (L.length : Int) := by omega
    rw [hr.out]
    go_enter Tryz.func37, Tryz.ntmps37
    go_wp2
    go_ret2
    exact ⟨_, rfl, OwnS.nil _ _, rfl⟩
  · have hr : Hid (limR L = (L, 0)) := Lib.hid (by simp [limR, hb])
    have hb' : ¬ (300 : Int) < (L.length : Int) := by omega
    rw [hr.out]
    go_enter Tryz.func37, Tryz.ntmps37
    go_wp2
    go_ret2
    exact ⟨_, rfl, h, rfl⟩

/-- The rest of a list, from a day on. -/
def restF : Int → List (Int × Int) → List (Int × Int)
  | n, [] => if n ≤ 730499 then [(n, 730499)] else []
  | n, s :: xs => (if n < s.1 then [(n, s.1 - 1)] else []) ++ restF (s.2 + 1) xs
def restAt (xs P : List (Int × Int)) (n : Int) (k : Nat) : Prop := P ++ restF n (xs.drop k) = restF 0 xs ∧ P.length ≤ k
theorem restF_cons (n : Int) (s : Int × Int) (xs : List (Int × Int)) : restF n (s :: xs) = (if n < s.1 then [(n, s.1 - 1)] else []) ++ restF (s.2 + 1) xs := rfl
theorem restF_nil (n : Int) : restF n [] = if n ≤ 730499 then [(n, 730499)] else [] := rfl
theorem restAt_step {xs P : List (Int × Int)} {n : Int} {k : Nat} (h : restAt xs P n k) (hk : k < xs.length) :
    (n < (gS xs k).1 → restAt xs (P ++ [(n, (gS xs k).1 - 1)]) ((gS xs k).2 + 1) (k + 1)) ∧ (¬ n < (gS xs k).1 → restAt xs P ((gS xs k).2 + 1) (k + 1)) := by
  obtain ⟨h, hl⟩ := h
  rw [drop_gS' hk, restF_cons] at h
  refine ⟨fun hn => ?_, fun hn => ?_⟩
  · rw [if_pos hn, ← List.append_assoc] at h
    exact ⟨h, by simp; omega⟩
  · rw [if_neg hn, List.nil_append] at h
    exact ⟨h, by omega⟩
theorem restAt_end {xs P : List (Int × Int)} {n : Int} {k : Nat} (h : restAt xs P n k) (hk : k = xs.length) : (n ≤ 730499 → P ++ [(n, 730499)] = restF 0 xs) ∧ (¬ n ≤ 730499 → P = restF 0 xs) := by
  obtain ⟨h, hl⟩ := h
  subst hk
  rw [List.drop_length, restF_nil] at h
  refine ⟨fun hn => ?_, fun hn => ?_⟩
  · rw [if_pos hn] at h; exact h
  · rw [if_neg hn, List.append_nil] at h; exact h
theorem rest_len (xs : List (Int × Int)) : ∀ n, (restF n xs).length ≤ xs.length + 1 := by
  induction xs with
  | nil => intro n; unfold restF; split <;> simp
  | cons s xs ih =>
    intro n
    have := ih (s.2 + 1)
    unfold restF
    rw [List.length_append]
    split <;> simp <;> omega

/-- What MeetSets and WithoutSet answer. -/
noncomputable def meetR (xs ys : List (Int × Int)) : List (Int × Int) × Int := if isSet xs = true then (if isSet ys = true then limR (meetL xs ys) else ([], 1)) else ([], 1)
noncomputable def withoutR (xs ys : List (Int × Int)) : List (Int × Int) × Int := if isSet xs = true then (if isSet ys = true then limR (meetL xs (restF 0 ys)) else ([], 1)) else ([], 1)

end Go.Proofs.YtpinngcdojbndaaGreatDoor
