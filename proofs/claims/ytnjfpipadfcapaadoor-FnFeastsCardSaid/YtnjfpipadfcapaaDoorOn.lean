/- The feasts on a day: both sides, and the law. -/
import Derived.Test.YtnjfpipadfcapaaDoorLocal
import Derived.Test.YtnjfpipadfcapaaDoorFeast2
import Derived.Test.YtnjfpipadfcapaaDoorOwnI
import Derived.Test.YtnjfpipadfcapaaDoorFrame
namespace Go.Proofs.YtnjfpipadfcapaaDoor
open Go.RowKit

def onL (n y : Int) : Nat → List Int
  | 0 => []
  | k + 1 => onL n y k ++ (if decide (feastI k y = n) = true then [(k : Int)] else [])
theorem onL_len (n y : Int) (k : Nat) : (onL n y k).length ≤ k := by
  induction k with
  | zero => simp [onL]
  | succ k ih => rw [onL]; split <;> simp <;> omega
theorem onL_mem (n y x : Int) (k : Nat) : x ∈ onL n y k ↔ 0 ≤ x ∧ x < k ∧ feastI x y = n := by
  induction k with
  | zero => simp [onL]; omega
  | succ k ih =>
    rw [onL, List.mem_append, ih]
    by_cases h : feastI k y = n
    · rw [if_pos (decide_eq_true h)]
      simp only [List.mem_singleton]
      constructor
      · rintro (h1 | rfl)
        · exact ⟨h1.1, by omega, h1.2.2⟩
        · exact ⟨by omega, by omega, h⟩
      · rintro ⟨h1, h2, h3⟩
        by_cases hx : x = k
        · exact Or.inr hx
        · exact Or.inl ⟨h1, by omega, h3⟩
    · rw [if_neg (by simpa using h)]
      constructor
      · rintro (h1 | h1)
        · exact ⟨h1.1, by omega, h1.2.2⟩
        · simp at h1
      · rintro ⟨h1, h2, h3⟩
        refine Or.inl ⟨h1, ?_, h3⟩
        have : x ≠ k := by rintro rfl; exact h h3
        omega
def onN (n : Int) : List Int := onL n (dat n false).1 20
theorem onN_len (n : Int) : (onN n).length ≤ 20 := onL_len _ _ _
def onR (n : Int) : List Int × Int := if inR n 0 730499 = true then (onN n, 0) else ([], 2)
theorem onR_len (n : Int) : (onR n).1.length ≤ 4000000 := by
  have := onN_len n
  unfold onR; split
  · show (onN n).length ≤ 4000000; omega
  · simp
theorem onR_t {n : Int} (h : inR n 0 730499 = true) : onR n = (onN n, 0) := by unfold onR; rw [if_pos h]
theorem onR_f {n : Int} (h : inR n 0 730499 = false) : onR n = ([], 2) := by unfold onR; rw [h]; rfl
theorem dat_yr {n : Int} (h1 : 0 ≤ n) (h2 : n ≤ 730499) : 1 ≤ (dat n false).1 ∧ (dat n false).1 ≤ 2000 := by
  have e := nyear_ends
  have v := valid_t (dat_is (n := n) (f := false) (by omega) (by omega)).1
  exact ⟨by omega, by omega⟩
theorem idateOf_any {n : Int} (h1 : 0 ≤ n) (h2 : n ≤ 730499) (w : World) :
    Calls Tryd.prog 46 #[.int .i64 n, .bool false] w fun e w' => e = .returned (.agg #[.int .i64 (dat n false).1, .int .i64 (dat n false).2.1, .int .i64 (dat n false).2.2]) ∧ Below w.heap.size w w' := by
  have e := nyear_ends
  exact dateOf_any n false w (by omega) (by omega)
theorem fld_year (y m d : Int) (w : World) : (Instr.field 40 (.agg #[.int .i64 y, .int .i64 m, .int .i64 d]) 0).run Tryd.prog w = .ok (.int .i64 y) w := by kernel_rfl
set_option maxRecDepth 100000 in
set_option maxHeartbeats 4000000 in
theorem ifeastsOn_any {n : Int} (w : World) (h1 : 0 ≤ n) (h2 : n ≤ 730499) :
    Calls Tryd.prog 44 #[.int .i64 n] w fun e w' => ∃ v, e = .returned v ∧ OwnI w' w.heap.size v (onN n) ∧ Below w.heap.size w w' := by
  have hy := dat_yr h1 h2
  have HV : Hid (onN n = onL n (dat n false).1 20) := rfl
  rw [HV.out]
  clear HV
  have hD : ∀ W : World, _ := fun W => idateOf_any h1 h2 W
  generalize (dat n false).1 = y at hy hD ⊢
  generalize (dat n false).2.1 = mm at hD
  generalize (dat n false).2.2 = dd at hD
  obtain ⟨y1, y2⟩ := hy
  have rg := cell_rg; have l2 : ∀ n : Nat, n < n + 1 + 1 := (fun _ => by omega); have l3 : ∀ n : Nat, n < n + 1 + 1 + 1 := (fun _ => by omega); have l4 : ∀ n : Nat, n < n + 1 + 1 + 1 + 1 := (fun _ => by omega)
  have hB := Below.refl w.heap.size w
  go_enter Tryd.func44, Tryd.ntmps44
  have hO0 := OwnI.made w (base := w.heap.size) (Nat.le_refl _)
  go_wp2_with fail
  refine (hD _).mono ?_
  rintro e w1 ⟨rfl, b1⟩
  have hO := hO0.below b1
  have B1 := below_tt (below_al hB _) b1
  clear hO0
  clear b1 hD hB
  have fy := fld_year y mm dd
  go_wp2_with fail
  clear fy
  go_loopw [3, 10] (fun s3 s10 wr => ∃ k : Nat, k ≤ 20 ∧ s10 = .int .i64 k ∧ OwnI wr w.heap.size s3 (onL n y k) ∧ Below w.heap.size w wr) (fun _ s10 _ => (20 - intOf s10).toNat)
  case atStart => exact ⟨0, by omega, by simp, hO, B1⟩
  case round =>
    clear hO B1
    obtain ⟨k, hk, rfl, hO, hB⟩ := hrel
    by_cases hlt : k < 20
    · have hl := onL_len n y k
      have hS : Hid (onL n y (k + 1) = onL n y k ++ (if decide (feastI k y = n) = true then [(k : Int)] else [])) := rfl
      have hfd := feast_day (f := (k : Int)) (y := y) (by omega) (by omega) y1 y2
      go_wp2_with fail
      refine (feastDay_any _ _ _ (by omega) (by omega) y1 y2).mono ?_
      rintro e w2 ⟨rfl, b2⟩
      have hO2 := hO.below b2
      have B2 := below_tt hB b2
      clear hO hB b2
      generalize feastI k y = q at hS hfd ⊢
      by_cases hm : q = n
      · rw [if_pos (decide_eq_true hm)] at hS
        subst hm
        go_wp2_with (at_builtin; refine app_int (w0 := w) (p := k) (zs := onL q y k) (by (repeat' (first | (with_reducible exact Below.refl _ _) | (with_reducible assumption) | (with_reducible refine below_al ?_ _) | (with_reducible refine Below.drew ?_) | (with_reducible refine Below.setCell ?_ (by first | exact Nat.le_refl _ | (dsimp only; omega) | (simp; omega)) _) | (with_reducible refine below_drewN ?_ _) | (with_reducible refine below_tt ?_ (by assumption))))) (hO2.alloc _) (by omega) rfl _ _ rfl rfl rfl (by simp [go_sem]) ?_; intro v6 w6 hO6 hB6)
        go_roundw
        case rel => exact ⟨k + 1, by omega, by simp, by rw [hS.out]; exact hO6, hB6⟩
        case measure => simp [intOf]; omega
      · rw [if_neg (by simpa using hm)] at hS
        go_wp2_with fail
        go_roundw
        case rel => exact ⟨k + 1, by omega, by simp, by rw [hS.out, List.append_nil]; exact hO2, B2⟩
        case measure => simp [intOf]; omega
    · obtain rfl : k = 20 := by omega
      go_wp2
      go_ret
      exact ⟨_, rfl, hO, hB⟩
set_option maxRecDepth 100000 in
set_option maxHeartbeats 4000000 in
theorem l05On_any {n : Int} (w : World) (h1 : 0 ≤ n) (h2 : n ≤ 730499) :
    Calls Tryd.prog 45 #[.int .i64 n] w fun e w' => ∃ v, e = .returned v ∧ OwnI w' w.heap.size v (onN n) ∧ Below w.heap.size w w' := by
  have hy := dat_yr h1 h2
  have HV : Hid (onN n = onL n (dat n false).1 20) := rfl
  rw [HV.out]
  clear HV
  have hD : ∀ W : World, _ := fun W => l01Old_any h1 h2 W
  generalize (dat n false).1 = y at hy hD ⊢
  generalize (dat n false).2.1 = mm at hD
  generalize (dat n false).2.2 = dd at hD
  obtain ⟨y1, y2⟩ := hy
  have rg := cell_rg; have l2 : ∀ n : Nat, n < n + 1 + 1 := (fun _ => by omega); have l3 : ∀ n : Nat, n < n + 1 + 1 + 1 := (fun _ => by omega); have l4 : ∀ n : Nat, n < n + 1 + 1 + 1 + 1 := (fun _ => by omega)
  have hB := Below.refl w.heap.size w
  go_enter Tryd.func45, Tryd.ntmps45
  skip
  go_wp2_with fail
  refine (hD _).mono ?_
  rintro e w1 ⟨rfl, b1⟩
  have hO := OwnI.made w1 (base := w.heap.size) b1.size
  have B1 := below_al (below_tt hB b1) (.cells #[] 2)
  clear b1 hD hB
  have fy := fld_year y mm dd
  go_wp2_with fail
  clear fy
  go_loopw [4, 5] (fun s3 s10 wr => ∃ k : Nat, k ≤ 20 ∧ s10 = .int .i64 k ∧ OwnI wr w.heap.size s3 (onL n y k) ∧ Below w.heap.size w wr) (fun _ s10 _ => (20 - intOf s10).toNat)
  case atStart => exact ⟨0, by omega, by simp, hO, B1⟩
  case round =>
    clear hO B1
    obtain ⟨k, hk, rfl, hO, hB⟩ := hrel
    by_cases hlt : k < 20
    · have hl := onL_len n y k
      have hS : Hid (onL n y (k + 1) = onL n y k ++ (if decide (feastI k y = n) = true then [(k : Int)] else [])) := rfl
      have hfd := feast_day (f := (k : Int)) (y := y) (by omega) (by omega) y1 y2
      go_wp2_with fail
      refine (l05Day_any _ _ _ (by omega) (by omega) y1 y2).mono ?_
      rintro e w2 ⟨rfl, b2⟩
      have hO2 := hO.below b2
      have B2 := below_tt hB b2
      clear hO hB b2
      generalize feastI k y = q at hS hfd ⊢
      by_cases hm : q = n
      · rw [if_pos (decide_eq_true hm)] at hS
        subst hm
        go_wp2_with (at_builtin; refine app_int (w0 := w) (p := k) (zs := onL q y k) (by (repeat' (first | (with_reducible exact Below.refl _ _) | (with_reducible assumption) | (with_reducible refine below_al ?_ _) | (with_reducible refine Below.drew ?_) | (with_reducible refine Below.setCell ?_ (by first | exact Nat.le_refl _ | (dsimp only; omega) | (simp; omega)) _) | (with_reducible refine below_drewN ?_ _) | (with_reducible refine below_tt ?_ (by assumption))))) (hO2.alloc _) (by omega) rfl _ _ rfl rfl rfl (by simp [go_sem]) ?_; intro v6 w6 hO6 hB6)
        go_roundw
        case rel => exact ⟨k + 1, by omega, by simp, by rw [hS.out]; exact hO6, hB6⟩
        case measure => simp [intOf]; omega
      · rw [if_neg (by simpa using hm)] at hS
        go_wp2_with fail
        go_roundw
        case rel => exact ⟨k + 1, by omega, by simp, by rw [hS.out, List.append_nil]; exact hO2, B2⟩
        case measure => simp [intOf]; omega
    · obtain rfl : k = 20 := by omega
      go_wp2
      go_ret
      exact ⟨_, rfl, hO, hB⟩
set_option maxHeartbeats 1000000 in
theorem implFeastsOn_any (n : Int) (w : World) :
    Calls Tryd.prog 15 #[.int .i64 n] w fun e w' => ∃ v, e = .returned (.tuple #[v, .int .i64 (onR n).2]) ∧ OwnI w' w.heap.size v (onR n).1 ∧ Below w.heap.size w w' := by
  cases hi : inR n 0 730499
  · rw [onR_f hi]
    have h1 := Lib.hid hi
    clear hi
    go_enter Tryd.func15, Tryd.ntmps15
    go_wp2_with (go_at_call 43; refine (isDay_is h1.out _).mono ?_; rintro e w' ⟨rfl, rfl⟩)
    go_ret2
    exact ⟨_, rfl, OwnI.nil _ _, Below.refl _ _⟩
  · rw [onR_t hi]
    have h1 := Lib.hid hi
    obtain ⟨k1, k2⟩ := inR_t hi
    clear hi
    go_enter Tryd.func15, Tryd.ntmps15
    go_wp2_with (go_at_call 43; refine (isDay_is h1.out _).mono ?_; rintro e w' ⟨rfl, rfl⟩)
    refine (ifeastsOn_any _ k1 k2).mono ?_
    rintro e w1 ⟨v, rfl, hO, hb⟩
    go_wp2
    go_ret2
    exact ⟨_, rfl, hO, hb⟩
set_option maxHeartbeats 1000000 in
theorem specFeastsOn_any (n : Int) (w : World) :
    Calls Tryd.prog 16 #[.int .i64 n] w fun e w' => ∃ v, e = .returned (.tuple #[v, .int .i64 (onR n).2]) ∧ OwnI w' w.heap.size v (onR n).1 ∧ Below w.heap.size w w' := by
  cases hi : inR n 0 730499
  · rw [onR_f hi]
    have h1 := Lib.hid hi
    clear hi
    go_enter Tryd.func16, Tryd.ntmps16
    go_wp2_with (go_at_call 39; refine (l01Day_is h1.out _).mono ?_; rintro e w' ⟨rfl, rfl⟩)
    go_ret2
    exact ⟨_, rfl, OwnI.nil _ _, Below.refl _ _⟩
  · rw [onR_t hi]
    have h1 := Lib.hid hi
    obtain ⟨k1, k2⟩ := inR_t hi
    clear hi
    go_enter Tryd.func16, Tryd.ntmps16
    go_wp2_with (go_at_call 39; refine (l01Day_is h1.out _).mono ?_; rintro e w' ⟨rfl, rfl⟩)
    refine (l05On_any _ k1 k2).mono ?_
    rintro e w1 ⟨v, rfl, hO, hb⟩
    go_wp2
    go_ret2
    exact ⟨_, rfl, hO, hb⟩

end Go.Proofs.YtnjfpipadfcapaaDoor
