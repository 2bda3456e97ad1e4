/- The number of a date, on both sides. -/
import Derived.Test.YtnjfpipadfcapaaDoorBase
namespace Go.Proofs.YtnjfpipadfcapaaDoor
open Go.RowKit

theorem newYear_any (y : Int) (f : Bool) (w : World) (h : 1 ≤ y) (k : y ≤ 100000) :
    Calls Tryd.prog 59 #[.int .i64 y, .bool f] w fun e w' => e = .returned (.int .i64 (nyear y f)) ∧ w = w' := by
  cases f
  all_goals
    go_enter Tryd.func59, Tryd.ntmps59
    go_wp2
    go_ret
    exact ⟨ret_int (by simp [nyear]), rfl⟩

theorem nyear_lo (y : Int) (f : Bool) (h : 1 ≤ y) (k : y ≤ 100000) : 0 ≤ nyear y f ∧ nyear y f ≤ 40000000 := by
  unfold nyear; split <;> omega

theorem num_at {y m d : Int} {f : Bool} {n : Int} (h : n = nyear y f + d - 1 + cum y m f) : n = num y m d f := h

set_option maxHeartbeats 400000 in
theorem dayOf_any (y m d : Int) (f : Bool) (w : World) (h1 : 1 ≤ y) (h2 : y ≤ 100000) (h3 : 1 ≤ m) (h4 : m ≤ 13) (h5 : -100000 ≤ d) (h6 : d ≤ 100000) :
    Calls Tryd.prog 64 #[.agg #[.int .i64 y, .int .i64 m, .int .i64 d], .bool f] w fun e w' => e = .returned (.int .i64 (num y m d f)) ∧ Below w.heap.size w w' := by
  have hn := nyear_lo y f h1 h2
  go_enter Tryd.func64, Tryd.ntmps64
  go_wp2
  go_quiet ((go_at_call 59; exact quiet_eq (newYear_any _ _ _ h1 h2)))
  go_wp2
  go_loop [5, 6] (fun n i => ∃ k : Int, 1 ≤ k ∧ k ≤ m ∧ i = .int .i64 k ∧ n = .int .i64 (nyear y f + d - 1 + cum y k f)) (fun _ i => (m - intOf i).toNat)
  case atStart => exact ⟨1, by omega, h3, rfl, by simp [cum_one]⟩
  case round =>
    obtain ⟨k, hk1, hk2, rfl, rfl⟩ := hrel
    have hc := cum_bd y k f hk1 (by omega)
    have hl := mlen_bd y k f
    have hs : Hid (cum y (k + 1) f = cum y k f + mlen y k f) := cum_succ y k f hk1
    by_cases hlt : k < m
    · go_wp2_with (go_at_call 60; refine (lengthOfMonth_any _ _ _ _ (by omega)).mono ?_; rintro e w' ⟨rfl, rfl⟩)
      go_round
      case rel => exact ⟨k + 1, by omega, by omega, rfl, by rw [hs.out]; go_num⟩
      case measure => simp [intOf]; omega
    · go_wp2
      go_ret
      obtain rfl : k = m := by omega
      exact ⟨rfl, by (repeat' (first | (with_reducible exact Below.refl _ _) | (with_reducible assumption) | (with_reducible refine below_al ?_ _) | (with_reducible refine Below.drew ?_) | (with_reducible refine Below.setCell ?_ (by first | exact Nat.le_refl _ | (dsimp only; omega) | (simp; omega)) _) | (with_reducible refine below_drewN ?_ _) | (with_reducible refine below_tt ?_ (by assumption))))⟩

set_option maxHeartbeats 400000 in
theorem l01Number_any (y m d : Int) (f : Bool) (w : World) (h1 : 1 ≤ y) (h2 : y ≤ 100000) (h3 : 1 ≤ m) (h4 : m ≤ 13) (h5 : -100000 ≤ d) (h6 : d ≤ 100000) :
    Calls Tryd.prog 54 #[.agg #[.int .i64 y, .int .i64 m, .int .i64 d], .bool f] w fun e w' => e = .returned (.int .i64 (num y m d f)) ∧ Below w.heap.size w w' := by
  have hn := nyear_lo y f h1 h2
  cases f
  · go_enter Tryd.func54, Tryd.ntmps54
    go_wp2
    go_loop [6, 7] (fun n i => ∃ k : Int, 1 ≤ k ∧ k ≤ m ∧ i = .int .i64 k ∧ n = .int .i64 (nyear y false + d - 1 + cum y k false)) (fun _ i => (m - intOf i).toNat)
    case atStart => exact ⟨1, by omega, h3, rfl, congrArg (Value.int .i64) (by rw [cum_one]; simp [nyear]; try omega)⟩
    case round =>
      obtain ⟨k, hk1, hk2, rfl, rfl⟩ := hrel
      have hc := cum_bd y k false hk1 (by omega)
      have hl := mlen_bd y k false
      have hs : Hid (cum y (k + 1) false = cum y k false + mlen y k false) := cum_succ y k false hk1
      by_cases hlt : k < m
      · go_wp2_with (go_at_call 66; refine (l01Length_any _ _ _ _ (by omega)).mono ?_; rintro e w' ⟨rfl, rfl⟩)
        go_round
        case rel => exact ⟨k + 1, by omega, by omega, rfl, by rw [hs.out]; go_num⟩
        case measure => simp [intOf]; omega
      · go_wp2
        go_ret
        obtain rfl : k = m := by omega
        exact ⟨rfl, by (repeat' (first | (with_reducible exact Below.refl _ _) | (with_reducible assumption) | (with_reducible refine below_al ?_ _) | (with_reducible refine Below.drew ?_) | (with_reducible refine Below.setCell ?_ (by first | exact Nat.le_refl _ | (dsimp only; omega) | (simp; omega)) _) | (with_reducible refine below_drewN ?_ _) | (with_reducible refine below_tt ?_ (by assumption))))⟩
  · go_enter Tryd.func54, Tryd.ntmps54
    go_wp2
    go_loop [6, 7] (fun n i => ∃ k : Int, 1 ≤ k ∧ k ≤ m ∧ i = .int .i64 k ∧ n = .int .i64 (nyear y true + d - 1 + cum y k true)) (fun _ i => (m - intOf i).toNat)
    case atStart => exact ⟨1, by omega, h3, rfl, congrArg (Value.int .i64) (by rw [cum_one]; simp [nyear]; try omega)⟩
    case round =>
      obtain ⟨k, hk1, hk2, rfl, rfl⟩ := hrel
      have hc := cum_bd y k true hk1 (by omega)
      have hl := mlen_bd y k true
      have hs : Hid (cum y (k + 1) true = cum y k true + mlen y k true) := cum_succ y k true hk1
      by_cases hlt : k < m
      · go_wp2_with (go_at_call 66; refine (l01Length_any _ _ _ _ (by omega)).mono ?_; rintro e w' ⟨rfl, rfl⟩)
        go_round
        case rel => exact ⟨k + 1, by omega, by omega, rfl, by rw [hs.out]; go_num⟩
        case measure => simp [intOf]; omega
      · go_wp2
        go_ret
        obtain rfl : k = m := by omega
        exact ⟨rfl, by (repeat' (first | (with_reducible exact Below.refl _ _) | (with_reducible assumption) | (with_reducible refine below_al ?_ _) | (with_reducible refine Below.drew ?_) | (with_reducible refine Below.setCell ?_ (by first | exact Nat.le_refl _ | (dsimp only; omega) | (simp; omega)) _) | (with_reducible refine below_drewN ?_ _) | (with_reducible refine below_tt ?_ (by assumption))))⟩

/-- The weekday of a day. -/
theorem weekdayOf_any (n : Int) (w : World) (h : 0 ≤ n) (k : n ≤ 1000000000) :
    Calls Tryd.prog 48 #[.int .i64 n] w fun e w' => e = .returned (.int .i64 ((n + 5) % 7)) ∧ w = w' := by
  go_enter Tryd.func48, Tryd.ntmps48
  go_wp2
  go_ret
  exact ⟨rfl, rfl⟩
theorem l01Weekday_any (n : Int) (w : World) (h : 0 ≤ n) (k : n ≤ 1000000000) :
    Calls Tryd.prog 53 #[.int .i64 n] w fun e w' => e = .returned (.int .i64 ((n + 5) % 7)) ∧ w = w' := by
  go_enter Tryd.func53, Tryd.ntmps53
  go_wp2
  go_ret
  exact ⟨rfl, rfl⟩
end Go.Proofs.YtnjfpipadfcapaaDoor
