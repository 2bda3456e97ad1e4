/- The search of a year, and the date of a number, on the program's side. -/
import Derived.Test.YtnjfpipadfcapaaDoorNum
import Derived.Test.YtnjfpipadfcapaaDoorDay
import Derived.Deep.LoopGhost
import Derived.StillTailTactics
namespace Go.Proofs.YtnjfpipadfcapaaDoor
open Go.RowKit

/-- What the search asks of a place: is the year behind it past the number. -/
def past (n : Int) (f : Bool) (i : Int) : Bool := decide (n < nyear (i + 2) f)

theorem still_eq {P : Program} {f : FuncId} {args : Array Value} {w : World} {v : Value} (h : Calls P f args w fun e w' => e = .returned v ∧ w = w') : Calls P f args w fun e w' => e = .returned v ∧ w' = w :=
  h.mono fun _ _ ⟨he, hw⟩ => ⟨he, hw.symm⟩

theorem still_tail {P : Program} {id : Nat} {Q : Exit → Act → World → Prop} {a : Act} {w : World} {l : List Oper} (n : Nat) (hm : P.follows .mixedOrders = true) (hB : Region.lexTailB .any l.toArray n = true)
    (h : wpStill P l.toArray w.drew (fun a' => wpList P l.toArray Q (l.drop n) a' w.drew) (l.take n) a) : (Code.region id l.toArray true).wp P Q a w := wp_region_still_tail n hm hB h

theorem dateOf1_any (i n : Int) (f : Bool) (bf bn : Nat) (w : World) (h0 : 0 ≤ i) (h1 : i ≤ 2000) (hf : w.cell? ⟨bf, 0, none⟩ = some (.bool f)) (hn : w.cell? ⟨bn, 0, none⟩ = some (.int .i64 n)) :
    Calls Tryd.prog 58 #[.int .i64 i, .pointer (some ⟨bf, 0, none⟩), .pointer (some ⟨bn, 0, none⟩)] w fun e w' => e = .returned (.bool (past n f i)) ∧ Below w.heap.size w w' := by
  have hb := nyear_lo (i + 2) f (by omega) (by omega)
  go_enter Tryd.func58, Tryd.ntmps58
  go_wp2
  go_quiet ((go_at_call 59; exact quiet_eq (newYear_any _ _ _ (by omega) (by omega))))
  go_wp2
  go_ret
  exact ⟨rfl, by (repeat' (first | (with_reducible exact Below.refl _ _) | (with_reducible assumption) | (with_reducible refine below_al ?_ _) | (with_reducible refine Below.drew ?_) | (with_reducible refine Below.setCell ?_ (by first | exact Nat.le_refl _ | (dsimp only; omega) | (simp; omega)) _) | (with_reducible refine below_drewN ?_ _) | (with_reducible refine below_tt ?_ (by assumption))))⟩

theorem past_t {n i : Int} {f : Bool} (h : past n f i = true) : n < nyear (i + 2) f := by unfold past at h; simpa using h
theorem past_f {n i : Int} {f : Bool} (h : past n f i = false) : nyear (i + 2) f ≤ n := by unfold past at h; simpa using h
theorem dateOf1_is {i n : Int} {f : Bool} {bf bn : Nat} {w : World} {r : Bool} (h : past n f i = r) (h0 : 0 ≤ i) (h1 : i ≤ 2000) (hf : w.cell? ⟨bf, 0, none⟩ = some (.bool f)) (hn : w.cell? ⟨bn, 0, none⟩ = some (.int .i64 n)) :
    Calls Tryd.prog 58 #[.int .i64 i, .pointer (some ⟨bf, 0, none⟩), .pointer (some ⟨bn, 0, none⟩)] w fun e w' => e = .returned (.bool r) ∧ Below w.heap.size w w' := by
  subst h; exact dateOf1_any i n f bf bn w h0 h1 hf hn

set_option maxHeartbeats 1000000 in
theorem search_any (n : Int) (f : Bool) (bf bn : Nat) (w : World) (hbf : bf < w.heap.size) (hbn : bn < w.heap.size) (hf : w.cell? ⟨bf, 0, none⟩ = some (.bool f)) (hn : w.cell? ⟨bn, 0, none⟩ = some (.int .i64 n)) :
    Calls Tryd.prog 57 #[.int .i64 2000, .func (.func 58) #[] #[.pointer (some ⟨bf, 0, none⟩), .pointer (some ⟨bn, 0, none⟩)]] w fun e w' =>
      (∃ k : Int, e = .returned (.int .i64 k) ∧ 0 ≤ k ∧ k ≤ 2000 ∧ (k = 0 ∨ nyear (k + 1) f ≤ n) ∧ (k = 2000 ∨ n < nyear (k + 2) f)) ∧ Below w.heap.size w w' := by
  go_enter Tryd.func57, Tryd.ntmps57
  go_wp2
  go_loopg [5, 6] 2000 (fun kx s5 s6 wr => ∃ lo hi : Int, s5 = .int .i64 lo ∧ s6 = .int .i64 hi ∧ 0 ≤ lo ∧ lo ≤ hi ∧ hi ≤ 2000 ∧ hi - lo ≤ kx ∧ Hid ((lo = 0 ∨ nyear (lo + 1) f ≤ n) ∧ (hi = 2000 ∨ n < nyear (hi + 2) f)) ∧ Below w.heap.size w wr)
  case atStart => exact ⟨0, 2000, rfl, rfl, by omega, by omega, by omega, by omega, ⟨Or.inl rfl, Or.inl rfl⟩, Below.refl _ _⟩
  case round =>
    obtain ⟨lo, hi, rfl, rfl, h0, hlh, hin, hg, I, hbl⟩ := hrel
    have hf' : wr.cell? ⟨bf, 0, none⟩ = some (.bool f) := (hbl.cell (p := ⟨bf, 0, none⟩) hbf).trans hf
    have hn' : wr.cell? ⟨bn, 0, none⟩ = some (.int .i64 n) := (hbl.cell (p := ⟨bn, 0, none⟩) hbn).trans hn
    by_cases hlt : lo < hi
    · cases hp : past n f ((lo + hi) / 2)
      · have hq : Hid (past n f ((lo + hi) / 2) = false) := hp
        have hr := past_f hp
        clear hp
        go_wp2_with (go_at_call 58; refine (dateOf1_is hq.out (by omega) (by omega) hf' hn').mono ?_; rintro e w' ⟨rfl, hb⟩)
        go_roundg (hi - ((lo + hi) / 2 + 1)).toNat
        case measure => omega
        case rel => exact ⟨(lo + hi) / 2 + 1, hi, rfl, rfl, by omega, by omega, by omega, by omega, ⟨Or.inr (by rw [show (lo + hi) / 2 + 1 + 1 = (lo + hi) / 2 + 2 by omega]; exact hr), I.out.2⟩, below_tt hbl hb⟩
      · have hq : Hid (past n f ((lo + hi) / 2) = true) := hp
        have hr := past_t hp
        clear hp
        go_wp2_with (go_at_call 58; refine (dateOf1_is hq.out (by omega) (by omega) hf' hn').mono ?_; rintro e w' ⟨rfl, hb⟩)
        go_roundg ((lo + hi) / 2 - lo).toNat
        case measure => omega
        case rel => exact ⟨lo, (lo + hi) / 2, rfl, rfl, by omega, by omega, by omega, by omega, ⟨I.out.1, Or.inr hr⟩, below_tt hbl hb⟩
    · obtain rfl : hi = lo := by omega
      go_wp2
      go_ret
      exact ⟨⟨hi, rfl, h0, hin, I.out.1, I.out.2⟩, hbl⟩

/-- The memory of dateOf as its loop finds it: the number and the calendar in their boxes, the date that is made, the result's place. -/
structure DM (B D : Nat) (n y m : Int) (f : Bool) (w : World) : Prop where
  ne : B + 2 < D
  n0 : w.cell? ⟨B, 0, none⟩ = some (.int .i64 n)
  nf : w.frozen? ⟨B, 0, none⟩ = false
  f0 : w.cell? ⟨B + 1, 0, none⟩ = some (.bool f)
  d0 : w.cell? ⟨D, 0, none⟩ = some (.int .i64 y)
  d1 : w.cell? ⟨D, 1, none⟩ = some (.int .i64 m)
  d2 : w.cell? ⟨D, 2, none⟩ = some (.int .i64 0)
  g1 : w.frozen? ⟨D, 1, none⟩ = false
  g2 : w.frozen? ⟨D, 2, none⟩ = false
  r0 : w.cell? ⟨B + 2, 0, none⟩ = some (.int .i64 0)
  r1 : w.cell? ⟨B + 2, 1, none⟩ = some (.int .i64 0)
  r2 : w.cell? ⟨B + 2, 2, none⟩ = some (.int .i64 0)
  s0 : w.frozen? ⟨B + 2, 0, none⟩ = false
  s1 : w.frozen? ⟨B + 2, 1, none⟩ = false
  s2 : w.frozen? ⟨B + 2, 2, none⟩ = false
theorem DM.drew {B D : Nat} {n y m : Int} {f : Bool} {w : World} (h : DM B D n y m f w) : DM B D n y m f w.drew :=
  ⟨h.ne, h.n0, h.nf, h.f0, h.d0, h.d1, h.d2, h.g1, h.g2, h.r0, h.r1, h.r2, h.s0, h.s1, h.s2⟩
theorem DM.drewN {B D : Nat} {n y m : Int} {f : Bool} {w : World} (h : DM B D n y m f w) (k : Nat) : DM B D n y m f (w.drewN k) :=
  ⟨h.ne, h.n0, h.nf, h.f0, h.d0, h.d1, h.d2, h.g1, h.g2, h.r0, h.r1, h.r2, h.s0, h.s1, h.s2⟩
theorem other {w : World} {b o c p : Nat} {v u : Value} (h : w.cell? ⟨c, p, none⟩ = some u) (hne : b ≠ c ∨ o ≠ p) : (w.setCell ⟨b, o, none⟩ v).cell? ⟨c, p, none⟩ = some u := by
  rw [World.cell?_setCell_other _ _ _ _ (by intro e; simp at e; omega)]; exact h
theorem DM.setN {B D : Nat} {n y m : Int} {f : Bool} {w : World} (h : DM B D n y m f w) (n' : Int) : DM B D n' y m f (w.setCell ⟨B, 0, none⟩ (.int .i64 n')) := by
  have := h.ne
  exact ⟨h.ne, World.cell?_setCell_same _ _ _ h.n0, (World.frozen?_setCell _ _ _ _).trans h.nf, other h.f0 (by omega), other h.d0 (by omega), other h.d1 (by omega), other h.d2 (by omega), (World.frozen?_setCell _ _ _ _).trans h.g1, (World.frozen?_setCell _ _ _ _).trans h.g2, other h.r0 (by omega), other h.r1 (by omega), other h.r2 (by omega), (World.frozen?_setCell _ _ _ _).trans h.s0, (World.frozen?_setCell _ _ _ _).trans h.s1, (World.frozen?_setCell _ _ _ _).trans h.s2⟩
theorem DM.setM {B D : Nat} {n y m : Int} {f : Bool} {w : World} (h : DM B D n y m f w) (m' : Int) : DM B D n y m' f (w.setCell ⟨D, 1, none⟩ (.int .i64 m')) := by
  have := h.ne
  exact ⟨h.ne, other h.n0 (by omega), (World.frozen?_setCell _ _ _ _).trans h.nf, other h.f0 (by omega), other h.d0 (by omega), World.cell?_setCell_same _ _ _ h.d1, other h.d2 (by omega), (World.frozen?_setCell _ _ _ _).trans h.g1, (World.frozen?_setCell _ _ _ _).trans h.g2, other h.r0 (by omega), other h.r1 (by omega), other h.r2 (by omega), (World.frozen?_setCell _ _ _ _).trans h.s0, (World.frozen?_setCell _ _ _ _).trans h.s1, (World.frozen?_setCell _ _ _ _).trans h.s2⟩

/-- The three boxes that dateOf lays first. -/
def W0 (w : World) (n : Int) (f : Bool) (tn tf td : TypeId) : World := ((w.alloc (.cells #[.int .i64 n] tn)).alloc (.cells #[.bool f] tf)).alloc (.cells #[.int .i64 0, .int .i64 0, .int .i64 0] td)
theorem W0_size (w : World) (n : Int) (f : Bool) (tn tf td : TypeId) : (W0 w n f tn tf td).heap.size = w.heap.size + 3 := by simp [W0]
theorem DM.start {w w' : World} {n y : Int} {f : Bool} {tn tf td : TypeId} (hb : Below (W0 w n f tn tf td).heap.size (W0 w n f tn tf td) w') :
    DM w.heap.size w'.heap.size n y 1 f (w'.alloc (.cells #[.int .i64 y, .int .i64 1, .int .i64 0] td)).drew := by
  have hs := hb.size
  rw [W0_size] at hs
  have hc : ∀ b o, b < w.heap.size + 3 → (w'.alloc (.cells #[.int .i64 y, .int .i64 1, .int .i64 0] td)).cell? ⟨b, o, none⟩ = (W0 w n f tn tf td).cell? ⟨b, o, none⟩ := fun b o h => by
    rw [World.cell?_alloc_past (hn := by omega), hb.cell (p := ⟨b, o, none⟩) (by rw [W0_size]; exact h)]
  have hf : ∀ b o, b < w.heap.size + 3 → (w'.alloc (.cells #[.int .i64 y, .int .i64 1, .int .i64 0] td)).frozen? ⟨b, o, none⟩ = (W0 w n f tn tf td).frozen? ⟨b, o, none⟩ := fun b o h => by
    rw [World.frozen?_alloc_past (hn := by omega), hb.frozen (p := ⟨b, o, none⟩) (by rw [W0_size]; exact h)]
  refine DM.drew ⟨by omega, ?_, ?_, ?_, ?_, ?_, ?_, ?_, ?_, ?_, ?_, ?_, ?_, ?_, ?_⟩
  all_goals first
    | (rw [hc _ _ (by omega)]; simp [W0, go_sem]; done)
    | (rw [hf _ _ (by omega)]; simp [W0, go_sem]; done)
    | (rw [World.cell?_alloc_at (hn := rfl)]; rfl)
    | (rw [World.frozen?_alloc_at (hn := rfl)])

set_option maxRecDepth 100000 in
set_option maxHeartbeats 1000000 in
theorem dateOf_any (n : Int) (f : Bool) (w : World) (h0 : nyear 1 f ≤ n) (h1 : n < nyear 2001 f) :
    Calls Tryd.prog 46 #[.int .i64 n, .bool f] w fun e w' => e = .returned (.agg #[.int .i64 (dat n f).1, .int .i64 (dat n f).2.1, .int .i64 (dat n f).2.2]) ∧ Below w.heap.size w w' := by
  have hmf : ∀ (fn : Fn) (first cap : Array Value) (w : World), (Instr.makeFunc fn first cap).run Tryd.prog w = .ok (.func fn first cap) w := fun _ _ _ _ => rfl
  go_enter Tryd.func46, Tryd.ntmps46
  go_wp2_with fail
  refine (search_any n f (w.heap.size + 1) w.heap.size _ (by simp <;> omega) (by simp <;> omega) (by go_simp) (by go_simp)).mono ?_
  rintro e w' ⟨⟨k, rfl, hk0, hk1, hk2, hk3⟩, hb⟩
  obtain ⟨y, rfl⟩ : ∃ y : Int, k = y - 1 := ⟨k + 1, by omega⟩
  have hy1 : 1 ≤ y := by omega
  have hy3 : nyear y f ≤ n := by
    rcases hk2 with h | h
    · rw [show y = 1 by omega]; exact h0
    · rwa [show y - 1 + 1 = y by omega] at h
  have hy2 : y ≤ 2000 := by
    rcases Int.lt_or_le 2000 y with h | h
    · rw [show y = 2001 by omega] at hy3; omega
    · exact h
  have hy4 : n < nyear (y + 1) f := by
    rcases hk3 with h | h
    · omega
    · rwa [show y - 1 + 2 = y + 1 by omega] at h
  clear hk2 hk3 hk0 hk1
  have hnl := nyear_lo y f hy1 (by omega)
  have hnl' := nyear_lo (y + 1) f (by omega) (by omega)
  have hM : DM w.heap.size w'.heap.size n y 1 f (w'.alloc (.cells #[.int .i64 y, .int .i64 1, .int .i64 0] 40)).drew := DM.start hb
  have hbb : Below w.heap.size w (w'.alloc (.cells #[.int .i64 y, .int .i64 1, .int .i64 0] 40)).drew := by (repeat' (first | (with_reducible exact Below.refl _ _) | (with_reducible assumption) | (with_reducible refine below_al ?_ _) | (with_reducible refine Below.drew ?_) | (with_reducible refine Below.setCell ?_ (by first | exact Nat.le_refl _ | (dsimp only; omega) | (simp; omega)) _) | (with_reducible refine below_drewN ?_ _) | (with_reducible refine below_tt ?_ (by assumption))))
  have hsz : w.heap.size ≤ w'.heap.size := by have := hb.size; simp at this; omega
  clear hb
  go_wp2
  refine still_tail 5 (by kernel_rfl) (by kernel_rfl) ?_
  generalize (w'.alloc (.cells #[.int .i64 y, .int .i64 1, .int .i64 0] 40)).drew = w2 at hM hbb ⊢
  have m1 := hM.n0
  have m2 := hM.f0
  have m3 := hM.nf
  simp only [List.take_succ_cons, List.take_zero, List.drop_succ_cons, List.drop_zero]
  iterate 3 still_step
  still_call (still_eq (newYear_any _ _ _ (by omega) (by omega)))
  still_step
  refine wpStill_nil ?_
  go_wp2_with fail
  have hs1 := nyear_succ y f hy1
  have hs2 : nyear (y + 1) f ≤ nyear y f + 366 := by rw [hs1]; split <;> omega
  have h13 : Hid (nyear (y + 1) f = nyear y f + cum y 13 f) := by have := cum13 y f; unfold Hid; omega
  clear hs1 h0 h1
  have hM2 := hM.setN (n - nyear y f - cum y 1 f)
  rw [cum_one, Int.sub_zero] at hM2
  have hb2 : Below w.heap.size w (w2.setCell ⟨w.heap.size, 0, none⟩ (.int .i64 (n - nyear y f))) := hbb.setCell (Nat.le_refl _) _
  generalize w2.setCell ⟨w.heap.size, 0, none⟩ (.int .i64 (n - nyear y f)) = w3 at hM2 hb2 ⊢
  clear hM hbb m1 m2 m3
  generalize w'.heap.size = D at hM2 hsz ⊢
  go_loopg [] 13 (fun kx wr => ∃ m : Int, 1 ≤ m ∧ m ≤ 12 ∧ (13 - m).toNat ≤ kx ∧ nyear y f + cum y m f ≤ n ∧ DM w.heap.size D (n - nyear y f - cum y m f) y m f wr ∧ Below w.heap.size w wr)
  case atStart => exact ⟨1, by omega, by omega, by omega, by rw [cum_one]; omega, by rw [cum_one, Int.sub_zero]; exact hM2, hb2⟩
  case round =>
    obtain ⟨m, hm1, hm2, hkx, hcm, hM, hbl⟩ := hrel
    have hcb := cum_bd y m f hm1 (by omega)
    have hml := mlen_bd y m f
    have hsu : Hid (cum y (m + 1) f = cum y m f + mlen y m f) := cum_succ y m f hm1
    have m1 := hM.n0
    have m2 := hM.f0
    have m3 := hM.d1
    clear hM2 hb2
    by_cases hge : mlen y m f ≤ n - nyear y f - cum y m f
    · go_wp2_with fail
      go_quiet ((go_at_call 60; exact quiet_eq (lengthOfMonth_any _ _ _ _ (by omega))))
      go_wp2_with fail
      have hMq := (hM.drewN nq).drew
      have hbq : Below w.heap.size w (wr.drewN nq).drew := (below_drewN hbl nq).drew
      refine still_tail 7 (by kernel_rfl) (by kernel_rfl) ?_
      generalize (wr.drewN nq).drew = w4 at hMq hbq ⊢
      clear m1 m2 m3 hM hbl
      have m1 := hMq.n0
      have m2 := hMq.f0
      have m3 := hMq.d1
      have m4 := hMq.nf
      have hM5 := hMq.setN (n - nyear y f - cum y m f - mlen y m f)
      have m5 := hM5.d1
      have m6 := hM5.g1
      simp only [List.take_succ_cons, List.take_zero, List.drop_succ_cons, List.drop_zero]
      iterate 5 still_step
      still_call (still_eq (lengthOfMonth_any _ _ _ _ (by omega)))
      still_step
      refine wpStill_nil ?_
      go_wp2_with fail
      go_roundg (12 - m).toNat
      case measure => omega
      case rel =>
        have hm12 : m < 12 := by
          rcases Int.lt_or_le m 12 with h | h
          · exact h
          · have e1 := h13.out; have e2 := hsu.out; rw [show m + 1 = 13 by omega] at e2; omega
        have e2 := hsu.out
        refine ⟨m + 1, by omega, by omega, by omega, by omega, ?_, ?_⟩
        · rw [e2, show n - nyear y f - (cum y m f + mlen y m f) = n - nyear y f - cum y m f - mlen y m f by omega]
          exact hM5.setM (m + 1)
        · exact (hbq.setCell (Nat.le_refl _) _).setCell (by dsimp only; omega) _
    · have hdat : Hid (IsDat n f (y, m, n - nyear y f - cum y m f + 1)) := ⟨valid_mk hy1 hy2 hm1 hm2 (by dsimp only; omega) (by dsimp only; omega), by unfold num; dsimp only; omega⟩
      go_wp2_with fail
      go_quiet ((go_at_call 60; exact quiet_eq (lengthOfMonth_any _ _ _ _ (by omega))))
      have hMq := hM.drewN nq
      have hbq : Below w.heap.size w (wr.drewN nq) := below_drewN hbl nq
      generalize wr.drewN nq = w5 at hMq hbq ⊢
      clear m1 m2 m3 hM hbl
      have hne := hMq.ne
      have ne1 : D ≠ w.heap.size + 1 + 1 := by omega
      have ne2 : w.heap.size + 1 + 1 ≠ D := by omega
      have ne3 : D ≠ w.heap.size := by omega
      have ne4 : w.heap.size ≠ D := by omega
      have m1 := hMq.n0
      have d0 := hMq.d0
      have d1 := hMq.d1
      have d2 := hMq.d2
      have g2 := hMq.g2
      have q0 : w5.cell? ⟨w.heap.size + 1 + 1, 0, none⟩ = some (.int .i64 0) := hMq.r0
      have q1 : w5.cell? ⟨w.heap.size + 1 + 1, 1, none⟩ = some (.int .i64 0) := hMq.r1
      have q2 : w5.cell? ⟨w.heap.size + 1 + 1, 2, none⟩ = some (.int .i64 0) := hMq.r2
      have s0 : w5.frozen? ⟨w.heap.size + 1 + 1, 0, none⟩ = false := hMq.s0
      have s1 : w5.frozen? ⟨w.heap.size + 1 + 1, 1, none⟩ = false := hMq.s1
      have s2 : w5.frozen? ⟨w.heap.size + 1 + 1, 2, none⟩ = false := hMq.s2
      go_wp2_with fail
      refine bodyPost_ret (v := .agg #[.int .i64 y, .int .i64 m, .int .i64 (n - nyear y f - cum y m f + 1)]) (by simp [results, Tryd.results46, go_sem, *]) rfl ⟨?_, ?_⟩
      · rw [dat_of hdat.out]
      · exact (((hbq.setCell hsz _).setCell (by dsimp only; omega) _).setCell (by dsimp only; omega) _).setCell (by dsimp only; omega) _
end Go.Proofs.YtnjfpipadfcapaaDoor
