/- The date of a number, on the reference's side. -/
import Derived.Test.YtnjfpipadfcapaaDoorNum
import Derived.Test.YtnjfpipadfcapaaDoorDay
import Derived.Deep.LoopGhost
import Derived.Lib.Hide
namespace Go.Proofs.YtnjfpipadfcapaaDoor
open Go.RowKit

theorem sJan_any (y : Int) (f : Bool) (w : World) (h1 : 1 ≤ y) (h2 : y ≤ 100000) :
    Calls Tryd.prog 54 #[.agg #[.int .i64 y, .int .i64 1, .int .i64 1], .bool f] w fun e w' => e = .returned (.int .i64 (nyear y f)) ∧ Below w.heap.size w w' := by
  have := l01Number_any y 1 1 f w h1 h2 (by omega) (by omega) (by omega) (by omega)
  rwa [num_newYear] at this
theorem sFirst_any (y m : Int) (f : Bool) (w : World) (h1 : 1 ≤ y) (h2 : y ≤ 100000) (h3 : 1 ≤ m) (h4 : m ≤ 13) :
    Calls Tryd.prog 54 #[.agg #[.int .i64 y, .int .i64 m, .int .i64 1], .bool f] w fun e w' => e = .returned (.int .i64 (nyear y f + cum y m f)) ∧ Below w.heap.size w w' := by
  have := l01Number_any y m 1 f w h1 h2 h3 h4 (by omega) (by omega)
  rwa [num_first] at this

/-- The memory of l01Date: the result's place and the date that is counted up. -/
structure SM (B D : Nat) (y m : Int) (w : World) : Prop where
  ne : B < D
  lt : D < w.heap.size
  d0 : w.cell? ⟨D, 0, none⟩ = some (.int .i64 y)
  d1 : w.cell? ⟨D, 1, none⟩ = some (.int .i64 m)
  d2 : w.cell? ⟨D, 2, none⟩ = some (.int .i64 1)
  g0 : w.frozen? ⟨D, 0, none⟩ = false
  g1 : w.frozen? ⟨D, 1, none⟩ = false
  g2 : w.frozen? ⟨D, 2, none⟩ = false
  r0 : w.cell? ⟨B, 0, none⟩ = some (.int .i64 0)
  r1 : w.cell? ⟨B, 1, none⟩ = some (.int .i64 0)
  r2 : w.cell? ⟨B, 2, none⟩ = some (.int .i64 0)
  s0 : w.frozen? ⟨B, 0, none⟩ = false
  s1 : w.frozen? ⟨B, 1, none⟩ = false
  s2 : w.frozen? ⟨B, 2, none⟩ = false
theorem SM.below {B D : Nat} {y m : Int} {w w' : World} (h : SM B D y m w) (hb : Below w.heap.size w w') : SM B D y m w' := by
  have hl := h.lt
  have hn := h.ne
  have c : ∀ o, w'.cell? ⟨D, o, none⟩ = w.cell? ⟨D, o, none⟩ := fun o => hb.cell (p := ⟨D, o, none⟩) hl
  have f : ∀ o, w'.frozen? ⟨D, o, none⟩ = w.frozen? ⟨D, o, none⟩ := fun o => hb.frozen (p := ⟨D, o, none⟩) hl
  have c' : ∀ o, w'.cell? ⟨B, o, none⟩ = w.cell? ⟨B, o, none⟩ := fun o => hb.cell (p := ⟨B, o, none⟩) (by dsimp only; omega)
  have f' : ∀ o, w'.frozen? ⟨B, o, none⟩ = w.frozen? ⟨B, o, none⟩ := fun o => hb.frozen (p := ⟨B, o, none⟩) (by dsimp only; omega)
  exact ⟨hn, Nat.lt_of_lt_of_le hl hb.size, (c 0).trans h.d0, (c 1).trans h.d1, (c 2).trans h.d2, (f 0).trans h.g0, (f 1).trans h.g1, (f 2).trans h.g2, (c' 0).trans h.r0, (c' 1).trans h.r1, (c' 2).trans h.r2, (f' 0).trans h.s0, (f' 1).trans h.s1, (f' 2).trans h.s2⟩
theorem sother {w : World} {b o c p : Nat} {v u : Value} (h : w.cell? ⟨c, p, none⟩ = some u) (hne : b ≠ c ∨ o ≠ p) : (w.setCell ⟨b, o, none⟩ v).cell? ⟨c, p, none⟩ = some u := by
  rw [World.cell?_setCell_other _ _ _ _ (by intro e; simp at e; omega)]; exact h
theorem SM.setY {B D : Nat} {y m : Int} {w : World} (h : SM B D y m w) (y' : Int) : SM B D y' m (w.setCell ⟨D, 0, none⟩ (.int .i64 y')) := by
  have := h.ne
  exact ⟨h.ne, by rw [World.size_setCell]; exact h.lt, World.cell?_setCell_same _ _ _ h.d0, sother h.d1 (by omega), sother h.d2 (by omega), (World.frozen?_setCell _ _ _ _).trans h.g0, (World.frozen?_setCell _ _ _ _).trans h.g1, (World.frozen?_setCell _ _ _ _).trans h.g2,
    sother h.r0 (by omega), sother h.r1 (by omega), sother h.r2 (by omega), (World.frozen?_setCell _ _ _ _).trans h.s0, (World.frozen?_setCell _ _ _ _).trans h.s1, (World.frozen?_setCell _ _ _ _).trans h.s2⟩
theorem SM.setM {B D : Nat} {y m : Int} {w : World} (h : SM B D y m w) (m' : Int) : SM B D y m' (w.setCell ⟨D, 1, none⟩ (.int .i64 m')) := by
  have := h.ne
  exact ⟨h.ne, by rw [World.size_setCell]; exact h.lt, sother h.d0 (by omega), World.cell?_setCell_same _ _ _ h.d1, sother h.d2 (by omega), (World.frozen?_setCell _ _ _ _).trans h.g0, (World.frozen?_setCell _ _ _ _).trans h.g1, (World.frozen?_setCell _ _ _ _).trans h.g2,
    sother h.r0 (by omega), sother h.r1 (by omega), sother h.r2 (by omega), (World.frozen?_setCell _ _ _ _).trans h.s0, (World.frozen?_setCell _ _ _ _).trans h.s1, (World.frozen?_setCell _ _ _ _).trans h.s2⟩
theorem SM.start (w : World) (y : Int) (td : TypeId) : SM w.heap.size (w.heap.size + 1) y 1 ((w.alloc (.cells #[.int .i64 0, .int .i64 0, .int .i64 0] td)).alloc (.cells #[.int .i64 y, .int .i64 1, .int .i64 1] td)) := by
  constructor
  all_goals first
    | omega
    | (simp; done)
    | (simp [go_sem]; done)

/-- The years counted up. -/
def yearsFrom (n : Int) (f : Bool) : Int := (if f = true then n - 2 else n) / 366 + 1
theorem yearsFrom_bd {n : Int} {f : Bool} (h : nyear 1 f ≤ n) (k : n ≤ 731999) : 1 ≤ yearsFrom n f ∧ yearsFrom n f ≤ 2000 ∧ nyear (yearsFrom n f) f ≤ n := by
  cases f
  · have e : nyear 1 false = 0 := by decide
    unfold yearsFrom nyear; simp; omega
  · have e : nyear 1 true = 2 := by decide
    unfold yearsFrom nyear; simp; omega

set_option maxHeartbeats 2000000 in
theorem l01Date_any (n : Int) (f : Bool) (w : World) (h0 : nyear 1 f ≤ n) (h1 : n ≤ 731999) :
    Calls Tryd.prog 67 #[.int .i64 n, .bool f] w fun e w' => e = .returned (.agg #[.int .i64 (sdat n f).1, .int .i64 (sdat n f).2.1, .int .i64 (sdat n f).2.2]) ∧ Below w.heap.size w w' := by
  have hyf := yearsFrom_bd h0 h1
  have hn0 : 0 ≤ n := by cases f <;> simp [nyear] at h0 <;> omega
  cases f
  · have hY : Hid (yearsFrom n false = n / 366 + 1) := rfl
    go_enter Tryd.func67, Tryd.ntmps67
    go_wp2_with fail
    rw [hY.out] at hyf
    generalize n / 366 + 1 = y0 at hyf ⊢
    clear hY
    obtain ⟨hy1, hy2, hy3⟩ := hyf
    have hS := SM.start w y0 40
    have hB : Below w.heap.size w ((w.alloc (.cells #[.int .i64 0, .int .i64 0, .int .i64 0] 40)).alloc (.cells #[.int .i64 y0, .int .i64 1, .int .i64 1] 40)) := by (repeat' (first | (with_reducible exact Below.refl _ _) | (with_reducible assumption) | (with_reducible refine below_al ?_ _) | (with_reducible refine Below.drew ?_) | (with_reducible refine Below.setCell ?_ (by first | exact Nat.le_refl _ | (dsimp only; omega) | (simp; omega)) _) | (with_reducible refine below_drewN ?_ _) | (with_reducible refine below_tt ?_ (by assumption))))
    generalize (w.alloc (.cells #[.int .i64 0, .int .i64 0, .int .i64 0] 40)).alloc (.cells #[.int .i64 y0, .int .i64 1, .int .i64 1] 40) = w2 at hS hB ⊢
    go_loopg [] 2000 (fun kx wr => ∃ y : Int, 1 ≤ y ∧ y ≤ 2000 ∧ (2000 - y).toNat ≤ kx ∧ nyear y false ≤ n ∧ SM w.heap.size (w.heap.size + 1) y 1 wr ∧ Below w.heap.size w wr)
    case atStart => exact ⟨y0, hy1, hy2, by omega, hy3, hS, hB⟩
    case round =>
      clear hS hB hy1 hy2 hy3
      obtain ⟨y, hy1, hy2, hkx, hy3, hS, hB⟩ := hrel
      have d0 := hS.d0
      by_cases hlt : y < 2000
      · by_cases hge : nyear (y + 1) false ≤ n
        · go_wp2_with fail
          refine (sJan_any (y + 1) false _ (by omega) (by omega)).mono ?_
          rintro e w4 ⟨rfl, hb⟩
          have hS4 := hS.below hb
          have hB4 := below_tt hB hb
          clear d0 hS hB hb
          have d0 := hS4.d0
          have g0 := hS4.g0
          go_wp2_with fail
          go_roundg (2000 - (y + 1)).toNat
          case measure => omega
          case rel => exact ⟨y + 1, by omega, by omega, by omega, hge, hS4.setY (y + 1), hB4.setCell (by dsimp only; omega) _⟩
        · have hex : y = 2000 ∨ n < nyear (y + 1) false := Or.inr (by omega)
          have HX := Lib.hid hex
          clear hex
          go_wp2_with fail
          refine (sJan_any (y + 1) false _ (by omega) (by omega)).mono ?_
          rintro e w4 ⟨rfl, hb⟩
          have hS4 := hS.below hb
          have hB4 := below_tt hB hb
          clear d0 hS hB hb
          have hS := hS4
          have hB := hB4
          clear hS4 hB4
          have d0 := hS.d0
          go_wp2_with fail
          go_loopg [] 12 (fun kx wr => ∃ m : Int, 1 ≤ m ∧ m ≤ 12 ∧ (12 - m).toNat ≤ kx ∧ nyear y false + cum y m false ≤ n ∧ SM w.heap.size (w.heap.size + 1) y m wr ∧ Below w.heap.size w wr)
          case atStart => exact ⟨1, by omega, by omega, by omega, by rw [cum_one]; omega, hS, hB⟩
          case round =>
            clear hS hB d0
            obtain ⟨m, hm1, hm2, hkm, hm3, hS, hB⟩ := hrel
            have d0 := hS.d0
            have d1 := hS.d1
            have hcb := cum_bd y m false hm1 (by omega)
            have hnb := nyear_lo y false hy1 (by omega)
            by_cases hmlt : m < 12
            · have hcb' := cum_bd y (m + 1) false (by omega) (by omega)
              by_cases hmge : nyear y false + cum y (m + 1) false ≤ n
              · go_wp2_with fail
                refine (sFirst_any y (m + 1) false _ (by omega) (by omega) (by omega) (by omega)).mono ?_
                rintro e w4 ⟨rfl, hb⟩
                have hS4 := hS.below hb
                have hB4 := below_tt hB hb
                clear d0 d1 hS hB hb
                have d1 := hS4.d1
                have g1 := hS4.g1
                go_wp2_with fail
                go_roundg (12 - (m + 1)).toNat
                case measure => omega
                case rel => exact ⟨m + 1, by omega, by omega, by omega, hmge, hS4.setM (m + 1), hB4.setCell (by dsimp only; omega) _⟩
              · have hsd : Hid (sdat n false = (y, m, n - (nyear y false + cum y m false) + 1)) := sdat_of hy1 hy2 hm1 hm2 hm3 HX.out (Or.inr (by omega))
                go_wp2_with fail
                refine (sFirst_any y (m + 1) false _ (by omega) (by omega) (by omega) (by omega)).mono ?_
                rintro e w4 ⟨rfl, hb⟩
                have hS4 := hS.below hb
                have hB4 := below_tt hB hb
                clear d0 d1 hS hB hb
                have d0 := hS4.d0
                have d1 := hS4.d1
                have d2 := hS4.d2
                go_wp2_with fail
                refine (sFirst_any y m false _ (by omega) (by omega) (by omega) (by omega)).mono ?_
                rintro e w5 ⟨rfl, hb⟩
                have hS5 := hS4.below hb
                have hB5 := below_tt hB4 hb
                clear d0 d1 d2 hS4 hB4 hb
                have ne1 : w.heap.size + 1 ≠ w.heap.size := by omega
                have ne2 : w.heap.size ≠ w.heap.size + 1 := by omega
                have d0 := hS5.d0
                have d1 := hS5.d1
                have d2 := hS5.d2
                have g2 := hS5.g2
                have q0 := hS5.r0
                have q1 := hS5.r1
                have q2 := hS5.r2
                have s0 := hS5.s0
                have s1 := hS5.s1
                have s2 := hS5.s2
                go_wp2_with fail
                refine bodyPost_ret (v := .agg #[.int .i64 y, .int .i64 m, .int .i64 (n - (nyear y false + cum y m false) + 1)]) (by simp [results, Tryd.results67, go_sem, *]) rfl ⟨?_, ?_⟩
                · rw [hsd.out]
                · exact (((hB5.setCell (by dsimp only; omega) _).setCell (by dsimp only; omega) _).setCell (by dsimp only; omega) _).setCell (by dsimp only; omega) _
            · obtain rfl : m = 12 := by omega
              have hsd : Hid (sdat n false = (y, 12, n - (nyear y false + cum y 12 false) + 1)) := sdat_of hy1 hy2 hm1 hm2 hm3 HX.out (Or.inl rfl)
              have hS4 := hS
              have hB4 := hB
              clear d0 d1 hS hB
              have d0 := hS4.d0
              have d1 := hS4.d1
              have d2 := hS4.d2
              go_wp2_with fail
              refine (sFirst_any y 12 false _ (by omega) (by omega) (by omega) (by omega)).mono ?_
              rintro e w5 ⟨rfl, hb⟩
              have hS5 := hS4.below hb
              have hB5 := below_tt hB4 hb
              clear d0 d1 d2 hS4 hB4 hb
              have ne1 : w.heap.size + 1 ≠ w.heap.size := by omega
              have ne2 : w.heap.size ≠ w.heap.size + 1 := by omega
              have d0 := hS5.d0
              have d1 := hS5.d1
              have d2 := hS5.d2
              have g2 := hS5.g2
              have q0 := hS5.r0
              have q1 := hS5.r1
              have q2 := hS5.r2
              have s0 := hS5.s0
              have s1 := hS5.s1
              have s2 := hS5.s2
              go_wp2_with fail
              refine bodyPost_ret (v := .agg #[.int .i64 y, .int .i64 12, .int .i64 (n - (nyear y false + cum y 12 false) + 1)]) (by simp [results, Tryd.results67, go_sem, *]) rfl ⟨?_, ?_⟩
              · rw [hsd.out]
              · exact (((hB5.setCell (by dsimp only; omega) _).setCell (by dsimp only; omega) _).setCell (by dsimp only; omega) _).setCell (by dsimp only; omega) _
      · obtain rfl : y = 2000 := by omega
        go_wp2_with fail
        go_loopg [] 12 (fun kx wr => ∃ m : Int, 1 ≤ m ∧ m ≤ 12 ∧ (12 - m).toNat ≤ kx ∧ nyear 2000 false + cum 2000 m false ≤ n ∧ SM w.heap.size (w.heap.size + 1) 2000 m wr ∧ Below w.heap.size w wr)
        case atStart => exact ⟨1, by omega, by omega, by omega, by rw [cum_one]; omega, hS, hB⟩
        case round =>
          clear hS hB d0
          obtain ⟨m, hm1, hm2, hkm, hm3, hS, hB⟩ := hrel
          have d0 := hS.d0
          have d1 := hS.d1
          have hcb := cum_bd 2000 m false hm1 (by omega)
          have hnb := nyear_lo 2000 false hy1 (by omega)
          by_cases hmlt : m < 12
          · have hcb' := cum_bd 2000 (m + 1) false (by omega) (by omega)
            by_cases hmge : nyear 2000 false + cum 2000 (m + 1) false ≤ n
            · go_wp2_with fail
              refine (sFirst_any 2000 (m + 1) false _ (by omega) (by omega) (by omega) (by omega)).mono ?_
              rintro e w4 ⟨rfl, hb⟩
              have hS4 := hS.below hb
              have hB4 := below_tt hB hb
              clear d0 d1 hS hB hb
              have d1 := hS4.d1
              have g1 := hS4.g1
              go_wp2_with fail
              go_roundg (12 - (m + 1)).toNat
              case measure => omega
              case rel => exact ⟨m + 1, by omega, by omega, by omega, hmge, hS4.setM (m + 1), hB4.setCell (by dsimp only; omega) _⟩
            · have hsd : Hid (sdat n false = (2000, m, n - (nyear 2000 false + cum 2000 m false) + 1)) := sdat_of hy1 hy2 hm1 hm2 hm3 (Or.inl rfl) (Or.inr (by omega))
              go_wp2_with fail
              refine (sFirst_any 2000 (m + 1) false _ (by omega) (by omega) (by omega) (by omega)).mono ?_
              rintro e w4 ⟨rfl, hb⟩
              have hS4 := hS.below hb
              have hB4 := below_tt hB hb
              clear d0 d1 hS hB hb
              have d0 := hS4.d0
              have d1 := hS4.d1
              have d2 := hS4.d2
              go_wp2_with fail
              refine (sFirst_any 2000 m false _ (by omega) (by omega) (by omega) (by omega)).mono ?_
              rintro e w5 ⟨rfl, hb⟩
              have hS5 := hS4.below hb
              have hB5 := below_tt hB4 hb
              clear d0 d1 d2 hS4 hB4 hb
              have ne1 : w.heap.size + 1 ≠ w.heap.size := by omega
              have ne2 : w.heap.size ≠ w.heap.size + 1 := by omega
              have d0 := hS5.d0
              have d1 := hS5.d1
              have d2 := hS5.d2
              have g2 := hS5.g2
              have q0 := hS5.r0
              have q1 := hS5.r1
              have q2 := hS5.r2
              have s0 := hS5.s0
              have s1 := hS5.s1
              have s2 := hS5.s2
              go_wp2_with fail
              refine bodyPost_ret (v := .agg #[.int .i64 2000, .int .i64 m, .int .i64 (n - (nyear 2000 false + cum 2000 m false) + 1)]) (by simp [results, Tryd.results67, go_sem, *]) rfl ⟨?_, ?_⟩
              · rw [hsd.out]
              · exact (((hB5.setCell (by dsimp only; omega) _).setCell (by dsimp only; omega) _).setCell (by dsimp only; omega) _).setCell (by dsimp only; omega) _
          · obtain rfl : m = 12 := by omega
            have hsd : Hid (sdat n false = (2000, 12, n - (nyear 2000 false + cum 2000 12 false) + 1)) := sdat_of hy1 hy2 hm1 hm2 hm3 (Or.inl rfl) (Or.inl rfl)
            have hS4 := hS
            have hB4 := hB
            clear d0 d1 hS hB
            have d0 := hS4.d0
            have d1 := hS4.d1
            have d2 := hS4.d2
            go_wp2_with fail
            refine (sFirst_any 2000 12 false _ (by omega) (by omega) (by omega) (by omega)).mono ?_
            rintro e w5 ⟨rfl, hb⟩
            have hS5 := hS4.below hb
            have hB5 := below_tt hB4 hb
            clear d0 d1 d2 hS4 hB4 hb
            have ne1 : w.heap.size + 1 ≠ w.heap.size := by omega
            have ne2 : w.heap.size ≠ w.heap.size + 1 := by omega
            have d0 := hS5.d0
            have d1 := hS5.d1
            have d2 := hS5.d2
            have g2 := hS5.g2
            have q0 := hS5.r0
            have q1 := hS5.r1
            have q2 := hS5.r2
            have s0 := hS5.s0
            have s1 := hS5.s1
            have s2 := hS5.s2
            go_wp2_with fail
            refine bodyPost_ret (v := .agg #[.int .i64 2000, .int .i64 12, .int .i64 (n - (nyear 2000 false + cum 2000 12 false) + 1)]) (by simp [results, Tryd.results67, go_sem, *]) rfl ⟨?_, ?_⟩
            · rw [hsd.out]
            · exact (((hB5.setCell (by dsimp only; omega) _).setCell (by dsimp only; omega) _).setCell (by dsimp only; omega) _).setCell (by dsimp only; omega) _
  · have hY : Hid (yearsFrom n true = (n - 2) / 366 + 1) := rfl
    have hn2 : 2 ≤ n := by have e : nyear 1 true = 2 := by decide
                           omega
    go_enter Tryd.func67, Tryd.ntmps67
    go_wp2_with fail
    rw [hY.out] at hyf
    generalize (n - 2) / 366 + 1 = y0 at hyf ⊢
    clear hY
    obtain ⟨hy1, hy2, hy3⟩ := hyf
    have hS := SM.start w y0 40
    have hB : Below w.heap.size w ((w.alloc (.cells #[.int .i64 0, .int .i64 0, .int .i64 0] 40)).alloc (.cells #[.int .i64 y0, .int .i64 1, .int .i64 1] 40)) := by (repeat' (first | (with_reducible exact Below.refl _ _) | (with_reducible assumption) | (with_reducible refine below_al ?_ _) | (with_reducible refine Below.drew ?_) | (with_reducible refine Below.setCell ?_ (by first | exact Nat.le_refl _ | (dsimp only; omega) | (simp; omega)) _) | (with_reducible refine below_drewN ?_ _) | (with_reducible refine below_tt ?_ (by assumption))))
    generalize (w.alloc (.cells #[.int .i64 0, .int .i64 0, .int .i64 0] 40)).alloc (.cells #[.int .i64 y0, .int .i64 1, .int .i64 1] 40) = w2 at hS hB ⊢
    go_loopg [] 2000 (fun kx wr => ∃ y : Int, 1 ≤ y ∧ y ≤ 2000 ∧ (2000 - y).toNat ≤ kx ∧ nyear y true ≤ n ∧ SM w.heap.size (w.heap.size + 1) y 1 wr ∧ Below w.heap.size w wr)
    case atStart => exact ⟨y0, hy1, hy2, by omega, hy3, hS, hB⟩
    case round =>
      clear hS hB hy1 hy2 hy3
      obtain ⟨y, hy1, hy2, hkx, hy3, hS, hB⟩ := hrel
      have d0 := hS.d0
      by_cases hlt : y < 2000
      · by_cases hge : nyear (y + 1) true ≤ n
        · go_wp2_with fail
          refine (sJan_any (y + 1) true _ (by omega) (by omega)).mono ?_
          rintro e w4 ⟨rfl, hb⟩
          have hS4 := hS.below hb
          have hB4 := below_tt hB hb
          clear d0 hS hB hb
          have d0 := hS4.d0
          have g0 := hS4.g0
          go_wp2_with fail
          go_roundg (2000 - (y + 1)).toNat
          case measure => omega
          case rel => exact ⟨y + 1, by omega, by omega, by omega, hge, hS4.setY (y + 1), hB4.setCell (by dsimp only; omega) _⟩
        · have hex : y = 2000 ∨ n < nyear (y + 1) true := Or.inr (by omega)
          have HX := Lib.hid hex
          clear hex
          go_wp2_with fail
          refine (sJan_any (y + 1) true _ (by omega) (by omega)).mono ?_
          rintro e w4 ⟨rfl, hb⟩
          have hS4 := hS.below hb
          have hB4 := below_tt hB hb
          clear d0 hS hB hb
          have hS := hS4
          have hB := hB4
          clear hS4 hB4
          have d0 := hS.d0
          go_wp2_with fail
          go_loopg [] 12 (fun kx wr => ∃ m : Int, 1 ≤ m ∧ m ≤ 12 ∧ (12 - m).toNat ≤ kx ∧ nyear y true + cum y m true ≤ n ∧ SM w.heap.size (w.heap.size + 1) y m wr ∧ Below w.heap.size w wr)
          case atStart => exact ⟨1, by omega, by omega, by omega, by rw [cum_one]; omega, hS, hB⟩
          case round =>
            clear hS hB d0
            obtain ⟨m, hm1, hm2, hkm, hm3, hS, hB⟩ := hrel
            have d0 := hS.d0
            have d1 := hS.d1
            have hcb := cum_bd y m true hm1 (by omega)
            have hnb := nyear_lo y true hy1 (by omega)
            by_cases hmlt : m < 12
            · have hcb' := cum_bd y (m + 1) true (by omega) (by omega)
              by_cases hmge : nyear y true + cum y (m + 1) true ≤ n
              · go_wp2_with fail
                refine (sFirst_any y (m + 1) true _ (by omega) (by omega) (by omega) (by omega)).mono ?_
                rintro e w4 ⟨rfl, hb⟩
                have hS4 := hS.below hb
                have hB4 := below_tt hB hb
                clear d0 d1 hS hB hb
                have d1 := hS4.d1
                have g1 := hS4.g1
                go_wp2_with fail
                go_roundg (12 - (m + 1)).toNat
                case measure => omega
                case rel => exact ⟨m + 1, by omega, by omega, by omega, hmge, hS4.setM (m + 1), hB4.setCell (by dsimp only; omega) _⟩
              · have hsd : Hid (sdat n true = (y, m, n - (nyear y true + cum y m true) + 1)) := sdat_of hy1 hy2 hm1 hm2 hm3 HX.out (Or.inr (by omega))
                go_wp2_with fail
                refine (sFirst_any y (m + 1) true _ (by omega) (by omega) (by omega) (by omega)).mono ?_
                rintro e w4 ⟨rfl, hb⟩
                have hS4 := hS.below hb
                have hB4 := below_tt hB hb
                clear d0 d1 hS hB hb
                have d0 := hS4.d0
                have d1 := hS4.d1
                have d2 := hS4.d2
                go_wp2_with fail
                refine (sFirst_any y m true _ (by omega) (by omega) (by omega) (by omega)).mono ?_
                rintro e w5 ⟨rfl, hb⟩
                have hS5 := hS4.below hb
                have hB5 := below_tt hB4 hb
                clear d0 d1 d2 hS4 hB4 hb
                have ne1 : w.heap.size + 1 ≠ w.heap.size := by omega
                have ne2 : w.heap.size ≠ w.heap.size + 1 := by omega
                have d0 := hS5.d0
                have d1 := hS5.d1
                have d2 := hS5.d2
                have g2 := hS5.g2
                have q0 := hS5.r0
                have q1 := hS5.r1
                have q2 := hS5.r2
                have s0 := hS5.s0
                have s1 := hS5.s1
                have s2 := hS5.s2
                go_wp2_with fail
                refine bodyPost_ret (v := .agg #[.int .i64 y, .int .i64 m, .int .i64 (n - (nyear y true + cum y m true) + 1)]) (by simp [results, Tryd.results67, go_sem, *]) rfl ⟨?_, ?_⟩
                · rw [hsd.out]
                · exact (((hB5.setCell (by dsimp only; omega) _).setCell (by dsimp only; omega) _).setCell (by dsimp only; omega) _).setCell (by dsimp only; omega) _
            · obtain rfl : m = 12 := by omega
              have hsd : Hid (sdat n true = (y, 12, n - (nyear y true + cum y 12 true) + 1)) := sdat_of hy1 hy2 hm1 hm2 hm3 HX.out (Or.inl rfl)
              have hS4 := hS
              have hB4 := hB
              clear d0 d1 hS hB
              have d0 := hS4.d0
              have d1 := hS4.d1
              have d2 := hS4.d2
              go_wp2_with fail
              refine (sFirst_any y 12 true _ (by omega) (by omega) (by omega) (by omega)).mono ?_
              rintro e w5 ⟨rfl, hb⟩
              have hS5 := hS4.below hb
              have hB5 := below_tt hB4 hb
              clear d0 d1 d2 hS4 hB4 hb
              have ne1 : w.heap.size + 1 ≠ w.heap.size := by omega
              have ne2 : w.heap.size ≠ w.heap.size + 1 := by omega
              have d0 := hS5.d0
              have d1 := hS5.d1
              have d2 := hS5.d2
              have g2 := hS5.g2
              have q0 := hS5.r0
              have q1 := hS5.r1
              have q2 := hS5.r2
              have s0 := hS5.s0
              have s1 := hS5.s1
              have s2 := hS5.s2
              go_wp2_with fail
              refine bodyPost_ret (v := .agg #[.int .i64 y, .int .i64 12, .int .i64 (n - (nyear y true + cum y 12 true) + 1)]) (by simp [results, Tryd.results67, go_sem, *]) rfl ⟨?_, ?_⟩
              · rw [hsd.out]
              · exact (((hB5.setCell (by dsimp only; omega) _).setCell (by dsimp only; omega) _).setCell (by dsimp only; omega) _).setCell (by dsimp only; omega) _
      · obtain rfl : y = 2000 := by omega
        go_wp2_with fail
        go_loopg [] 12 (fun kx wr => ∃ m : Int, 1 ≤ m ∧ m ≤ 12 ∧ (12 - m).toNat ≤ kx ∧ nyear 2000 true + cum 2000 m true ≤ n ∧ SM w.heap.size (w.heap.size + 1) 2000 m wr ∧ Below w.heap.size w wr)
        case atStart => exact ⟨1, by omega, by omega, by omega, by rw [cum_one]; omega, hS, hB⟩
        case round =>
          clear hS hB d0
          obtain ⟨m, hm1, hm2, hkm, hm3, hS, hB⟩ := hrel
          have d0 := hS.d0
          have d1 := hS.d1
          have hcb := cum_bd 2000 m true hm1 (by omega)
          have hnb := nyear_lo 2000 true hy1 (by omega)
          by_cases hmlt : m < 12
          · have hcb' := cum_bd 2000 (m + 1) true (by omega) (by omega)
            by_cases hmge : nyear 2000 true + cum 2000 (m + 1) true ≤ n
            · go_wp2_with fail
              refine (sFirst_any 2000 (m + 1) true _ (by omega) (by omega) (by omega) (by omega)).mono ?_
              rintro e w4 ⟨rfl, hb⟩
              have hS4 := hS.below hb
              have hB4 := below_tt hB hb
              clear d0 d1 hS hB hb
              have d1 := hS4.d1
              have g1 := hS4.g1
              go_wp2_with fail
              go_roundg (12 - (m + 1)).toNat
              case measure => omega
              case rel => exact ⟨m + 1, by omega, by omega, by omega, hmge, hS4.setM (m + 1), hB4.setCell (by dsimp only; omega) _⟩
            · have hsd : Hid (sdat n true = (2000, m, n - (nyear 2000 true + cum 2000 m true) + 1)) := sdat_of hy1 hy2 hm1 hm2 hm3 (Or.inl rfl) (Or.inr (by omega))
              go_wp2_with fail
              refine (sFirst_any 2000 (m + 1) true _ (by omega) (by omega) (by omega) (by omega)).mono ?_
              rintro e w4 ⟨rfl, hb⟩
              have hS4 := hS.below hb
              have hB4 := below_tt hB hb
              clear d0 d1 hS hB hb
              have d0 := hS4.d0
              have d1 := hS4.d1
              have d2 := hS4.d2
              go_wp2_with fail
              refine (sFirst_any 2000 m true _ (by omega) (by omega) (by omega) (by omega)).mono ?_
              rintro e w5 ⟨rfl, hb⟩
              have hS5 := hS4.below hb
              have hB5 := below_tt hB4 hb
              clear d0 d1 d2 hS4 hB4 hb
              have ne1 : w.heap.size + 1 ≠ w.heap.size := by omega
              have ne2 : w.heap.size ≠ w.heap.size + 1 := by omega
              have d0 := hS5.d0
              have d1 := hS5.d1
              have d2 := hS5.d2
              have g2 := hS5.g2
              have q0 := hS5.r0
              have q1 := hS5.r1
              have q2 := hS5.r2
              have s0 := hS5.s0
              have s1 := hS5.s1
              have s2 := hS5.s2
              go_wp2_with fail
              refine bodyPost_ret (v := .agg #[.int .i64 2000, .int .i64 m, .int .i64 (n - (nyear 2000 true + cum 2000 m true) + 1)]) (by simp [results, Tryd.results67, go_sem, *]) rfl ⟨?_, ?_⟩
              · rw [hsd.out]
              · exact (((hB5.setCell (by dsimp only; omega) _).setCell (by dsimp only; omega) _).setCell (by dsimp only; omega) _).setCell (by dsimp only; omega) _
          · obtain rfl : m = 12 := by omega
            have hsd : Hid (sdat n true = (2000, 12, n - (nyear 2000 true + cum 2000 12 true) + 1)) := sdat_of hy1 hy2 hm1 hm2 hm3 (Or.inl rfl) (Or.inl rfl)
            have hS4 := hS
            have hB4 := hB
            clear d0 d1 hS hB
            have d0 := hS4.d0
            have d1 := hS4.d1
            have d2 := hS4.d2
            go_wp2_with fail
            refine (sFirst_any 2000 12 true _ (by omega) (by omega) (by omega) (by omega)).mono ?_
            rintro e w5 ⟨rfl, hb⟩
            have hS5 := hS4.below hb
            have hB5 := below_tt hB4 hb
            clear d0 d1 d2 hS4 hB4 hb
            have ne1 : w.heap.size + 1 ≠ w.heap.size := by omega
            have ne2 : w.heap.size ≠ w.heap.size + 1 := by omega
            have d0 := hS5.d0
            have d1 := hS5.d1
            have d2 := hS5.d2
            have g2 := hS5.g2
            have q0 := hS5.r0
            have q1 := hS5.r1
            have q2 := hS5.r2
            have s0 := hS5.s0
            have s1 := hS5.s1
            have s2 := hS5.s2
            go_wp2_with fail
            refine bodyPost_ret (v := .agg #[.int .i64 2000, .int .i64 12, .int .i64 (n - (nyear 2000 true + cum 2000 12 true) + 1)]) (by simp [results, Tryd.results67, go_sem, *]) rfl ⟨?_, ?_⟩
            · rw [hsd.out]
            · exact (((hB5.setCell (by dsimp only; omega) _).setCell (by dsimp only; omega) _).setCell (by dsimp only; omega) _).setCell (by dsimp only; omega) _
end Go.Proofs.YtnjfpipadfcapaaDoor
