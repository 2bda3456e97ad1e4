/- The program's numerals and the text of a set. -/
import Derived.Test.YtpinngcdojbndaaGreatDoorText2
import Derived.Test.YtpinngcdojbndaaGreatDoorLayT
import Derived.Lib.SmallJoins
import Derived.Lib.AppendIntMem
namespace Go.Proofs.YtpinngcdojbndaaGreatDoor
open Go.RowKit

/-- The library's table of powers of ten. -/
structure Tab (w : World) : Prop where
  h : Lib.TabIs Tryz.prog w "internal/strconv.uint64pow10" .u64 Lib.pow10Tab
theorem gPow : Tryz.prog.globalNamed "internal/strconv.uint64pow10" = some 3 := by kernel_rfl
theorem Tab.below {w w' : World} (h : Tab w) (hb : Below w.heap.size w w') : Tab w' := ⟨Go.Joins.tab_stays gPow h.h hb (Nat.le_refl _)⟩

theorem itoa_pos {n : Int} (h : 0 ≤ n) : Lib.itoa n = Lib.decDigits n.toNat := by unfold Lib.itoa; rw [if_neg (by omega)]
theorem decimal_any {n : Int} {w : World} (hT : Tab w) (h0 : 0 ≤ n) (h1 : n ≤ 9223372036854775807) :
    Calls Tryz.prog 40 #[.int .i64 n] w fun e w' => e = .returned (.string (bs (Lib.decDigits n.toNat))) ∧ Below w.heap.size w w' := by
  have he := Lib.hid (itoa_pos h0)
  go_enter Tryz.func40, Tryz.ntmps40
  go_wp2_with fail
  refine (lay_strconv_FormatInt_10 n (by omega) h1 w hT.h).mono ?_
  rintro e w1 ⟨rfl, k, os, hw⟩
  have hB : Below w.heap.size w w1 := by rw [hw]; exact Lib.below_grow w.heap.size w (Nat.le_refl _) k os
  rw [he.out]
  clear hw
  go_wp2_with fail
  go_ret
  exact ⟨rfl, hB⟩
theorem decimal_is {n : Int} {A : ByteArray} {w : World} (hA : bs (Lib.decDigits n.toNat) = A) (hT : Tab w) (h0 : 0 ≤ n) (h1 : n ≤ 9223372036854775807) :
    Calls Tryz.prog 40 #[.int .i64 n] w fun e w' => e = .returned (.string A) ∧ Below w.heap.size w w' := by
  subst hA; exact decimal_any hT h0 h1

theorem OwnT.form {w : World} {base : Nat} {v : Value} {zs : List ByteArray} (h : OwnT w base v zs) (hp : 0 < zs.length) : ∃ g cap, v = .slice (some ⟨g, 0, none⟩) zs.length cap ∧ zs.length ≤ cap ∧ g < w.heap.size := by
  rcases h.2 with ⟨_, h0⟩ | ⟨g, cap, cur, rfl, _, hg, hc, _⟩
  · omega
  · exact ⟨g, cap, rfl, hc, (Array.getElem?_eq_some_iff.1 hg).1⟩
theorem join_any {w : World} {base g cap : Nat} {zs : List ByteArray} (h : OwnT w base (.slice (some ⟨g, 0, none⟩) zs.length cap) zs) (hg : g < w.heap.size) (hcap : zs.length ≤ cap) (hN : zs.length ≤ 1000000) (hsum : lensB zs ≤ 1000000000) :
    Calls Tryz.prog 41 #[.slice (some ⟨g, 0, none⟩) zs.length cap, .string ⟨#[44]⟩] w fun e w' => e = .returned (.string (joinB zs 44)) ∧ Below w.heap.size w w' := by
  have hz := joinB_size zs
  unfold joinB at hz
  rw [bs_size] at hz
  refine lay_strings_Join g 0 cap zs ⟨#[44]⟩ w (fun j x hj => ?_) hg (by omega) hcap (by show (Lib.join _ [44]).length ≤ _; omega)
  obtain ⟨hlt, he⟩ := List.getElem?_eq_some_iff.1 hj
  rw [Nat.zero_add, ownT_get h hlt]
  simp [gT, List.getD_eq_getElem?_getD, hj]

set_option maxRecDepth 10000 in
set_option maxHeartbeats 4000000 in
theorem setText_cells (b off cap : Nat) (xs : List (Int × Int)) (w : World) (hT : Tab w) (hb : b < w.heap.size) (h : SpanAt w b off xs) (hl : xs.length ≤ 1000) (hp : 0 < xs.length) (hok : ∀ x ∈ xs, okT x) :
    Calls Tryz.prog 19 #[.slice (some ⟨b, off, none⟩) xs.length cap] w fun e w' => e = .returned (.string (bs (textL xs))) ∧ Below w.heap.size w w' := by
  have rg := cell_rg; have l2 : ∀ n : Nat, n < n + 1 + 1 := (fun _ => by omega); have l3 : ∀ n : Nat, n < n + 1 + 1 + 1 := (fun _ => by omega); have l4 : ∀ n : Nat, n < n + 1 + 1 + 1 + 1 := (fun _ => by omega)
  have hB := Below.refl w.heap.size w
  have hn0 : ((xs.length : Int) == 0) = false := by rw [beq_eq_false_iff_ne]; omega
  go_enter Tryz.func19, Tryz.ntmps19
  go_wp2_with fail
  go_loopw [3, 5, 6, 13] (fun s3 _ _ s13 wr => ∃ k : Nat, k ≤ xs.length ∧ s13 = .int .i64 k ∧ OwnT wr w.heap.size s3 ((xs.take k).map partB) ∧ Below w.heap.size w wr) (fun _ _ _ s13 _ => xs.length - (intOf s13).toNat)
  case atStart => exact ⟨0, by omega, rfl, OwnT.made w (Nat.le_refl _), by (repeat' (first | (with_reducible exact Below.refl _ _) | (with_reducible assumption) | (with_reducible refine below_al ?_ _) | (with_reducible refine Below.drew ?_) | (with_reducible refine Below.setCell ?_ (by first | exact Nat.le_refl _ | (dsimp only; omega) | (simp; omega)) _) | (with_reducible refine below_drewN ?_ _) | (with_reducible refine below_tt ?_ (by assumption))))⟩
  case round =>
    clear hB
    obtain ⟨k, hk, rfl, hO, hB⟩ := hrel
    by_cases hlt : k < xs.length
    · have hs := h.of_cells fun o => hB.cell (p := ⟨b, o, none⟩) hb
      have c0 := (hs k hlt).1
      have c1 := (hs k hlt).2
      have zb := bsize hB b hb
      have hTr := hT.below hB
      clear hs
      obtain ⟨h1, h2, h3⟩ := okT_get hok hlt
      have hsn := words_snoc hlt
      have elo := partB_lo (x := gS xs k)
      have ehi := partB_hi (x := gS xs k)
      generalize partB (gS xs k) = P at hsn elo ehi
      change wr.cell? _ = some (.int .i64 (gS xs k).1) at c0
      change wr.cell? _ = some (.int .i64 (gS xs k).2) at c1
      generalize (gS xs k).1 = F at *
      generalize (gS xs k).2 = T at *
      obtain ⟨A, hA⟩ : ∃ A, bs (Lib.decDigits F.toNat) = A := ⟨_, rfl⟩
      obtain ⟨C, hC⟩ : ∃ C, bs (Lib.decDigits T.toNat) = C := ⟨_, rfl⟩
      have zA := dec_len h1 (by omega)
      have zC := dec_len (n := T) (by omega) h3
      rw [hA] at zA elo ehi
      rw [hC] at zC ehi
      have hA := Lib.hid hA
      have hC := Lib.hid hC
      by_cases hft : F < T
      · have hP := Lib.hid (ehi hft)
        clear elo ehi
        have z1 : ¬ (9223372036854775807 < 2 + C.size) := by omega
        have z2 : ¬ (9223372036854775807 < A.size + (2 + C.size)) := by omega
        have hft' : decide (F < T) = true := decide_eq_true hft
        go_wp2_with fail
        have B0 := below_al (Below.refl _ wr) (.cells #[.int .i64 F, .int .i64 T] 36)
        have E0 : (wr.alloc (.cells #[.int .i64 F, .int .i64 T] 36)).cell? ⟨wr.heap.size, 0, none⟩ = some (.int .i64 F) := by simp [go_sem]
        have E1 : (wr.alloc (.cells #[.int .i64 F, .int .i64 T] 36)).cell? ⟨wr.heap.size, 1, none⟩ = some (.int .i64 T) := by simp [go_sem]
        have EZ : wr.heap.size < (wr.alloc (.cells #[.int .i64 F, .int .i64 T] 36)).heap.size := by simp
        have hT0 := hTr.below B0
        have hO := hO.below B0
        have hB := below_tt hB B0
        generalize wr.alloc (.cells #[.int .i64 F, .int .i64 T] 36) = w0 at *
        generalize wr.heap.size = g at *
        refine (decimal_is hA.out hT0 h1 (by omega)).mono ?_
        rintro e w1 ⟨rfl, b1⟩
        have hT1 := hT0.below b1
        have hO := hO.below b1
        have hB := below_tt hB b1
        have E0 := (b1.cell (p := ⟨g, 0, none⟩) EZ).trans E0
        have E1 := (b1.cell (p := ⟨g, 1, none⟩) EZ).trans E1
        clear c0 c1 zb
        go_wp2_with fail
        refine (decimal_is hC.out hT1 (by omega) (by omega)).mono ?_
        rintro e w2 ⟨rfl, b2⟩
        have hO := hO.below b2
        have hB := below_tt hB b2
        rw [hP.out] at hsn
        have hsn := Lib.hid hsn
        go_wp2_with (at_builtin; refine app_str (w0 := w) (p := A ++ (⟨#[46, 46]⟩ ++ C)) (zs := (xs.take k).map partB) (by (repeat' (first | (with_reducible exact Below.refl _ _) | (with_reducible assumption) | (with_reducible refine below_al ?_ _) | (with_reducible refine Below.drew ?_) | (with_reducible refine Below.setCell ?_ (by first | exact Nat.le_refl _ | (dsimp only; omega) | (simp; omega)) _) | (with_reducible refine below_drewN ?_ _) | (with_reducible refine below_tt ?_ (by assumption))))) (hO.alloc _) (by simp; omega) rfl _ _ rfl rfl rfl (by simp [go_sem]) ?_; intro v6 w6 hO6 hB6)
        go_roundw
        case rel => exact ⟨k + 1, by omega, by simp, by rw [← hsn.out, ByteArray.append_assoc]; exact hO6, hB6⟩
        case measure => simp [intOf]; omega
      · have hP := Lib.hid (elo hft)
        clear elo ehi
        have hft' : decide (F < T) = false := decide_eq_false hft
        rw [hP.out] at hsn
        have hsn := Lib.hid hsn
        go_wp2_with fail
        have B0 := below_al (Below.refl _ wr) (.cells #[.int .i64 F, .int .i64 T] 36)
        have E0 : (wr.alloc (.cells #[.int .i64 F, .int .i64 T] 36)).cell? ⟨wr.heap.size, 0, none⟩ = some (.int .i64 F) := by simp [go_sem]
        have E1 : (wr.alloc (.cells #[.int .i64 F, .int .i64 T] 36)).cell? ⟨wr.heap.size, 1, none⟩ = some (.int .i64 T) := by simp [go_sem]
        have EZ : wr.heap.size < (wr.alloc (.cells #[.int .i64 F, .int .i64 T] 36)).heap.size := by simp
        have hT0 := hTr.below B0
        have hO := hO.below B0
        have hB := below_tt hB B0
        generalize wr.alloc (.cells #[.int .i64 F, .int .i64 T] 36) = w0 at *
        generalize wr.heap.size = g at *
        refine (decimal_is hA.out hT0 h1 (by omega)).mono ?_
        rintro e w1 ⟨rfl, b1⟩
        have hT1 := hT0.below b1
        have hO := hO.below b1
        have hB := below_tt hB b1
        have E0 := (b1.cell (p := ⟨g, 0, none⟩) EZ).trans E0
        have E1 := (b1.cell (p := ⟨g, 1, none⟩) EZ).trans E1
        clear c0 c1 zb
        go_wp2_with (at_builtin; refine app_str (w0 := w) (p := A) (zs := (xs.take k).map partB) (by (repeat' (first | (with_reducible exact Below.refl _ _) | (with_reducible assumption) | (with_reducible refine below_al ?_ _) | (with_reducible refine Below.drew ?_) | (with_reducible refine Below.setCell ?_ (by first | exact Nat.le_refl _ | (dsimp only; omega) | (simp; omega)) _) | (with_reducible refine below_drewN ?_ _) | (with_reducible refine below_tt ?_ (by assumption))))) (hO.alloc _) (by simp; omega) rfl _ _ rfl rfl rfl (by simp [go_sem]) ?_; intro v6 w6 hO6 hB6)
        go_roundw
        case rel => exact ⟨k + 1, by omega, by simp, by rw [← hsn.out]; exact hO6, hB6⟩
        case measure => simp [intOf]; omega
    · obtain rfl : k = xs.length := by omega
      rw [List.take_length] at hO
      have hne : xs ≠ [] := by intro e; rw [e] at hp; simp at hp
      have hTJ := text_join hne
      have hlen := words_lens xs hok
      obtain ⟨g, c5, hv5, hcap, hg⟩ := hO.form (by rw [List.length_map]; exact hp)
      subst hv5
      have hJ := join_any hO hg hcap (by rw [List.length_map]; omega) (by omega)
      have hTJ2 := Lib.hid hTJ
      clear hTJ
      rw [List.length_map] at hJ ⊢
      go_wp2_with fail
      refine hJ.mono ?_
      rintro e w5 ⟨rfl, b5⟩
      rw [← hTJ2.out]
      have hB := below_tt hB b5
      go_wp2_with fail
      go_ret
      exact ⟨rfl, hB⟩
theorem setText_nil (a : Option Addr) (cap : Nat) (w : World) :
    Calls Tryz.prog 19 #[.slice a 0 cap] w fun e w' => e = .returned (.string (bs (textL []))) ∧ Below w.heap.size w w' := by
  have hB := Below.refl w.heap.size w
  go_enter Tryz.func19, Tryz.ntmps19
  go_wp2_with fail
  go_ret
  exact ⟨rfl, hB⟩
theorem setText_any {v : Value} {xs : List (Int × Int)} {w : World} (hT : Tab w) (h : RS w v xs) (hS : isSet xs = true) :
    Calls Tryz.prog 19 #[v] w fun e w' => e = .returned (.string (bs (textL xs))) ∧ Below w.heap.size w w' := by
  have hok := set_okT hS
  have hl := (isSet_iff.1 hS).2
  by_cases h0 : xs.length = 0
  · obtain rfl : xs = [] := List.length_eq_zero_iff.1 h0
    obtain ⟨a, cap, rfl⟩ := h.val
    exact setText_nil a cap w
  · rcases h with ⟨rfl, _⟩ | ⟨b, off, cap, rfl, hb, hs⟩
    · simp at h0
    exact setText_cells b off cap xs w hT hb hs (by omega) (by omega) hok
theorem implSetText_any {v : Value} {xs : List (Int × Int)} {w : World} (hT : Tab w) (h : RS w v xs) (hl : xs.length ≤ 4000000) :
    Calls Tryz.prog 6 #[v] w fun e w' => e = .returned (.tuple #[.string (setTextR xs).1, .int .i64 (setTextR xs).2]) ∧ Below w.heap.size w w' := by
  cases hS : isSet xs
  · have hV := Lib.hid (setTextR_f hS)
    go_enter Tryz.func6, Tryz.ntmps6
    go_wp2_with fail
    refine (iIsSet_any v xs _ h hl).mono ?_
    rintro e w1 ⟨rfl, b1⟩
    rw [hS]
    go_wp2_with fail
    go_ret2
    exact ⟨by rw [hV.out]; rfl, b1⟩
  · have hV := Lib.hid (setTextR_t hS)
    go_enter Tryz.func6, Tryz.ntmps6
    go_wp2_with fail
    refine (iIsSet_any v xs _ h hl).mono ?_
    rintro e w1 ⟨rfl, b1⟩
    rw [hS]
    go_wp2_with fail
    refine (setText_any (hT.below b1) (h.below b1) hS).mono ?_
    rintro e w2 ⟨rfl, b2⟩
    go_wp2_with fail
    go_ret2
    exact ⟨by rw [hV.out]; rfl, below_tt b1 b2⟩
end Go.Proofs.YtpinngcdojbndaaGreatDoor
