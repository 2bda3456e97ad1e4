/- The draws of the law FnSetTexts: a set, a text that is sometimes damaged, spans. -/
import Derived.Test.YtpinngcdojbndaaGreatDoorDraw2
import Derived.Test.YtpinngcdojbndaaGreatDoorText2
import Derived.Test.YtpinngcdojbndaaGreatDoorBytes
import Derived.Deep.RegionHeld3
import Derived.Deep.DeepCutAuto
namespace Go.Proofs.YtpinngcdojbndaaGreatDoor
open Go.RowKit

theorem setTextR_size (xs : List (Int × Int)) : (setTextR xs).1.size ≤ 10000 := by
  cases hS : isSet xs
  · rw [setTextR_f hS]; show ByteArray.empty.size ≤ 10000; decide
  · rw [setTextR_t hS]
    show (bs (textL xs)).size ≤ 10000
    by_cases h : xs = []
    · subst h; decide
    · rw [text_join h]
      have h1 := joinB_size (xs.map partB)
      have h2 := words_lens xs (set_okT hS)
      have h3 := (isSet_iff.1 hS).2
      rw [List.length_map] at h1
      omega
theorem extract_size (t : ByteArray) (a b : Nat) : (t.extract a b).size ≤ t.size := by rw [ByteArray.size_extract]; omega

set_option maxRecDepth 10000 in
set_option maxHeartbeats 4000000 in
theorem drawSetText_any (v : Value) (n : Nat) (w : World) (h : RB w w.heap.size v n) (hn : n ≤ 4096) :
    Calls Tryz.prog 5 #[v] w fun e w' => ∃ v' xs, e = .returned v' ∧ OwnS w' w.heap.size v' xs ∧ xs.length ≤ 1000 ∧ Below w.heap.size w w' := by
  have hn' : n ≤ 1000000 := by omega
  go_enter Tryz.func5, Tryz.ntmps5
  go_wp2_with fail
  refine (l01From_any v n _ h (by omega)).mono ?_
  rintro e w0 ⟨rfl, S0, b0⟩
  have B0 := below_tt (Below.refl w.heap.size w) b0
  go_wp2_with fail
  refine (l02Draw_any S0 hn').mono ?_
  rintro e w1 ⟨v1, xs, rfl, hO, ⟨_, hl⟩, S1, g1⟩
  have B1 := below_gb B0 g1 B0.size (by omega)
  have hO2 := hO.more B0.size
  go_wp2_with fail
  go_ret
  exact ⟨_, xs, rfl, hO2, hl, B1⟩

/-- The bytes that a damage may put in. -/
def odd8 : List ByteArray := [⟨#[48]⟩, ⟨#[49]⟩, ⟨#[32]⟩, ⟨#[45]⟩, ⟨#[44]⟩, ⟨#[118]⟩, ⟨#[10]⟩, ⟨#[97]⟩]
theorem odd8_at (j : Nat) (h : j < 8) : ∃ x : ByteArray, (#[.string ⟨#[48]⟩, .string ⟨#[49]⟩, .string ⟨#[32]⟩, .string ⟨#[45]⟩, .string ⟨#[44]⟩, .string ⟨#[118]⟩, .string ⟨#[10]⟩, .string ⟨#[97]⟩] : Array Value)[j]? = some (.string x) ∧ x.size = 1 := by
  rcases (show j = 0 ∨ j = 1 ∨ j = 2 ∨ j = 3 ∨ j = 4 ∨ j = 5 ∨ j = 6 ∨ j = 7 by omega) with rfl | rfl | rfl | rfl | rfl | rfl | rfl | rfl <;> exact ⟨_, rfl, rfl⟩
theorem keep_src {w w' : World} {g B o : Nat} {u : Value} (h : w.cell? ⟨g, o, none⟩ = some u) (hlt : g < w.heap.size) (hg : w.grownBy w' (some B)) (hne : g ≠ B) : w'.cell? ⟨g, o, none⟩ = some u :=
  (World.cell?_of_block (a := ⟨g, o, none⟩) (hg.block g hlt (fun e => hne (by injection e)))).trans h
theorem Src.drew' {w : World} {base B n : Nat} {v : Value} (h : Src w base B v n) : Src w.drew base B v n := by obtain ⟨k, sd, h⟩ := h; exact ⟨k, sd, h.drew⟩

set_option maxRecDepth 10000 in
set_option maxHeartbeats 8000000 in
theorem l01Damage_any {base B : Nat} {v : Value} {n : Nat} (t : ByteArray) {w : World} (h : Src w base B v n) (hn : n ≤ 1000000) (ht : t.size ≤ 100000) :
    Calls Tryz.prog 23 #[.pointer (some ⟨B, 0, none⟩), .string t] w fun e w' => ∃ s : ByteArray, e = .returned (.string s) ∧ s.size ≤ 1000000 ∧ Src w' base B v n ∧ w.grownBy w' (some B) := by
  have rg := cell_rg; have l2 : ∀ n : Nat, n < n + 1 + 1 := (fun _ => by omega); have l3 : ∀ n : Nat, n < n + 1 + 1 + 1 := (fun _ => by omega); have l4 : ∀ n : Nat, n < n + 1 + 1 + 1 + 1 := (fun _ => by omega)
  go_enter Tryz.func23, Tryz.ntmps23
  go_wp2_with fail
  refine (l01Next_any ((t.size : Int) + 1) h hn (by omega)).mono ?_
  rintro e w1 ⟨k, rfl, hk, S1, g1⟩
  obtain ⟨k1, k2⟩ := inN_bd hk (by omega)
  clear hk
  obtain ⟨j, rfl⟩ : ∃ j : Nat, k = j := ⟨k.toNat, by omega⟩
  have hj : (j : Int) ≤ (t.size : Int) := by omega
  go_wp2_with fail
  refine (l01Next_any 8 S1 hn (by omega)).mono ?_
  rintro e w2 ⟨x, rfl, hx, S2, g2⟩
  obtain ⟨x1, x2⟩ := inN_bd hx (by omega)
  clear hx
  have G2 := gb_trans g1 g2
  by_cases x0 : x = 0
  · subst x0
    have hz := extract_size t 0 j
    go_wp2_with fail
    go_ret
    exact ⟨_, rfl, by omega, S2, G2⟩
  have d0 : (x == 0) = false := by simpa using x0
  by_cases y1 : x = 1
  · subst y1
    have hz1 := extract_size t 0 j
    have hz2 := extract_size t j t.size
    go_upto_region 6 with fail
    have hB2 := S2.hB
    have S3 := S2.drew'
    have S4 := (S2.al (.cells #[.string ⟨#[48]⟩, .string ⟨#[49]⟩, .string ⟨#[32]⟩, .string ⟨#[45]⟩, .string ⟨#[44]⟩, .string ⟨#[118]⟩, .string ⟨#[10]⟩, .string ⟨#[97]⟩] 9)).drew'
    have G3 := gb_drew G2
    have G4 := gb_drew (gb_alloc G2 (.cells #[.string ⟨#[48]⟩, .string ⟨#[49]⟩, .string ⟨#[32]⟩, .string ⟨#[45]⟩, .string ⟨#[44]⟩, .string ⟨#[118]⟩, .string ⟨#[10]⟩, .string ⟨#[97]⟩] 9))
    have C4 : ∀ (q : Nat) (x : Value), (#[.string ⟨#[48]⟩, .string ⟨#[49]⟩, .string ⟨#[32]⟩, .string ⟨#[45]⟩, .string ⟨#[44]⟩, .string ⟨#[118]⟩, .string ⟨#[10]⟩, .string ⟨#[97]⟩] : Array Value)[q]? = some x → (w2.alloc (.cells #[.string ⟨#[48]⟩, .string ⟨#[49]⟩, .string ⟨#[32]⟩, .string ⟨#[45]⟩, .string ⟨#[44]⟩, .string ⟨#[118]⟩, .string ⟨#[10]⟩, .string ⟨#[97]⟩] 9)).drew.cell? ⟨w2.heap.size, q, none⟩ = some x := fun q x hq => by
      rw [World.cell?_drew, World.cell?_alloc_at (hn := rfl)]; exact hq
    have C4 := Lib.hid C4
    have zD : w2.heap.size < (w2.alloc (.cells #[.string ⟨#[48]⟩, .string ⟨#[49]⟩, .string ⟨#[32]⟩, .string ⟨#[45]⟩, .string ⟨#[44]⟩, .string ⟨#[118]⟩, .string ⟨#[10]⟩, .string ⟨#[97]⟩] 9)).drew.heap.size := by simp
    go_cut [4] from 20 to 32 (fun s4 wx => ∃ s : ByteArray, s4 = .string s ∧ s.size ≤ 1000000 ∧ Src wx base B v n ∧ w.grownBy wx (some B))
    case first =>
      go_region_with (go_at_call 22; refine (l01Next_any 8 (by with_reducible assumption) hn (by omega)).mono ?_; rintro e w3 ⟨z, rfl, hz, S5, g5⟩; have G5 := gb_trans (by with_reducible assumption) g5; obtain ⟨z1, z2⟩ := inN_bd hz (by omega); clear hz; obtain ⟨q, rfl⟩ : ∃ q : Nat, z = q := ⟨z.toNat, by omega⟩; obtain ⟨X, hX, hXs⟩ := odd8_at q (by omega); (try (have hcell := keep_src (C4.out q _ hX) zD g5 (by omega))); have q1 : ¬ (9223372036854775807 < (t.extract 0 j).size + X.size) := (by omega); have q2 : ¬ (9223372036854775807 < (t.extract 0 j).size + X.size + (t.extract j t.size).size) := (by omega); have q3 : (t.extract 0 j).size + X.size + (t.extract j t.size).size ≤ 1000000 := (by omega); have hXs := Lib.hid hXs)
      all_goals (go_wp2_with fail; go_meet; exact ⟨_, rfl, by rw [ByteArray.size_append', ByteArray.size_append']; exact q3, by first | exact S5 | exact S5.al _, by first | exact G5 | exact gb_alloc G5 _⟩)
    obtain ⟨s, rfl, hs9, S9, G9⟩ := hcut
    go_wp2_with fail
    go_ret
    exact ⟨s, rfl, hs9, S9, G9⟩
  have d1 : (x == 1) = false := by simpa using y1
  by_cases y2 : x = 2
  · subst y2
    by_cases hlt : j < t.size
    · have d3 : decide ((j : Int) < (t.size : Int)) = true := decide_eq_true (by omega)
      have hz1 := extract_size t 0 j
      have hz2 := extract_size t (j + 1) t.size
      have q1 : ¬ (9223372036854775807 < (t.extract 0 j).size + (t.extract (j + 1) t.size).size) := by omega
      have q3 : (t.extract 0 j).size + (t.extract (j + 1) t.size).size ≤ 1000000 := by omega
      have hj2 : ((j : Int) + 1) ≤ (t.size : Int) := by omega
      have hp := Below.refl w2.heap.size w2
      have hB := Below.refl w2.heap.size w2
      go_wp2_with fail
      (refine wp_region_quiet_below (by kernel_rfl) (by kernel_rfl) ?_; (repeat (go_big_quiet_step (fail))); refine wpQuiet_nil ?_; intro w9 hw9; have hb := below_of_regrown hw9; clear hw9; obtain ⟨hc, hf⟩ := bcell hb; have hz := bsize hb; (first | (have hB := below_tt hB hb) | (have hB := below_tt (below_al hB _) hb) | (have hB := below_tt (below_al (below_al hB _) _) hb) | (have hB := hb)); obtain ⟨hc0, hf0⟩ := bcell hB; have hz0 := bsize hB; (first | (have h2 := below_tt hp hb; obtain ⟨hc2, hf2⟩ := bcell h2; have hz2 := bsize h2) | (have h2 := below_tt (below_al hp _) hb; obtain ⟨hc2, hf2⟩ := bcell h2; have hz2 := bsize h2) | skip); have hp := hb)
      have S9 := S2.below hb
      have G9 := gb_below G2 hb
      go_wp2_with fail
      go_ret
      exact ⟨_, rfl, by rw [ByteArray.size_append']; exact q3, S9, G9⟩
    · have d3 : decide ((j : Int) < (t.size : Int)) = false := decide_eq_false (by omega)
      go_wp2_with fail
      go_ret
      exact ⟨t, rfl, by omega, S2, G2⟩
  have d2 : (x == 2) = false := by simpa using y2
  go_wp2_with fail
  go_ret
  exact ⟨t, rfl, by omega, S2, G2⟩

set_option maxRecDepth 10000 in
set_option maxHeartbeats 4000000 in
theorem drawReadSet_any (v : Value) (n : Nat) (w : World) (h : RB w w.heap.size v n) (hn : n ≤ 4096) :
    Calls Tryz.prog 8 #[v] w fun e w' => ∃ s : ByteArray, e = .returned (.string s) ∧ s.size ≤ 1000000 ∧ Below w.heap.size w w' := by
  have hn' : n ≤ 1000000 := by omega
  go_enter Tryz.func8, Tryz.ntmps8
  go_wp2_with fail
  refine (l01From_any v n _ h (by omega)).mono ?_
  rintro e w0 ⟨rfl, S0, b0⟩
  have B0 := below_tt (Below.refl w.heap.size w) b0
  go_wp2_with fail
  refine (l02Draw_any S0 hn').mono ?_
  rintro e w1 ⟨v1, xs, rfl, hO, ⟨_, hl⟩, S1, g1⟩
  have B1 := below_gb B0 g1 B0.size (by omega)
  have hts := setTextR_size xs
  obtain ⟨t, ec, hT⟩ : ∃ t ec, setTextR xs = (t, ec) := ⟨_, _, rfl⟩
  rw [hT] at hts
  dsimp only at hts
  have hT := Lib.hid hT
  go_wp2_with fail
  refine (specSetText_any v1 xs _ hO.rs (by omega)).mono ?_
  rintro e w2 ⟨rfl, b2⟩
  rw [hT.out]
  have S2 := S1.below b2
  have B2 := below_tt B1 b2
  go_wp2_with fail
  refine (l01Next_any 3 S2 hn' (by omega)).mono ?_
  rintro e w3 ⟨x, rfl, hx, S3, g3⟩
  obtain ⟨x1, x2⟩ := inN_bd hx (by omega)
  clear hx
  have B3 := below_gb B2 g3 B2.size (by omega)
  by_cases x0 : x = 0
  · subst x0
    go_wp2_with fail
    refine (l01Damage_any t S3 hn' (by omega)).mono ?_
    rintro e w4 ⟨s, rfl, hs, S4, g4⟩
    have B4 := below_gb B3 g4 B3.size (by omega)
    go_wp2_with fail
    go_ret
    exact ⟨s, rfl, hs, B4⟩
  · have d0 : (x == 0) = false := by simpa using x0
    go_wp2_with fail
    go_ret
    exact ⟨t, rfl, by omega, B3⟩
end Go.Proofs.YtpinngcdojbndaaGreatDoor
