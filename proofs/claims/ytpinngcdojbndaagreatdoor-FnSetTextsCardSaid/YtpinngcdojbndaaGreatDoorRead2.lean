/- The reference's ReadSet. -/
import Derived.Test.YtpinngcdojbndaaGreatDoorRead1
import Derived.Test.YtpinngcdojbndaaGreatDoorApp
import Derived.Deep.RegionHeld3
namespace Go.Proofs.YtpinngcdojbndaaGreatDoor
open Go.RowKit

theorem l01Split_is {c : UInt8} {k : Int} (hk : (c.toNat : Int) = k) (s : ByteArray) (w : World) (hs : s.size ≤ 2000000) :
    Calls Tryz.prog 27 #[.string s, .int .u8 k] w fun e w' => ∃ v, e = .returned v ∧ OwnT w' w.heap.size v ((splitC c s.data.toList).map bs) ∧ Below w.heap.size w w' := by
  subst hk; exact l01Split_any s c w hs
theorem splitC_len (c : UInt8) : ∀ L : List UInt8, (splitC c L).length ≤ L.length + 1 ∧ ∀ p ∈ splitC c L, p.length ≤ L.length
  | [] => by simp [splitC]
  | b :: l => by
    obtain ⟨h1, h2⟩ := splitC_len c l
    unfold splitC
    split
    · refine ⟨by simp only [List.length_cons]; omega, fun p hp => ?_⟩
      rcases List.mem_cons.1 hp with rfl | hp
      · simp
      · have := h2 p hp; simp only [List.length_cons]; omega
    · cases h : splitC c l with
      | nil => exact absurd h (splitC_ne c l)
      | cons q r =>
        rw [h] at h1 h2
        refine ⟨by simp only [List.length_cons] at *; omega, fun p hp => ?_⟩
        rcases List.mem_cons.1 hp with rfl | hp
        · have := h2 q (by simp); simp only [List.length_cons]; omega
        · have := h2 p (by simp [hp]); simp only [List.length_cons]; omega
theorem split_pos (c : UInt8) (L : List UInt8) : 0 < (splitC c L).length := by
  have := splitC_ne c L
  cases h : splitC c L with
  | nil => exact absurd h this
  | cons q r => simp
theorem last_mem {ps : List (List UInt8)} (h : ps ≠ []) : ps.getLastD [] ∈ ps := by
  rw [List.getLastD_eq_getLast?, List.getLast?_eq_some_getLast h]; exact List.getLast_mem h
theorem head_mem {ps : List (List UInt8)} (h : ps ≠ []) : ps.headD [] ∈ ps := by
  cases ps with
  | nil => exact absurd rfl h
  | cons p r => simp
theorem gT_head (ps : List (List UInt8)) (h : 0 < ps.length) : gT (ps.map bs) 0 = bs (ps.headD []) := by
  cases ps with
  | nil => simp at h
  | cons p r => rfl
theorem gT_last (ps : List (List UInt8)) (n : Nat) (h : ps.length = n + 1) : gT (ps.map bs) n = bs (ps.getLastD []) := by
  have hne : ps ≠ [] := by rintro rfl; simp at h
  have hlt : n < ps.length := by omega
  unfold gT
  rw [List.getD_eq_getElem?_getD, List.getElem?_map, List.getElem?_eq_getElem hlt]
  simp only [Option.map_some, Option.getD_some]
  congr 1
  rw [List.getLastD_eq_getLast?, List.getLast?_eq_getElem?, h, Nat.add_sub_cancel, List.getElem?_eq_getElem hlt]
  rfl
theorem gT_part (ps : List (List UInt8)) (k : Nat) (h : k < ps.length) : gT (ps.map bs) k = bs ps[k] := by
  unfold gT
  rw [List.getD_eq_getElem?_getD, List.getElem?_map, List.getElem?_eq_getElem h]; rfl
theorem raw_snoc (s : List UInt8) (k : Nat) (h : k < (splitC 44 s).length) : (rawS s).take (k + 1) = (rawS s).take k ++ [readS (splitC 44 s)[k]] := by
  unfold rawS
  rw [List.take_add_one, List.getElem?_map, List.getElem?_eq_getElem h]; rfl
theorem OwnS.nil' (w : World) (base : Nat) : OwnS w base (.slice none 0 0) [] := World.ownsRow_nil w base _ 2

theorem ownS_more {w : World} {base base' : Nat} {v : Value} {xs : List (Int × Int)} (h : OwnS w base v xs) (hb : base' ≤ base) : OwnS w base' v xs := by
  refine ⟨h.1, ?_⟩
  rcases h.2 with h | ⟨g, cap, cur, hv, hg, rest⟩
  · exact Or.inl h
  · exact Or.inr ⟨g, cap, cur, hv, Nat.le_trans hb hg, rest⟩

set_option maxRecDepth 10000 in
set_option maxHeartbeats 8000000 in
theorem specReadSet_any (s : ByteArray) (w : World) (hs : s.size ≤ 2000000) :
    Calls Tryz.prog 10 #[.string s] w fun e w' => ∃ v, e = .returned (.tuple #[v, .int .i64 (readR s.data.toList).2]) ∧ OwnS w' w.heap.size v (readR s.data.toList).1 ∧ Below w.heap.size w w' := by
  have rg := cell_rg; have l2 : ∀ n : Nat, n < n + 1 + 1 := (fun _ => by omega); have l3 : ∀ n : Nat, n < n + 1 + 1 + 1 := (fun _ => by omega); have l4 : ∀ n : Nat, n < n + 1 + 1 + 1 + 1 := (fun _ => by omega)
  have hL := list_size s
  have hB := Below.refl w.heap.size w
  by_cases hd : s.data.toList = [45]
  · have hs9 : s = ⟨#[45]⟩ := by rw [← bs_of s, hd]; rfl
    have hV := Lib.hid (show readR s.data.toList = ([], 0) by rw [hd]; exact readR_dash)
    clear hd
    rw [hV.out]
    subst hs9
    go_enter Tryz.func10, Tryz.ntmps10
    go_wp2_with fail
    go_ret2
    exact ⟨_, rfl, OwnS.made w (Nat.le_refl _), by (repeat' (first | (with_reducible exact Below.refl _ _) | (with_reducible assumption) | (with_reducible refine below_al ?_ _) | (with_reducible refine Below.drew ?_) | (with_reducible refine Below.setCell ?_ (by first | exact Nat.le_refl _ | (dsimp only; omega) | (simp; omega)) _) | (with_reducible refine below_drewN ?_ _) | (with_reducible refine below_tt ?_ (by assumption))))⟩
  · obtain ⟨RL, RE, hRR⟩ : ∃ RL RE, readR s.data.toList = (RL, RE) := ⟨_, _, rfl⟩
    rw [hRR]
    have hV := Lib.hid (hRR.symm.trans (spec_reads hd))
    clear hRR
    have hne : (s.toList == [45]) = false := by rw [beq_eq_false_iff_ne, toList_data]; exact hd
    obtain ⟨ps, hps⟩ : ∃ ps, splitC 44 s.data.toList = ps := ⟨_, rfl⟩
    have hsl := splitC_len 44 s.data.toList
    rw [hps] at hsl
    obtain ⟨hl1, hl2⟩ := hsl
    have hraw : ∀ k (h : k < ps.length), (rawS s.data.toList).take (k + 1) = (rawS s.data.toList).take k ++ [readS ps[k]] := by
      subst hps; exact raw_snoc s.data.toList
    have hrl : (rawS s.data.toList).length = ps.length := by unfold rawS; rw [hps, List.length_map]
    go_enter Tryz.func10, Tryz.ntmps10
    go_wp2_with fail
    refine (l01Split_is (c := 44) (k := 44) rfl s w hs).mono ?_
    rintro e w1 ⟨vp, rfl, hP, b1⟩
    rw [hps] at hP
    have hP := hP.rs
    obtain ⟨ap, cp, hvp⟩ := hP.val
    have hB := below_tt hB b1
    rw [List.length_map] at hvp
    clear hps hd
    go_wp2_with fail
    have hC := Below.refl w1.heap.size w1
    go_loopw [5, 6, 7, 8] (fun s5 s6 _ _ wr => ∃ k : Nat, k ≤ ps.length ∧ s6 = .int .i64 k ∧ OwnS wr w1.heap.size s5 ((rawS s.data.toList).take k) ∧ Below w1.heap.size w1 wr) (fun _ s6 _ _ _ => ps.length - (intOf s6).toNat)
    case atStart => exact ⟨0, by omega, rfl, OwnS.made w1 (Nat.le_refl _), by (repeat' (first | (with_reducible exact Below.refl _ _) | (with_reducible assumption) | (with_reducible refine below_al ?_ _) | (with_reducible refine Below.drew ?_) | (with_reducible refine Below.setCell ?_ (by first | exact Nat.le_refl _ | (dsimp only; omega) | (simp; omega)) _) | (with_reducible refine below_drewN ?_ _) | (with_reducible refine below_tt ?_ (by assumption))))⟩
    case round =>
      clear hC
      obtain ⟨k, hk, rfl, hO, hC⟩ := hrel
      have hB := below_tt hB hC
      have hP := hP.below hC
      by_cases hlt : k < ps.length
      · have hd1 : decide ((k : Int) < (ps.length : Int)) = true := decide_eq_true (by omega)
        rcases hP with ⟨h0, _⟩ | ⟨b, off, cap, hv, hb, hc⟩
        · exfalso; have := congrArg List.length h0; rw [List.length_map, List.length_nil] at this; omega
        have hP : RT wr vp (ps.map bs) := Or.inr ⟨b, off, cap, hv, hb, hc⟩
        have ck := hc k (by rw [List.length_map]; omega)
        rw [gT_part ps k hlt] at ck
        rw [List.length_map] at hv
        have hrw := hraw k hlt
        have hpl := hl2 _ (List.getElem_mem hlt)
        generalize ps[k] = p at ck hrw hpl
        clear hc hl2 hraw
        subst hv
        injection hvp with e1 e2 e3
        subst e1 e3
        go_wp2_with fail
        refine (l01Split_is (c := 46) (k := 46) rfl (bs p) _ (by rw [bs_size]; omega)).mono ?_
        rintro e w2 ⟨ve, rfl, hE, b2⟩
        rw [bs_list] at hE
        have hO := hO.below b2
        have hP := hP.below b2
        have hC := below_tt hC b2
        have hq1 := split_pos 46 p
        have hrd : readS p = (plainL ((splitC 46 p).headD []), plainL ((splitC 46 p).getLastD [])) := rfl
        have hq3 := (splitC_len 46 p).2
        have hg0 := gT_head (splitC 46 p) hq1
        have hq2 := (splitC_len 46 p).1
        obtain ⟨m, hm⟩ : ∃ m, (splitC 46 p).length = m + 1 := ⟨(splitC 46 p).length - 1, by omega⟩
        have hgm := gT_last (splitC 46 p) m hm
        rw [hrd] at hrw
        have hz0 : ((splitC 46 p).headD []).length ≤ p.length := hq3 _ (head_mem (splitC_ne 46 p))
        have hz1 : ((splitC 46 p).getLastD []).length ≤ p.length := hq3 _ (last_mem (splitC_ne 46 p))
        generalize (splitC 46 p).headD [] = H at hg0 hrw hz0
        generalize (splitC 46 p).getLastD [] = T at hgm hrw hz1
        rcases hE.rs with ⟨h0, _⟩ | ⟨g, off2, cap2, hv2, hg, hc2⟩
        · exfalso; have := congrArg List.length h0; rw [List.length_map, List.length_nil] at this; omega
        have e0 := hc2 0 (by rw [List.length_map]; omega)
        have em := hc2 m (by rw [List.length_map]; omega)
        rw [hg0, Nat.add_zero] at e0
        rw [hgm] at em
        rw [List.length_map, hm] at hv2
        clear hc2 hg0 hgm hq3 hE hrd
        subst hv2
        have zH : (bs H).size ≤ 2000000 := by rw [bs_size]; omega
        have zT : (bs T).size ≤ 2000000 := by rw [bs_size]; omega
        rw [← bs_list H, ← bs_list T] at hrw
        clear hz0 hz1
        have hrw := Lib.hid hrw
        generalize bs H = BH at e0 zH hrw
        generalize bs T = BT at em zT hrw
        have i1 : ((m : Int) + 1 - 1) = m := by omega
        have i2 : (0 : Int) ≤ (m : Int) := by omega
        have i3 : (m : Int) < (m : Int) + 1 := by omega
        have i4 : (0 : Int) < (m : Int) + 1 := by omega
        have i5 : m < m + 1 := by omega
        have i6 : 0 < m + 1 := by omega
        have i7 : (m : Int) ≤ 3000000 := by omega
        have i8 : IntKind.i64.wrap (m : Int) = m := IntWalk.i64_in _ (by omega)
        go_upto_region 9 with fail
        go_cut [8] from 26 to 37 (fun s8 wx => s8 = .pointer (some ⟨w2.heap.size, 0, none⟩) ∧ wx = (w2.alloc (.cells #[.int .i64 (plainL BH.data.toList), .int .i64 (plainL BT.data.toList)] 36)).drew)
        case first =>
          have n1 : g ≠ w2.heap.size := by omega
          have n2 : w2.heap.size ≠ g := by omega
          clear hO hP hB hC hrw
          go_region_held3 (fun w' => w'.cell? ⟨g, off2, none⟩ = some (.string BH) ∧ w'.cell? ⟨g, off2 + m, none⟩ = some (.string BT)) (go_keep) ((go_at_call 28; refine (l01Plain_any _ _ (by with_reducible assumption)).mono ?_; rintro e w' ⟨rfl, rfl⟩))
          all_goals (go_wp2_with fail)
          all_goals (go_meet; exact ⟨rfl, rfl⟩)
        obtain ⟨rfl, rfl⟩ := hcut
        go_wp2_with (at_builtin; refine app_span (w0 := w1) (p := plainL BH.data.toList) (q := plainL BT.data.toList) (xs := (rawS s.data.toList).take k) (by (repeat' (first | (with_reducible exact Below.refl _ _) | (with_reducible assumption) | (with_reducible refine below_al ?_ _) | (with_reducible refine Below.drew ?_) | (with_reducible refine Below.setCell ?_ (by first | exact Nat.le_refl _ | (dsimp only; omega) | (simp; omega)) _) | (with_reducible refine below_drewN ?_ _) | (with_reducible refine below_tt ?_ (by assumption))))) (((hO.alloc _).alloc _).drew) (by rw [List.length_take]; omega) rfl _ _ rfl rfl rfl (by simp [go_sem]) (by simp [go_sem]) ?_; intro v3 w3 hO3 hB3 _)
        go_roundw
        case rel => exact ⟨k + 1, by omega, by simp, by rw [hrw.out]; exact hO3, hB3⟩
        case measure => simp [intOf]; omega
      · obtain rfl : k = ps.length := by omega
        rw [← hrl, List.take_length] at hO
        have hO2 := ownS_more hO b1.size
        have hR := hO.rs
        have hd1 : decide ((ps.length : Int) < (ps.length : Int)) = false := decide_eq_false (by omega)
        clear hraw hl2 hP hC
        have hrl2 : (rawS s.data.toList).length ≤ 4000000 := by omega
        cases hS : isSet (rawS s.data.toList)
        · obtain ⟨rfl, rfl⟩ := Prod.mk.inj (hV.out.trans (if_neg (by rw [hS]; simp)))
          have hSet := sIsSet_any _ _ wr hR hrl2
          rw [hS] at hSet
          clear hS hV hvp
          go_wp2_with fail
          refine hSet.mono ?_
          rintro e w5 ⟨rfl, b5⟩
          go_wp2_with fail
          go_ret2
          exact ⟨_, rfl, OwnS.nil' _ _, below_tt hB b5⟩
        · have hSet := sIsSet_any _ _ wr hR hrl2
          rw [hS] at hSet
          obtain ⟨A, hA⟩ : ∃ A, bs (textL (rawS s.data.toList)) = A := ⟨_, rfl⟩
          have hAl : A.toList = textL (rawS s.data.toList) := by rw [← hA, toList_data, bs_list]
          have hsl : s.toList = s.data.toList := toList_data s
          by_cases hq : textL (rawS s.data.toList) = s.data.toList
          · obtain ⟨rfl, rfl⟩ := Prod.mk.inj (hV.out.trans (if_pos ⟨hS, hq⟩))
            have dq : (A.toList == s.toList) = true := by rw [hAl, hsl, hq]; simp
            have hA2 := Lib.hid hA
            have hS2 := Lib.hid hS
            clear hA hAl hsl hq hV hS hvp
            go_wp2_with fail
            refine hSet.mono ?_
            rintro e w5 ⟨rfl, b5⟩
            go_wp2_with fail
            refine (l02Text_is hA2.out (hR.below b5) hS2.out).mono ?_
            rintro e w6 ⟨rfl, b6⟩
            go_wp2_with fail
            go_ret2
            exact ⟨_, rfl, (hO2.below b5).below b6, below_tt (below_tt hB b5) b6⟩
          · obtain ⟨rfl, rfl⟩ := Prod.mk.inj (hV.out.trans (if_neg (by rintro ⟨_, h⟩; exact hq h)))
            have dq : (A.toList == s.toList) = false := by rw [beq_eq_false_iff_ne, hAl, hsl]; exact hq
            have hA2 := Lib.hid hA
            have hS2 := Lib.hid hS
            clear hA hAl hsl hq hV hS hvp
            go_wp2_with fail
            refine hSet.mono ?_
            rintro e w5 ⟨rfl, b5⟩
            go_wp2_with fail
            refine (l02Text_is hA2.out (hR.below b5) hS2.out).mono ?_
            rintro e w6 ⟨rfl, b6⟩
            go_wp2_with fail
            go_ret2
            exact ⟨_, rfl, OwnS.nil' _ _, below_tt (below_tt hB b5) b6⟩
end Go.Proofs.YtpinngcdojbndaaGreatDoor
