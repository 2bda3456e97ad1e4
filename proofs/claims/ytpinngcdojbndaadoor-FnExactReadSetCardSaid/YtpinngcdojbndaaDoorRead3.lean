/- The program's reading of a number, and its ReadSet. -/
import Derived.Test.YtpinngcdojbndaaDoorRead2
import Derived.Test.YtpinngcdojbndaaDoorDoorT
import Derived.Lib.AtoiErrMem
namespace Go.Proofs.YtpinngcdojbndaaDoor
open Go.RowKit

theorem cut_len (p : List UInt8) : (Lib.cut p [46, 46]).1.length ≤ p.length ∧ (Lib.cut p [46, 46]).2.1.length ≤ p.length := by
  unfold Lib.cut
  split
  · simp only [List.length_take, List.length_drop]; omega
  · simp
/-- No numeral at all: neither a number nor one that is too great. -/
def noNum (l : List UInt8) : Prop := (∀ v, Lib.parseIntB 64 l ≠ .ok v) ∧ Lib.parseIntB 64 l ≠ .range
theorem numR_syn {l : List UInt8} (h : noNum l) : numR l = (0, false) := by
  unfold numR
  cases hx : Lib.parseIntB 64 l with
  | ok v => exact absurd hx (h.1 v)
  | range => exact absurd hx h.2
  | _ => rfl
theorem numR_ran {l : List UInt8} (h : Lib.parseIntB 64 l = .range) : numR l = (0, false) := by unfold numR; rw [h]
theorem numR_ok {l : List UInt8} {v : Int} (h : Lib.parseIntB 64 l = .ok v) : numR l = if v < 0 then (0, false) else if Lib.itoa v = l then (v, true) else (0, false) := by unfold numR; rw [h]
theorem below_bytes (w : World) (t : TypeId) (x : ByteArray) : Below w.heap.size w (Lib.bytesWorld w t x) := Lib.bytesWorld_below w t x

set_option maxRecDepth 10000 in
set_option maxHeartbeats 4000000 in
theorem number_any {w : World} (hF : LF w) (s : ByteArray) (hs : s.size ≤ 2000000) :
    Calls Tryd.prog 20 #[.string s] w fun e w' => e = .returned (.tuple #[.int .i64 (numR s.data.toList).1, .bool (numR s.data.toList).2]) ∧ Below w.heap.size w w' := by
  have hB := Below.refl w.heap.size w
  cases hp : Lib.parseIntB 64 s.data.toList with
  | range =>
    have hV := Lib.hid (numR_ran hp)
    have hp2 := Lib.hid hp
    clear hp
    obtain ⟨t, p, hes⟩ := hF.er
    rw [hV.out]
    go_enter Tryd.func20, Tryd.ntmps20
    go_wp2_with fail
    refine (lay_strconv_ParseInt_10_at64_range s (by omega) hp2.out _ w hes (Or.inr ⟨_, _, rfl⟩)).mono ?_
    rintro e w1 ⟨N, rfl, hN, _, b1⟩
    go_wp2_with fail
    go_ret2
    exact ⟨rfl, b1⟩
  | ok v =>
    have hV := numR_ok hp
    have hp2 := Lib.hid hp
    have hbd := Lib.atoiAll_bounds (l := s.data.toList) (v := v) (by rw [← Lib.parseIntB_64]; exact hp)
    clear hp
    obtain ⟨v0, v1⟩ := hbd
    by_cases hneg : v < 0
    · rw [if_pos hneg] at hV
      have hV := Lib.hid hV
      rw [hV.out]
      go_enter Tryd.func20, Tryd.ntmps20
      go_wp2_with fail
      refine (lay_strconv_ParseInt_10_at64_ok s (by omega) v hp2.out w).mono ?_
      rintro e w1 ⟨rfl, hw⟩
      have b1 : Below w.heap.size w w1 := by rcases hw with rfl | ⟨x, rfl⟩; exact Below.refl _ _; exact below_bytes w _ x
      clear hw
      go_wp2_with fail
      go_ret2
      exact ⟨rfl, b1⟩
    · rw [if_neg hneg] at hV
      have h0 : 0 ≤ v := by omega
      rw [itoa_pos h0] at hV
      obtain ⟨A, hA⟩ : ∃ A, bs (Lib.decDigits v.toNat) = A := ⟨_, rfl⟩
      have hAl : A.toList = Lib.decDigits v.toNat := by rw [← hA, toList_data, bs_list]
      have hsl : s.toList = s.data.toList := toList_data s
      have hA2 := Lib.hid hA
      have d0 : decide (v < 0) = false := decide_eq_false hneg
      by_cases hq : Lib.decDigits v.toNat = s.data.toList
      · rw [if_pos hq] at hV
        have dq : (A.toList == s.toList) = true := by rw [hAl, hsl, hq]; simp
        have hV := Lib.hid hV
        rw [hV.out]
        clear hA hAl hsl hq
        go_enter Tryd.func20, Tryd.ntmps20
        go_wp2_with fail
        refine (lay_strconv_ParseInt_10_at64_ok s (by omega) v hp2.out w).mono ?_
        rintro e w1 ⟨rfl, hw⟩
        have b1 : Below w.heap.size w w1 := by rcases hw with rfl | ⟨x, rfl⟩; exact Below.refl _ _; exact below_bytes w _ x
        clear hw
        go_wp2_with fail
        refine (decimal_is hA2.out (hF.tab.below b1) h0 v1).mono ?_
        rintro e w2 ⟨rfl, b2⟩
        go_wp2_with fail
        go_ret2
        exact ⟨rfl, below_tt b1 b2⟩
      · rw [if_neg hq] at hV
        have dq : (A.toList == s.toList) = false := by rw [beq_eq_false_iff_ne, hAl, hsl]; exact hq
        have hV := Lib.hid hV
        rw [hV.out]
        clear hA hAl hsl hq
        go_enter Tryd.func20, Tryd.ntmps20
        go_wp2_with fail
        refine (lay_strconv_ParseInt_10_at64_ok s (by omega) v hp2.out w).mono ?_
        rintro e w1 ⟨rfl, hw⟩
        have b1 : Below w.heap.size w w1 := by rcases hw with rfl | ⟨x, rfl⟩; exact Below.refl _ _; exact below_bytes w _ x
        clear hw
        go_wp2_with fail
        refine (decimal_is hA2.out (hF.tab.below b1) h0 v1).mono ?_
        rintro e w2 ⟨rfl, b2⟩
        go_wp2_with fail
        go_ret2
        exact ⟨rfl, below_tt b1 b2⟩
  | _ =>
    have hp : noNum s.data.toList := ⟨fun v e => (by rw [hp] at e; cases e), fun e => (by rw [hp] at e; cases e)⟩
    have hV := Lib.hid (numR_syn hp)
    have hp2 := Lib.hid hp
    clear hp
    obtain ⟨t, p, hes⟩ := hF.es
    rw [hV.out]
    go_enter Tryd.func20, Tryd.ntmps20
    go_wp2_with fail
    refine (lay_strconv_ParseInt_10_at64_syntax s (by omega) hp2.out _ w hes (Or.inr ⟨_, _, rfl⟩)).mono ?_
    rintro e w1 ⟨N, rfl, hN, _, b1⟩
    go_wp2_with fail
    go_ret2
    exact ⟨rfl, b1⟩
theorem number_is {w : World} {s : ByteArray} {a : Int} {b : Bool} (h : numR s.data.toList = (a, b)) (hF : LF w) (hs : s.size ≤ 2000000) :
    Calls Tryd.prog 20 #[.string s] w fun e w' => e = .returned (.tuple #[.int .i64 a, .bool b]) ∧ Below w.heap.size w w' := by
  have := number_any hF s hs
  rwa [h] at this
theorem number_bs {w : World} {l : List UInt8} {a : Int} {b : Bool} (h : numR l = (a, b)) (hF : LF w) (hs : l.length ≤ 2000000) :
    Calls Tryd.prog 20 #[.string (bs l)] w fun e w' => e = .returned (.tuple #[.int .i64 a, .bool b]) ∧ Below w.heap.size w w' :=
  number_is (s := bs l) (by rw [bs_list, h]) hF (by rw [bs_size]; exact hs)
theorem split_bs (c : UInt8) (s : ByteArray) : Lib.splitB ⟨#[c]⟩ 0 (Lib.countB s ⟨#[c]⟩) s = (splitC c s.data.toList).map bs := by
  rw [← splitB_is c s, List.map_map]
  conv => lhs; rw [← List.map_id (Lib.splitB ⟨#[c]⟩ 0 (Lib.countB s ⟨#[c]⟩) s)]
  exact List.map_congr_left fun x _ => (bs_of x).symm
theorem split_count (c : UInt8) (s : ByteArray) : Lib.countB s ⟨#[c]⟩ + 1 = (splitC c s.data.toList).length := by
  rw [← splitB_is c s, List.length_map]
  exact (Lib.splitB_all ⟨#[c]⟩ (by show 1 ≤ 1; omega) 0 _ s rfl).symm
theorem new_strs (w : World) (zs : List ByteArray) (t : TypeId) : RT (w.alloc (.cells (zs.map Value.string).toArray t)) (.slice (some ⟨w.heap.size, 0, none⟩) zs.length zs.length) zs := by
  refine Or.inr ⟨w.heap.size, 0, zs.length, rfl, by simp, fun i hi => ?_⟩
  rw [World.cell?_alloc_at (hn := rfl), Nat.zero_add]
  simp [gT, List.getElem?_map, List.getElem?_eq_getElem hi, List.getD_eq_getElem?_getD]
theorem split_any {w : World} (hF : LF w) (s : ByteArray) (hs : s.size ≤ 2000000) {ps : List (List UInt8)} (hps : splitC 44 s.data.toList = ps) :
    Calls Tryd.prog 18 #[.string s, .string ⟨#[44]⟩] w fun e w' => ∃ b, e = .returned (.slice (some ⟨b, 0, none⟩) ps.length ps.length) ∧ w.heap.size ≤ b ∧ RT w' (.slice (some ⟨b, 0, none⟩) ps.length ps.length) (ps.map bs) ∧ Below w.heap.size w w' := by
  obtain ⟨m, hm⟩ := hF.ml
  refine (lay_strings_Split s ⟨#[44]⟩ m w (by omega) hm (by show 1 ≤ 1; omega)).mono ?_
  rintro e w' ⟨rfl, rfl⟩
  have hn := new_strs w (ps.map bs) 9
  rw [split_bs, split_count, hps]
  rw [List.length_map] at hn
  exact ⟨_, rfl, Nat.le_refl _, hn, by (repeat' (first | (with_reducible exact Below.refl _ _) | (with_reducible assumption) | (with_reducible refine below_al ?_ _) | (with_reducible refine Below.drew ?_) | (with_reducible refine Below.setCell ?_ (by first | exact Nat.le_refl _ | (dsimp only; omega) | (simp; omega)) _) | (with_reducible refine below_drewN ?_ _) | (with_reducible refine below_tt ?_ (by assumption))))⟩
theorem cut_any {w : World} (hF : LF w) (p : List UInt8) (hs : p.length ≤ 2000000) {H T : List UInt8} {mo : Bool} (hc : Lib.cut p [46, 46] = (H, T, mo)) :
    Calls Tryd.prog 19 #[.string (bs p), .string ⟨#[46, 46]⟩] w fun e w' => e = .returned (.tuple #[.string (bs H), .string (bs T), .bool mo]) ∧ Below w.heap.size w w' := by
  obtain ⟨m, hm⟩ := hF.ml
  refine (lay_strings_Cut (bs p) ⟨#[46, 46]⟩ m w (by rw [bs_size]; omega) hm).mono ?_
  rintro e w' ⟨rfl, n, rfl⟩
  rw [bs_list, show (⟨#[46, 46]⟩ : ByteArray).data.toList = [46, 46] from rfl, hc]
  exact ⟨rfl, below_drewN (Below.refl _ _) n⟩
theorem readI_is {p H T : List UInt8} {mo : Bool} {a b : Int × Bool} (hc : Lib.cut p [46, 46] = (H, T, mo)) (ha : numR H = a) (hb : numR (if mo = true then T else H) = b) :
    readI p = if a.2 = true ∧ b.2 = true ∧ ¬ (mo = true ∧ a.1 = b.1) then some (a.1, b.1) else none := by
  unfold readI
  rw [hc]
  dsimp only
  rw [ha, hb]

section
variable {ops : Array Oper} {rest : List Oper} {o : Oper} {a : Act} {Q : Exit → Act → World → Prop}
/-- 'out = append(out, s)' beside a block that is not out's: it stays as it was. -/
theorem app_span_by {w0 W : World} {p q : Int} {v : Value} {xs : List (Int × Int)} {g bp : Nat} (hB : Below w0.heap.size w0 W) (hown : OwnS W w0.heap.size v xs) (hlen : xs.length ≤ 8000000) (hbp : bp < W.heap.size) (hbv : v.ownBlock ≠ some bp) (hgd : o.guard = none) (s x : Operand)
    (ho : o.op = .call { callee := .builtin .append, args := #[s, x], argTypes := #[22, 22] })
    (hs : a.eval s = v) (hx : a.eval x = .slice (some ⟨g, 0, none⟩) 1 1) (c0 : W.cell? ⟨g, 0, none⟩ = some (.int .i64 p)) (c1 : W.cell? ⟨g, 1, none⟩ = some (.int .i64 q))
    (h : ∀ v' w', OwnS w' w0.heap.size v' (xs ++ [(p, q)]) → Below w0.heap.size w0 w' → v'.ownBlock ≠ some bp → (∀ off, w'.cell? ⟨bp, off, none⟩ = W.cell? ⟨bp, off, none⟩) → bp < w'.heap.size → wpList Tryd.prog ops Q rest (a.put o.dst v') w') :
    wpList Tryd.prog ops Q (o :: rest) a W := by
  obtain ⟨i, hi, hz0, hz1, hz2⟩ := info_parts infoSpan
  refine wpList_append_own_at _ hgd s x _ ho w0.heap.size 38 i _ 2 16 Tryd.underlying22 hi hz0 hz1 hz2 rfl (by omega) v xs.length (flatS xs) hs hown ⟨g, 0, none⟩ 1 1 [.int .i64 p, .int .i64 q] hx rfl ?_ ?_ (by simp [maxLen]; omega) (by omega) hB.size ?_
  · intro j u hj
    match j, hj with
    | 0, hj => simp at hj; subst hj; simpa [Addr.add] using c0
    | 1, hj => simp at hj; subst hj; simpa [Addr.add] using c1
  · intro u hu
    simp at hu
    rcases hu with rfl | rfl <;> rfl
  · intro v' w' hown' hgrow _ hat
    refine h v' w' ?_ ?_ ?_ ?_ (Nat.lt_of_lt_of_le hbp hgrow.size)
    · unfold OwnS
      rw [flatS_app, List.length_append]
      exact hown'
    · exact hB.grown hgrow hB.size (fun k hk => (World.ownsRow.lt hown k hk).1)
    · rcases hat with e | e <;> rw [e]
      · exact hbv
      · intro e2
        injection e2 with e3
        omega
    · intro off
      exact World.cell?_of_block (a := ⟨bp, off, none⟩) (hgrow.block bp hbp (fun e => hbv e.symm))
end

set_option maxRecDepth 10000 in
set_option maxHeartbeats 8000000 in
theorem implReadSet_any {w : World} (hF : LF w) (s : ByteArray) (hs : s.size ≤ 2000000) :
    Calls Tryd.prog 6 #[.string s] w fun e w' => ∃ v, e = .returned (.tuple #[v, .int .i64 (readR s.data.toList).2]) ∧ OwnS w' w.heap.size v (readR s.data.toList).1 ∧ Below w.heap.size w w' := by
  have hL := list_size s
  have hB := Below.refl w.heap.size w
  by_cases hd : s.data.toList = [45]
  · have hs9 : s = ⟨#[45]⟩ := by rw [← bs_of s, hd]; rfl
    have hV := Lib.hid (show readR s.data.toList = ([], 0) by rw [hd]; exact readR_dash)
    clear hd
    rw [hV.out]
    subst hs9
    go_enter Tryd.func6, Tryd.ntmps6
    go_wp2_with fail
    go_ret2
    exact ⟨_, rfl, OwnS.nil' _ _, by (repeat' (first | (with_reducible exact Below.refl _ _) | (with_reducible assumption) | (with_reducible refine below_al ?_ _) | (with_reducible refine Below.drew ?_) | (with_reducible refine Below.setCell ?_ (by first | exact Nat.le_refl _ | (dsimp only; omega) | (simp; omega)) _) | (with_reducible refine below_drewN ?_ _) | (with_reducible refine below_tt ?_ (by assumption))))⟩
  · obtain ⟨RL, RE, hRR⟩ : ∃ RL RE, readR s.data.toList = (RL, RE) := ⟨_, _, rfl⟩
    rw [hRR]
    have hne : (s.toList == [45]) = false := by rw [beq_eq_false_iff_ne, toList_data]; exact hd
    obtain ⟨ps, hps⟩ : ∃ ps, splitC 44 s.data.toList = ps := ⟨_, rfl⟩
    have hsl := splitC_len 44 s.data.toList
    rw [hps] at hsl
    obtain ⟨hl1, hl2⟩ := hsl
    have hbad : ∀ k (h : k < ps.length), readI ps[k] = none → RL = [] ∧ RE = 6 := fun k h h9 => by
      have := impl_bad hd (p := ps[k]) (by rw [hps]; exact List.getElem_mem h) h9
      rw [hRR] at this
      exact Prod.mk.inj this
    have hgood : ∀ L : List (Int × Int), ps.map readI = L.map some → (RL, RE) = if isSet L = true then (L, 0) else ([], 6) := fun L h => by
      rw [← hRR]; exact impl_reads hd (by rw [hps]; exact h)
    have hnx : ∀ k (h : k < ps.length), (ps.take (k + 1)).map readI = (ps.take k).map readI ++ [readI ps[k]] := fun k h => by
      rw [List.take_add_one, List.getElem?_eq_getElem h, List.map_append]; rfl
    have hW0 := below_al (Below.refl w.heap.size w) (.cells #[] 38)
    have hO0 := OwnS.made w (Nat.le_refl w.heap.size)
    have hF0 := hF.below hW0
    have hz0 : w.heap.size < (w.alloc (.cells #[] 38)).heap.size := by simp
    have hsp := split_any hF0 s hs hps
    have hbad := Lib.hid hbad
    have hgood := Lib.hid hgood
    clear hRR hd hps
    go_enter Tryd.func6, Tryd.ntmps6
    go_wp2_with fail
    generalize w.alloc (.cells #[] 38) = w0 at *
    refine hsp.mono ?_
    rintro e w1 ⟨bp, rfl, hbp0, hP, b1⟩
    have hO := hO0.below b1
    have hB := below_tt hW0 b1
    have hbp : w.heap.size ≠ bp := by omega
    clear hsp hO0 hF0 hW0 hz0
    go_wp2_with fail
    go_loopw [4, 6, 7, 8, 9, 10, 11, 12, 13, 20] (fun s4 _ _ _ _ _ _ _ _ s20 wr => ∃ (k : Nat) (L : List (Int × Int)), k ≤ ps.length ∧ s20 = .int .i64 k ∧ OwnS wr w.heap.size s4 L ∧ Hid ((ps.take k).map readI = L.map some) ∧ s4.ownBlock ≠ some bp ∧ RT wr (.slice (some ⟨bp, 0, none⟩) ps.length ps.length) (ps.map bs) ∧ Below w.heap.size w wr) (fun _ _ _ _ _ _ _ _ _ s20 _ => ps.length - (intOf s20).toNat)
    case atStart => exact ⟨0, [], by omega, rfl, hO, Lib.hid rfl, by intro e; injection e with e; exact hbp e, hP, hB⟩
    case round =>
      clear hB hP hO
      obtain ⟨k, L, hk, rfl, hO, hLk, hbv, hP, hB⟩ := hrel
      have hLl : L.length = k := by
        have := congrArg List.length hLk.out
        rw [List.length_map, List.length_map, List.length_take] at this
        omega
      by_cases hlt : k < ps.length
      · have hd1 : decide ((k : Int) < (ps.length : Int)) = true := decide_eq_true (by omega)
        rcases hP with ⟨h0, _⟩ | ⟨b, off, cap, hv, hb, hc⟩
        · exfalso; have := congrArg List.length h0; rw [List.length_map, List.length_nil] at this; omega
        injection hv with e1 e2 e3
        injection e1 with e1
        injection e1 with e1 e4 e5
        subst e1 e4 e3
        clear e2 e5
        have ck := hc k (by rw [List.length_map]; omega)
        rw [gT_part ps k hlt, Nat.zero_add] at ck
        have hnk := Lib.hid (hnx k hlt)
        have hpl := hl2 _ (List.getElem_mem hlt)
        have hbk := Lib.hid (hbad.out k hlt)
        generalize ps[k] = p at ck hnk hpl hbk
        clear hnx hl2 hbad hgood
        obtain ⟨H, T, mo, hcut⟩ : ∃ H T mo, Lib.cut p [46, 46] = (H, T, mo) := ⟨_, _, _, rfl⟩
        have hcl := cut_len p
        rw [hcut] at hcl
        dsimp only at hcl
        obtain ⟨zH, zT⟩ := hcl
        cases mo with
        | false =>
          obtain ⟨a1, a2, ha0⟩ : ∃ a1 a2, numR H = (a1, a2) := ⟨_, _, rfl⟩
          have hri0 := readI_is hcut ha0 (b := (a1, a2)) (by simpa using ha0)
          have ha := Lib.hid ha0
          clear ha0
          have hcutc := cut_any (hF.below hB) p (by omega) hcut
          clear hcut
          cases a2 with
          | false =>
            have hri := Lib.hid (hri0.trans (if_neg (by simp)))
            clear hri0
            go_wp2_with fail
            refine hcutc.mono ?_
            rintro e w2 ⟨rfl, b2⟩
            have hO2 := hO.below b2
            have hB2 := below_tt hB b2
            have hF2 := hF.below hB2
            go_wp2_with fail
            refine (number_bs ha.out hF2 (by omega)).mono ?_
            rintro e w3 ⟨rfl, b3⟩
            have hO3 := hO2.below b3
            have hB3 := below_tt hB2 b3
            have hF3 := hF2.below b3
            go_wp2_with fail
            refine (number_bs ha.out hF3 (by omega)).mono ?_
            rintro e w4 ⟨rfl, b4⟩
            have hO4 := hO3.below b4
            have hB4 := below_tt hB3 b4
            obtain ⟨rfl, rfl⟩ := hbk.out hri.out
            go_wp2_with fail
            go_ret2
            exact ⟨_, rfl, OwnS.nil' _ _, hB4⟩
          | true =>
            have hri := Lib.hid (hri0.trans (if_pos (by simp)))
            clear hri0
            go_wp2_with fail
            refine hcutc.mono ?_
            rintro e w2 ⟨rfl, b2⟩
            have hO2 := hO.below b2
            have hB2 := below_tt hB b2
            have hF2 := hF.below hB2
            go_wp2_with fail
            refine (number_bs ha.out hF2 (by omega)).mono ?_
            rintro e w3 ⟨rfl, b3⟩
            have hO3 := hO2.below b3
            have hB3 := below_tt hB2 b3
            have hF3 := hF2.below b3
            go_wp2_with fail
            refine (number_bs ha.out hF3 (by omega)).mono ?_
            rintro e w4 ⟨rfl, b4⟩
            have hO4 := hO3.below b4
            have hB4 := below_tt hB3 b4
            have hL9 := Lib.hid (show (ps.take (k + 1)).map readI = (L ++ [(a1, a1)]).map some by rw [hnk.out, hLk.out, hri.out, List.map_append]; rfl)
            have hz4 : bp < w4.heap.size := bsize b4 bp (bsize b3 bp (bsize b2 bp hb))
            have hk4 : ∀ off, w4.cell? ⟨bp, off, none⟩ = wr.cell? ⟨bp, off, none⟩ := fun off => ((b4.cell (p := ⟨bp, off, none⟩) (bsize b3 bp (bsize b2 bp hb))).trans (b3.cell (p := ⟨bp, off, none⟩) (bsize b2 bp hb))).trans (b2.cell (p := ⟨bp, off, none⟩) hb)
            have hk4 := Lib.hid hk4
            go_wp2_with (at_builtin; refine app_span_by (w0 := w) (bp := bp) (p := a1) (q := a1) (xs := L) (by (repeat' (first | (with_reducible exact Below.refl _ _) | (with_reducible assumption) | (with_reducible refine below_al ?_ _) | (with_reducible refine Below.drew ?_) | (with_reducible refine Below.setCell ?_ (by first | exact Nat.le_refl _ | (dsimp only; omega) | (simp; omega)) _) | (with_reducible refine below_drewN ?_ _) | (with_reducible refine below_tt ?_ (by assumption))))) (hO4.alloc _) (by omega) (by simp; omega) hbv rfl _ _ rfl rfl rfl (by simp [go_sem]) (by simp [go_sem]) ?_; intro v6 w6 hO6 hB6 hv6 hc6 hz6)
            go_roundw
            case rel => exact ⟨k + 1, L ++ [(a1, a1)], by omega, by simp, hO6, hL9, hv6, Or.inr ⟨bp, 0, ps.length, by rw [List.length_map], hz6, hc.of_cells fun off => (hc6 off).trans (((below_al (Below.refl _ _) _).cell (p := ⟨bp, off, none⟩) hz4).trans (hk4.out off))⟩, hB6⟩
            case measure => simp [intOf]; omega
        | true =>
          obtain ⟨a1, a2, ha0⟩ : ∃ a1 a2, numR H = (a1, a2) := ⟨_, _, rfl⟩
          obtain ⟨c1, c2, hb0⟩ : ∃ c1 c2, numR T = (c1, c2) := ⟨_, _, rfl⟩
          have hri0 := readI_is hcut ha0 (b := (c1, c2)) (by simpa using hb0)
          have ha := Lib.hid ha0
          have hb9 := Lib.hid hb0
          clear ha0 hb0
          have hcutc := cut_any (hF.below hB) p (by omega) hcut
          clear hcut
          cases a2 with
          | false =>
            have hri := Lib.hid (hri0.trans (if_neg (by simp)))
            clear hri0
            go_wp2_with fail
            refine hcutc.mono ?_
            rintro e w2 ⟨rfl, b2⟩
            have hO2 := hO.below b2
            have hB2 := below_tt hB b2
            have hF2 := hF.below hB2
            go_wp2_with fail
            refine (number_bs ha.out hF2 (by omega)).mono ?_
            rintro e w3 ⟨rfl, b3⟩
            have hO3 := hO2.below b3
            have hB3 := below_tt hB2 b3
            have hF3 := hF2.below b3
            go_wp2_with fail
            refine (number_bs hb9.out hF3 (by omega)).mono ?_
            rintro e w4 ⟨rfl, b4⟩
            have hO4 := hO3.below b4
            have hB4 := below_tt hB3 b4
            obtain ⟨rfl, rfl⟩ := hbk.out hri.out
            go_wp2_with fail
            go_ret2
            exact ⟨_, rfl, OwnS.nil' _ _, hB4⟩
          | true =>
            cases c2 with
            | false =>
              have hri := Lib.hid (hri0.trans (if_neg (by simp)))
              clear hri0
              go_wp2_with fail
              refine hcutc.mono ?_
              rintro e w2 ⟨rfl, b2⟩
              have hO2 := hO.below b2
              have hB2 := below_tt hB b2
              have hF2 := hF.below hB2
              go_wp2_with fail
              refine (number_bs ha.out hF2 (by omega)).mono ?_
              rintro e w3 ⟨rfl, b3⟩
              have hO3 := hO2.below b3
              have hB3 := below_tt hB2 b3
              have hF3 := hF2.below b3
              go_wp2_with fail
              refine (number_bs hb9.out hF3 (by omega)).mono ?_
              rintro e w4 ⟨rfl, b4⟩
              have hO4 := hO3.below b4
              have hB4 := below_tt hB3 b4
              obtain ⟨rfl, rfl⟩ := hbk.out hri.out
              go_wp2_with fail
              go_ret2
              exact ⟨_, rfl, OwnS.nil' _ _, hB4⟩
            | true =>
              by_cases heq : a1 = c1
              · subst heq
                have hri := Lib.hid (hri0.trans (if_neg (by simp)))
                clear hri0
                go_wp2_with fail
                refine hcutc.mono ?_
                rintro e w2 ⟨rfl, b2⟩
                have hO2 := hO.below b2
                have hB2 := below_tt hB b2
                have hF2 := hF.below hB2
                go_wp2_with fail
                refine (number_bs ha.out hF2 (by omega)).mono ?_
                rintro e w3 ⟨rfl, b3⟩
                have hO3 := hO2.below b3
                have hB3 := below_tt hB2 b3
                have hF3 := hF2.below b3
                go_wp2_with fail
                refine (number_bs hb9.out hF3 (by omega)).mono ?_
                rintro e w4 ⟨rfl, b4⟩
                have hO4 := hO3.below b4
                have hB4 := below_tt hB3 b4
                obtain ⟨rfl, rfl⟩ := hbk.out hri.out
                go_wp2_with fail
                go_ret2
                exact ⟨_, rfl, OwnS.nil' _ _, hB4⟩
              · have hri := Lib.hid (hri0.trans (if_pos (by simp [heq])))
                clear hri0
                have dq : (a1 == c1) = false := by rw [beq_eq_false_iff_ne]; exact heq
                have dq2 : decide (a1 = c1) = false := decide_eq_false heq
                go_wp2_with fail
                refine hcutc.mono ?_
                rintro e w2 ⟨rfl, b2⟩
                have hO2 := hO.below b2
                have hB2 := below_tt hB b2
                have hF2 := hF.below hB2
                go_wp2_with fail
                refine (number_bs ha.out hF2 (by omega)).mono ?_
                rintro e w3 ⟨rfl, b3⟩
                have hO3 := hO2.below b3
                have hB3 := below_tt hB2 b3
                have hF3 := hF2.below b3
                go_wp2_with fail
                refine (number_bs hb9.out hF3 (by omega)).mono ?_
                rintro e w4 ⟨rfl, b4⟩
                have hO4 := hO3.below b4
                have hB4 := below_tt hB3 b4
                have hL9 := Lib.hid (show (ps.take (k + 1)).map readI = (L ++ [(a1, c1)]).map some by rw [hnk.out, hLk.out, hri.out, List.map_append]; rfl)
                have hz4 : bp < w4.heap.size := bsize b4 bp (bsize b3 bp (bsize b2 bp hb))
                have hk4 : ∀ off, w4.cell? ⟨bp, off, none⟩ = wr.cell? ⟨bp, off, none⟩ := fun off => ((b4.cell (p := ⟨bp, off, none⟩) (bsize b3 bp (bsize b2 bp hb))).trans (b3.cell (p := ⟨bp, off, none⟩) (bsize b2 bp hb))).trans (b2.cell (p := ⟨bp, off, none⟩) hb)
                have hk4 := Lib.hid hk4
                go_wp2_with (at_builtin; refine app_span_by (w0 := w) (bp := bp) (p := a1) (q := c1) (xs := L) (by (repeat' (first | (with_reducible exact Below.refl _ _) | (with_reducible assumption) | (with_reducible refine below_al ?_ _) | (with_reducible refine Below.drew ?_) | (with_reducible refine Below.setCell ?_ (by first | exact Nat.le_refl _ | (dsimp only; omega) | (simp; omega)) _) | (with_reducible refine below_drewN ?_ _) | (with_reducible refine below_tt ?_ (by assumption))))) (hO4.alloc _) (by omega) (by simp; omega) hbv rfl _ _ rfl rfl rfl (by simp [go_sem]) (by simp [go_sem]) ?_; intro v6 w6 hO6 hB6 hv6 hc6 hz6)
                go_roundw
                case rel => exact ⟨k + 1, L ++ [(a1, c1)], by omega, by simp, hO6, hL9, hv6, Or.inr ⟨bp, 0, ps.length, by rw [List.length_map], hz6, hc.of_cells fun off => (hc6 off).trans (((below_al (Below.refl _ _) _).cell (p := ⟨bp, off, none⟩) hz4).trans (hk4.out off))⟩, hB6⟩
                case measure => simp [intOf]; omega
      · obtain rfl : k = ps.length := by omega
        have hd1 : decide ((ps.length : Int) < (ps.length : Int)) = false := decide_eq_false (by omega)
        have hfin := hgood.out L (by have := hLk.out; rwa [List.take_length] at this)
        have hR := hO.rs
        have hSet := iIsSet_any _ _ wr hR (by omega)
        clear hbad hgood hnx hl2 hP
        cases hS : isSet L
        · obtain ⟨rfl, rfl⟩ := Prod.mk.inj (hfin.trans (if_neg (by rw [hS]; simp)))
          rw [hS] at hSet
          clear hS hfin
          go_wp2_with fail
          refine hSet.mono ?_
          rintro e w5 ⟨rfl, b5⟩
          go_wp2_with fail
          go_ret2
          exact ⟨_, rfl, OwnS.nil' _ _, below_tt hB b5⟩
        · obtain ⟨rfl, rfl⟩ := Prod.mk.inj (hfin.trans (if_pos hS))
          rw [hS] at hSet
          clear hS hfin
          go_wp2_with fail
          refine hSet.mono ?_
          rintro e w5 ⟨rfl, b5⟩
          go_wp2_with fail
          go_ret2
          exact ⟨_, rfl, hO.below b5, below_tt hB b5⟩
end Go.Proofs.YtpinngcdojbndaaDoor
