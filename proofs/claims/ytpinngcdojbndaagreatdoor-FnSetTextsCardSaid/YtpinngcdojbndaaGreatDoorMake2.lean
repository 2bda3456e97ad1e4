/- Sets of days: MakeSet and UniteSets on both sides. -/
import Derived.Test.YtpinngcdojbndaaGreatDoorMake
import Derived.Test.YtpinngcdojbndaaGreatDoorMeet2
import Derived.Laws.AppendOwnNone
namespace Go.Proofs.YtpinngcdojbndaaGreatDoor
open Go.RowKit

/-- Is a span of the list none of days? -/
def badB (xs : List (Int × Int)) : Bool := xs.any fun s => !okS s
theorem badB_yes {xs : List (Int × Int)} {i : Nat} (hi : i < xs.length) (h : (!okS ((gS xs i).1, (gS xs i).2)) = true) : badB xs = true :=
  List.any_eq_true.2 ⟨_, gS_mem hi, h⟩
theorem badB_no {xs : List (Int × Int)} (h : ∀ i, i < xs.length → (!okS ((gS xs i).1, (gS xs i).2)) = false) : badB xs = false := by
  refine List.any_eq_false.2 fun s hs => ?_
  obtain ⟨i, hi, rfl⟩ := mem_gS hs
  have := h i hi
  simpa using this
theorem badB_ok {xs : List (Int × Int)} (h : badB xs = false) : ∀ t ∈ xs, okS t = true := by
  intro t ht
  have := List.any_eq_false.1 h t ht
  simpa using this
theorem ok_far {t : Int × Int} (h : okS t = true) : farB t := by
  have := okS_iff.1 h
  unfold farB; omega
theorem ok_le {t : Int × Int} (h : okS t = true) : t.1 ≤ t.2 := (okS_iff.1 h).2.1

theorem bad1_any (a b : Int) (W : World) :
    Calls Tryz.prog 32 #[.agg #[.int .i64 a, .int .i64 b]] W fun e w' => e = .returned (.bool (!okS (a, b))) ∧ Below W.heap.size W w' := by
  go_enter Tryz.func32, Tryz.ntmps32
  go_wp2
  all_goals (go_ret; refine ⟨ret_bool ?_, by (repeat' (first | (with_reducible exact Below.refl _ _) | (with_reducible assumption) | (with_reducible refine below_al ?_ _) | (with_reducible refine Below.drew ?_) | (with_reducible refine Below.setCell ?_ (by first | exact Nat.le_refl _ | (dsimp only; omega) | (simp; omega)) _) | (with_reducible refine below_drewN ?_ _) | (with_reducible refine below_tt ?_ (by assumption))))⟩)
  all_goals (rw [Bool.eq_iff_iff]; simp_all [okS, inR]; try omega)
theorem bad1_is {a b : Int} {r : Bool} (hr : (!okS (a, b)) = r) (W : World) :
    Calls Tryz.prog 32 #[.agg #[.int .i64 a, .int .i64 b]] W fun e w' => e = .returned (.bool r) ∧ Below W.heap.size W w' := by
  subst hr; exact bad1_any a b W

set_option maxHeartbeats 1000000 in
theorem idxBad_cells (b off cap : Nat) (xs : List (Int × Int)) (w : World) (hb : b < w.heap.size) (h : SpanAt w b off xs) (hl : xs.length ≤ 4000000) :
    Calls Tryz.prog 47 #[.slice (some ⟨b, off, none⟩) xs.length cap, .func (.func 32) #[] #[]] w fun e w' => (∃ r : Int, e = .returned (.int .i64 r) ∧ decide (0 ≤ r) = badB xs) ∧ Below w.heap.size w w' := by
  have rg := cell_rg; have l2 : ∀ n : Nat, n < n + 1 + 1 := (fun _ => by omega); have l3 : ∀ n : Nat, n < n + 1 + 1 + 1 := (fun _ => by omega); have l4 : ∀ n : Nat, n < n + 1 + 1 + 1 + 1 := (fun _ => by omega)
  have hB := Below.refl w.heap.size w
  go_enter Tryz.func47, Tryz.ntmps47
  go_wp2
  go_loopw [8] (fun s8 wr => ∃ k : Nat, k ≤ xs.length ∧ s8 = .int .i64 k ∧ Hid (∀ i, i < k → (!okS ((gS xs i).1, (gS xs i).2)) = false) ∧ Below w.heap.size w wr) (fun s8 _ => xs.length - (intOf s8).toNat)
  case atStart => exact ⟨0, by omega, rfl, Lib.hid (fun i hi => by omega), hB⟩
  case round =>
    clear hB
    obtain ⟨k, hk, rfl, hno, hB⟩ := hrel
    have z1 := bsize hB b hb
    have hp := Below.refl wr.heap.size wr
    by_cases hlt : k < xs.length
    · have e1 := h.of_cells fun o => hB.cell (p := ⟨b, o, none⟩) hb
      have e10 := (e1 k hlt).1
      have e11 := (e1 k hlt).2
      cases hin : (!okS ((gS xs k).1, (gS xs k).2))
      · have hd : Hid (∀ i, i < k + 1 → (!okS ((gS xs i).1, (gS xs i).2)) = false) := Lib.hid fun i hi => by
          rcases Nat.lt_or_ge i k with h3 | h3
          · exact hno.out i h3
          · obtain rfl : i = k := by omega
            exact hin
        generalize (gS xs k).1 = x at e10 hin
        generalize (gS xs k).2 = y at e11 hin
        have hin' := Lib.hid hin
        clear hin e1
        go_wp2_with (go_at_call 32; refine (bad1_is hin'.out _).mono ?_; rintro e w' ⟨rfl, hb9⟩)
        go_roundw
        case rel => exact ⟨k + 1, by omega, by simp, hd, below_tt hB hb9⟩
        case measure => simp [intOf]; omega
      · have hd : Hid (badB xs = true) := Lib.hid (badB_yes hlt hin)
        generalize (gS xs k).1 = x at e10 hin
        generalize (gS xs k).2 = y at e11 hin
        have hin' := Lib.hid hin
        clear hin e1
        go_wp2_with (go_at_call 32; refine (bad1_is hin'.out _).mono ?_; rintro e w' ⟨rfl, hb9⟩)
        go_ret
        exact ⟨⟨_, rfl, by rw [hd.out]; exact decide_eq_true (by omega)⟩, below_tt hB hb9⟩
    · obtain rfl : k = xs.length := by omega
      have hd : Hid (badB xs = false) := Lib.hid (badB_no hno.out)
      go_wp2
      go_ret
      exact ⟨⟨-1, rfl, by rw [hd.out]; rfl⟩, hB⟩
theorem idxBad_nil (a : Option Addr) (cap : Nat) (c : Value) (w : World) :
    Calls Tryz.prog 47 #[.slice a 0 cap, c] w fun e w' => e = .returned (.int .i64 (-1)) ∧ w = w' := by
  go_enter Tryz.func47, Tryz.ntmps47
  go_wp2
  go_loopw [8] (fun s3 wr => s3 = .int .i64 0 ∧ wr = w) (fun _ _ => 0)
  case atStart => exact ⟨rfl, rfl⟩
  case round =>
    obtain ⟨rfl, rfl⟩ := hrel
    go_wp2
    go_ret
    exact ⟨rfl, rfl⟩
theorem idxBad_any (v : Value) (xs : List (Int × Int)) (w : World) (h : RS w v xs) (hl : xs.length ≤ 4000000) :
    Calls Tryz.prog 47 #[v, .func (.func 32) #[] #[]] w fun e w' => (∃ r : Int, e = .returned (.int .i64 r) ∧ decide (0 ≤ r) = badB xs) ∧ Below w.heap.size w w' := by
  rcases h with ⟨rfl, a, cap, rfl⟩ | ⟨b, off, cap, rfl, hb, hs⟩
  · exact (idxBad_nil a cap _ w).mono fun _ _ h => ⟨⟨-1, h.1, rfl⟩, by rw [← h.2]; exact Below.refl _ _⟩
  · exact idxBad_cells b off cap xs w hb hs hl
theorem conBad_any (v : Value) (xs : List (Int × Int)) (w : World) (h : RS w v xs) (hl : xs.length ≤ 4000000) :
    Calls Tryz.prog 31 #[v, .func (.func 32) #[] #[]] w fun e w' => e = .returned (.bool (badB xs)) ∧ Below w.heap.size w w' := by
  go_enter Tryz.func31, Tryz.ntmps31
  go_wp2_with fail
  refine (idxBad_any v xs _ h hl).mono ?_
  rintro e w1 ⟨⟨r, rfl, hr⟩, b1⟩
  have hr' := Lib.hid hr
  clear hr
  go_wp2
  go_ret
  exact ⟨ret_bool (by rw [← hr'.out]; (try rfl); try simp), b1⟩

theorem putS_len (P : List (Int × Int)) (s : Int × Int) : (putS P s).length ≤ P.length + 1 := by
  cases P with
  | nil => simp [putS]
  | cons l r => simp only [putS]; split <;> simp
theorem foldl_len (xs : List (Int × Int)) : ∀ P : List (Int × Int), (xs.foldl putS P).length ≤ P.length + xs.length := by
  induction xs with
  | nil => intro P; simp
  | cons s xs ih =>
    intro P
    have h1 := ih (putS P s)
    have h2 := putS_len P s
    rw [List.foldl_cons, List.length_cons]; omega
theorem unite_len (xs : List (Int × Int)) : (uniteL xs).length ≤ xs.length := by
  have h := foldl_len (sortI xs) []
  have h2 := (sortI_perm xs).length_eq
  unfold uniteL mergeL mergeR
  rw [List.length_reverse]
  simp at h; omega
/-- What MakeSet answers. -/
def makeR (xs : List (Int × Int)) : List (Int × Int) × Int := if badB xs = true then ([], 2) else if 1000 < xs.length then ([], 2) else limR (uniteL xs)
noncomputable def uniteR (xs ys : List (Int × Int)) : List (Int × Int) × Int := if isSet xs = true then (if isSet ys = true then limR (uniteL (xs ++ ys)) else ([], 1)) else ([], 1)
theorem limR_of {L : List (Int × Int)} {base : Nat} {w : World} {v : Value} (h : OwnS w base v L) : OwnS w base v L := h

set_option maxHeartbeats 2000000 in
theorem iMake_any (v : Value) (xs : List (Int × Int)) (w : World) (h : RS2 w v xs) (hl : xs.length ≤ 2000000) :
    Calls Tryz.prog 12 #[v] w fun e w' => ∃ v', e = .returned (.tuple #[v', .int .i64 (makeR xs).2]) ∧ OwnS w' w.heap.size v' (makeR xs).1 ∧ Below w.heap.size w w' := by
  obtain ⟨a1, p1, hv1⟩ := h.rs.val
  have hul := unite_len xs
  by_cases hb : 1000 < xs.length
  · have hr : Hid (makeR xs = ([], 2)) := Lib.hid (by simp [makeR, hb])
    have hb' : (1000 : Int) < (xs.length : Int) := by omega
    rw [hr.out]
    subst hv1
    go_enter Tryz.func12, Tryz.ntmps12
    go_wp2
    go_ret2
    exact ⟨_, rfl, OwnS.nil _ _, Below.refl _ _⟩
  · have hb' : ¬ (1000 : Int) < (xs.length : Int) := by omega
    have hcon := fun W hW => conBad_any v xs W (h.rs.below (w' := W) hW) (by omega)
    have hcon' := Lib.hid hcon
    clear hcon
    cases hbad : badB xs
    · have hr : Hid (makeR xs = limR (uniteL xs)) := Lib.hid (by simp [makeR, hb, hbad])
      have hok := Lib.hid (badB_ok hbad)
      have hbad' := Lib.hid hbad
      clear hbad
      rw [hr.out]
      have h' := h
      subst hv1
      go_enter Tryz.func12, Tryz.ntmps12
      go_wp2_with fail
      refine (hcon'.out _ (Below.refl _ _)).mono ?_
      rintro e w1 ⟨rfl, b1⟩
      rw [hbad'.out]
      go_wp2_with fail
      refine (united_any _ xs _ (h'.below b1) (by omega) (fun t ht => ok_far (hok.out t ht))).mono ?_
      rintro e w2 ⟨⟨v2, ys, rfl, hp, ho, o2⟩, b2⟩
      rw [unite_of hp ho (fun s hs => ok_le (hok.out s hs))] at o2
      clear hp ho
      go_wp2_with fail
      refine (limited_any v2 (uniteL xs) w.heap.size _ (o2.more b1.size) (by omega)).mono ?_
      rintro e w4 ⟨v4, rfl, o4, rfl⟩
      go_wp2
      go_ret2
      exact ⟨_, rfl, o4, below_tt b1 b2⟩
    · have hr : Hid (makeR xs = ([], 2)) := Lib.hid (by simp [makeR, hbad])
      have hbad' := Lib.hid hbad
      clear hbad
      rw [hr.out]
      subst hv1
      go_enter Tryz.func12, Tryz.ntmps12
      go_wp2_with fail
      refine (hcon'.out _ (Below.refl _ _)).mono ?_
      rintro e w1 ⟨rfl, b1⟩
      rw [hbad'.out]
      go_wp2
      go_ret2
      exact ⟨_, rfl, OwnS.nil _ _, b1⟩

set_option maxHeartbeats 2000000 in
theorem sMake_any (v : Value) (xs : List (Int × Int)) (w : World) (h : RS2 w v xs) (hl : xs.length ≤ 2000000) :
    Calls Tryz.prog 13 #[v] w fun e w' => ∃ v', e = .returned (.tuple #[v', .int .i64 (makeR xs).2]) ∧ OwnS w' w.heap.size v' (makeR xs).1 ∧ Below w.heap.size w w' := by
  have rg := cell_rg; have l2 : ∀ n : Nat, n < n + 1 + 1 := (fun _ => by omega); have l3 : ∀ n : Nat, n < n + 1 + 1 + 1 := (fun _ => by omega); have l4 : ∀ n : Nat, n < n + 1 + 1 + 1 + 1 := (fun _ => by omega)
  have hB := Below.refl w.heap.size w
  have hul := unite_len xs
  rcases h with ⟨rfl, rfl⟩ | ⟨b, off, cap, hv, hb, hs⟩
  · have hr : Hid (makeR [] = limR (uniteL [])) := Lib.hid (by simp [makeR, badB])
    rw [hr.out]
    go_enter Tryz.func13, Tryz.ntmps13
    go_wp2
    go_loopw [4] (fun s4 wr => s4 = .int .i64 0 ∧ wr = w) (fun _ _ => 0)
    case atStart => exact ⟨rfl, rfl⟩
    case round =>
      obtain ⟨rfl, rfl⟩ := hrel
      go_wp2_with fail
      refine (l02Make_any _ [] _ (Or.inl ⟨rfl, rfl⟩) (by simp) (fun t ht => by cases ht)).mono ?_
      rintro e w2 ⟨v2, rfl, o2, b2⟩
      go_wp2_with fail
      refine (l02Result_any v2 (uniteL []) _ _ o2 (by omega)).mono ?_
      rintro e w4 ⟨v4, rfl, o4, rfl⟩
      go_wp2
      go_ret2
      exact ⟨_, rfl, o4, b2⟩
  · have hR : RS2 w v xs := Or.inr ⟨b, off, cap, hv, hb, hs⟩
    subst hv
    go_enter Tryz.func13, Tryz.ntmps13
    go_wp2
    go_loopw [4] (fun s4 wr => ∃ k : Nat, k ≤ xs.length ∧ s4 = .int .i64 k ∧ Hid (∀ i, i < k → (!okS ((gS xs i).1, (gS xs i).2)) = false) ∧ Below w.heap.size w wr) (fun s4 _ => xs.length - (intOf s4).toNat)
    case atStart => exact ⟨0, by omega, rfl, Lib.hid (fun i hi => by omega), hB⟩
    case round =>
      clear hB
      obtain ⟨k, hk, rfl, hno, hB⟩ := hrel
      have z1 := bsize hB b hb
      have hp := Below.refl wr.heap.size wr
      by_cases hlt : k < xs.length
      · have e1 := hs.of_cells fun o => hB.cell (p := ⟨b, o, none⟩) hb
        have e10 := (e1 k hlt).1
        have e11 := (e1 k hlt).2
        cases hin : okS ((gS xs k).1, (gS xs k).2)
        · have hd : Hid (makeR xs = ([], 2)) := Lib.hid (by simp [makeR, badB_yes hlt (by rw [hin]; rfl)])
          generalize (gS xs k).1 = x at e10 hin
          generalize (gS xs k).2 = y at e11 hin
          have hin' := Lib.hid hin
          clear hin e1
          go_wp2_with (go_at_call 36; refine (l02Span_is hin'.out _).mono ?_; rintro e w' ⟨rfl, hb9⟩)
          go_ret2
          rw [hd.out]
          exact ⟨_, rfl, OwnS.nil _ _, below_tt hB hb9⟩
        · have hd : Hid (∀ i, i < k + 1 → (!okS ((gS xs i).1, (gS xs i).2)) = false) := Lib.hid fun i hi => by
            rcases Nat.lt_or_ge i k with h3 | h3
            · exact hno.out i h3
            · obtain rfl : i = k := by omega
              rw [hin]; rfl
          generalize (gS xs k).1 = x at e10 hin
          generalize (gS xs k).2 = y at e11 hin
          have hin' := Lib.hid hin
          clear hin e1
          go_wp2_with (go_at_call 36; refine (l02Span_is hin'.out _).mono ?_; rintro e w' ⟨rfl, hb9⟩)
          go_roundw
          case rel => exact ⟨k + 1, by omega, by simp, hd, below_tt hB hb9⟩
          case measure => simp [intOf]; omega
      · obtain rfl : k = xs.length := by omega
        have hbad := Lib.hid (badB_no hno.out)
        have hok := Lib.hid (badB_ok hbad.out)
        clear hno
        by_cases hbg : 1000 < xs.length
        · have hr : Hid (makeR xs = ([], 2)) := Lib.hid (by simp [makeR, hbg])
          have hb' : (1000 : Int) < (xs.length : Int) := by omega
          go_wp2
          go_ret2
          rw [hr.out]
          exact ⟨_, rfl, OwnS.nil _ _, hB⟩
        · have hr : Hid (makeR xs = limR (uniteL xs)) := Lib.hid (by simp [makeR, hbg, hbad.out])
          have hb' : ¬ (1000 : Int) < (xs.length : Int) := by omega
          go_wp2_with fail
          refine (l02Make_any _ xs _ (hR.below hB) (by omega) (fun t ht => ok_far (hok.out t ht))).mono ?_
          rintro e w2 ⟨v2, rfl, o2, b2⟩
          go_wp2_with fail
          refine (l02Result_any v2 (uniteL xs) w.heap.size _ (o2.more hB.size) (by omega)).mono ?_
          rintro e w4 ⟨v4, rfl, o4, rfl⟩
          go_wp2
          go_ret2
          rw [hr.out]
          exact ⟨_, rfl, o4, below_tt hB b2⟩

section
variable {ops : Array Oper} {rest : List Oper} {o : Oper} {a : Act} {Q : Exit → Act → World → Prop}
/-- 'append(dst, src...)' of spans, the source nil or not. -/
theorem app_slice {w0 W : World} {v u : Value} {xs ys : List (Int × Int)} (hB : Below w0.heap.size w0 W) (hown : OwnS W w0.heap.size v xs) (hsrc : RS2 W u ys) (hlen : xs.length ≤ 8000000) (hlen2 : ys.length ≤ 8000000) (hgd : o.guard = none) (s x : Operand)
    (ho : o.op = .call { callee := .builtin .append, args := #[s, x], argTypes := #[24, 24] })
    (hs : a.eval s = v) (hx : a.eval x = u)
    (h : ∀ v' w', OwnS w' w0.heap.size v' (xs ++ ys) → Below w0.heap.size w0 w' → wpList Tryz.prog ops Q rest (a.put o.dst v') w') :
    wpList Tryz.prog ops Q (o :: rest) a W := by
  obtain ⟨i, hi, hz0, hz1, hz2⟩ := info_parts infoSpan
  rcases hsrc with ⟨rfl, rfl⟩ | ⟨b, off, cap, rfl, hb, hsp⟩
  · refine wpList_append_own_none hgd s x _ ho w0.heap.size 36 i 2 Tryz.underlying24 hi v xs.length (flatS xs) hs hown hx ?_
    exact h v W (by rw [List.append_nil]; exact hown) hB
  · refine wpList_append_own_at _ hgd s x _ ho w0.heap.size 36 i _ 2 16 Tryz.underlying24 hi hz0 hz1 hz2 rfl (by omega) v xs.length (flatS xs) hs hown ⟨b, off, none⟩ ys.length cap (flatS ys) hx (flatS_len ys) ?_ (flatS_one ys) (by simp [maxLen]; omega) (by omega) hB.size ?_
    · intro j q hj
      have hj' : j < (flatS ys).length := (List.getElem?_eq_some_iff.1 hj).1
      rw [flatS_len] at hj'
      obtain ⟨g1, g2⟩ := flatS_get ys (j / 2) (by omega)
      obtain ⟨c1, c2⟩ := hsp (j / 2) (by omega)
      have ea : (⟨b, off, none⟩ : Addr).add j = ⟨b, off + j, none⟩ := by unfold Addr.add; split <;> simp_all
      rw [ea]
      rcases Nat.mod_two_eq_zero_or_one j with h0 | h0
      · have e : j / 2 * 2 = j := by omega
        rw [e] at g1 c1
        rw [c1, ← hj, g1]
      · have e : j / 2 * 2 + 1 = j := by omega
        rw [show off + j / 2 * 2 + 1 = off + (j / 2 * 2 + 1) by omega, e] at c2
        rw [e] at g2
        rw [c2, ← hj, g2]
    · intro v' w' hown' hgrow _ hat
      refine h v' w' ?_ ?_
      · unfold OwnS
        rw [flatS_app, List.length_append]
        exact hown'
      · exact hB.grown hgrow hB.size (fun k hk => (World.ownsRow.lt hown k hk).1)
end
theorem sets_far {xs ys : List (Int × Int)} (hx : isSet xs = true) (hy : isSet ys = true) : (∀ t ∈ xs ++ ys, okS t = true) ∧ xs.length ≤ 300 ∧ ys.length ≤ 300 := by
  have h1 := isSet_ok hx
  have h2 := isSet_ok hy
  refine ⟨fun t ht => ?_, h1.1, h2.1⟩
  rcases List.mem_append.1 ht with ht | ht
  · obtain ⟨i, hi, rfl⟩ := mem_gS ht; exact h1.2 i hi
  · obtain ⟨i, hi, rfl⟩ := mem_gS ht; exact h2.2 i hi

end Go.Proofs.YtpinngcdojbndaaGreatDoor
