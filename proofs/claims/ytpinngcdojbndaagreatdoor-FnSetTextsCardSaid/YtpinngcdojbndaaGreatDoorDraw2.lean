/- What the reference draws: days and sets of days; whatever they are, they lie in bounds, in memory of the call's own. -/
import Derived.Test.YtpinngcdojbndaaGreatDoorDraw1
import Derived.Test.YtpinngcdojbndaaGreatDoorMake2
namespace Go.Proofs.YtpinngcdojbndaaGreatDoor
open Go.RowKit

theorem OwnS.src {w w' : World} {lo B : Nat} {v : Value} {xs : List (Int × Int)} (h : OwnS w lo v xs) (hg : w.grownBy w' (some B)) (hB : B < lo) : OwnS w' lo v xs := by
  cases hv : v.ownBlock with
  | none => exact h.kept hg (Or.inl hv)
  | some k => exact h.kept hg (Or.inr fun e => by rw [hv] at e; injection e with e; have := (ownB_lt h k hv).1; omega)

section
variable {ops : Array Oper} {rest : List Oper} {o : Oper} {a : Act} {Q : Exit → Act → World → Prop}
theorem app_raw {W : World} {lo : Nat} {p q : Int} {v : Value} {xs : List (Int × Int)} {g : Nat} (hlo : lo ≤ W.heap.size) (hown : OwnS W lo v xs) (hlen : xs.length ≤ 8000000) (hgd : o.guard = none) (s x : Operand)
    (ho : o.op = .call { callee := .builtin .append, args := #[s, x], argTypes := #[24, 24] })
    (hs : a.eval s = v) (hx : a.eval x = .slice (some ⟨g, 0, none⟩) 1 1) (c0 : W.cell? ⟨g, 0, none⟩ = some (.int .i64 p)) (c1 : W.cell? ⟨g, 1, none⟩ = some (.int .i64 q))
    (h : ∀ v' w', OwnS w' lo v' (xs ++ [(p, q)]) → W.grownBy w' v.ownBlock → (v'.ownBlock = v.ownBlock ∨ v'.ownBlock = some W.heap.size) → wpList Tryz.prog ops Q rest (a.put o.dst v') w') :
    wpList Tryz.prog ops Q (o :: rest) a W := by
  obtain ⟨i, hi, hz0, hz1, hz2⟩ := info_parts infoSpan
  refine wpList_append_own_at _ hgd s x _ ho lo 36 i _ 2 16 Tryz.underlying24 hi hz0 hz1 hz2 rfl (by omega) v xs.length (flatS xs) hs hown ⟨g, 0, none⟩ 1 1 [.int .i64 p, .int .i64 q] hx rfl ?_ ?_ (by simp [maxLen]; omega) (by omega) hlo ?_
  · intro j u hj
    match j, hj with
    | 0, hj => simp at hj; subst hj; simpa [Addr.add] using c0
    | 1, hj => simp at hj; subst hj; simpa [Addr.add] using c1
  · intro u hu
    simp at hu
    rcases hu with rfl | rfl <;> rfl
  · intro v' w' hown' hgrow _ hat
    exact h v' w' (by unfold OwnS; rw [flatS_app, List.length_append]; exact hown') hgrow hat
theorem app_slice_raw {W : World} {lo : Nat} {v u : Value} {xs ys : List (Int × Int)} (hlo : lo ≤ W.heap.size) (hown : OwnS W lo v xs) (hsrc : RS2 W u ys) (hlen : xs.length ≤ 8000000) (hlen2 : ys.length ≤ 8000000) (hgd : o.guard = none) (s x : Operand)
    (ho : o.op = .call { callee := .builtin .append, args := #[s, x], argTypes := #[24, 24] })
    (hs : a.eval s = v) (hx : a.eval x = u)
    (h : ∀ v' w', OwnS w' lo v' (xs ++ ys) → W.grownBy w' v.ownBlock → wpList Tryz.prog ops Q rest (a.put o.dst v') w') :
    wpList Tryz.prog ops Q (o :: rest) a W := by
  obtain ⟨i, hi, hz0, hz1, hz2⟩ := info_parts infoSpan
  rcases hsrc with ⟨rfl, rfl⟩ | ⟨b, off, cap, rfl, hb, hsp⟩
  · refine wpList_append_own_none hgd s x _ ho lo 36 i 2 Tryz.underlying24 hi v xs.length (flatS xs) hs hown hx ?_
    exact h v W (by rw [List.append_nil]; exact hown) (World.grownBy.refl _ _)
  · refine wpList_append_own_at _ hgd s x _ ho lo 36 i _ 2 16 Tryz.underlying24 hi hz0 hz1 hz2 rfl (by omega) v xs.length (flatS xs) hs hown ⟨b, off, none⟩ ys.length cap (flatS ys) hx (flatS_len ys) ?_ (flatS_one ys) (by simp [maxLen]; omega) (by omega) hlo ?_
    · intro j q hj
      have hj' : j < (flatS ys).length := (List.getElem?_eq_some_iff.1 hj).1
      rw [flatS_len] at hj'
      obtain ⟨g1, g2⟩ := flatS_get ys (j / 2) (by omega)
      obtain ⟨c1, c2⟩ := hsp (j / 2) (by omega)
      have ea : (⟨b, off, none⟩ : Addr).add j = ⟨b, off + j, none⟩ := by unfold Addr.add; split <;> simp_all
      rw [ea]
      rcases Nat.mod_two_eq_zero_or_one j with h0 | h0
      · have e : j / 2 * 2 = j := by omega
        rw [e] at g1 c1
        rw [c1, ← hj, g1]
      · have e : j / 2 * 2 + 1 = j := by omega
        rw [show off + j / 2 * 2 + 1 = off + (j / 2 * 2 + 1) by omega, e] at c2
        rw [e] at g2
        rw [c2, ← hj, g2]
    · intro v' w' hown' hgrow _ hat
      exact h v' w' (by unfold OwnS; rw [flatS_app, List.length_append]; exact hown') hgrow
end

/-- Spans in bounds. -/
def inBd (s : Int × Int) : Prop := -10000000 ≤ s.1 ∧ s.1 ≤ 10000000 ∧ -10000000 ≤ s.2 ∧ s.2 ≤ 10000000
def bdL (xs : List (Int × Int)) : Prop := ∀ s ∈ xs, inBd s
theorem bdL_nil : bdL [] := fun s hs => by cases hs
theorem le_nil : ∀ s ∈ ([] : List (Int × Int)), s.1 ≤ s.2 := fun s hs => by cases hs
theorem bdL_snoc {xs : List (Int × Int)} {p q : Int} (h : bdL xs) (hs : inBd (p, q)) : bdL (xs ++ [(p, q)]) := fun s h1 => by
  rcases List.mem_append.1 h1 with h1 | h1
  · exact h s h1
  · rw [List.mem_singleton] at h1; subst h1; exact hs
theorem putS_bd {P : List (Int × Int)} {s : Int × Int} (h : bdL P) (hs : inBd s) : bdL (putS P s) := by
  intro t ht
  cases P with
  | nil => simp [putS] at ht; subst ht; exact hs
  | cons l r =>
    have hl := h l List.mem_cons_self
    simp only [putS] at ht
    split at ht
    · rcases List.mem_cons.1 ht with rfl | ht
      · unfold inBd at *; simp only; omega
      · exact h t (List.mem_cons_of_mem _ ht)
    · rcases List.mem_cons.1 ht with rfl | ht
      · exact hs
      · exact h t ht
theorem foldl_bd {xs : List (Int × Int)} : ∀ {P : List (Int × Int)}, bdL P → bdL xs → bdL (xs.foldl putS P) := by
  induction xs with
  | nil => intro P h _; exact h
  | cons s xs ih => intro P h hx; exact ih (putS_bd h (hx s List.mem_cons_self)) (fun t ht => hx t (List.mem_cons_of_mem _ ht))
theorem unite_bd {xs : List (Int × Int)} (h : bdL xs) : bdL (uniteL xs) := fun t ht => by
  unfold uniteL mergeL mergeR at ht
  exact foldl_bd (xs := sortI xs) (P := []) (fun t ht => by cases ht) (fun t ht => h t ((sortI_perm xs).mem_iff.1 ht)) t (List.mem_reverse.1 ht)
theorem bd_far {s : Int × Int} (h : inBd s) : farB s := by unfold inBd at h; unfold farB; omega

set_option maxRecDepth 10000 in
set_option maxHeartbeats 2000000 in
theorem l02DrawSpans_any {base B : Nat} {v : Value} {n : Nat} (d : Int) {w : World} (h : Src w base B v n) (hn : n ≤ 1000000) (hd0 : 0 ≤ d) (hd1 : d ≤ 1000000) :
    Calls Tryz.prog 29 #[.pointer (some ⟨B, 0, none⟩), .int .i64 d] w fun e w' => ∃ v' xs, e = .returned v' ∧ OwnS w' w.heap.size v' xs ∧ (bdL xs ∧ (∀ s ∈ xs, s.1 ≤ s.2) ∧ xs.length ≤ 6) ∧ Src w' base B v n ∧ w.grownBy w' (some B) := by
  have hBs := h.hB
  have hO := OwnS.made w (Nat.le_refl w.heap.size)
  have hS0 := h.al (.cells #[] 36)
  have hG0 := gb_alloc (World.grownBy.refl w (some B)) (.cells #[] 36)
  go_enter Tryz.func29, Tryz.ntmps29
  go_wp2_with fail
  refine (l01Next_any 6 hS0 hn (by omega)).mono ?_
  rintro e w1 ⟨x, rfl, hx, hS, hG⟩
  unfold inN at hx
  obtain ⟨j0, rfl⟩ : ∃ j : Nat, x = j := ⟨x.toNat, by omega⟩
  have hO1 := hO.src hG hBs
  have hG1 := gb_trans hG0 hG
  clear hO hS0 hG0 hG
  go_wp2
  go_loopw [5, 6] (fun s5 s6 wr => ∃ (j : Nat) (xs : List (Int × Int)), s6 = .int .i64 j ∧ j ≤ 6 ∧ xs.length + j ≤ 6 ∧ OwnS wr w.heap.size s5 xs ∧ Hid (bdL xs ∧ ∀ s ∈ xs, s.1 ≤ s.2) ∧ Src wr base B v n ∧ w.grownBy wr (some B)) (fun _ s6 _ => (intOf s6).toNat)
  case atStart => exact ⟨j0, [], rfl, by omega, by simp; omega, hO1, ⟨bdL_nil, le_nil⟩, hS, hG1⟩
  case round =>
    clear hO1 hS hG1
    obtain ⟨j, xs, rfl, hj, hxl, hO, hbd, hS, hG⟩ := hrel
    by_cases hj0 : 0 < j
    · obtain ⟨j', rfl⟩ : ∃ j', j = j' + 1 := ⟨j - 1, by omega⟩
      go_wp2_with fail
      refine (l01Next_any 120 hS hn (by omega)).mono ?_
      rintro e w2 ⟨y, rfl, hy, hS2, hG2⟩
      unfold inN at hy
      obtain ⟨hy0, hy1⟩ := hy
      have hy2 : y ≤ 120 := by omega
      clear hy1
      have hO2 := hO.src hG2 hBs
      have hG3 := gb_trans hG hG2
      clear hS hG hO hG2
      go_wp2_with fail
      have hSa := hS2.al (.cells #[.int .i64 1, .int .i64 5, .int .i64 40] 2)
      refine (l01Pick_any [1, 5, 40] 3 hSa hn rfl (by omega) (by omega) (by simp) (by have := hS2.hB; omega) (nums_alloc w2 [1, 5, 40] _)).mono ?_
      rintro e w3 ⟨z, rfl, hz, hS3, hG3'⟩
      have hzb : 1 ≤ z ∧ z ≤ 40 := by simp at hz; omega
      have hO3 := (hO2.alloc (.cells #[.int .i64 1, .int .i64 5, .int .i64 40] 2)).src hG3' hBs
      have hG4 := gb_trans (gb_alloc hG3 _) hG3'
      clear hSa hz hS2 hG3 hO2 hG3'
      go_wp2_with fail
      refine (l01Next_any z hS3 hn (by omega)).mono ?_
      rintro e w4 ⟨u, rfl, hu, hS4, hG4'⟩
      unfold inN at hu
      obtain ⟨hu0, hu1⟩ := hu
      have hu2 : u ≤ 40 := by omega
      clear hu1
      have hO4 := hO3.src hG4' hBs
      have hG5 := gb_trans hG4 hG4'
      clear hS3 hG4 hO3 hG4'
      have hlo := hG5.size
      go_wp2_with (at_builtin; refine app_raw (lo := w.heap.size) (p := d + y) (q := d + y + u) (xs := xs) (by simp; omega) (hO4.alloc _) (by omega) rfl _ _ rfl rfl rfl (by simp [go_sem]) (by simp [go_sem]) ?_; intro v6 w6 hO6 hG6 _)
      have hr : ∀ g, Value.ownBlock u5 = some g → w.heap.size ≤ g := fun g e => (ownB_lt hO4 g e).1
      go_roundw
      case rel =>
        refine ⟨j', xs ++ [(d + y, d + y + u)], by (try simp), by omega, by simp; omega, hO6, ⟨bdL_snoc hbd.out.1 ⟨by simp only; omega, by simp only; omega, by simp only; omega, by simp only; omega⟩, fun s hs => ?_⟩, (hS4.al _).grown hG6 (fun g e => by have := hr g e; omega), gb_grown (gb_alloc hG5 _) hG6 hr⟩
        rcases List.mem_append.1 hs with hs | hs
        · exact hbd.out.2 s hs
        · rw [List.mem_singleton] at hs; subst hs; simp only; omega
      case measure => simp [intOf]
    · obtain rfl : j = 0 := by omega
      go_wp2
      go_ret
      exact ⟨_, xs, rfl, hO, ⟨hbd.out.1, hbd.out.2, by omega⟩, hS, hG⟩

/-- What is drawn as a set: a list of the call's own, in bounds. -/
def DrawnS (w : World) (lo : Nat) (v : Value) : Prop := ∃ xs, OwnS w lo v xs ∧ bdL xs ∧ xs.length ≤ 1000
set_option maxRecDepth 10000 in
set_option maxHeartbeats 4000000 in
theorem l02Draw_any {base B : Nat} {v : Value} {n : Nat} {w : World} (h : Src w base B v n) (hn : n ≤ 1000000) :
    Calls Tryz.prog 16 #[.pointer (some ⟨B, 0, none⟩)] w fun e w' => ∃ v' xs, e = .returned v' ∧ OwnS w' w.heap.size v' xs ∧ (bdL xs ∧ xs.length ≤ 1000) ∧ Src w' base B v n ∧ w.grownBy w' (some B) := by
  have hBs := h.hB
  go_enter Tryz.func16, Tryz.ntmps16
  go_wp2_with fail
  refine (l01Next_any 60 h hn (by omega)).mono ?_
  rintro e w1 ⟨x, rfl, hx, hS1, hG1⟩
  unfold inN at hx
  obtain ⟨hx0, hx1⟩ := hx
  have hx2 : x ≤ 60 := by omega
  clear hx1
  go_wp2_with fail
  refine (l02DrawSpans_any (400000 + x) hS1 hn (by omega) (by omega)).mono ?_
  rintro e w2 ⟨v2, xs2, rfl, hO2, ⟨hb2, hle2, hl2⟩, hS2, hG2⟩
  have hG2' := gb_trans hG1 hG2
  have hb2' := Lib.hid hb2
  clear hle2 hb2
  go_wp2_with fail
  refine (l02Make_any v2 xs2 _ hO2.rs2 (by omega) (fun t ht => bd_far (hb2'.out t ht))).mono ?_
  rintro e w3 ⟨v3, rfl, hO3, hb3⟩
  have hS3 := hS2.below hb3
  have hG3 := gb_below hG2' hb3
  have hul := unite_len xs2
  have hub := Lib.hid (unite_bd hb2'.out)
  have hO3' := hO3.more hG2'.size
  generalize uniteL xs2 = L at hO3' hul hub
  clear hO3 hO2 hS2 hG2 hG2' hS1 hG1 hb3 hb2'
  go_wp2_with fail
  refine (l01Next_any 60 hS3 hn (by omega)).mono ?_
  rintro e w4 ⟨y, rfl, hy, hS4, hG4⟩
  have hG5 := gb_trans hG3 hG4
  have hO4 := hO3'.src hG4 hBs
  clear hS3 hG3 hG4 hO3' hy
  have hlo := hG5.size
  by_cases y0 : y = 0
  · subst y0
    go_wp2_with fail
    have hSa := hS4.al (.cells #[.int .i64 (-1), .int .i64 400010, .int .i64 730499, .int .i64 730500] 2)
    refine (l01Pick_any [-1, 400010, 730499, 730500] 4 hSa hn rfl (by omega) (by omega) (by simp) (by have := hS4.hB; omega) (nums_alloc w4 [-1, 400010, 730499, 730500] _)).mono ?_
    rintro e w5 ⟨z, rfl, hz, hS5, hG6⟩
    have hzb : -1 ≤ z ∧ z ≤ 730500 := by simp at hz; omega
    have hO5 := (hO4.alloc (.cells #[.int .i64 (-1), .int .i64 400010, .int .i64 730499, .int .i64 730500] 2)).src hG6 hBs
    have hG7 := gb_trans (gb_alloc hG5 _) hG6
    have hlo2 := hG7.size
    clear hz hSa hS4 hG5 hO4 hG6
    go_wp2_with (at_builtin; refine app_raw (lo := w.heap.size) (p := z) (q := 730499) (xs := L) (by simp; omega) (hO5.alloc _) (by omega) rfl _ _ rfl rfl rfl (by simp [go_sem]) (by simp [go_sem]) ?_; intro v6 w6 hO6 hG6 _)
    have hr : ∀ g, Value.ownBlock v3 = some g → w.heap.size ≤ g := fun g e => (ownB_lt hO5 g e).1
    go_ret
    exact ⟨_, _, rfl, hO6, ⟨bdL_snoc hub.out ⟨by simp only; omega, by simp only; omega, by simp only; omega, by simp only; omega⟩, by simp; omega⟩, (hS5.al _).grown hG6 (fun g e => by have := hr g e; omega), gb_grown (gb_alloc hG7 _) hG6 hr⟩
  · have d0 : (y == 0) = false := by simpa using y0
    by_cases y1 : y = 1
    · subst y1
      go_wp2_with fail
      refine (l01Next_any 9 hS4 hn (by omega)).mono ?_
      rintro e w5 ⟨z, rfl, hz, hS5, hG6⟩
      unfold inN at hz
      obtain ⟨hz0, hz1⟩ := hz
      have hz2 : z ≤ 9 := by omega
      clear hz1
      have hO5 := hO4.src hG6 hBs
      have hG7 := gb_trans hG5 hG6
      have hlo2 := hG7.size
      have hone : OwnS (w5.alloc (.cells #[.int .i64 0, .int .i64 z] 36)) w.heap.size (.slice (some ⟨w5.heap.size, 0, none⟩) 1 1) [(0, z)] :=
        ⟨rfl, Or.inr ⟨w5.heap.size, 1, #[.int .i64 0, .int .i64 z], rfl, hlo2, heap_alloc_new w5 _, by simp, by simp [maxLen], rfl, rfl⟩⟩
      have hsrc := (hO5.alloc (.cells #[.int .i64 0, .int .i64 z] 36)).rs2
      clear hS4 hG5 hO4 hG6
      go_wp2_with (at_builtin; refine app_slice_raw (lo := w.heap.size) (xs := [(0, z)]) (ys := L) (by simp; omega) hone hsrc (by simp) (by omega) rfl _ _ rfl rfl rfl ?_; intro v6 w6 hO6 hG6)
      have hr : ∀ g, Value.ownBlock (.slice (some ⟨w5.heap.size, 0, none⟩) 1 1) = some g → w.heap.size ≤ g := fun g e => by simp [Value.ownBlock] at e; omega
      go_ret
      refine ⟨_, _, rfl, hO6, ⟨fun s hs => ?_, by simp; omega⟩, (hS5.al _).grown hG6 (fun g e => by have := hr g e; omega), gb_grown (gb_alloc hG7 _) hG6 hr⟩
      rcases List.mem_append.1 hs with hs | hs
      · rw [List.mem_singleton] at hs; subst hs; exact ⟨by simp only; omega, by simp only; omega, by simp only; omega, by simp only; omega⟩
      · exact hub.out s hs
    · have d1 : (y == 1) = false := by simpa using y1
      by_cases y2 : y = 2
      · subst y2
        have hO6 := OwnS.made w4 hlo
        have hS6 := hS4.al (.cells #[] 36)
        have hG6 := gb_alloc hG5 (.cells #[] 36)
        clear hS4 hG5 hO4
        go_wp2
        go_loopw [3, 4] (fun s3 s4 wr => ∃ (j : Nat) (xs : List (Int × Int)), s4 = .int .i64 j ∧ j ≤ 302 ∧ xs.length ≤ j ∧ OwnS wr w.heap.size s3 xs ∧ Hid (bdL xs) ∧ Src wr base B v n ∧ w.grownBy wr (some B)) (fun _ s4 _ => 302 - (intOf s4).toNat)
        case atStart => exact ⟨0, [], rfl, by omega, by simp, hO6, bdL_nil, hS6, hG6⟩
        case round =>
          clear hO6 hS6 hG6 hlo
          obtain ⟨j, xs, rfl, hj, hxl, hO, hbd, hS, hG⟩ := hrel
          go_wp2_with fail
          refine (l01Next_any 2 hS hn (by omega)).mono ?_
          rintro e w5 ⟨z, rfl, hz, hS5, hG6⟩
          unfold inN at hz
          obtain ⟨hz0, hz1⟩ := hz
          have hz2 : z < 2 := by omega
          clear hz1
          have hO5 := hO.src hG6 hBs
          have hG7 := gb_trans hG hG6
          have hlo2 := hG7.size
          clear hS hG hO hG6
          by_cases hjz : (j : Int) < 300 + z
          · have hj2 : j ≤ 301 := by omega
            go_wp2_with (at_builtin; refine app_raw (lo := w.heap.size) (p := 3 * (j : Int)) (q := 3 * (j : Int)) (xs := xs) (by simp; omega) (hO5.alloc _) (by omega) rfl _ _ rfl rfl rfl (by simp [go_sem]) (by simp [go_sem]) ?_; intro v6 w6 hO6 hG6 _)
            have hr : ∀ g, Value.ownBlock u3 = some g → w.heap.size ≤ g := fun g e => (ownB_lt hO5 g e).1
            go_roundw
            case rel => exact ⟨j + 1, _, by simp, by omega, by simp; omega, hO6, bdL_snoc hbd.out ⟨by simp only; omega, by simp only; omega, by simp only; omega, by simp only; omega⟩, (hS5.al _).grown hG6 (fun g e => by have := hr g e; omega), gb_grown (gb_alloc hG7 _) hG6 hr⟩
            case measure => simp [intOf]; omega
          · go_wp2
            go_ret
            exact ⟨_, xs, rfl, hO5, ⟨hbd.out, by omega⟩, hS5, hG7⟩
      · have d2 : (y == 2) = false := by simpa using y2
        go_wp2
        go_ret
        exact ⟨_, L, rfl, hO4, ⟨hub.out, by omega⟩, hS4, hG5⟩

theorem own_ne {w w' : World} {lo : Nat} {v u v' : Value} {xs ys : List (Int × Int)} (_hv : OwnS w lo v xs) (hu : OwnS w lo u ys) (hne : u.ownBlock ≠ v.ownBlock) (hg : w.grownBy w' v.ownBlock) (hat : v'.ownBlock = v.ownBlock ∨ v'.ownBlock = some w.heap.size) :
    OwnS w' lo u ys ∧ u.ownBlock ≠ v'.ownBlock := by
  refine ⟨hu.kept hg (Or.inr hne), ?_⟩
  rcases hat with e | e <;> rw [e]
  · exact hne
  · intro e2
    have := (ownB_lt hu _ e2).2
    omega
end Go.Proofs.YtpinngcdojbndaaGreatDoor
