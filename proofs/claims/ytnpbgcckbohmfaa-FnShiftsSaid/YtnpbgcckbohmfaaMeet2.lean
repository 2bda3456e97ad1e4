/- Sets of days: MeetSets and WithoutSet on both sides. -/
import Derived.Test.YtnpbgcckbohmfaaMeet
import Derived.Test.YtnpbgcckbohmfaaSets7
namespace Go.Proofs.Ytnpbgcckbohmfaa
open Go.RowKit

theorem notSet1_any (v : Value) (xs : List (Int × Int)) (w : World) (h : RS w v xs) (hl : xs.length ≤ 4000000) :
    Calls Try.prog 78 #[v] w fun e w' => e = .returned (.bool (!isSet xs)) ∧ Below w.heap.size w w' := by
  go_enter Try.func78, Try.ntmps78
  go_wp2_with fail
  refine (iIsSet_any v xs _ h hl).mono ?_
  rintro e w1 ⟨rfl, b1⟩
  go_wp2
  go_ret
  exact ⟨rfl, b1⟩
theorem notSet1_is {v : Value} {xs : List (Int × Int)} {r : Bool} (hr : isSet xs = r) {w : World} (h : RS w v xs) (hl : xs.length ≤ 4000000) :
    Calls Try.prog 78 #[v] w fun e w' => e = .returned (.bool (!r)) ∧ Below w.heap.size w w' := by
  subst hr; exact notSet1_any v xs w h hl
def setsTo (xs ys : List (Int × Int)) (k : Nat) : Prop := (0 < k → isSet xs = true) ∧ (1 < k → isSet ys = true)
set_option maxHeartbeats 1000000 in
theorem idxSets_any (g : Nat) (v u : Value) (xs ys : List (Int × Int)) (w : World) (hg : g < w.heap.size) (c0 : w.cell? ⟨g, 0, none⟩ = some v) (c1 : w.cell? ⟨g, 1, none⟩ = some u) (h1 : RS w v xs) (h2 : RS w u ys) (hl1 : xs.length ≤ 4000000) (hl2 : ys.length ≤ 4000000) :
    Calls Try.prog 85 #[.slice (some ⟨g, 0, none⟩) 2 2, .func (.func 78) #[] #[]] w fun e w' => (∃ r : Int, e = .returned (.int .i64 r) ∧ decide (0 ≤ r) = !(isSet xs && isSet ys)) ∧ Below w.heap.size w w' := by
  have rg := cell_rg; have l2 : ∀ n : Nat, n < n + 1 + 1 := (fun _ => by omega); have l3 : ∀ n : Nat, n < n + 1 + 1 + 1 := (fun _ => by omega); have l4 : ∀ n : Nat, n < n + 1 + 1 + 1 + 1 := (fun _ => by omega)
  obtain ⟨a1, p1, hv⟩ := h1.val
  obtain ⟨a2, p2, hu⟩ := h2.val
  have c0' := Lib.hid c0
  have c1' := Lib.hid c1
  have hv' := Lib.hid hv
  have hu' := Lib.hid hu
  clear c0 c1 hv hu
  go_enter Try.func85, Try.ntmps85
  go_wp2
  go_loopw [8] (fun s8 wr => ∃ k : Nat, k ≤ 2 ∧ s8 = .int .i64 k ∧ Hid (setsTo xs ys k) ∧ Below w.heap.size w wr) (fun s8 _ => 2 - (intOf s8).toNat)
  case atStart => exact ⟨0, by omega, rfl, ⟨fun h => by omega, fun h => by omega⟩, Below.refl _ _⟩
  case round =>
    obtain ⟨k, hk, rfl, hdone, hB⟩ := hrel
    have z1 := bsize hB g hg
    have R1 := h1.below hB
    have R2 := h2.below hB
    have hp := Below.refl wr.heap.size wr
    have hk3 : k = 0 ∨ k = 1 ∨ k = 2 := by omega
    rcases hk3 with hk0 | hk0 | hk0
    · subst hk0
      have e0 : wr.cell? ⟨g, 0, none⟩ = some (.slice a1 xs.length p1) := by rw [hB.cell (p := ⟨g, 0, none⟩) hg, c0'.out, hv'.out]
      rw [hv'.out] at R1
      clear hdone
      cases hs : isSet xs
      · have hs' := Lib.hid hs
        clear hs
        go_wp2_with (go_at_call 78; refine (notSet1_is hs'.out R1 hl1).mono ?_; rintro e w' ⟨rfl, hb9⟩)
        go_ret
        exact ⟨⟨0, rfl, by rw [hs'.out]; rfl⟩, below_tt hB hb9⟩
      · have hs' := Lib.hid hs
        clear hs
        go_wp2_with (go_at_call 78; refine (notSet1_is hs'.out R1 hl1).mono ?_; rintro e w' ⟨rfl, hb9⟩)
        go_roundw
        case rel => exact ⟨1, by omega, by simp, ⟨fun _ => hs'.out, fun h => by omega⟩, below_tt hB hb9⟩
        case measure => simp [intOf]
    · subst hk0
      have e0 : wr.cell? ⟨g, 1, none⟩ = some (.slice a2 ys.length p2) := by rw [hB.cell (p := ⟨g, 1, none⟩) hg, c1'.out, hu'.out]
      rw [hu'.out] at R2
      have hx := Lib.hid (hdone.out.1 (by omega))
      clear hdone
      cases hs : isSet ys
      · have hs' := Lib.hid hs
        clear hs
        go_wp2_with (go_at_call 78; refine (notSet1_is hs'.out R2 hl2).mono ?_; rintro e w' ⟨rfl, hb9⟩)
        go_ret
        exact ⟨⟨1, rfl, by rw [hs'.out, hx.out]; rfl⟩, below_tt hB hb9⟩
      · have hs' := Lib.hid hs
        clear hs
        go_wp2_with (go_at_call 78; refine (notSet1_is hs'.out R2 hl2).mono ?_; rintro e w' ⟨rfl, hb9⟩)
        go_roundw
        case rel => exact ⟨2, by omega, by simp, ⟨fun _ => hx.out, fun _ => hs'.out⟩, below_tt hB hb9⟩
        case measure => simp [intOf]
    · subst hk0
      have hx := Lib.hid (hdone.out.1 (by omega))
      have hy := Lib.hid (hdone.out.2 (by omega))
      clear hdone
      go_wp2
      go_ret
      exact ⟨⟨-1, rfl, by rw [hx.out, hy.out]; rfl⟩, hB⟩
theorem areSets_any (g : Nat) (v u : Value) (xs ys : List (Int × Int)) (w : World) (hg : g < w.heap.size) (c0 : w.cell? ⟨g, 0, none⟩ = some v) (c1 : w.cell? ⟨g, 1, none⟩ = some u) (h1 : RS w v xs) (h2 : RS w u ys) (hl1 : xs.length ≤ 4000000) (hl2 : ys.length ≤ 4000000) :
    Calls Try.prog 60 #[.slice (some ⟨g, 0, none⟩) 2 2] w fun e w' => e = .returned (.bool (isSet xs && isSet ys)) ∧ Below w.heap.size w w' := by
  have hcon : Calls Try.prog 77 #[.slice (some ⟨g, 0, none⟩) 2 2, .func (.func 78) #[] #[]] w fun e w' => e = .returned (.bool (!(isSet xs && isSet ys))) ∧ Below w.heap.size w w' := by
    go_enter Try.func77, Try.ntmps77
    go_wp2_with fail
    refine (idxSets_any g v u xs ys _ hg c0 c1 h1 h2 hl1 hl2).mono ?_
    rintro e w1 ⟨⟨r, rfl, hr⟩, b1⟩
    have hr' := Lib.hid hr
    clear hr
    go_wp2
    go_ret
    exact ⟨ret_bool (by rw [← hr'.out]), b1⟩
  clear c0 c1
  go_enter Try.func60, Try.ntmps60
  go_wp2_with fail
  refine hcon.mono ?_
  rintro e w1 ⟨rfl, b1⟩
  go_wp2
  go_ret
  exact ⟨ret_bool (by simp), b1⟩

/-- A list, if it is not too long. -/
def limR (L : List (Int × Int)) : List (Int × Int) × Int := if 300 < L.length then ([], 3) else (L, 0)
theorem limited_any (v : Value) (L : List (Int × Int)) (base : Nat) (w : World) (h : OwnS w base v L) (hl : L.length ≤ 9000000) :
    Calls Try.prog 61 #[v] w fun e w' => ∃ v', e = .returned (.tuple #[v', .int .i64 (limR L).2]) ∧ OwnS w' base v' (limR L).1 ∧ w = w' := by
  obtain ⟨a, cap, hv⟩ := h.len
  subst hv
  by_cases hb : 300 < L.length
  · have hr : Hid (limR L = ([], 3)) := Lib.hid (by simp [limR, hb])
    have hb' : (300 : Int) < (L.length : Int) := by omega
    rw [hr.out]
    go_enter Try.func61, Try.ntmps61
    go_wp2
    go_ret2
    exact ⟨_, rfl, OwnS.nil _ _, rfl⟩
  · have hr : Hid (limR L = (L, 0)) := Lib.hid (by simp [limR, hb])
    have hb' : ¬ (300 : Int) < (L.length : Int) := by omega
    rw [hr.out]
    go_enter Try.func61, Try.ntmps61
    go_wp2
    go_ret2
    exact ⟨_, rfl, h, rfl⟩
theorem l02Result_any (v : Value) (L : List (Int × Int)) (base : Nat) (w : World) (h : OwnS w base v L) (hl : L.length ≤ 9000000) :
    Calls Try.prog 58 #[v] w fun e w' => ∃ v', e = .returned (.tuple #[v', .int .i64 (limR L).2]) ∧ OwnS w' base v' (limR L).1 ∧ w = w' := by
  obtain ⟨a, cap, hv⟩ := h.len
  subst hv
  by_cases hb : 300 < L.length
  · have hr : Hid (limR L = ([], 3)) := Lib.hid (by simp [limR, hb])
    have hb' : (300 : Int) < (L.length : Int) := by omega
    rw [hr.out]
    go_enter Try.func58, Try.ntmps58
    go_wp2
    go_ret2
    exact ⟨_, rfl, OwnS.nil _ _, rfl⟩
  · have hr : Hid (limR L = (L, 0)) := Lib.hid (by simp [limR, hb])
    have hb' : ¬ (300 : Int) < (L.length : Int) := by omega
    rw [hr.out]
    go_enter Try.func58, Try.ntmps58
    go_wp2
    go_ret2
    exact ⟨_, rfl, h, rfl⟩

/-- The rest of a list, from a day on. -/
def restF : Int → List (Int × Int) → List (Int × Int)
  | n, [] => if n ≤ 730499 then [(n, 730499)] else []
  | n, s :: xs => (if n < s.1 then [(n, s.1 - 1)] else []) ++ restF (s.2 + 1) xs
def restAt (xs P : List (Int × Int)) (n : Int) (k : Nat) : Prop := P ++ restF n (xs.drop k) = restF 0 xs ∧ P.length ≤ k
theorem restF_cons (n : Int) (s : Int × Int) (xs : List (Int × Int)) : restF n (s :: xs) = (if n < s.1 then [(n, s.1 - 1)] else []) ++ restF (s.2 + 1) xs := rfl
theorem restF_nil (n : Int) : restF n [] = if n ≤ 730499 then [(n, 730499)] else [] := rfl
theorem restAt_step {xs P : List (Int × Int)} {n : Int} {k : Nat} (h : restAt xs P n k) (hk : k < xs.length) :
    (n < (gS xs k).1 → restAt xs (P ++ [(n, (gS xs k).1 - 1)]) ((gS xs k).2 + 1) (k + 1)) ∧ (¬ n < (gS xs k).1 → restAt xs P ((gS xs k).2 + 1) (k + 1)) := by
  obtain ⟨h, hl⟩ := h
  rw [drop_gS' hk, restF_cons] at h
  refine ⟨fun hn => ?_, fun hn => ?_⟩
  · rw [if_pos hn, ← List.append_assoc] at h
    exact ⟨h, by simp; omega⟩
  · rw [if_neg hn, List.nil_append] at h
    exact ⟨h, by omega⟩
theorem restAt_end {xs P : List (Int × Int)} {n : Int} {k : Nat} (h : restAt xs P n k) (hk : k = xs.length) : (n ≤ 730499 → P ++ [(n, 730499)] = restF 0 xs) ∧ (¬ n ≤ 730499 → P = restF 0 xs) := by
  obtain ⟨h, hl⟩ := h
  subst hk
  rw [List.drop_length, restF_nil] at h
  refine ⟨fun hn => ?_, fun hn => ?_⟩
  · rw [if_pos hn] at h; exact h
  · rw [if_neg hn, List.append_nil] at h; exact h
theorem rest_len (xs : List (Int × Int)) : ∀ n, (restF n xs).length ≤ xs.length + 1 := by
  induction xs with
  | nil => intro n; unfold restF; split <;> simp
  | cons s xs ih =>
    intro n
    have := ih (s.2 + 1)
    unfold restF
    rw [List.length_append]
    split <;> simp <;> omega

theorem others_nil (a : Option Addr) (cap : Nat) (w : World) :
    Calls Try.prog 79 #[.slice a 0 cap] w fun e w' => ∃ v, e = .returned v ∧ OwnS w' w.heap.size v (restF 0 []) ∧ Below w.heap.size w w' := by
  have hO := OwnS.made w (Nat.le_refl w.heap.size)
  have hB : Below w.heap.size w (w.alloc (.cells #[] 46)) := by (repeat' (first | (with_reducible exact Below.refl _ _) | (with_reducible assumption) | (with_reducible refine below_al ?_ _) | (with_reducible refine Below.drew ?_) | (with_reducible refine Below.setCell ?_ (by first | exact Nat.le_refl _ | (dsimp only; omega) | (simp; omega)) _) | (with_reducible refine below_drewN ?_ _) | (with_reducible refine below_tt ?_ (by assumption))))
  go_enter Try.func79, Try.ntmps79
  go_wp2
  go_loopw [3, 4, 10] (fun s3 s4 s5 wr => s5 = .int .i64 0 ∧ s4 = .int .i64 0 ∧ OwnS wr w.heap.size s3 [] ∧ Below w.heap.size w wr) (fun _ _ _ _ => 0)
  case atStart => exact ⟨rfl, rfl, hO, hB⟩
  case round =>
    clear hO hB
    obtain ⟨rfl, rfl, hO, hB⟩ := hrel
    go_wp2_with (at_builtin; refine app_span2 (w0 := w) (p := 0) (q := 730499) (xs := []) (by (repeat' (first | (with_reducible exact Below.refl _ _) | (with_reducible assumption) | (with_reducible refine below_al ?_ _) | (with_reducible refine Below.drew ?_) | (with_reducible refine Below.setCell ?_ (by first | exact Nat.le_refl _ | (dsimp only; omega) | (simp; omega)) _) | (with_reducible refine below_drewN ?_ _) | (with_reducible refine below_tt ?_ (by assumption))))) (hO.alloc _) (by simp) rfl _ _ rfl rfl rfl (by simp [go_sem]) (by simp [go_sem]) ?_; intro v3 w3 hO3 hB3 _ _)
    go_ret
    exact ⟨_, rfl, hO3, hB3⟩
set_option maxRecDepth 10000 in
set_option maxHeartbeats 2000000 in
theorem others_cells (b off cap : Nat) (xs : List (Int × Int)) (w : World) (hb : b < w.heap.size) (h : SpanAt w b off xs) (hl : xs.length ≤ 4000000) (hok : ∀ i, i < xs.length → okS (gS xs i) = true) :
    Calls Try.prog 79 #[.slice (some ⟨b, off, none⟩) xs.length cap] w fun e w' => ∃ v, e = .returned v ∧ OwnS w' w.heap.size v (restF 0 xs) ∧ Below w.heap.size w w' := by
  have rg := cell_rg; have l2 : ∀ n : Nat, n < n + 1 + 1 := (fun _ => by omega); have l3 : ∀ n : Nat, n < n + 1 + 1 + 1 := (fun _ => by omega); have l4 : ∀ n : Nat, n < n + 1 + 1 + 1 + 1 := (fun _ => by omega)
  have hO := OwnS.made w (Nat.le_refl w.heap.size)
  have hB : Below w.heap.size w (w.alloc (.cells #[] 46)) := by (repeat' (first | (with_reducible exact Below.refl _ _) | (with_reducible assumption) | (with_reducible refine below_al ?_ _) | (with_reducible refine Below.drew ?_) | (with_reducible refine Below.setCell ?_ (by first | exact Nat.le_refl _ | (dsimp only; omega) | (simp; omega)) _) | (with_reducible refine below_drewN ?_ _) | (with_reducible refine below_tt ?_ (by assumption))))
  go_enter Try.func79, Try.ntmps79
  go_wp2
  go_loopw [3, 4, 10] (fun s3 s4 s5 wr => ∃ (k : Nat) (n : Int) (P : List (Int × Int)), k ≤ xs.length ∧ s5 = .int .i64 k ∧ s4 = .int .i64 n ∧ 0 ≤ n ∧ n ≤ 730500 ∧ OwnS wr w.heap.size s3 P ∧ Hid (restAt xs P n k) ∧ Below w.heap.size w wr) (fun _ _ s5 _ => xs.length - (intOf s5).toNat)
  case atStart => exact ⟨0, 0, [], by omega, rfl, rfl, by omega, by omega, hO, ⟨rfl, by simp⟩, hB⟩
  case round =>
    clear hB hO
    obtain ⟨k, n, P, hk, rfl, rfl, hn1, hn2, hO, hat, hB⟩ := hrel
    have z1 := bsize hB b hb
    have z3 : b < wr.heap.size + 1 := by omega
    have hp := Below.refl wr.heap.size wr
    have hPl := hat.out.2
    by_cases hlt : k < xs.length
    · have e1 := h.of_cells fun o => hB.cell (p := ⟨b, o, none⟩) hb
      have e10 := (e1 k hlt).1
      have e11 := (e1 k hlt).2
      have hkk := okS_iff.1 (hok k hlt)
      have hst := Lib.hid (restAt_step hat.out hlt)
      have k1 : ∀ w3 : World, Below w.heap.size w w3 → w3.cell? ⟨b, off + k * 2 + 1, none⟩ = some (.int .i64 (gS xs k).2) := fun w3 hB3 => ((h.of_cells fun o => hB3.cell (p := ⟨b, o, none⟩) hb) k hlt).2
      have K1 := Lib.hid k1
      have hnb := Lib.hid hO.ne
      clear e1 hat k1
      generalize (gS xs k).1 = x at e10 hkk hst
      generalize (gS xs k).2 = y at e11 hkk hst K1
      obtain ⟨hk1, hk2, hk3⟩ := hkk
      have i1 : (0 : Int) ≤ (k : Int) := by omega
      have i2 : (k : Int) < (xs.length : Int) := by omega
      have hne : b ≠ wr.heap.size := by omega
      have hne2 : wr.heap.size ≠ b := by omega
      by_cases hXY : n < x
      · have hst' := Lib.hid (hst.out.1 hXY)
        clear hst
        go_wp2_with (at_builtin; refine app_span2 (w0 := w) (p := n) (q := x - 1) (xs := P) (by (repeat' (first | (with_reducible exact Below.refl _ _) | (with_reducible assumption) | (with_reducible refine below_al ?_ _) | (with_reducible refine Below.drew ?_) | (with_reducible refine Below.setCell ?_ (by first | exact Nat.le_refl _ | (dsimp only; omega) | (simp; omega)) _) | (with_reducible refine below_drewN ?_ _) | (with_reducible refine below_tt ?_ (by assumption))))) ((hO.alloc _).alloc _) (by omega) rfl _ _ rfl rfl rfl (by simp [go_sem]) (by simp [go_sem]) ?_; intro v3 w3 hO3 hB3 _ hC3; have f11 := K1.out w3 hB3; have z5 := bsize hB3 b hb; have f12 : w3.cell? ⟨wr.heap.size, 1, none⟩ = some (.int .i64 y) := ((hC3 wr.heap.size 1 (by simp <;> omega) hnb.out).1).trans (by simp [go_sem]))
        go_roundw
        case rel => exact ⟨k + 1, _, _, by omega, by simp, rfl, by omega, by omega, hO3, hst'.out, hB3⟩
        case measure => simp [intOf]; omega
      · have hst' := Lib.hid (hst.out.2 hXY)
        clear hst
        go_wp2
        go_roundw
        case rel => exact ⟨k + 1, _, _, by omega, by simp, rfl, by omega, by omega, (hO.alloc _), hst'.out, by (repeat' (first | (with_reducible exact Below.refl _ _) | (with_reducible assumption) | (with_reducible refine below_al ?_ _) | (with_reducible refine Below.drew ?_) | (with_reducible refine Below.setCell ?_ (by first | exact Nat.le_refl _ | (dsimp only; omega) | (simp; omega)) _) | (with_reducible refine below_drewN ?_ _) | (with_reducible refine below_tt ?_ (by assumption))))⟩
        case measure => simp [intOf]; omega
    · obtain rfl : k = xs.length := by omega
      have he := Lib.hid (restAt_end hat.out rfl)
      clear hat
      by_cases hn : n ≤ 730499
      · have he' := Lib.hid (he.out.1 hn)
        clear he
        go_wp2_with (at_builtin; refine app_span2 (w0 := w) (p := n) (q := 730499) (xs := P) (by (repeat' (first | (with_reducible exact Below.refl _ _) | (with_reducible assumption) | (with_reducible refine below_al ?_ _) | (with_reducible refine Below.drew ?_) | (with_reducible refine Below.setCell ?_ (by first | exact Nat.le_refl _ | (dsimp only; omega) | (simp; omega)) _) | (with_reducible refine below_drewN ?_ _) | (with_reducible refine below_tt ?_ (by assumption))))) (hO.alloc _) (by omega) rfl _ _ rfl rfl rfl (by simp [go_sem]) (by simp [go_sem]) ?_; intro v3 w3 hO3 hB3 _ _)
        go_ret
        exact ⟨_, rfl, by rw [← he'.out]; exact hO3, hB3⟩
      · have he' := Lib.hid (he.out.2 hn)
        clear he
        go_wp2
        go_ret
        exact ⟨_, rfl, by rw [← he'.out]; exact hO, hB⟩
theorem others_any (v : Value) (xs : List (Int × Int)) (w : World) (h : RS w v xs) (hl : xs.length ≤ 4000000) (hok : ∀ i, i < xs.length → okS (gS xs i) = true) :
    Calls Try.prog 79 #[v] w fun e w' => ∃ v, e = .returned v ∧ OwnS w' w.heap.size v (restF 0 xs) ∧ Below w.heap.size w w' := by
  rcases h with ⟨rfl, a, cap, rfl⟩ | ⟨b, off, cap, rfl, hb, hs⟩
  · exact others_nil a cap w
  · exact others_cells b off cap xs w hb hs hl hok

theorem l02Rest_nil (a : Option Addr) (cap : Nat) (w : World) :
    Calls Try.prog 63 #[.slice a 0 cap] w fun e w' => ∃ v, e = .returned v ∧ OwnS w' w.heap.size v (restF 0 []) ∧ Below w.heap.size w w' := by
  have hO := OwnS.made w (Nat.le_refl w.heap.size)
  have hB : Below w.heap.size w (w.alloc (.cells #[] 46)) := by (repeat' (first | (with_reducible exact Below.refl _ _) | (with_reducible assumption) | (with_reducible refine below_al ?_ _) | (with_reducible refine Below.drew ?_) | (with_reducible refine Below.setCell ?_ (by first | exact Nat.le_refl _ | (dsimp only; omega) | (simp; omega)) _) | (with_reducible refine below_drewN ?_ _) | (with_reducible refine below_tt ?_ (by assumption))))
  go_enter Try.func63, Try.ntmps63
  go_wp2
  go_loopw [3, 4, 5] (fun s3 s4 s5 wr => s5 = .int .i64 0 ∧ s4 = .int .i64 0 ∧ OwnS wr w.heap.size s3 [] ∧ Below w.heap.size w wr) (fun _ _ _ _ => 0)
  case atStart => exact ⟨rfl, rfl, hO, hB⟩
  case round =>
    clear hO hB
    obtain ⟨rfl, rfl, hO, hB⟩ := hrel
    go_wp2_with (at_builtin; refine app_span2 (w0 := w) (p := 0) (q := 730499) (xs := []) (by (repeat' (first | (with_reducible exact Below.refl _ _) | (with_reducible assumption) | (with_reducible refine below_al ?_ _) | (with_reducible refine Below.drew ?_) | (with_reducible refine Below.setCell ?_ (by first | exact Nat.le_refl _ | (dsimp only; omega) | (simp; omega)) _) | (with_reducible refine below_drewN ?_ _) | (with_reducible refine below_tt ?_ (by assumption))))) (hO.alloc _) (by simp) rfl _ _ rfl rfl rfl (by simp [go_sem]) (by simp [go_sem]) ?_; intro v3 w3 hO3 hB3 _ _)
    go_ret
    exact ⟨_, rfl, hO3, hB3⟩
set_option maxRecDepth 10000 in
set_option maxHeartbeats 2000000 in
theorem l02Rest_cells (b off cap : Nat) (xs : List (Int × Int)) (w : World) (hb : b < w.heap.size) (h : SpanAt w b off xs) (hl : xs.length ≤ 4000000) (hok : ∀ i, i < xs.length → okS (gS xs i) = true) :
    Calls Try.prog 63 #[.slice (some ⟨b, off, none⟩) xs.length cap] w fun e w' => ∃ v, e = .returned v ∧ OwnS w' w.heap.size v (restF 0 xs) ∧ Below w.heap.size w w' := by
  have rg := cell_rg; have l2 : ∀ n : Nat, n < n + 1 + 1 := (fun _ => by omega); have l3 : ∀ n : Nat, n < n + 1 + 1 + 1 := (fun _ => by omega); have l4 : ∀ n : Nat, n < n + 1 + 1 + 1 + 1 := (fun _ => by omega)
  have hO := OwnS.made w (Nat.le_refl w.heap.size)
  have hB : Below w.heap.size w (w.alloc (.cells #[] 46)) := by (repeat' (first | (with_reducible exact Below.refl _ _) | (with_reducible assumption) | (with_reducible refine below_al ?_ _) | (with_reducible refine Below.drew ?_) | (with_reducible refine Below.setCell ?_ (by first | exact Nat.le_refl _ | (dsimp only; omega) | (simp; omega)) _) | (with_reducible refine below_drewN ?_ _) | (with_reducible refine below_tt ?_ (by assumption))))
  go_enter Try.func63, Try.ntmps63
  go_wp2
  go_loopw [3, 4, 5] (fun s3 s4 s5 wr => ∃ (k : Nat) (n : Int) (P : List (Int × Int)), k ≤ xs.length ∧ s5 = .int .i64 k ∧ s4 = .int .i64 n ∧ 0 ≤ n ∧ n ≤ 730500 ∧ OwnS wr w.heap.size s3 P ∧ Hid (restAt xs P n k) ∧ Below w.heap.size w wr) (fun _ _ s5 _ => xs.length - (intOf s5).toNat)
  case atStart => exact ⟨0, 0, [], by omega, rfl, rfl, by omega, by omega, hO, ⟨rfl, by simp⟩, hB⟩
  case round =>
    clear hB hO
    obtain ⟨k, n, P, hk, rfl, rfl, hn1, hn2, hO, hat, hB⟩ := hrel
    have z1 := bsize hB b hb
    have z3 : b < wr.heap.size + 1 := by omega
    have hp := Below.refl wr.heap.size wr
    have hPl := hat.out.2
    by_cases hlt : k < xs.length
    · have e1 := h.of_cells fun o => hB.cell (p := ⟨b, o, none⟩) hb
      have e10 := (e1 k hlt).1
      have e11 := (e1 k hlt).2
      have hkk := okS_iff.1 (hok k hlt)
      have hst := Lib.hid (restAt_step hat.out hlt)
      have k1 : ∀ w3 : World, Below w.heap.size w w3 → w3.cell? ⟨b, off + k * 2 + 1, none⟩ = some (.int .i64 (gS xs k).2) := fun w3 hB3 => ((h.of_cells fun o => hB3.cell (p := ⟨b, o, none⟩) hb) k hlt).2
      have K1 := Lib.hid k1
      have hnb := Lib.hid hO.ne
      clear e1 hat k1
      generalize (gS xs k).1 = x at e10 hkk hst
      generalize (gS xs k).2 = y at e11 hkk hst K1
      obtain ⟨hk1, hk2, hk3⟩ := hkk
      have i1 : (0 : Int) ≤ (k : Int) := by omega
      have i2 : (k : Int) < (xs.length : Int) := by omega
      have hne : b ≠ wr.heap.size := by omega
      have hne2 : wr.heap.size ≠ b := by omega
      by_cases hXY : n < x
      · have hst' := Lib.hid (hst.out.1 hXY)
        clear hst
        go_wp2_with (at_builtin; refine app_span2 (w0 := w) (p := n) (q := x - 1) (xs := P) (by (repeat' (first | (with_reducible exact Below.refl _ _) | (with_reducible assumption) | (with_reducible refine below_al ?_ _) | (with_reducible refine Below.drew ?_) | (with_reducible refine Below.setCell ?_ (by first | exact Nat.le_refl _ | (dsimp only; omega) | (simp; omega)) _) | (with_reducible refine below_drewN ?_ _) | (with_reducible refine below_tt ?_ (by assumption))))) (hO.alloc _) (by omega) rfl _ _ rfl rfl rfl (by simp [go_sem]) (by simp [go_sem]) ?_; intro v3 w3 hO3 hB3 _ hC3; have f11 := K1.out w3 hB3; have z5 := bsize hB3 b hb)
        go_roundw
        case rel => exact ⟨k + 1, _, _, by omega, by simp, rfl, by omega, by omega, hO3, hst'.out, hB3⟩
        case measure => simp [intOf]; omega
      · have hst' := Lib.hid (hst.out.2 hXY)
        clear hst
        go_wp2
        go_roundw
        case rel => exact ⟨k + 1, _, _, by omega, by simp, rfl, by omega, by omega, hO, hst'.out, by (repeat' (first | (with_reducible exact Below.refl _ _) | (with_reducible assumption) | (with_reducible refine below_al ?_ _) | (with_reducible refine Below.drew ?_) | (with_reducible refine Below.setCell ?_ (by first | exact Nat.le_refl _ | (dsimp only; omega) | (simp; omega)) _) | (with_reducible refine below_drewN ?_ _) | (with_reducible refine below_tt ?_ (by assumption))))⟩
        case measure => simp [intOf]; omega
    · obtain rfl : k = xs.length := by omega
      have he := Lib.hid (restAt_end hat.out rfl)
      clear hat
      by_cases hn : n ≤ 730499
      · have he' := Lib.hid (he.out.1 hn)
        clear he
        go_wp2_with (at_builtin; refine app_span2 (w0 := w) (p := n) (q := 730499) (xs := P) (by (repeat' (first | (with_reducible exact Below.refl _ _) | (with_reducible assumption) | (with_reducible refine below_al ?_ _) | (with_reducible refine Below.drew ?_) | (with_reducible refine Below.setCell ?_ (by first | exact Nat.le_refl _ | (dsimp only; omega) | (simp; omega)) _) | (with_reducible refine below_drewN ?_ _) | (with_reducible refine below_tt ?_ (by assumption))))) (hO.alloc _) (by omega) rfl _ _ rfl rfl rfl (by simp [go_sem]) (by simp [go_sem]) ?_; intro v3 w3 hO3 hB3 _ _)
        go_ret
        exact ⟨_, rfl, by rw [← he'.out]; exact hO3, hB3⟩
      · have he' := Lib.hid (he.out.2 hn)
        clear he
        go_wp2
        go_ret
        exact ⟨_, rfl, by rw [← he'.out]; exact hO, hB⟩
theorem l02Rest_any (v : Value) (xs : List (Int × Int)) (w : World) (h : RS w v xs) (hl : xs.length ≤ 4000000) (hok : ∀ i, i < xs.length → okS (gS xs i) = true) :
    Calls Try.prog 63 #[v] w fun e w' => ∃ v, e = .returned v ∧ OwnS w' w.heap.size v (restF 0 xs) ∧ Below w.heap.size w w' := by
  rcases h with ⟨rfl, a, cap, rfl⟩ | ⟨b, off, cap, rfl, hb, hs⟩
  · exact l02Rest_nil a cap w
  · exact l02Rest_cells b off cap xs w hb hs hl hok

set_option maxHeartbeats 1000000 in
theorem without_any (v u : Value) (xs ys : List (Int × Int)) (w : World) (h1 : RS w v xs) (h2 : RS w u ys) (hl1 : xs.length ≤ 2000000) (hl2 : ys.length ≤ 2000000) (hok : ∀ i, i < ys.length → okS (gS ys i) = true) :
    Calls Try.prog 64 #[v, u] w fun e w' => ∃ v, e = .returned v ∧ OwnS w' w.heap.size v (meetL xs (restF 0 ys)) ∧ Below w.heap.size w w' := by
  have hrl := rest_len ys 0
  go_enter Try.func64, Try.ntmps64
  go_wp2_with fail
  refine (others_any u ys _ h2 (by omega) hok).mono ?_
  rintro e w1 ⟨v1, rfl, o1, b1⟩
  go_wp2_with fail
  refine (met_any v v1 xs (restF 0 ys) _ (h1.below b1) o1.rs (by omega) (by omega)).mono ?_
  rintro e w2 ⟨v2, rfl, o2, b2⟩
  go_wp2
  go_ret
  exact ⟨_, rfl, o2.more b1.size, below_tt b1 b2⟩
/-- What MeetSets and WithoutSet answer. -/
noncomputable def meetR (xs ys : List (Int × Int)) : List (Int × Int) × Int := if isSet xs = true then (if isSet ys = true then limR (meetL xs ys) else ([], 1)) else ([], 1)
noncomputable def withoutR (xs ys : List (Int × Int)) : List (Int × Int) × Int := if isSet xs = true then (if isSet ys = true then limR (meetL xs (restF 0 ys)) else ([], 1)) else ([], 1)

set_option maxHeartbeats 1000000 in
theorem sMeet_any (v u : Value) (xs ys : List (Int × Int)) (w : World) (h1 : RS w v xs) (h2 : RS w u ys) (hl1 : xs.length ≤ 2000000) (hl2 : ys.length ≤ 2000000) :
    Calls Try.prog 29 #[v, u] w fun e w' => ∃ v', e = .returned (.tuple #[v', .int .i64 (meetR xs ys).2]) ∧ OwnS w' w.heap.size v' (meetR xs ys).1 ∧ Below w.heap.size w w' := by
  have hml := meet_len xs ys
  have hml2 := meet_len xs (restF 0 ys)
  have hrl := rest_len ys 0
  cases hx : isSet xs
  · have hr : Hid (meetR xs ys = ([], 1)) := Lib.hid (by simp [meetR, hx])
    have hx' := Lib.hid hx
    clear hx
    rw [hr.out]
    go_enter Try.func29, Try.ntmps29
    go_wp2_with fail
    refine (sIsSet_any v xs _ h1 (by omega)).mono ?_
    rintro e w1 ⟨rfl, b1⟩
    rw [hx'.out]
    go_wp2
    go_ret2
    exact ⟨_, rfl, OwnS.nil _ _, b1⟩
  cases hy : isSet ys
  · have hr : Hid (meetR xs ys = ([], 1)) := Lib.hid (by simp [meetR, hx, hy])
    have hx' := Lib.hid hx
    have hy' := Lib.hid hy
    clear hx hy
    rw [hr.out]
    go_enter Try.func29, Try.ntmps29
    go_wp2_with fail
    refine (sIsSet_any v xs _ h1 (by omega)).mono ?_
    rintro e w1 ⟨rfl, b1⟩
    rw [hx'.out]
    go_wp2_with fail
    refine (sIsSet_any u ys _ (h2.below b1) (by omega)).mono ?_
    rintro e w2 ⟨rfl, b2⟩
    rw [hy'.out]
    have B2 := below_tt b1 b2
    go_wp2
    go_ret2
    exact ⟨_, rfl, OwnS.nil _ _, B2⟩
  · have hr : Hid (meetR xs ys = limR (meetL xs ys)) := Lib.hid (by simp [meetR, hx, hy])
    have hok := isSet_ok hy
    obtain ⟨h300, hok⟩ := hok
    have hx' := Lib.hid hx
    have hy' := Lib.hid hy
    clear hx hy
    rw [hr.out]
    go_enter Try.func29, Try.ntmps29
    go_wp2_with fail
    refine (sIsSet_any v xs _ h1 (by omega)).mono ?_
    rintro e w1 ⟨rfl, b1⟩
    rw [hx'.out]
    go_wp2_with fail
    refine (sIsSet_any u ys _ (h2.below b1) (by omega)).mono ?_
    rintro e w2 ⟨rfl, b2⟩
    rw [hy'.out]
    have B2 := below_tt b1 b2
    go_wp2_with fail
    refine (l02Meet_any _ _ xs ys _ (h1.below B2) (h2.below B2) (by omega) (by omega)).mono ?_
    rintro e w3 ⟨v3, rfl, o3, b3⟩
    have B3 := below_tt B2 b3
    go_wp2_with fail
    refine (l02Result_any v3 (meetL xs ys) w.heap.size _ (o3.more B2.size) (by omega)).mono ?_
    rintro e w4 ⟨v4, rfl, o4, rfl⟩
    go_wp2
    go_ret2
    exact ⟨_, rfl, o4, B3⟩

set_option maxHeartbeats 1000000 in
theorem iMeet_any (v u : Value) (xs ys : List (Int × Int)) (w : World) (h1 : RS w v xs) (h2 : RS w u ys) (hl1 : xs.length ≤ 2000000) (hl2 : ys.length ≤ 2000000) :
    Calls Try.prog 30 #[v, u] w fun e w' => ∃ v', e = .returned (.tuple #[v', .int .i64 (meetR xs ys).2]) ∧ OwnS w' w.heap.size v' (meetR xs ys).1 ∧ Below w.heap.size w w' := by
  obtain ⟨a1, p1, hv1⟩ := h1.val
  obtain ⟨a2, p2, hv2⟩ := h2.val
  subst hv1 hv2
  have hml := meet_len xs ys
  have hml2 := meet_len xs (restF 0 ys)
  have hrl := rest_len ys 0
  cases hx : isSet xs
  · have hr : Hid (meetR xs ys = ([], 1)) := Lib.hid (by simp [meetR, hx])
    have hx' := Lib.hid hx
    clear hx
    rw [hr.out]
    go_enter Try.func30, Try.ntmps30
    go_wp2_with fail
    have ba : Below w.heap.size w (w.alloc (.cells #[.slice a1 xs.length p1, .slice a2 ys.length p2] 25)) := by (repeat' (first | (with_reducible exact Below.refl _ _) | (with_reducible assumption) | (with_reducible refine below_al ?_ _) | (with_reducible refine Below.drew ?_) | (with_reducible refine Below.setCell ?_ (by first | exact Nat.le_refl _ | (dsimp only; omega) | (simp; omega)) _) | (with_reducible refine below_drewN ?_ _) | (with_reducible refine below_tt ?_ (by assumption))))
    refine (areSets_any w.heap.size _ _ xs ys _ (by simp) (by simp [go_sem]) (by simp [go_sem]) (h1.below ba) (h2.below ba) (by omega) (by omega)).mono ?_
    rintro e w1 ⟨rfl, b1⟩
    rw [hx'.out]
    have B2 := below_tt ba b1
    go_wp2
    go_ret2
    exact ⟨_, rfl, OwnS.nil _ _, B2⟩
  cases hy : isSet ys
  · have hr : Hid (meetR xs ys = ([], 1)) := Lib.hid (by simp [meetR, hx, hy])
    have hx' := Lib.hid hx
    have hy' := Lib.hid hy
    clear hx hy
    rw [hr.out]
    go_enter Try.func30, Try.ntmps30
    go_wp2_with fail
    have ba : Below w.heap.size w (w.alloc (.cells #[.slice a1 xs.length p1, .slice a2 ys.length p2] 25)) := by (repeat' (first | (with_reducible exact Below.refl _ _) | (with_reducible assumption) | (with_reducible refine below_al ?_ _) | (with_reducible refine Below.drew ?_) | (with_reducible refine Below.setCell ?_ (by first | exact Nat.le_refl _ | (dsimp only; omega) | (simp; omega)) _) | (with_reducible refine below_drewN ?_ _) | (with_reducible refine below_tt ?_ (by assumption))))
    refine (areSets_any w.heap.size _ _ xs ys _ (by simp) (by simp [go_sem]) (by simp [go_sem]) (h1.below ba) (h2.below ba) (by omega) (by omega)).mono ?_
    rintro e w1 ⟨rfl, b1⟩
    rw [hx'.out, hy'.out]
    have B2 := below_tt ba b1
    go_wp2
    go_ret2
    exact ⟨_, rfl, OwnS.nil _ _, B2⟩
  · have hr : Hid (meetR xs ys = limR (meetL xs ys)) := Lib.hid (by simp [meetR, hx, hy])
    have hok := isSet_ok hy
    obtain ⟨h300, hok⟩ := hok
    have hx' := Lib.hid hx
    have hy' := Lib.hid hy
    clear hx hy
    rw [hr.out]
    go_enter Try.func30, Try.ntmps30
    go_wp2_with fail
    have ba : Below w.heap.size w (w.alloc (.cells #[.slice a1 xs.length p1, .slice a2 ys.length p2] 25)) := by (repeat' (first | (with_reducible exact Below.refl _ _) | (with_reducible assumption) | (with_reducible refine below_al ?_ _) | (with_reducible refine Below.drew ?_) | (with_reducible refine Below.setCell ?_ (by first | exact Nat.le_refl _ | (dsimp only; omega) | (simp; omega)) _) | (with_reducible refine below_drewN ?_ _) | (with_reducible refine below_tt ?_ (by assumption))))
    refine (areSets_any w.heap.size _ _ xs ys _ (by simp) (by simp [go_sem]) (by simp [go_sem]) (h1.below ba) (h2.below ba) (by omega) (by omega)).mono ?_
    rintro e w1 ⟨rfl, b1⟩
    rw [hx'.out, hy'.out]
    have B2 := below_tt ba b1
    go_wp2_with fail
    refine (met_any _ _ xs ys _ (h1.below B2) (h2.below B2) (by omega) (by omega)).mono ?_
    rintro e w3 ⟨v3, rfl, o3, b3⟩
    have B3 := below_tt B2 b3
    go_wp2_with fail
    refine (limited_any v3 (meetL xs ys) w.heap.size _ (o3.more B2.size) (by omega)).mono ?_
    rintro e w4 ⟨v4, rfl, o4, rfl⟩
    go_wp2
    go_ret2
    exact ⟨_, rfl, o4, B3⟩

set_option maxHeartbeats 1000000 in
theorem sWithout_any (v u : Value) (xs ys : List (Int × Int)) (w : World) (h1 : RS w v xs) (h2 : RS w u ys) (hl1 : xs.length ≤ 2000000) (hl2 : ys.length ≤ 2000000) :
    Calls Try.prog 31 #[v, u] w fun e w' => ∃ v', e = .returned (.tuple #[v', .int .i64 (withoutR xs ys).2]) ∧ OwnS w' w.heap.size v' (withoutR xs ys).1 ∧ Below w.heap.size w w' := by
  have hml := meet_len xs ys
  have hml2 := meet_len xs (restF 0 ys)
  have hrl := rest_len ys 0
  cases hx : isSet xs
  · have hr : Hid (withoutR xs ys = ([], 1)) := Lib.hid (by simp [withoutR, hx])
    have hx' := Lib.hid hx
    clear hx
    rw [hr.out]
    go_enter Try.func31, Try.ntmps31
    go_wp2_with fail
    refine (sIsSet_any v xs _ h1 (by omega)).mono ?_
    rintro e w1 ⟨rfl, b1⟩
    rw [hx'.out]
    go_wp2
    go_ret2
    exact ⟨_, rfl, OwnS.nil _ _, b1⟩
  cases hy : isSet ys
  · have hr : Hid (withoutR xs ys = ([], 1)) := Lib.hid (by simp [withoutR, hx, hy])
    have hx' := Lib.hid hx
    have hy' := Lib.hid hy
    clear hx hy
    rw [hr.out]
    go_enter Try.func31, Try.ntmps31
    go_wp2_with fail
    refine (sIsSet_any v xs _ h1 (by omega)).mono ?_
    rintro e w1 ⟨rfl, b1⟩
    rw [hx'.out]
    go_wp2_with fail
    refine (sIsSet_any u ys _ (h2.below b1) (by omega)).mono ?_
    rintro e w2 ⟨rfl, b2⟩
    rw [hy'.out]
    have B2 := below_tt b1 b2
    go_wp2
    go_ret2
    exact ⟨_, rfl, OwnS.nil _ _, B2⟩
  · have hr : Hid (withoutR xs ys = limR (meetL xs (restF 0 ys))) := Lib.hid (by simp [withoutR, hx, hy])
    have hok := isSet_ok hy
    obtain ⟨h300, hok⟩ := hok
    have hx' := Lib.hid hx
    have hy' := Lib.hid hy
    clear hx hy
    rw [hr.out]
    go_enter Try.func31, Try.ntmps31
    go_wp2_with fail
    refine (sIsSet_any v xs _ h1 (by omega)).mono ?_
    rintro e w1 ⟨rfl, b1⟩
    rw [hx'.out]
    go_wp2_with fail
    refine (sIsSet_any u ys _ (h2.below b1) (by omega)).mono ?_
    rintro e w2 ⟨rfl, b2⟩
    rw [hy'.out]
    have B2 := below_tt b1 b2
    go_wp2_with fail
    refine (l02Rest_any u ys _ (h2.below B2) (by omega) hok).mono ?_
    rintro e w5 ⟨v5, rfl, o5, b5⟩
    have B5 := below_tt B2 b5
    go_wp2_with fail
    refine (l02Meet_any v v5 xs (restF 0 ys) _ (h1.below B5) o5.rs (by omega) (by omega)).mono ?_
    rintro e w3 ⟨v3, rfl, o3, b3⟩
    have B3 := below_tt B5 b3
    go_wp2_with fail
    refine (l02Result_any v3 (meetL xs (restF 0 ys)) w.heap.size _ (o3.more B5.size) (by omega)).mono ?_
    rintro e w4 ⟨v4, rfl, o4, rfl⟩
    go_wp2
    go_ret2
    exact ⟨_, rfl, o4, B3⟩

set_option maxHeartbeats 1000000 in
theorem iWithout_any (v u : Value) (xs ys : List (Int × Int)) (w : World) (h1 : RS w v xs) (h2 : RS w u ys) (hl1 : xs.length ≤ 2000000) (hl2 : ys.length ≤ 2000000) :
    Calls Try.prog 32 #[v, u] w fun e w' => ∃ v', e = .returned (.tuple #[v', .int .i64 (withoutR xs ys).2]) ∧ OwnS w' w.heap.size v' (withoutR xs ys).1 ∧ Below w.heap.size w w' := by
  obtain ⟨a1, p1, hv1⟩ := h1.val
  obtain ⟨a2, p2, hv2⟩ := h2.val
  subst hv1 hv2
  have hml := meet_len xs ys
  have hml2 := meet_len xs (restF 0 ys)
  have hrl := rest_len ys 0
  cases hx : isSet xs
  · have hr : Hid (withoutR xs ys = ([], 1)) := Lib.hid (by simp [withoutR, hx])
    have hx' := Lib.hid hx
    clear hx
    rw [hr.out]
    go_enter Try.func32, Try.ntmps32
    go_wp2_with fail
    have ba : Below w.heap.size w (w.alloc (.cells #[.slice a1 xs.length p1, .slice a2 ys.length p2] 25)) := by (repeat' (first | (with_reducible exact Below.refl _ _) | (with_reducible assumption) | (with_reducible refine below_al ?_ _) | (with_reducible refine Below.drew ?_) | (with_reducible refine Below.setCell ?_ (by first | exact Nat.le_refl _ | (dsimp only; omega) | (simp; omega)) _) | (with_reducible refine below_drewN ?_ _) | (with_reducible refine below_tt ?_ (by assumption))))
    refine (areSets_any w.heap.size _ _ xs ys _ (by simp) (by simp [go_sem]) (by simp [go_sem]) (h1.below ba) (h2.below ba) (by omega) (by omega)).mono ?_
    rintro e w1 ⟨rfl, b1⟩
    rw [hx'.out]
    have B2 := below_tt ba b1
    go_wp2
    go_ret2
    exact ⟨_, rfl, OwnS.nil _ _, B2⟩
  cases hy : isSet ys
  · have hr : Hid (withoutR xs ys = ([], 1)) := Lib.hid (by simp [withoutR, hx, hy])
    have hx' := Lib.hid hx
    have hy' := Lib.hid hy
    clear hx hy
    rw [hr.out]
    go_enter Try.func32, Try.ntmps32
    go_wp2_with fail
    have ba : Below w.heap.size w (w.alloc (.cells #[.slice a1 xs.length p1, .slice a2 ys.length p2] 25)) := by (repeat' (first | (with_reducible exact Below.refl _ _) | (with_reducible assumption) | (with_reducible refine below_al ?_ _) | (with_reducible refine Below.drew ?_) | (with_reducible refine Below.setCell ?_ (by first | exact Nat.le_refl _ | (dsimp only; omega) | (simp; omega)) _) | (with_reducible refine below_drewN ?_ _) | (with_reducible refine below_tt ?_ (by assumption))))
    refine (areSets_any w.heap.size _ _ xs ys _ (by simp) (by simp [go_sem]) (by simp [go_sem]) (h1.below ba) (h2.below ba) (by omega) (by omega)).mono ?_
    rintro e w1 ⟨rfl, b1⟩
    rw [hx'.out, hy'.out]
    have B2 := below_tt ba b1
    go_wp2
    go_ret2
    exact ⟨_, rfl, OwnS.nil _ _, B2⟩
  · have hr : Hid (withoutR xs ys = limR (meetL xs (restF 0 ys))) := Lib.hid (by simp [withoutR, hx, hy])
    have hok := isSet_ok hy
    obtain ⟨h300, hok⟩ := hok
    have hx' := Lib.hid hx
    have hy' := Lib.hid hy
    clear hx hy
    rw [hr.out]
    go_enter Try.func32, Try.ntmps32
    go_wp2_with fail
    have ba : Below w.heap.size w (w.alloc (.cells #[.slice a1 xs.length p1, .slice a2 ys.length p2] 25)) := by (repeat' (first | (with_reducible exact Below.refl _ _) | (with_reducible assumption) | (with_reducible refine below_al ?_ _) | (with_reducible refine Below.drew ?_) | (with_reducible refine Below.setCell ?_ (by first | exact Nat.le_refl _ | (dsimp only; omega) | (simp; omega)) _) | (with_reducible refine below_drewN ?_ _) | (with_reducible refine below_tt ?_ (by assumption))))
    refine (areSets_any w.heap.size _ _ xs ys _ (by simp) (by simp [go_sem]) (by simp [go_sem]) (h1.below ba) (h2.below ba) (by omega) (by omega)).mono ?_
    rintro e w1 ⟨rfl, b1⟩
    rw [hx'.out, hy'.out]
    have B2 := below_tt ba b1
    go_wp2_with fail
    refine (without_any _ _ xs ys _ (h1.below B2) (h2.below B2) (by omega) (by omega) hok).mono ?_
    rintro e w3 ⟨v3, rfl, o3, b3⟩
    have B3 := below_tt B2 b3
    go_wp2_with fail
    refine (limited_any v3 (meetL xs (restF 0 ys)) w.heap.size _ (o3.more B2.size) (by omega)).mono ?_
    rintro e w4 ⟨v4, rfl, o4, rfl⟩
    go_wp2
    go_ret2
    exact ⟨_, rfl, o4, B3⟩
end Go.Proofs.Ytnpbgcckbohmfaa
