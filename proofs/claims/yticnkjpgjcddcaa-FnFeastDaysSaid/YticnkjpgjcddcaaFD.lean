/- The days with a relation to a feast: both sides, and the law. -/
import Derived.Test.YticnkjpgjcddcaaOn
import Derived.Test.YticnkjpgjcddcaaRel
import Derived.Test.YticnkjpgjcddcaaMake
import Derived.Test.YticnkjpgjcddcaaMeet2
import Derived.Test.YticnkjpgjcddcaaSets8
namespace Go.Proofs.Yticnkjpgjcddcaa
open Go.RowKit

def daysL (f r d a b lo : Int) : Nat → List (Int × Int)
  | 0 => []
  | k + 1 => daysL f r d a b lo k ++ (if inR (relI f r d (lo + k)) a b = true then [(relI f r d (lo + k), relI f r d (lo + k))] else [])
theorem daysL_len (f r d a b lo : Int) (k : Nat) : (daysL f r d a b lo k).length ≤ k := by
  induction k with
  | zero => simp [daysL]
  | succ k ih => rw [daysL]; split <;> simp <;> omega
theorem daysL_in {f r d a b lo : Int} {k : Nat} {t : Int × Int} (h : t ∈ daysL f r d a b lo k) : t.1 = t.2 ∧ a ≤ t.1 ∧ t.1 ≤ b ∧ ∃ y, lo ≤ y ∧ y < lo + k ∧ t.1 = relI f r d y := by
  induction k with
  | zero => simp [daysL] at h
  | succ k ih =>
    rw [daysL, List.mem_append] at h
    rcases h with h | h
    · obtain ⟨h1, h2, h3, y, h4, h5, h6⟩ := ih h
      exact ⟨h1, h2, h3, y, h4, by omega, h6⟩
    · split at h
      · rename_i hh
        have := inR_t hh
        simp at h
        subst h
        exact ⟨rfl, this.1, this.2, lo + k, by omega, by omega, rfl⟩
      · simp at h
def loY (a : Int) : Int := max 1 ((dat a false).1 - 1)
def hiY (b : Int) : Int := min 2000 ((dat b false).1 + 1)
def fdL (f r d a b : Int) : List (Int × Int) := daysL f r d a b (loY a) (hiY b - loY a + 1).toNat
def fdB (f r d a b : Int) : Bool := relB f r d && (inR a 0 730499 && (inR b 0 730499 && (decide (a ≤ b) && decide (b - a ≤ 73000))))
def fdR (f r d a b : Int) : List (Int × Int) × Int := if fdB f r d a b = true then (uniteL (fdL f r d a b), 0) else ([], 2)
theorem fdR_no {f r d a b : Int} (h : fdB f r d a b = false) : fdR f r d a b = ([], 2) := by unfold fdR; rw [h]; rfl
theorem fdR_t {f r d a b : Int} (h : fdB f r d a b = true) : fdR f r d a b = (uniteL (fdL f r d a b), 0) := by unfold fdR; rw [if_pos h]
theorem fdB_t {f r d a b : Int} (h : fdB f r d a b = true) : relB f r d = true ∧ 0 ≤ a ∧ a ≤ b ∧ b ≤ 730499 ∧ b - a ≤ 73000 := by
  unfold fdB at h
  simp at h
  obtain ⟨h1, h2, h3, h4, h5⟩ := h
  have := inR_t h2
  have := inR_t h3
  exact ⟨h1, by omega, h4, by omega, h5⟩
theorem yr_of {n : Int} (h1 : 0 ≤ n) (h2 : n ≤ 730499) : nyear (dat n false).1 false ≤ n ∧ n < nyear ((dat n false).1 + 1) false := by
  have e := nyear_ends
  have d := dat_is (n := n) (f := false) (by omega) (by omega)
  have b := num_bd d.1
  rw [d.2] at b
  exact b
theorem years_few {a b : Int} (h1 : 0 ≤ a) (h2 : a ≤ b) (h3 : b ≤ 730499) (h4 : b - a ≤ 73000) : (hiY b - loY a + 1).toNat ≤ 300 := by
  have ya := dat_yr h1 (by omega)
  have yb := dat_yr (n := b) (by omega) h3
  have na := yr_of h1 (by omega)
  have nb := yr_of (n := b) (by omega) h3
  unfold hiY loY
  generalize (dat a false).1 = p at *
  generalize (dat b false).1 = q at *
  by_cases hq : p + 1 ≤ q
  · unfold nyear at na nb
    simp at na nb
    omega
  · omega
theorem putS_len (P : List (Int × Int)) (s : Int × Int) : (putS P s).length ≤ P.length + 1 := by
  cases P with
  | nil => simp [putS]
  | cons l r => simp only [putS]; split <;> simp
theorem foldl_put_len (xs P : List (Int × Int)) : (xs.foldl putS P).length ≤ P.length + xs.length := by
  induction xs generalizing P with
  | nil => simp
  | cons x xs ih =>
    have h1 := ih (putS P x)
    have h2 := putS_len P x
    simp only [List.foldl_cons, List.length_cons]
    omega
theorem unite_len (xs : List (Int × Int)) : (uniteL xs).length ≤ xs.length := by
  unfold uniteL mergeL
  rw [List.length_reverse]
  have h := foldl_put_len (sortI xs) []
  have e := (sortI_perm xs).length_eq
  unfold mergeR
  simp at h
  omega
theorem fdL_len {f r d a b : Int} (h1 : 0 ≤ a) (h2 : a ≤ b) (h3 : b ≤ 730499) (h4 : b - a ≤ 73000) : (fdL f r d a b).length ≤ 300 :=
  Nat.le_trans (daysL_len _ _ _ _ _ _ _) (years_few h1 h2 h3 h4)
theorem fdR_len (f r d a b : Int) : (fdR f r d a b).1.length ≤ 4000000 := by
  cases h : fdB f r d a b
  · rw [fdR_no h]; simp
  · obtain ⟨_, h1, h2, h3, h4⟩ := fdB_t h
    rw [fdR_t h]
    have := fdL_len (f := f) (r := r) (d := d) h1 h2 h3 h4
    have := unite_len (fdL f r d a b)
    show (uniteL (fdL f r d a b)).length ≤ 4000000
    omega
theorem fd_year (y m d : Int) (w : World) : (Instr.field 43 (.agg #[.int .i64 y, .int .i64 m, .int .i64 d]) 0).run Try.prog w = .ok (.int .i64 y) w := by kernel_rfl
theorem fdB_is (f r d a b : Int) : fdB f r d a b = (relB f r d && (inR a 0 730499 && (inR b 0 730499 && (decide (a ≤ b) && decide (b - a ≤ 73000))))) := rfl
set_option maxHeartbeats 4000000 in
theorem iFD_no (f r d a b : Int) (w : World) (h : fdB f r d a b = false) :
    Calls Try.prog 29 #[.int .i64 f, .int .i64 r, .int .i64 d, .int .i64 a, .int .i64 b] w fun e w' => e = .returned (.tuple #[.slice none 0 0, .int .i64 2]) ∧ Below w.heap.size w w' := by
  have rg := cell_rg; have l2 : ∀ n : Nat, n < n + 1 + 1 := (fun _ => by omega); have l3 : ∀ n : Nat, n < n + 1 + 1 + 1 := (fun _ => by omega); have l4 : ∀ n : Nat, n < n + 1 + 1 + 1 + 1 := (fun _ => by omega)
  have hB := Below.refl w.heap.size w
  rw [fdB_is] at h
  cases hr : relB f r d
  · have h1 := Lib.hid hr
    clear hr h
    go_enter Try.func29, Try.ntmps29
    go_wp2_with (first | (go_at_call 99; refine (isRelation_is h1.out _).mono ?_; rintro e w' ⟨rfl, rfl⟩) | (go_at_call 104; refine (isDay_is (by first | exact h2.out | exact h3.out) _).mono ?_; rintro e w' ⟨rfl, rfl⟩))
    go_ret2
    exact ⟨rfl, by (repeat' (first | (with_reducible exact Below.refl _ _) | (with_reducible assumption) | (with_reducible refine below_al ?_ _) | (with_reducible refine Below.drew ?_) | (with_reducible refine Below.setCell ?_ (by first | exact Nat.le_refl _ | (dsimp only; omega) | (simp; omega)) _) | (with_reducible refine below_drewN ?_ _) | (with_reducible refine below_tt ?_ (by assumption))))⟩
  cases ha : inR a 0 730499
  · have h1 := Lib.hid hr
    have h2 := Lib.hid ha
    clear hr ha h
    go_enter Try.func29, Try.ntmps29
    go_wp2_with (first | (go_at_call 99; refine (isRelation_is h1.out _).mono ?_; rintro e w' ⟨rfl, rfl⟩) | (go_at_call 104; refine (isDay_is (by first | exact h2.out | exact h3.out) _).mono ?_; rintro e w' ⟨rfl, rfl⟩))
    go_ret2
    exact ⟨rfl, by (repeat' (first | (with_reducible exact Below.refl _ _) | (with_reducible assumption) | (with_reducible refine below_al ?_ _) | (with_reducible refine Below.drew ?_) | (with_reducible refine Below.setCell ?_ (by first | exact Nat.le_refl _ | (dsimp only; omega) | (simp; omega)) _) | (with_reducible refine below_drewN ?_ _) | (with_reducible refine below_tt ?_ (by assumption))))⟩
  cases hb : inR b 0 730499
  · have h1 := Lib.hid hr
    have h2 := Lib.hid ha
    have h3 := Lib.hid hb
    clear hr ha hb h
    go_enter Try.func29, Try.ntmps29
    go_wp2_with (first | (go_at_call 99; refine (isRelation_is h1.out _).mono ?_; rintro e w' ⟨rfl, rfl⟩) | (go_at_call 104; refine (isDay_is (by first | exact h2.out | exact h3.out) _).mono ?_; rintro e w' ⟨rfl, rfl⟩))
    go_ret2
    exact ⟨rfl, by (repeat' (first | (with_reducible exact Below.refl _ _) | (with_reducible assumption) | (with_reducible refine below_al ?_ _) | (with_reducible refine Below.drew ?_) | (with_reducible refine Below.setCell ?_ (by first | exact Nat.le_refl _ | (dsimp only; omega) | (simp; omega)) _) | (with_reducible refine below_drewN ?_ _) | (with_reducible refine below_tt ?_ (by assumption))))⟩
  obtain ⟨a1, a2⟩ := inR_t ha
  obtain ⟨b1, b2⟩ := inR_t hb
  by_cases hab : a ≤ b
  case neg =>
    have h1 := Lib.hid hr
    have h2 := Lib.hid ha
    have h3 := Lib.hid hb
    have e1 : decide (b < a) = true := decide_eq_true (by omega)
    clear hr ha hb h
    go_enter Try.func29, Try.ntmps29
    go_wp2_with (first | (go_at_call 99; refine (isRelation_is h1.out _).mono ?_; rintro e w' ⟨rfl, rfl⟩) | (go_at_call 104; refine (isDay_is (by first | exact h2.out | exact h3.out) _).mono ?_; rintro e w' ⟨rfl, rfl⟩))
    go_ret2
    exact ⟨rfl, by (repeat' (first | (with_reducible exact Below.refl _ _) | (with_reducible assumption) | (with_reducible refine below_al ?_ _) | (with_reducible refine Below.drew ?_) | (with_reducible refine Below.setCell ?_ (by first | exact Nat.le_refl _ | (dsimp only; omega) | (simp; omega)) _) | (with_reducible refine below_drewN ?_ _) | (with_reducible refine below_tt ?_ (by assumption))))⟩
  by_cases h7 : b - a ≤ 73000
  case neg =>
    have h1 := Lib.hid hr
    have h2 := Lib.hid ha
    have h3 := Lib.hid hb
    have e1 : decide (b < a) = false := decide_eq_false (by omega)
    have e2 : decide (73000 < b - a) = true := decide_eq_true (by omega)
    clear hr ha hb h
    go_enter Try.func29, Try.ntmps29
    go_wp2_with (first | (go_at_call 99; refine (isRelation_is h1.out _).mono ?_; rintro e w' ⟨rfl, rfl⟩) | (go_at_call 104; refine (isDay_is (by first | exact h2.out | exact h3.out) _).mono ?_; rintro e w' ⟨rfl, rfl⟩))
    go_ret2
    exact ⟨rfl, by (repeat' (first | (with_reducible exact Below.refl _ _) | (with_reducible assumption) | (with_reducible refine below_al ?_ _) | (with_reducible refine Below.drew ?_) | (with_reducible refine Below.setCell ?_ (by first | exact Nat.le_refl _ | (dsimp only; omega) | (simp; omega)) _) | (with_reducible refine below_drewN ?_ _) | (with_reducible refine below_tt ?_ (by assumption))))⟩
  exfalso
  rw [hr, ha, hb, decide_eq_true hab, decide_eq_true h7] at h
  simp at h
theorem fdL_all {f r d a b : Int} (_h1 : 0 ≤ a) (_h2 : b ≤ 730499) : (∀ t ∈ fdL f r d a b, farB t) ∧ (∀ t ∈ fdL f r d a b, t.1 ≤ t.2) := by
  constructor
  · intro t ht
    have := daysL_in ht
    unfold farB; omega
  · intro t ht
    have := daysL_in ht
    omega
theorem within_any' {n a b : Int} {r : Bool} (h : inR n a b = r) (w : World) :
    Calls Try.prog 110 #[.int .i64 n, .int .i64 a, .int .i64 b] w fun e w' => e = .returned (.bool r) ∧ w = w' := within_is h w
set_option maxRecDepth 100000 in
set_option maxHeartbeats 8000000 in
theorem implFeastDays_any (f r d a b : Int) (w : World) :
    Calls Try.prog 29 #[.int .i64 f, .int .i64 r, .int .i64 d, .int .i64 a, .int .i64 b] w fun e w' => ∃ v, e = .returned (.tuple #[v, .int .i64 (fdR f r d a b).2]) ∧ OwnS w' w.heap.size v (fdR f r d a b).1 ∧ Below w.heap.size w w' := by
  cases hy : fdB f r d a b
  · rw [fdR_no hy]
    exact (iFD_no f r d a b w hy).mono fun _ _ ⟨h1, h2⟩ => ⟨_, h1, OwnS.nil _ _, h2⟩
  have rg := cell_rg; have l2 : ∀ n : Nat, n < n + 1 + 1 := (fun _ => by omega); have l3 : ∀ n : Nat, n < n + 1 + 1 + 1 := (fun _ => by omega); have l4 : ∀ n : Nat, n < n + 1 + 1 + 1 + 1 := (fun _ => by omega)
  have hB := Below.refl w.heap.size w
  obtain ⟨hrel, k1, k2, k3, k4⟩ := fdB_t hy
  rw [fdR_t hy]
  clear hy
  obtain ⟨p1, p2⟩ := relB_t hrel
  obtain ⟨_, _, d1, d2, _⟩ := relB2_t p2
  obtain ⟨f1, f2⟩ := inR_t p1
  have hya := dat_yr k1 (show a ≤ 730499 by omega)
  have hyb := dat_yr (show 0 ≤ b by omega) k3
  have hfew := years_few k1 k2 k3 k4
  have hna := yr_of k1 (show a ≤ 730499 by omega)
  have hnb := yr_of (show 0 ≤ b by omega) k3
  have hle : (dat a false).1 ≤ (dat b false).1 := by
    by_cases q : (dat a false).1 ≤ (dat b false).1
    · exact q
    · have := nyear_mono false (a := (dat b false).1 + 1) (b := (dat a false).1) (by omega) (by omega)
      omega
  clear hna hnb
  have hDa : ∀ W : World, _ := fun W => idateOf_any k1 (by omega) W
  have hDb : ∀ W : World, _ := fun W => idateOf_any (by omega) k3 W
  have HV : Hid (fdL f r d a b = daysL f r d a b (max 1 ((dat a false).1 - 1)) (min 2000 ((dat b false).1 + 1) - max 1 ((dat a false).1 - 1) + 1).toNat) := rfl
  have hlo : loY a = max 1 ((dat a false).1 - 1) := rfl
  have hhi : hiY b = min 2000 ((dat b false).1 + 1) := rfl
  rw [hlo, hhi] at hfew
  clear hlo hhi
  generalize (dat a false).1 = ya at hDa hya HV hfew hle
  generalize (dat a false).2.1 = ma at hDa
  generalize (dat a false).2.2 = da at hDa
  generalize (dat b false).1 = yb at hDb hyb HV hfew hle
  generalize (dat b false).2.1 = mb at hDb
  generalize (dat b false).2.2 = db at hDb
  obtain ⟨ya1, ya2⟩ := hya
  obtain ⟨yb1, yb2⟩ := hyb
  have hmx : (if 1 < ya - 1 then ya - 1 else 1) = max 1 (ya - 1) := by split <;> omega
  have hmn : (if yb + 1 < 2000 then yb + 1 else 2000) = min 2000 (yb + 1) := by split <;> omega
  have hlo1 : 1 ≤ max 1 (ya - 1) := by omega
  have hup1 : min 2000 (yb + 1) ≤ 2000 := by omega
  have hlu : max 1 (ya - 1) ≤ min 2000 (yb + 1) := by omega
  obtain ⟨lo, hmx2⟩ : ∃ lo, max 1 (ya - 1) = lo := ⟨_, rfl⟩
  obtain ⟨up, hmn2⟩ : ∃ up, min 2000 (yb + 1) = up := ⟨_, rfl⟩
  rw [hmx2] at hmx hlo1 HV hfew hlu
  rw [hmn2] at hmn hup1 HV hfew hlu
  obtain ⟨kk, hkk⟩ : ∃ kk, (up - lo + 1).toNat = kk := ⟨_, rfl⟩
  rw [hkk] at HV hfew
  have h1 := Lib.hid hrel
  have h2 := Lib.hid (inR_mk k1 (show a ≤ 730499 by omega))
  have h3 := Lib.hid (inR_mk (show 0 ≤ b by omega) k3)
  clear hrel p1
  have e1 : decide (b < a) = false := decide_eq_false (by omega)
  have e2 : decide (73000 < b - a) = false := decide_eq_false (by omega)
  have fy := fd_year
  go_enter Try.func29, Try.ntmps29
  go_wp2_with (first | (go_at_call 99; refine (isRelation_is h1.out _).mono ?_; rintro e w' ⟨rfl, rfl⟩) | (go_at_call 104; refine (isDay_is (by first | exact h2.out | exact h3.out) _).mono ?_; rintro e w' ⟨rfl, rfl⟩))
  refine (hDa _).mono ?_
  rintro e w1 ⟨rfl, b1⟩
  have hO0 := OwnS.made w (Nat.le_refl w.heap.size)
  have hO := hO0.below b1
  have B1 := below_tt (below_al hB _) b1
  clear hO0 b1 hB hDa
  go_wp2_with fail
  go_loopw [12, 13] (fun s12 s13 wr => ∃ k : Nat, k ≤ kk ∧ s13 = .int .i64 (lo + k) ∧ OwnS wr w.heap.size s12 (daysL f r d a b lo k) ∧ Below w.heap.size w wr) (fun _ s13 _ => (2010 - intOf s13).toNat)
  case atStart => exact ⟨0, by omega, by simp, hO, B1⟩
  case round =>
    clear hO B1
    obtain ⟨k, hk, rfl, hO, hB⟩ := hrel
    go_wp2_with fail
    refine (hDb _).mono ?_
    rintro e w2 ⟨rfl, b2⟩
    have hO2 := hO.below b2
    have B2 := below_tt hB b2
    clear hO hB b2
    by_cases hlt : k < kk
    · have e0 : decide (lo + (k : Int) ≤ up) = true := decide_eq_true (by omega)
      have hl := daysL_len f r d a b lo k
      have hS : Hid (daysL f r d a b lo (k + 1) = daysL f r d a b lo k ++ (if inR (relI f r d (lo + k)) a b = true then [(relI f r d (lo + k), relI f r d (lo + k))] else [])) := rfl
      have hfy := feast_day f1 f2 (show 1 ≤ lo + (k : Int) by omega) (show lo + (k : Int) ≤ 2000 by omega)
      have hro : relI f r d (lo + k) = relO r d (feastI f (lo + k)) := rfl
      have hrb := relO_bd (n := feastI f (lo + k)) p2
      rw [← hro] at hrb
      clear hro
      go_wp2_with fail
      refine (relatedDay_any f r d (lo + k) _ f1 f2 (by omega) (by omega) d1 d2).mono ?_
      rintro e w3 ⟨rfl, b3⟩
      have hO3 := hO2.below b3
      have B3 := below_tt B2 b3
      clear hO2 B2 b3
      generalize relI f r d (lo + k) = q at hS hrb ⊢
      generalize feastI f (lo + k) = q2 at hrb hfy
      obtain ⟨hrb1, hrb2⟩ := hrb
      obtain ⟨hfy1, hfy2⟩ := hfy
      cases hi : inR q a b
      · have hI := Lib.hid hi
        rw [hi] at hS
        clear hi
        go_wp2_with fail
        refine (within_is hI.out _).mono ?_
        rintro e w4 ⟨rfl, rfl⟩
        go_wp2_with fail
        go_roundw
        case rel => exact ⟨k + 1, by omega, by simp; omega, by rw [hS.out]; simpa using hO3, B3⟩
        case measure => simp [intOf]; omega
      · have hI := Lib.hid hi
        rw [hi, if_pos rfl] at hS
        clear hi
        go_wp2_with fail
        refine (within_is hI.out _).mono ?_
        rintro e w4 ⟨rfl, rfl⟩
        go_wp2_with (at_builtin; refine app_span (w0 := w) (p := q) (q := q) (xs := daysL f r d a b lo k) (by (repeat' (first | (with_reducible exact Below.refl _ _) | (with_reducible assumption) | (with_reducible refine below_al ?_ _) | (with_reducible refine Below.drew ?_) | (with_reducible refine Below.setCell ?_ (by first | exact Nat.le_refl _ | (dsimp only; omega) | (simp; omega)) _) | (with_reducible refine below_drewN ?_ _) | (with_reducible refine below_tt ?_ (by assumption))))) (by first | exact (hO3.alloc _) | exact (hO3.alloc _).drew | exact ((hO3.alloc _).alloc _) | exact ((hO3.alloc _).alloc _).drew) (by omega) rfl _ _ rfl rfl rfl (by simp [go_sem]) (by simp [go_sem]) ?_; intro v6 w6 hO6 hB6 _)
        go_roundw
        case rel => exact ⟨k + 1, by omega, by simp; omega, by rw [hS.out]; exact hO6, hB6⟩
        case measure => simp [intOf]; omega
    · obtain rfl : kk = k := by omega
      have e0 : decide (lo + (kk : Int) ≤ up) = false := decide_eq_false (by omega)
      rw [← HV.out] at hO2
      have hall := fdL_all (f := f) (r := r) (d := d) (a := a) (b := b) (by omega) (by omega)
      have hlen : (fdL f r d a b).length ≤ 300 := fdL_len k1 k2 k3 k4
      have hul := unite_len (fdL f r d a b)
      have hlr : limR (uniteL (fdL f r d a b)) = (uniteL (fdL f r d a b), 0) := by unfold limR; rw [if_neg (by omega)]
      go_wp2_with fail
      refine (united_any _ (fdL f r d a b) _ hO2.rs2 (by omega) hall.1).mono ?_
      rintro e w3 ⟨⟨v3, ys, rfl, hp, ho, hO3⟩, b3⟩
      rw [unite_of hp ho hall.2] at hO3
      have B3 := below_tt B2 b3
      go_wp2_with fail
      refine (limited_any v3 (uniteL (fdL f r d a b)) _ _ hO3 (by omega)).mono ?_
      rintro e w4 ⟨v4, rfl, hO4, rfl⟩
      rw [hlr] at hO4 ⊢
      have hO4 := OwnS.more hO4 B2.size
      go_wp2_with fail
      go_ret2
      exact ⟨_, rfl, hO4, B3⟩
end Go.Proofs.Yticnkjpgjcddcaa
