/- Plain arithmetic of days and dates: a number of a calendar's range has one date. No program in sight. -/
import Derived.Test.YtnjfpipadfcapaaDoorCal
namespace Go.Proofs.YtnjfpipadfcapaaDoor

theorem cum13 (y : Int) (f : Bool) : cum y 13 f = 365 + (if leap y f = true then 1 else 0) := by
  have e : cum y 13 f = cumN y f 12 := rfl
  rw [e]
  cases h : leap y f <;> simp [cumN, mlen, h]
theorem nyear_succ (y : Int) (f : Bool) (_h : 1 ≤ y) : nyear (y + 1) f = nyear y f + 365 + (if leap y f = true then 1 else 0) := by
  cases f
  · have e : (leap y false = true) = (y % 4 = 0) := by simp [leap]
    simp only [e, nyear, if_neg Bool.false_ne_true]; split <;> omega
  · have e : (leap y true = true) = (y % 4 = 0 ∧ (y % 100 ≠ 0 ∨ y % 400 = 0)) := by simp [leap]
    simp only [e, nyear, if_true]; split <;> omega
theorem nyear_mono {a b : Int} (f : Bool) (_h : 1 ≤ a) (k : a ≤ b) : nyear a f + 365 * (b - a) ≤ nyear b f := by
  cases f <;> simp [nyear] <;> omega
theorem cumN_mono (y : Int) (f : Bool) (a k : Nat) : cumN y f a ≤ cumN y f (a + k) := by
  induction k with
  | zero => exact Int.le_refl _
  | succ k ih => have := mlen_bd y (((a + k : Nat) : Int) + 1) f; rw [← Nat.add_assoc, cumN]; omega
theorem cum_mono (y : Int) (f : Bool) {a b : Int} (h : 1 ≤ a) (k : a ≤ b) : cum y a f ≤ cum y b f := by
  have := cumN_mono y f (a - 1).toNat (b - a).toNat
  have e : (a - 1).toNat + (b - a).toNat = (b - 1).toNat := by omega
  rw [e] at this; exact this
theorem num_bd {y m d : Int} {f : Bool} (h : valid y m d f = true) : nyear y f ≤ num y m d f ∧ num y m d f < nyear (y + 1) f := by
  obtain ⟨h1, h2, h3, h4, h5, h6⟩ := valid_t h
  have hc := cum_bd y m f h3 (by omega)
  have hs := cum_succ y m f h3
  have hm := cum_mono y f (a := m + 1) (b := 13) (by omega) (by omega)
  have h13 := cum13 y f
  have hn := nyear_succ y f h1
  unfold num; omega
theorem valid_mk {y m d : Int} {f : Bool} (h1 : 1 ≤ y) (h2 : y ≤ 2000) (h3 : 1 ≤ m) (h4 : m ≤ 12) (h5 : 1 ≤ d) (h6 : d ≤ mlen y m f) : valid y m d f = true := by
  unfold valid; rw [inR_mk h1 h2, inR_mk h3 h4, inR_mk h5 h6]; rfl

/-- A date of a calendar that has the number n. -/
def IsDat (n : Int) (f : Bool) (t : Int × Int × Int) : Prop := valid t.1 t.2.1 t.2.2 f = true ∧ num t.1 t.2.1 t.2.2 f = n
theorem isDat_one {n : Int} {f : Bool} {y m d y' m' d' : Int} (h : IsDat n f (y, m, d)) (k : IsDat n f (y', m', d')) : y = y' ∧ m = m' ∧ d = d' := by
  obtain ⟨hv, hn⟩ := h
  obtain ⟨kv, kn⟩ := k
  dsimp only at hv hn kv kn
  have a := num_bd hv; have b := num_bd kv
  obtain ⟨h1, h2, h3, h4, h5, h6⟩ := valid_t hv
  obtain ⟨k1, k2, k3, k4, k5, k6⟩ := valid_t kv
  have ey : y = y' := by
    rcases Int.lt_trichotomy y y' with c | c | c
    · have := nyear_mono f (a := y + 1) (b := y') (by omega) (by omega); omega
    · exact c
    · have := nyear_mono f (a := y' + 1) (b := y) (by omega) (by omega); omega
  subst ey
  unfold num at hn kn
  have s := cum_succ y m f h3
  have s' := cum_succ y m' f k3
  have em : m = m' := by
    rcases Int.lt_trichotomy m m' with c | c | c
    · have := cum_mono y f (a := m + 1) (b := m') (by omega) (by omega); omega
    · exact c
    · have := cum_mono y f (a := m' + 1) (b := m) (by omega) (by omega); omega
  subst em
  exact ⟨rfl, rfl, by omega⟩

/-- The year of a number: counted up. -/
def yearFrom (n : Int) (f : Bool) : Nat → Int → Int
  | 0, y => y
  | k + 1, y => if nyear (y + 1) f ≤ n then yearFrom n f k (y + 1) else y
def monthFrom (n y : Int) (f : Bool) : Nat → Int → Int
  | 0, m => m
  | k + 1, m => if nyear y f + cum y (m + 1) f ≤ n then monthFrom n y f k (m + 1) else m
theorem yearFrom_is (n : Int) (f : Bool) : ∀ (k : Nat) (y : Int), 1 ≤ y → nyear y f ≤ n → n < nyear (y + k) f → nyear (yearFrom n f k y) f ≤ n ∧ n < nyear (yearFrom n f k y + 1) f ∧ y ≤ yearFrom n f k y ∧ yearFrom n f k y < y + k
  | 0, y, _, h2, h3 => by simp at h3; omega
  | k + 1, y, h1, h2, h3 => by
    rw [yearFrom]
    split
    · rename_i h
      have := yearFrom_is n f k (y + 1) (by omega) h (by rw [show y + 1 + (k : Int) = y + ((k + 1 : Nat) : Int) by omega]; exact h3)
      omega
    · omega
theorem monthFrom_is (n y : Int) (f : Bool) : ∀ (k : Nat) (m : Int), 1 ≤ m → nyear y f + cum y m f ≤ n → n < nyear y f + cum y (m + k) f → nyear y f + cum y (monthFrom n y f k m) f ≤ n ∧ n < nyear y f + cum y (monthFrom n y f k m + 1) f ∧ m ≤ monthFrom n y f k m ∧ monthFrom n y f k m < m + k
  | 0, m, _, h2, h3 => by simp at h3; omega
  | k + 1, m, h1, h2, h3 => by
    rw [monthFrom]
    split
    · rename_i h
      have := monthFrom_is n y f k (m + 1) (by omega) h (by rw [show m + 1 + (k : Int) = m + ((k + 1 : Nat) : Int) by omega]; exact h3)
      omega
    · omega
/-- The date of a number. -/
def dat (n : Int) (f : Bool) : Int × Int × Int :=
  (yearFrom n f 2000 1, monthFrom n (yearFrom n f 2000 1) f 12 1, n - (nyear (yearFrom n f 2000 1) f + cum (yearFrom n f 2000 1) (monthFrom n (yearFrom n f 2000 1) f 12 1) f) + 1)
theorem dat_is {n : Int} {f : Bool} (h : nyear 1 f ≤ n) (k : n < nyear 2001 f) : IsDat n f (dat n f) := by
  have hy := yearFrom_is n f 2000 1 (by omega) h k
  obtain ⟨a1, a2, a3, a4⟩ := hy
  unfold dat
  generalize yearFrom n f 2000 1 = y at *
  have h13 := cum13 y f
  have hs := nyear_succ y f a3
  have hm := monthFrom_is n y f 12 1 (by omega) (by rw [cum_one]; omega) (by show n < nyear y f + cum y 13 f; omega)
  obtain ⟨b1, b2, b3, b4⟩ := hm
  generalize monthFrom n y f 12 1 = m at *
  have s := cum_succ y m f b3
  exact ⟨valid_mk a3 (by dsimp only; omega) b3 (by dsimp only; omega) (by dsimp only; omega) (by dsimp only; omega), by unfold num; dsimp only; omega⟩
theorem dat_of {n : Int} {f : Bool} {y m d : Int} (h : IsDat n f (y, m, d)) : dat n f = (y, m, d) := by
  have hb := num_bd h.1
  have hn : num y m d f = n := h.2
  obtain ⟨h1, h2, h3, h4, h5, h6⟩ := valid_t h.1
  dsimp only at h1 h2 hb
  have m1 := nyear_mono f (a := 1) (b := y) (by omega) h1
  have m2 := nyear_mono f (a := y + 1) (b := 2001) (by omega) (by omega)
  have hd := dat_is (n := n) (f := f) (by omega) (by omega)
  obtain ⟨e1, e2, e3⟩ := isDat_one h (y' := (dat n f).1) (m' := (dat n f).2.1) (d' := (dat n f).2.2) hd
  rw [e1, e2, e3]
theorem dat_bd {n : Int} {f : Bool} (h : nyear 1 f ≤ n) (k : n < nyear 2001 f) : 1 ≤ (dat n f).1 ∧ (dat n f).1 ≤ 2000 ∧ 1 ≤ (dat n f).2.1 ∧ (dat n f).2.1 ≤ 12 ∧ 1 ≤ (dat n f).2.2 ∧ (dat n f).2.2 ≤ 31 := by
  obtain ⟨hv, _⟩ := dat_is h k
  have := valid_t hv
  have := mlen_bd (dat n f).1 (dat n f).2.1 f
  omega
theorem nyear_ends : nyear 1 false = 0 ∧ nyear 2001 false = 730500 ∧ nyear 1 true = 2 ∧ nyear 2001 true = 730487 := by decide
theorem num_first (y m : Int) (f : Bool) : num y m 1 f = nyear y f + cum y m f := by unfold num; omega
theorem num_newYear (y : Int) (f : Bool) : num y 1 1 f = nyear y f := by unfold num; rw [cum_one]; omega
/-- The date that the reference counts out: past the calendar's end the last month runs on. -/
def sdat (n : Int) (f : Bool) : Int × Int × Int := if n < nyear 2001 f then dat n f else (2000, 12, n - (nyear 2000 f + cum 2000 12 f) + 1)
theorem sdat_in {n : Int} {f : Bool} (h : n < nyear 2001 f) : sdat n f = dat n f := by unfold sdat; rw [if_pos h]
theorem sdat_out {n : Int} {f : Bool} (h : nyear 2001 f ≤ n) : sdat n f = (2000, 12, n - (nyear 2000 f + cum 2000 12 f) + 1) := by unfold sdat; rw [if_neg (by omega)]
theorem sdat_of {n y m : Int} {f : Bool} (h1 : 1 ≤ y) (h2 : y ≤ 2000) (h3 : 1 ≤ m) (h4 : m ≤ 12) (h5 : nyear y f + cum y m f ≤ n) (h6 : y = 2000 ∨ n < nyear (y + 1) f) (h7 : m = 12 ∨ n < nyear y f + cum y (m + 1) f) :
    sdat n f = (y, m, n - (nyear y f + cum y m f) + 1) := by
  have hs := cum_succ y m f h3
  have h13 := cum13 y f
  have hn := nyear_succ y f h1
  have hm13 := cum_mono y f (a := m + 1) (b := 13) (by omega) (by omega)
  rcases Int.lt_or_le n (nyear 2001 f) with h | h
  · rw [sdat_in h]
    have hlt : n < nyear (y + 1) f := by
      rcases h6 with e | e
      · subst e; exact h
      · exact e
    have hlt2 : n < nyear y f + cum y (m + 1) f := by
      rcases h7 with e | e
      · subst e; have : cum y (12 + 1) f = cum y 13 f := rfl; omega
      · exact e
    exact dat_of ⟨valid_mk h1 h2 h3 h4 (by dsimp only; omega) (by dsimp only; omega), by unfold num; dsimp only; omega⟩
  · rw [sdat_out h]
    have hy : y = 2000 := by
      rcases h6 with e | e
      · exact e
      · have := nyear_mono f (a := y + 1) (b := 2001) (by omega) (by omega); omega
    subst hy
    have hm : m = 12 := by
      rcases h7 with e | e
      · exact e
      · have : nyear (2000 + 1) f = nyear 2001 f := rfl; omega
    subst hm
    rfl
theorem sdat_bd {n : Int} {f : Bool} (h : nyear 1 f ≤ n) (k : n ≤ 740000) : 1 ≤ (sdat n f).1 ∧ (sdat n f).1 ≤ 2000 ∧ 1 ≤ (sdat n f).2.1 ∧ (sdat n f).2.1 ≤ 12 ∧ 1 ≤ (sdat n f).2.2 ∧ (sdat n f).2.2 ≤ 30000 := by
  rcases Int.lt_or_le n (nyear 2001 f) with c | c
  · rw [sdat_in c]; have := dat_bd h c; omega
  · rw [sdat_out c]
    have h1 : 720000 ≤ nyear 2000 f + cum 2000 12 f := by cases f <;> decide
    have h2 : nyear 2000 f + cum 2000 12 f ≤ nyear 2001 f := by cases f <;> decide
    dsimp only; omega
end Go.Proofs.YtnjfpipadfcapaaDoor
