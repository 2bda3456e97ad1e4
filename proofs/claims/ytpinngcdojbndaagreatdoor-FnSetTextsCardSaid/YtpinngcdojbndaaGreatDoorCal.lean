/- Plain arithmetic of the two calendars: no program in sight. -/
import Init
namespace Go.Proofs.YtpinngcdojbndaaGreatDoor

/-- Is a number in a range. -/
def inR (n a b : Int) : Bool := decide (a ≤ n ∧ n ≤ b)
theorem inR_t {n a b : Int} (h : inR n a b = true) : a ≤ n ∧ n ≤ b := by unfold inR at h; simpa using h
theorem inR_f {n a b : Int} (h : inR n a b = false) : n < a ∨ b < n := by unfold inR at h; simp at h; omega
theorem inR_mk {n a b : Int} (h : a ≤ n) (k : n ≤ b) : inR n a b = true := by unfold inR; simp; omega
theorem inR_not {n a b : Int} (h : n < a ∨ b < n) : inR n a b = false := by unfold inR; simp; omega

/-- A leap year. -/
def leap (y : Int) (f : Bool) : Bool := decide (y % 4 = 0 ∧ (f = false ∨ y % 100 ≠ 0 ∨ y % 400 = 0))
/-- The length of a month. -/
def mlen (y m : Int) (f : Bool) : Int :=
  if m = 2 then (if leap y f = true then 29 else 28) else if m = 4 ∨ m = 6 ∨ m = 9 ∨ m = 11 then 30 else 31
theorem mlen_bd (y m : Int) (f : Bool) : 28 ≤ mlen y m f ∧ mlen y m f ≤ 31 := by
  unfold mlen; split
  · split <;> omega
  · split <;> omega
/-- Is a date one of a calendar. -/
def valid (y m d : Int) (f : Bool) : Bool := inR y 1 2000 && (inR m 1 12 && inR d 1 (mlen y m f))
theorem valid_y {y m d : Int} {f : Bool} (h : inR y 1 2000 = false) : valid y m d f = false := by simp [valid, h]
theorem valid_m {y m d : Int} {f : Bool} (h : inR m 1 12 = false) : valid y m d f = false := by simp [valid, h]
theorem valid_d {y m d : Int} {f : Bool} (h : inR y 1 2000 = true) (k : inR m 1 12 = true) : valid y m d f = inR d 1 (mlen y m f) := by simp [valid, h, k]
theorem valid_t {y m d : Int} {f : Bool} (h : valid y m d f = true) : 1 ≤ y ∧ y ≤ 2000 ∧ 1 ≤ m ∧ m ≤ 12 ∧ 1 ≤ d ∧ d ≤ mlen y m f := by
  simp [valid] at h
  have a := inR_t h.1; have b := inR_t h.2.1; have c := inR_t h.2.2; omega

/-- The number of January 1. -/
def nyear (y : Int) (f : Bool) : Int := if f = true then 365 * (y - 1) + (y - 1) / 4 - (y - 1) / 100 + (y - 1) / 400 + 2 else 365 * (y - 1) + (y - 1) / 4
/-- How many days are before the month m. -/
def cumN (y : Int) (f : Bool) : Nat → Int
  | 0 => 0
  | k + 1 => cumN y f k + mlen y (k + 1) f
def cum (y m : Int) (f : Bool) : Int := cumN y f (m - 1).toNat
theorem cum_one (y : Int) (f : Bool) : cum y 1 f = 0 := rfl
theorem cum_succ (y m : Int) (f : Bool) (h : 1 ≤ m) : cum y (m + 1) f = cum y m f + mlen y m f := by
  unfold cum
  have e : (m + 1 - 1).toNat = (m - 1).toNat + 1 := by omega
  rw [e, cumN]
  have e2 : (((m - 1).toNat : Int) + 1) = m := by omega
  rw [e2]
theorem cumN_bd (y : Int) (f : Bool) (k : Nat) : 28 * (k : Int) ≤ cumN y f k ∧ cumN y f k ≤ 31 * (k : Int) := by
  induction k with
  | zero => simp [cumN]
  | succ k ih => have := mlen_bd y (k + 1) f; rw [cumN]; omega
theorem cum_bd (y m : Int) (f : Bool) (h : 1 ≤ m) (k : m ≤ 13) : 0 ≤ cum y m f ∧ cum y m f ≤ 372 := by
  have := cumN_bd y f (m - 1).toNat; unfold cum; omega
/-- The number of a date. -/
def num (y m d : Int) (f : Bool) : Int := nyear y f + d - 1 + cum y m f
theorem nyear_bd (y : Int) (f : Bool) (h : -1 ≤ y) (k : y ≤ 10000) : -1000 ≤ nyear y f ∧ nyear y f ≤ 4000000 := by
  unfold nyear; split <;> omega

/-! Easter by the old rule -/
def moon (y : Int) : Int := (19 * (y % 19) + 15) % 30
theorem moon_bd (y : Int) (_h : 1 ≤ y) : 0 ≤ moon y ∧ moon y ≤ 29 := by unfold moon; omega
/-- Months and days together, as the rule counts them. -/
def oes (y : Int) : Int := moon y + ((2 * (y % 4) + 4 * (y % 7) - moon y + 34) % 7) + 114
def oem (y : Int) : Int := oes y / 31
def oed (y : Int) : Int := oes y % 31 + 1
def oeaster (y : Int) : Int := num y (oem y) (oed y) false
theorem oes_bd (y : Int) (h : 1 ≤ y) : 114 ≤ oes y ∧ oes y ≤ 149 := by have := moon_bd y h; unfold oes; omega
theorem oem_bd (y : Int) (h : 1 ≤ y) : 3 ≤ oem y ∧ oem y ≤ 4 := by have := oes_bd y h; unfold oem; omega
theorem oed_bd (y : Int) (h : 1 ≤ y) : 1 ≤ oed y ∧ oed y ≤ 31 := by have := oes_bd y h; unfold oed; omega

/-! Easter by the new rule -/
def nh (y : Int) : Int := (19 * (y % 19) + y / 100 - y / 100 / 4 - (8 * (y / 100) + 13) / 25 + 15) % 30
def ni (y : Int) : Int := nh y - nh y / 28 * (1 - 29 / (nh y + 1) * ((21 - y % 19) / 11))
def nl (y : Int) : Int := ni y - (y + y / 4 + ni y + 2 - y / 100 + y / 100 / 4) % 7
def nem (y : Int) : Int := 3 + (nl y + 40) / 44
def ned (y : Int) : Int := nl y + 28 - 31 * (nem y / 4)
def neaster (y : Int) : Int := num y (nem y) (ned y) true
/-- What is known of the products that the rule forms. -/
def NF (h c : Int) : Prop := (0 ≤ 29 / (h + 1) ∧ 29 / (h + 1) ≤ 29) ∧ (0 ≤ 29 / (h + 1) * ((21 - c) / 11) ∧ 29 / (h + 1) * ((21 - c) / 11) ≤ 29) ∧
  (-28 ≤ h / 28 * (1 - 29 / (h + 1) * ((21 - c) / 11)) ∧ h / 28 * (1 - 29 / (h + 1) * ((21 - c) / 11)) ≤ 1) ∧
  (0 ≤ h - h / 28 * (1 - 29 / (h + 1) * ((21 - c) / 11)) ∧ h - h / 28 * (1 - 29 / (h + 1) * ((21 - c) / 11)) ≤ 28)
instance (h c : Int) : Decidable (NF h c) := by unfold NF; infer_instance
theorem nf_all : ∀ h ∈ List.range 30, ∀ c ∈ List.range 19, NF (h : Int) (c : Int) := by decide +kernel
theorem nf_of (h c : Int) (h0 : 0 ≤ h) (h1 : h ≤ 29) (c0 : 0 ≤ c) (c1 : c ≤ 18) : NF h c := by
  have := nf_all h.toNat (by simp; omega) c.toNat (by simp; omega)
  rwa [Int.toNat_of_nonneg h0, Int.toNat_of_nonneg c0] at this
theorem ni_bd (y : Int) : 0 ≤ ni y ∧ ni y ≤ 28 := by
  have := nf_of (nh y) (y % 19) (by unfold nh; omega) (by unfold nh; omega) (by omega) (by omega)
  unfold NF at this; unfold ni; omega
theorem nl_bd (y : Int) : -6 ≤ nl y ∧ nl y ≤ 28 := by have := ni_bd y; unfold nl; omega
theorem nem_bd (y : Int) : 3 ≤ nem y ∧ nem y ≤ 4 := by have := nl_bd y; unfold nem; omega
theorem ned_bd (y : Int) : -10 ≤ ned y ∧ ned y ≤ 60 := by have := nl_bd y; have := nem_bd y; unfold ned; omega
end Go.Proofs.YtpinngcdojbndaaGreatDoor
