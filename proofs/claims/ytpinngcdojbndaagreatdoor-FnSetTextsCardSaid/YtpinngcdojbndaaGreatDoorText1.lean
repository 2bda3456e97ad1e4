/- The texts of the reference: numerals, joins, a set's text. -/
import Derived.Test.YtpinngcdojbndaaGreatDoorStrs
import Derived.Test.YtpinngcdojbndaaGreatDoorTextL
import Derived.Test.YtpinngcdojbndaaGreatDoorSets2
import Derived.Test.YtpinngcdojbndaaGreatDoorApp
import Derived.Deep.RegionWith
import Derived.Deep.DeepCutAuto
import Derived.IntWalk
namespace Go.Proofs.YtpinngcdojbndaaGreatDoor
open Go.RowKit

theorem dec_step {u : Nat} (h : ¬ u < 10) : Lib.decDigits u = Lib.decDigits (u / 10) ++ [UInt8.ofNat (48 + u % 10)] := by
  conv => lhs; rw [Lib.decDigits]
  rw [dif_neg h]
/-- A slice of one byte made a string. -/
theorem conv_one (x : Int) (W : World) (g : Nat) (h : W.cell? ⟨g, 0, none⟩ = some (.int .u8 x)) :
    (convert 22 9 (.slice (some ⟨g, 0, none⟩) 1 1)).run Tryz.prog W = .ok (.string (bs [UInt8.ofNat x.toNat])) W := by
  rw [run_convert_bytes_string (hs := Tryz.underlying22) (he := Tryz.underlying5) (hd := Tryz.underlying9)]
  rw [run_bytesToString W ⟨g, 0, none⟩ 1 1 [x] (run_loadCells_list W ⟨g, 0, none⟩ [.int .u8 x] (fun j v hj => by
    match j, hj with
    | 0, hj => simp at hj; subst hj; simpa [Addr.add] using h))]
  rfl
set_option maxRecDepth 10000 in
set_option maxHeartbeats 4000000 in
theorem l01Dec_any (k : Nat) : ∀ (n : Int) (w : World), 0 ≤ n → n ≤ 9223372036854775807 → n.toNat ≤ k →
    Calls Tryz.prog 42 #[.int .i64 n] w fun e w' => e = .returned (.string (bs (Lib.decDigits n.toNat))) ∧ Below w.heap.size w w' := by
  induction k using Nat.strongRecOn with
  | _ k ih =>
    intro n w h0 h1 hk
    by_cases hs : n < 10
    · have hcv := conv_one (48 + n)
      have hr8 : IntKind.u8.wrap (48 + n) = 48 + n := by rw [IntKind.wrap_u8]; omega
      have hd := Lib.hid (Lib.decDigits_one (i := n.toNat) (by omega))
      have e9 := Lib.hid (show (48 + n).toNat = 48 + n.toNat by omega)
      go_enter Tryz.func42, Tryz.ntmps42
      go_wp2_with fail
      go_ret
      exact ⟨by rw [e9.out, hd.out]; rfl, by (repeat' (first | (with_reducible exact Below.refl _ _) | (with_reducible assumption) | (with_reducible refine below_al ?_ _) | (with_reducible refine Below.drew ?_) | (with_reducible refine Below.setCell ?_ (by first | exact Nat.le_refl _ | (dsimp only; omega) | (simp; omega)) _) | (with_reducible refine below_drewN ?_ _) | (with_reducible refine below_tt ?_ (by assumption))))⟩
    · obtain ⟨q, hq⟩ : ∃ q, n.tdiv 10 = q := ⟨_, rfl⟩
      obtain ⟨r, hr⟩ : ∃ r, n.tmod 10 = r := ⟨_, rfl⟩
      have hq' : q = n / 10 := by rw [← hq]; exact Int.tdiv_eq_ediv_of_nonneg h0
      have hr' : r = n % 10 := by rw [← hr]; exact Int.tmod_eq_emod_of_nonneg h0
      have q1 : 0 ≤ q := by omega
      have q2 : q ≤ 9223372036854775807 := by omega
      have r1 : 0 ≤ r := by omega
      have r2 : r ≤ 9 := by omega
      have hqw : IntKind.i64.wrap q = q := IntWalk.i64_in _ (by omega)
      have hrw : IntKind.i64.wrap (48 + r) = 48 + r := IntWalk.i64_in _ (by omega)
      have hr8 : IntKind.u8.wrap (48 + r) = 48 + r := by rw [IntKind.wrap_u8]; omega
      have hcv := conv_one (48 + r)
      have hq'' := Lib.hid hq'
      have hr'' := Lib.hid hr'
      clear hq' hr'
      have IH := fun w => ih (k / 10) (by omega) q w q1 q2 (by have := hq''.out; omega)
      clear ih
      obtain ⟨A, hA⟩ : ∃ A, bs (Lib.decDigits q.toNat) = A := ⟨_, rfl⟩
      obtain ⟨B, hB⟩ : ∃ B, bs [UInt8.ofNat (48 + r).toNat] = B := ⟨_, rfl⟩
      have hz : ¬ (9223372036854775807 < A.size + B.size) := by
        rw [← hA, ← hB, bs_size, bs_size, Lib.decDigits_length]
        have := Lib.nDigits_le20 q.toNat (by omega)
        simp only [List.length_cons, List.length_nil]; omega
      have hAB : A ++ B = bs (Lib.decDigits n.toNat) := by
        have e1 := hq''.out
        have e2 := hr''.out
        rw [← hA, ← hB, bs_app, dec_step (u := n.toNat) (by omega), show q.toNat = n.toNat / 10 by omega, show (48 + r).toNat = 48 + n.toNat % 10 by omega]
      rw [hA] at IH
      rw [hB] at hcv
      have hAB := Lib.hid hAB
      clear hA hB
      go_enter Tryz.func42, Tryz.ntmps42
      go_upto_region 3 with fail
      go_region_with (go_at_call 42; refine (IH _).mono ?_; rintro e w' ⟨rfl, hb⟩; obtain ⟨hc, hf⟩ := bcell hb)
      all_goals (go_wp2_with fail; go_ret; exact ⟨rfl, by (repeat' (first | (with_reducible exact Below.refl _ _) | (with_reducible assumption) | (with_reducible refine below_al ?_ _) | (with_reducible refine Below.drew ?_) | (with_reducible refine Below.setCell ?_ (by first | exact Nat.le_refl _ | (dsimp only; omega) | (simp; omega)) _) | (with_reducible refine below_drewN ?_ _) | (with_reducible refine below_tt ?_ (by assumption))))⟩)

/-- A numeral, as the walk wants it. -/
theorem l01Dec_is {n : Int} {A : ByteArray} (hA : bs (Lib.decDigits n.toNat) = A) (h0 : 0 ≤ n) (h1 : n ≤ 9223372036854775807) (w : World) :
    Calls Tryz.prog 42 #[.int .i64 n] w fun e w' => e = .returned (.string A) ∧ Below w.heap.size w w' := by
  subst hA; exact l01Dec_any n.toNat n w h0 h1 (Nat.le_refl _)

/-- The first so many pieces joined. -/
def joinB (zs : List ByteArray) (c : UInt8) : ByteArray := bs (Lib.join (zs.map (·.data.toList)) [c])
theorem join_snoc (ps : List (List UInt8)) (p : List UInt8) (sep : List UInt8) (h : ps ≠ []) : Lib.join (ps ++ [p]) sep = Lib.join ps sep ++ (sep ++ p) := by
  cases ps with
  | nil => exact absurd rfl h
  | cons q r =>
    rw [List.cons_append, Lib.join_cons, Lib.join_cons]
    simp [Lib.joinTail, List.append_assoc]
/-- All lengths together. -/
def lensB (zs : List ByteArray) : Nat := (zs.map (·.size)).sum
theorem joinB_step (zs : List ByteArray) (k : Nat) (h : k < zs.length) : joinB (zs.take (k + 1)) 44 = (if k = 0 then ByteArray.empty else joinB (zs.take k) 44 ++ ⟨#[44]⟩) ++ gT zs k := by
  have e : zs.take (k + 1) = zs.take k ++ [zs[k]] := by rw [List.take_add_one, List.getElem?_eq_getElem h]; rfl
  have eg : gT zs k = zs[k] := by simp [gT, List.getD_eq_getElem?_getD, List.getElem?_eq_getElem h]
  rw [eg, ← bs_of zs[k]]
  unfold joinB
  rw [e, List.map_append, List.map_cons, List.map_nil]
  split
  · rename_i h0
    subst h0
    simp [Lib.join_one]
  · rename_i h0
    rw [join_snoc _ _ _ (by intro h9; have := congrArg List.length h9; rw [List.length_map, List.length_take, List.length_nil] at this; omega)]
    rw [show (⟨#[44]⟩ : ByteArray) = bs [44] from rfl, bs_app, bs_app, List.append_assoc]
theorem joinB_size (zs : List ByteArray) : (joinB zs 44).size ≤ lensB zs + zs.length := by
  unfold joinB lensB
  rw [bs_size]
  cases zs with
  | nil => simp [Lib.join_nil]
  | cons z r =>
    rw [List.map_cons, Lib.join_length]
    simp only [Lib.lens, List.map_cons, List.map_map, List.length_map, List.length_cons, List.length_nil, List.sum_cons, Function.comp_def]
    simp only [list_size]
    omega
end Go.Proofs.YtpinngcdojbndaaGreatDoor
