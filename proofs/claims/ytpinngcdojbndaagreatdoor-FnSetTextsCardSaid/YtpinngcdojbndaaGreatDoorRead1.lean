/- The reference's split at a byte, and its reading of digits. -/
import Derived.Test.YtpinngcdojbndaaGreatDoorText2
namespace Go.Proofs.YtpinngcdojbndaaGreatDoor
open Go.RowKit

/-- Where the split stands: f: the piece's begin; i: the byte that is looked at next. -/
def SplitAt (c : UInt8) (L : List UInt8) (f i : Nat) (done : List (List UInt8)) : Prop :=
  done.length ≤ i ∧ ((i ≤ L.length ∧ f ≤ i ∧ splitC c L = done ++ splitC c (L.drop f) ∧ c ∉ (L.drop f).take (i - f)) ∨ (i = L.length + 1 ∧ splitC c L = done))
theorem splitAt_start (c : UInt8) (L : List UInt8) : SplitAt c L 0 0 [] := ⟨by simp, Or.inl ⟨by omega, by omega, by simp, by simp⟩⟩
theorem splitAt_skip {c : UInt8} {L : List UInt8} {f i : Nat} {done : List (List UInt8)} (h : SplitAt c L f i done) (hi : i < L.length) (hne : L[i] ≠ c) : SplitAt c L f (i + 1) done := by
  obtain ⟨h0, h | h⟩ := h
  · obtain ⟨h1, h2, h3, h4⟩ := h
    refine ⟨by omega, Or.inl ⟨by omega, by omega, h3, ?_⟩⟩
    rw [show i + 1 - f = (i - f) + 1 by omega, List.take_add_one]
    simp only [List.mem_append, not_or]
    refine ⟨h4, ?_⟩
    rw [List.getElem?_drop, show f + (i - f) = i by omega, List.getElem?_eq_getElem hi]
    simp
    exact fun e => hne e.symm
  · omega
theorem splitAt_hit {c : UInt8} {L : List UInt8} {f i : Nat} {done : List (List UInt8)} (h : SplitAt c L f i done) (hi : i < L.length) (he : L[i] = c) : SplitAt c L (i + 1) (i + 1) (done ++ [(L.drop f).take (i - f)]) := by
  obtain ⟨h0, h | h⟩ := h
  · obtain ⟨h1, h2, h3, h4⟩ := h
    refine ⟨by rw [List.length_append, List.length_singleton]; omega, Or.inl ⟨by omega, by omega, ?_, by simp⟩⟩
    rw [h3, List.append_assoc]
    congr 1
    have e : L.drop f = (L.drop f).take (i - f) ++ c :: L.drop (i + 1) := by
      conv => lhs; rw [← List.take_append_drop (i - f) (L.drop f)]
      rw [List.drop_drop, show f + (i - f) = i by omega, List.drop_eq_getElem_cons hi, he]
    conv => lhs; rw [e]
    exact splitC_app c _ _ h4
  · omega
theorem splitAt_end {c : UInt8} {L : List UInt8} {f i : Nat} {done : List (List UInt8)} (h : SplitAt c L f i done) (hi : i = L.length) : SplitAt c L (i + 1) (i + 1) (done ++ [(L.drop f).take (i - f)]) := by
  obtain ⟨h0, h | h⟩ := h
  · obtain ⟨h1, h2, h3, h4⟩ := h
    refine ⟨by rw [List.length_append, List.length_singleton]; omega, Or.inr ⟨by omega, ?_⟩⟩
    have e : (L.drop f).take (i - f) = L.drop f := List.take_of_length_le (by rw [List.length_drop]; omega)
    rw [e] at h4 ⊢
    rw [h3, splitC_one c _ h4]
  · omega
theorem splitAt_done {c : UInt8} {L : List UInt8} {f i : Nat} {done : List (List UInt8)} (h : SplitAt c L f i done) (hi : i = L.length + 1) : splitC c L = done := by
  obtain ⟨_, h | h⟩ := h
  · omega
  · exact h.2
theorem ext_bs (s : ByteArray) (f i : Nat) : s.extract f i = bs ((s.data.toList.drop f).take (i - f)) := by
  apply ByteArray.ext
  rw [← Array.toList_inj]
  show (s.extract f i).data.toList = (bs _).data.toList
  rw [bs_list, Lib.extract_data]
theorem byte_at (s : ByteArray) (i : Nat) (h : i < s.size) : s[i] = s.data.toList[i]'(by rw [list_size]; exact h) := by
  simp [ByteArray.getElem_eq_getElem_data]

set_option maxRecDepth 10000 in
set_option maxHeartbeats 4000000 in
theorem l01Split_any (s : ByteArray) (c : UInt8) (w : World) (hs : s.size ≤ 2000000) :
    Calls Tryz.prog 27 #[.string s, .int .u8 (c.toNat : Int)] w fun e w' => ∃ v, e = .returned v ∧ OwnT w' w.heap.size v ((splitC c s.data.toList).map bs) ∧ Below w.heap.size w w' := by
  have hB := Below.refl w.heap.size w
  have hL := list_size s
  go_enter Tryz.func27, Tryz.ntmps27
  go_wp2_with fail
  go_loopw [5, 6, 7] (fun s5 s6 s7 wr => ∃ (f i : Nat) (done : List (List UInt8)), i ≤ s.size + 1 ∧ f ≤ i ∧ s6 = .int .i64 f ∧ s7 = .int .i64 i ∧ OwnT wr w.heap.size s5 (done.map bs) ∧ Hid (SplitAt c s.data.toList f i done) ∧ Below w.heap.size w wr) (fun _ _ s7 _ => s.size + 2 - (intOf s7).toNat)
  case atStart => exact ⟨0, 0, [], by omega, by omega, rfl, rfl, OwnT.made w (Nat.le_refl _), Lib.hid (splitAt_start c _), by (repeat' (first | (with_reducible exact Below.refl _ _) | (with_reducible assumption) | (with_reducible refine below_al ?_ _) | (with_reducible refine Below.drew ?_) | (with_reducible refine Below.setCell ?_ (by first | exact Nat.le_refl _ | (dsimp only; omega) | (simp; omega)) _) | (with_reducible refine below_drewN ?_ _) | (with_reducible refine below_tt ?_ (by assumption))))⟩
  case round =>
    clear hB
    obtain ⟨f, i, done, hi, hf, rfl, rfl, hO, hS, hB⟩ := hrel
    have hdl := hS.out.1
    by_cases hle : i ≤ s.size
    · by_cases heq : i = s.size
      · have hS2 := Lib.hid (splitAt_end hS.out (by omega))
        have d1 : ((i : Int) == (s.size : Int)) = true := by simp [heq]
        have d2 : decide ((i : Int) ≤ (s.size : Int)) = true := decide_eq_true (by omega)
        clear heq
        have e1 := Lib.hid (ext_bs s f i)
        go_wp2_with (at_builtin; refine app_str (w0 := w) (p := s.extract f i) (zs := done.map bs) (by (repeat' (first | (with_reducible exact Below.refl _ _) | (with_reducible assumption) | (with_reducible refine below_al ?_ _) | (with_reducible refine Below.drew ?_) | (with_reducible refine Below.setCell ?_ (by first | exact Nat.le_refl _ | (dsimp only; omega) | (simp; omega)) _) | (with_reducible refine below_drewN ?_ _) | (with_reducible refine below_tt ?_ (by assumption))))) (hO.alloc _) (by rw [List.length_map]; omega) rfl _ _ rfl rfl rfl (by simp [go_sem]) ?_; intro v6 w6 hO6 hB6)
        go_roundw
        case rel => exact ⟨i + 1, i + 1, done ++ [(s.data.toList.drop f).take (i - f)], by omega, by omega, by simp, by simp, by rw [List.map_append, List.map_cons, List.map_nil, ← e1.out]; exact hO6, hS2, hB6⟩
        case measure => simp [intOf]; omega
      · have hlt : i < s.size := by omega
        have d1 : ((i : Int) == (s.size : Int)) = false := by rw [beq_eq_false_iff_ne]; omega
        have d2 : decide ((i : Int) ≤ (s.size : Int)) = true := decide_eq_true (by omega)
        have e1 := Lib.hid (ext_bs s f i)
        have hby := byte_at s i hlt
        by_cases hc : s.data.toList[i]'(by omega) = c
        · have hS2 := Lib.hid (splitAt_hit hS.out (by omega) hc)
          have d3 : ((s[i].toNat : Int) == (c.toNat : Int)) = true := by rw [hby, hc]; simp
          go_wp2_with (at_builtin; refine app_str (w0 := w) (p := s.extract f i) (zs := done.map bs) (by (repeat' (first | (with_reducible exact Below.refl _ _) | (with_reducible assumption) | (with_reducible refine below_al ?_ _) | (with_reducible refine Below.drew ?_) | (with_reducible refine Below.setCell ?_ (by first | exact Nat.le_refl _ | (dsimp only; omega) | (simp; omega)) _) | (with_reducible refine below_drewN ?_ _) | (with_reducible refine below_tt ?_ (by assumption))))) (hO.alloc _) (by rw [List.length_map]; omega) rfl _ _ rfl rfl rfl (by simp [go_sem]) ?_; intro v6 w6 hO6 hB6)
          go_roundw
          case rel => exact ⟨i + 1, i + 1, done ++ [(s.data.toList.drop f).take (i - f)], by omega, by omega, by simp, by simp, by rw [List.map_append, List.map_cons, List.map_nil, ← e1.out]; exact hO6, hS2, hB6⟩
          case measure => simp [intOf]; omega
        · have hS2 := Lib.hid (splitAt_skip hS.out (by omega) hc)
          have d3 : ((s[i].toNat : Int) == (c.toNat : Int)) = false := by
            rw [beq_eq_false_iff_ne, hby]
            intro e
            exact hc (UInt8.toNat_inj.1 (by omega))
          have d4 : ¬ (s[i].toNat = c.toNat) := by rw [hby]; exact fun e => hc (UInt8.toNat_inj.1 e)
          have d5 : ¬ (s[i] = c) := by rw [hby]; exact hc
          clear hby
          go_wp2_with fail
          go_roundw
          case rel => exact ⟨f, i + 1, done, by omega, by omega, by simp, by simp, hO, hS2, hB⟩
          case measure => simp [intOf]; omega
    · have hS2 := Lib.hid (splitAt_done hS.out (by omega))
      have d2 : decide ((i : Int) ≤ (s.size : Int)) = false := decide_eq_false (by omega)
      go_wp2_with fail
      go_ret
      exact ⟨_, rfl, by rw [hS2.out]; exact hO, hB⟩

def stepP (n : Int) (b : UInt8) : Int := if 48 ≤ b.toNat ∧ b.toNat ≤ 57 then 10 * n + (b.toNat - 48 : Nat) else n
theorem plainL_step (l : List UInt8) : plainL l = (l.take 9).foldl stepP 0 := rfl
theorem fold_bd (l : List UInt8) : ∀ (k : Nat), k ≤ 9 → 0 ≤ (l.take k).foldl stepP 0 ∧ (l.take k).foldl stepP 0 < 10 ^ k := by
  intro k
  induction k with
  | zero => intro _; simp
  | succ k ih =>
    intro hk
    have h := ih (by omega)
    rw [List.take_add_one, List.foldl_append]
    generalize (l.take k).foldl stepP 0 = n at h ⊢
    have hp : (10 : Int) ^ (k + 1) = 10 ^ k * 10 := by rw [Int.pow_succ]
    generalize (10 : Int) ^ k = P at h hp
    rw [hp]
    cases l[k]? with
    | none => simp; omega
    | some b => simp only [Option.toList_some, List.foldl_cons, List.foldl_nil]; unfold stepP; split <;> omega
theorem fold_next {l : List UInt8} {k : Nat} (h : k < l.length) : (l.take (k + 1)).foldl stepP 0 = stepP ((l.take k).foldl stepP 0) l[k] := by
  rw [List.take_add_one, List.foldl_append, List.getElem?_eq_getElem h]; rfl
theorem plain_end {l : List UInt8} {k : Nat} (h1 : k ≤ 9) (h2 : k ≤ l.length) (h : k = 9 ∨ k = l.length) : (l.take k).foldl stepP 0 = plainL l := by
  rw [plainL_step]
  rcases h with rfl | rfl
  · rfl
  · rw [List.take_length, List.take_of_length_le h1]
theorem fold_small (l : List UInt8) (k : Nat) (hk : k ≤ 9) : 0 ≤ (l.take k).foldl stepP 0 ∧ (l.take k).foldl stepP 0 ≤ 1000000000 := by
  have h := fold_bd l k hk
  have : (10 : Int) ^ k ≤ 1000000000 := by
    have : (10 : Nat) ^ k ≤ 10 ^ 9 := Nat.pow_le_pow_right (by decide) hk
    have h2 : ((10 ^ k : Nat) : Int) ≤ ((10 ^ 9 : Nat) : Int) := Int.ofNat_le.2 this
    simpa using h2
  omega

set_option maxRecDepth 10000 in
set_option maxHeartbeats 4000000 in
theorem l01Plain_any (s : ByteArray) (w : World) (hs : s.size ≤ 2000000) :
    Calls Tryz.prog 28 #[.string s] w fun e w' => e = .returned (.int .i64 (plainL s.data.toList)) ∧ w = w' := by
  have hL := list_size s
  go_enter Tryz.func28, Tryz.ntmps28
  go_wp2_with fail
  go_loopw [3, 4] (fun s3 s4 wr => ∃ (i : Nat), i ≤ 9 ∧ i ≤ s.size ∧ s4 = .int .i64 i ∧ s3 = .int .i64 ((s.data.toList.take i).foldl stepP 0) ∧ w = wr) (fun _ s4 _ => 10 - (intOf s4).toNat)
  case atStart => exact ⟨0, by omega, by omega, rfl, rfl, rfl⟩
  case round =>
    obtain ⟨i, h9, hi, rfl, rfl, rfl⟩ := hrel
    by_cases hlt : i < s.size
    · have d1 : decide ((i : Int) < (s.size : Int)) = true := decide_eq_true (by omega)
      by_cases hl9 : i < 9
      · have d2 : decide ((i : Int) < 9) = true := decide_eq_true (by omega)
        have hby := byte_at s i hlt
        have hst := fold_next (l := s.data.toList) (k := i) (by omega)
        have hbd := fold_small s.data.toList i h9
        rw [← hby] at hst
        generalize (s.data.toList.take i).foldl stepP 0 = n at hst hbd ⊢
        clear hby
        obtain ⟨n0, n1⟩ := hbd
        by_cases ha : 48 ≤ s[i].toNat
        · have d3 : decide ((48 : Int) ≤ (s[i].toNat : Int)) = true := decide_eq_true (by omega)
          by_cases hb : s[i].toNat ≤ 57
          · have d4 : decide ((s[i].toNat : Int) ≤ 57) = true := decide_eq_true (by omega)
            have hst2 := Lib.hid (show stepP n s[i] = 10 * n + ((s[i].toNat : Int) - 48) by unfold stepP; rw [if_pos ⟨ha, hb⟩]; omega)
            rw [hst2.out] at hst
            have hst := Lib.hid hst
            have w1 : IntKind.u8.wrap ((s[i].toNat : Int) - 48) = (s[i].toNat : Int) - 48 := by rw [IntKind.wrap_u8]; omega
            go_wp2_with fail
            go_roundw
            case rel => exact ⟨i + 1, by omega, by omega, by simp, by rw [hst.out], by trivial⟩
            case measure => simp [intOf]; omega
          · have d4 : decide ((s[i].toNat : Int) ≤ 57) = false := decide_eq_false (by omega)
            have hst2 := Lib.hid (show stepP n s[i] = n by unfold stepP; rw [if_neg (by omega)])
            rw [hst2.out] at hst
            have hst := Lib.hid hst
            go_wp2_with fail
            go_roundw
            case rel => exact ⟨i + 1, by omega, by omega, by simp, by rw [hst.out], by trivial⟩
            case measure => simp [intOf]; omega
        · have d3 : decide ((48 : Int) ≤ (s[i].toNat : Int)) = false := decide_eq_false (by omega)
          have hst2 := Lib.hid (show stepP n s[i] = n by unfold stepP; rw [if_neg (by omega)])
          rw [hst2.out] at hst
          have hst := Lib.hid hst
          go_wp2_with fail
          go_roundw
          case rel => exact ⟨i + 1, by omega, by omega, by simp, by rw [hst.out], by trivial⟩
          case measure => simp [intOf]; omega
      · have d2 : decide ((i : Int) < 9) = false := decide_eq_false (by omega)
        have he := Lib.hid (plain_end (l := s.data.toList) h9 (by omega) (Or.inl (by omega)))
        go_wp2_with fail
        go_ret
        exact ⟨by rw [← he.out]; rfl, rfl⟩
    · have d1 : decide ((i : Int) < (s.size : Int)) = false := decide_eq_false (by omega)
      have he := Lib.hid (plain_end (l := s.data.toList) h9 (by omega) (Or.inr (by omega)))
      go_wp2_with fail
      go_ret
      exact ⟨by rw [← he.out]; rfl, rfl⟩
end Go.Proofs.YtpinngcdojbndaaGreatDoor
