/- The text of a set of days, and what is read from a text: plain Lean, no program in sight. -/
import Derived.Test.YtpinngcdojbndaaGreatDoorSets
import Derived.Lib.SplitLaws
import Derived.Lib.Join
import Derived.Lib.ItoaNum
import Derived.Lib.ItoaLen
import Derived.Lib.ParseIntBCases
import Derived.Lib.ParseIntBTie
namespace Go.Proofs.YtpinngcdojbndaaGreatDoor

/-! ### Cut at every instance of a byte -/
def splitC (c : UInt8) : List UInt8 → List (List UInt8)
  | [] => [[]]
  | b :: l => if b = c then [] :: splitC c l else match splitC c l with
    | [] => [[b]]
    | p :: r => (b :: p) :: r
theorem splitC_ne (c : UInt8) : ∀ l, splitC c l ≠ []
  | [] => by simp [splitC]
  | b :: l => by
    unfold splitC
    split
    · simp
    · split <;> simp
theorem splitC_app (c : UInt8) : ∀ (p r : List UInt8), c ∉ p → splitC c (p ++ c :: r) = p :: splitC c r
  | [], r, _ => by simp [splitC]
  | b :: p, r, h => by
    rw [List.mem_cons, not_or] at h
    have hb : ¬ b = c := fun e => h.1 e.symm
    rw [List.cons_append, splitC, if_neg hb, splitC_app c p r h.2]
theorem splitC_one (c : UInt8) : ∀ (p : List UInt8), c ∉ p → splitC c p = [p]
  | [], _ => rfl
  | b :: p, h => by
    rw [List.mem_cons, not_or] at h
    have hb : ¬ b = c := fun e => h.1 e.symm
    rw [splitC, if_neg hb, splitC_one c p h.2]
theorem index_byte (c : UInt8) (s : List UInt8) : (Lib.index s [c] = -1 ∧ c ∉ s) ∨ ∃ i : Nat, Lib.index s [c] = i ∧ c ∉ s.take i ∧ s = s.take i ++ c :: s.drop (i + 1) := by
  rcases Lib.index_spec s [c] with ⟨h1, h2⟩ | ⟨i, h1, h2, h3, h4⟩
  · refine Or.inl ⟨h1, fun hm => ?_⟩
    obtain ⟨j, hj, e⟩ := List.mem_iff_getElem.1 hm
    have := h2 j (by omega)
    rw [Lib.occAt, List.drop_eq_getElem_cons hj, e] at this
    simp [List.isPrefixOf] at this
  · have hi : s[i]? = some c := Lib.occAt_head rfl h3
    obtain ⟨hlt, he⟩ := List.getElem?_eq_some_iff.1 hi
    refine Or.inr ⟨i, h1, fun hm => ?_, ?_⟩
    · obtain ⟨j, hj, e⟩ := List.mem_iff_getElem.1 hm
      rw [List.length_take] at hj
      have hjs : j < s.length := by omega
      rw [List.getElem_take] at e
      have := h4 j (by omega)
      rw [Lib.occAt, List.drop_eq_getElem_cons hjs, e] at this
      simp [List.isPrefixOf] at this
    · conv => lhs; rw [← List.take_append_drop i s, List.drop_eq_getElem_cons hlt, he]
theorem splitK_is (c : UInt8) : ∀ (n : Nat) (s : List UInt8), s.length ≤ n → Lib.splitK [c] 0 (Lib.count s [c]) s = splitC c s := by
  intro n
  induction n with
  | zero =>
    intro s hs
    have : s = [] := List.length_eq_zero_iff.1 (by omega)
    subst this
    rw [Lib.count_miss (by simp [Lib.index])]
    rfl
  | succ n ih =>
    intro s hs
    rcases index_byte c s with ⟨h1, h2⟩ | ⟨i, h1, h2, h3⟩
    · rw [Lib.count_miss h1, splitC_one c s h2]; rfl
    · rw [Lib.count_hit (by simp) h1, Nat.add_comm, Lib.splitK, if_neg (by rw [h1, beq_iff_eq]; omega), h1]
      have hl : (s.drop (i + 1)).length ≤ n := by rw [List.length_drop]; have := congrArg List.length h3; simp at this; omega
      have e : splitC c s = s.take i :: splitC c (s.drop (i + 1)) := by
        conv => lhs; rw [h3]
        exact splitC_app c _ _ h2
      rw [e, ← ih _ hl]
      simp
theorem splitB_is (c : UInt8) (s : ByteArray) : (Lib.splitB ⟨#[c]⟩ 0 (Lib.countB s ⟨#[c]⟩) s).map (·.data.toList) = splitC c s.data.toList := by
  rw [Lib.splitB_data]
  exact splitK_is c _ _ (Nat.le_refl _)
theorem join_cons2 (p : List UInt8) (q : List UInt8) (r : List (List UInt8)) (sep : List UInt8) : Lib.join (p :: q :: r) sep = p ++ (sep ++ Lib.join (q :: r) sep) := by
  rw [Lib.join_cons, Lib.join_cons]
  simp [Lib.joinTail, List.append_assoc]
theorem split_join (c : UInt8) : ∀ (ps : List (List UInt8)), ps ≠ [] → (∀ p ∈ ps, c ∉ p) → splitC c (Lib.join ps [c]) = ps
  | [], h, _ => absurd rfl h
  | [p], _, h => by rw [Lib.join_one, splitC_one c p (h p (by simp))]
  | p :: q :: r, _, h => by
    rw [join_cons2, List.singleton_append, splitC_app c p _ (h p (by simp)), split_join c (q :: r) (by simp) (fun x hx => h x (by simp [hx]))]
theorem join_split (c : UInt8) : ∀ (s : List UInt8), Lib.join (splitC c s) [c] = s
  | [] => by simp [splitC, Lib.join_one]
  | b :: l => by
    have ih := join_split c l
    unfold splitC
    split
    · rename_i e
      subst e
      cases h : splitC b l with
      | nil => exact absurd h (splitC_ne b l)
      | cons p r => rw [h] at ih; rw [join_cons2, ih]; rfl
    · cases h : splitC c l with
      | nil => exact absurd h (splitC_ne c l)
      | cons p r =>
        rw [h] at ih
        dsimp only
        cases r with
        | nil => rw [Lib.join_one] at ih ⊢; rw [ih]
        | cons q r => rw [join_cons2] at ih ⊢; rw [List.cons_append, ih]

/-! ### Decimal numerals -/
def isDig (b : UInt8) : Prop := 48 ≤ b.toNat ∧ b.toNat ≤ 57
theorem digit_nat {k : Nat} (h : k < 10) : (UInt8.ofNat (48 + k)).toNat = 48 + k := by
  rw [UInt8.toNat_ofNat']; omega
theorem dec_digits (u : Nat) : ∀ b ∈ Lib.decDigits u, isDig b := by
  induction u using Nat.strongRecOn with
  | _ u ih =>
    rw [Lib.decDigits]
    split
    · intro b hb
      rw [List.mem_singleton] at hb
      subst hb
      unfold isDig
      rw [digit_nat (by omega)]; omega
    · intro b hb
      rw [List.mem_append, List.mem_singleton] at hb
      rcases hb with hb | hb
      · exact ih (u / 10) (by omega) b hb
      · subst hb
        unfold isDig
        rw [digit_nat (by omega)]; omega
theorem dec_ne (u : Nat) : Lib.decDigits u ≠ [] := by
  intro h
  have := Lib.decDigits_length u
  rw [h] at this
  have := Lib.nDigits_pos u
  simp at *; omega
/-- What digits spell. -/
def valD (l : List UInt8) : Nat := l.foldl (fun n b => n * 10 + (b.toNat - 48)) 0
theorem val_dec (u : Nat) : valD (Lib.decDigits u) = u := by
  induction u using Nat.strongRecOn with
  | _ u ih =>
    rw [Lib.decDigits]
    split
    · simp only [valD, List.foldl_cons, List.foldl_nil]; rw [digit_nat (by omega)]; omega
    · have := ih (u / 10) (by omega)
      unfold valD at this ⊢
      rw [List.foldl_append, this]
      simp only [List.foldl_cons, List.foldl_nil]
      rw [digit_nat (by omega)]; omega
theorem dec_inj {u v : Nat} (h : Lib.decDigits u = Lib.decDigits v) : u = v := by rw [← val_dec u, ← val_dec v, h]
theorem itoa_nat (u : Nat) : Lib.itoa (u : Int) = Lib.decDigits u := by unfold Lib.itoa; rw [if_neg (by omega)]; simp
theorem val_mono (l : List UInt8) (a : Nat) : a ≤ l.foldl (fun n b => n * 10 + (b.toNat - 48)) a := by
  induction l generalizing a with
  | nil => exact Nat.le_refl _
  | cons b l ih => rw [List.foldl_cons]; have := ih (a * 10 + (b.toNat - 48)); omega
theorem parse_digits (M : Nat) (hM : M ≤ 18446744073709551615) : ∀ (l : List UInt8) (a : Nat), (∀ b ∈ l, isDig b) → l.foldl (fun n b => n * 10 + (b.toNat - 48)) a ≤ M → Lib.parseUintM M a l = .ok (l.foldl (fun n b => n * 10 + (b.toNat - 48)) a)
  | [], a, _, _ => rfl
  | b :: l, a, hd, hv => by
    have hb := hd b (by simp)
    rw [List.foldl_cons] at hv ⊢
    have := val_mono l (a * 10 + (b.toNat - 48))
    unfold isDig at hb
    rw [Lib.parseUintM, if_pos hb, if_neg (by omega), if_neg (by omega)]
    exact parse_digits M hM l _ (fun x hx => hd x (by simp [hx])) hv
theorem parse_dec (u : Nat) (h : u < 9223372036854775808) : Lib.parseIntB 64 (Lib.decDigits u) = .ok (u : Int) := by
  have hd := dec_digits u
  have hv := val_dec u
  cases hl : Lib.decDigits u with
  | nil => exact absurd hl (dec_ne u)
  | cons b l =>
    rw [hl] at hd hv
    have hb := hd b (by simp)
    unfold isDig at hb
    have e : Lib.parseUintB 64 (b :: l) = .ok u := by
      unfold Lib.parseUintB
      rw [if_neg (by simp)]
      unfold valD at hv
      have := parse_digits (2 ^ 64 - 1) (by decide) (b :: l) 0 hd (by rw [hv]; omega)
      rw [this, hv]
    rw [Lib.parseIntB_plain 64 b l (by omega) (by omega), e]
    show (if 2 ^ (64 - 1) ≤ u then Lib.NumEnd.range else Lib.NumEnd.ok (u : Int)) = _
    rw [if_neg (by omega)]

/-- What impl.number reads. -/
def numR (l : List UInt8) : Int × Bool := match Lib.parseIntB 64 l with
  | .ok v => if v < 0 then (0, false) else if Lib.itoa v = l then (v, true) else (0, false)
  | _ => (0, false)
theorem numR_dec (u : Nat) (h : u < 9223372036854775808) : numR (Lib.decDigits u) = ((u : Int), true) := by
  unfold numR; rw [parse_dec u h]; dsimp only; rw [if_neg (by omega), itoa_nat, if_pos rfl]
theorem numR_t {l : List UInt8} {v : Int} (h : numR l = (v, true)) : 0 ≤ v ∧ v ≤ 9223372036854775807 ∧ l = Lib.decDigits v.toNat := by
  unfold numR at h
  split at h
  · rename_i x hx
    split at h
    · simp at h
    · split at h
      · rename_i h1 h2
        injection h with h3 _
        subst h3
        have hb := Lib.parseIntB_64 l
        have := Lib.atoiAll_bounds (l := l) (v := x) (by rw [← hb]; exact hx)
        refine ⟨by omega, this.2, ?_⟩
        rw [← h2]; unfold Lib.itoa; rw [if_neg h1]
      · simp at h
  · simp at h

/-! ### A span's text -/
def partL (x : Int × Int) : List UInt8 := if x.1 < x.2 then Lib.decDigits x.1.toNat ++ ([46, 46] ++ Lib.decDigits x.2.toNat) else Lib.decDigits x.1.toNat
def textL (xs : List (Int × Int)) : List UInt8 := if xs = [] then [45] else Lib.join (xs.map partL) [44]
theorem not_dig {b : UInt8} {l : List UInt8} (h : ∀ x ∈ l, isDig x) (hb : ¬ isDig b) : b ∉ l := fun hm => hb (h b hm)
theorem partL_no44 (x : Int × Int) : (44 : UInt8) ∉ partL x := by
  have h1 := not_dig (dec_digits x.1.toNat) (b := 44) (by unfold isDig; decide)
  have h2 := not_dig (dec_digits x.2.toNat) (b := 44) (by unfold isDig; decide)
  unfold partL
  split
  · simp only [List.mem_append, List.mem_cons, List.not_mem_nil, or_false, not_or]
    exact ⟨h1, ⟨by decide, by decide⟩, h2⟩
  · exact h1
theorem text_parts {xs : List (Int × Int)} (h : xs ≠ []) : splitC 44 (textL xs) = xs.map partL := by
  unfold textL
  rw [if_neg h]
  refine split_join 44 _ (by simpa using h) (fun p hp => ?_)
  obtain ⟨x, _, rfl⟩ := List.mem_map.1 hp
  exact partL_no44 x

/-- How impl.ReadSet reads a piece. -/
def readI (p : List UInt8) : Option (Int × Int) :=
  let c := Lib.cut p [46, 46]
  let a := numR c.1
  let b := numR (if c.2.2 = true then c.2.1 else c.1)
  if a.2 = true ∧ b.2 = true ∧ ¬ (c.2.2 = true ∧ a.1 = b.1) then some (a.1, b.1) else none
theorem cut_none {p : List UInt8} (h : (46 : UInt8) ∉ p) : Lib.cut p [46, 46] = (p, [], false) := by
  have e : Lib.index p [46, 46] = -1 := by
    refine Lib.index_none fun j _ => ?_
    cases ho : Lib.occAt p [46, 46] j with
    | false => rfl
    | true => exact absurd (List.mem_of_getElem? (Lib.occAt_head rfl ho)) h
  unfold Lib.cut; rw [e, if_neg (by omega)]
theorem cut_at {p q : List UInt8} (h : (46 : UInt8) ∉ p) : Lib.cut (p ++ ([46, 46] ++ q)) [46, 46] = (p, q, true) := by
  have e : Lib.index (p ++ ([46, 46] ++ q)) [46, 46] = p.length := by
    refine Lib.index_first (by simp) ?_ (fun j hj => ?_)
    · unfold Lib.occAt; rw [List.drop_left]; simp [List.isPrefixOf]
    · cases ho : Lib.occAt (p ++ ([46, 46] ++ q)) [46, 46] j with
      | false => rfl
      | true =>
        have := Lib.occAt_head rfl ho
        rw [List.getElem?_append_left hj] at this
        exact absurd (List.mem_of_getElem? this) h
  unfold Lib.cut; rw [e, if_pos (by omega)]
  simp
/-- A span that a text may hold. -/
def okT (x : Int × Int) : Prop := 0 ≤ x.1 ∧ x.1 ≤ x.2 ∧ x.2 ≤ 730499
theorem readI_part {x : Int × Int} (h : okT x) : readI (partL x) = some x := by
  obtain ⟨h1, h2, h3⟩ := h
  have d1 := not_dig (dec_digits x.1.toNat) (b := 46) (by unfold isDig; decide)
  have e1 : ((x.1.toNat : Nat) : Int) = x.1 := by omega
  have e2 : ((x.2.toNat : Nat) : Int) = x.2 := by omega
  unfold readI partL
  split
  · rw [cut_at d1]
    dsimp only
    rw [if_pos rfl, numR_dec _ (by omega), numR_dec _ (by omega), e1, e2, if_pos ⟨rfl, rfl, by rintro ⟨_, h⟩; dsimp only at h; omega⟩]
  · have e3 : x.2 = x.1 := by omega
    have e4 : (x.1, x.1) = x := Prod.ext rfl e3.symm
    rw [cut_none d1]
    simp only [Bool.false_eq_true, if_false, numR_dec _ (show x.1.toNat < 9223372036854775808 by omega), e1, false_and, not_false_eq_true, and_self, if_true, e4]
theorem cut_t {p : List UInt8} {h t : List UInt8} (e : Lib.cut p [46, 46] = (h, t, true)) : p = h ++ ([46, 46] ++ t) := by
  unfold Lib.cut at e
  split at e
  · rename_i hx
    injection e with e1 e2
    injection e2 with e2 _
    rcases Lib.index_spec p [46, 46] with ⟨k1, _⟩ | ⟨i, k1, k2, k3, _⟩
    · omega
    · rw [k1] at e1 e2
      obtain ⟨r, hr⟩ := List.isPrefixOf_iff_prefix.1 k3
      simp only [Int.toNat_natCast] at e1 e2
      have e3 : List.drop (i + 2) p = r := by rw [← List.drop_drop, ← hr]; rfl
      have e4 : t = r := by rw [← e2]; exact e3
      rw [← e1, e4, hr, List.take_append_drop]
  · simp at e
theorem cut_f {p : List UInt8} {h t : List UInt8} (e : Lib.cut p [46, 46] = (h, t, false)) : p = h := by
  unfold Lib.cut at e
  split at e
  · simp at e
  · injection e
theorem readI_ok {p : List UInt8} {x : Int × Int} (h : readI p = some x) (hx : okT x) : partL x = p := by
  obtain ⟨h1, h2, h3⟩ := hx
  unfold readI at h
  obtain ⟨hd, tl, mo, hc⟩ : ∃ hd tl mo, Lib.cut p [46, 46] = (hd, tl, mo) := ⟨_, _, _, rfl⟩
  obtain ⟨a1, a2, ha⟩ : ∃ a1 a2, numR hd = (a1, a2) := ⟨_, _, rfl⟩
  obtain ⟨b1, b2, hb⟩ : ∃ b1 b2, numR tl = (b1, b2) := ⟨_, _, rfl⟩
  rw [hc] at h
  cases mo with
  | true =>
    simp only [if_true, ha, hb, true_and, Option.ite_none_right_eq_some, Option.some.injEq] at h
    obtain ⟨⟨rfl, rfl, q⟩, rfl⟩ := h
    have A := numR_t ha
    have B := numR_t hb
    dsimp only at *
    unfold partL
    dsimp only
    rw [if_pos (by omega), ← A.2.2, ← B.2.2]
    exact (cut_t hc).symm
  | false =>
    simp only [Bool.false_eq_true, if_false, ha, not_false_eq_true, and_true, and_self, Option.ite_none_right_eq_some, Option.some.injEq] at h
    obtain ⟨rfl, rfl⟩ := h
    have A := numR_t ha
    unfold partL
    dsimp only
    rw [if_neg (by omega), ← A.2.2]
    exact (cut_f hc).symm

/-- How the reference reads a piece: the digits of the first nine bytes. -/
def plainL (l : List UInt8) : Int := (l.take 9).foldl (fun n b => if 48 ≤ b.toNat ∧ b.toNat ≤ 57 then 10 * n + (b.toNat - 48 : Nat) else n) 0
def readS (p : List UInt8) : Int × Int := (plainL ((splitC 46 p).headD []), plainL ((splitC 46 p).getLastD []))
theorem plain_fold : ∀ (l : List UInt8) (n : Int) (k : Nat), (∀ b ∈ l, isDig b) → n = k → l.foldl (fun n b => if 48 ≤ b.toNat ∧ b.toNat ≤ 57 then 10 * n + ((b.toNat - 48 : Nat) : Int) else n) n = ((l.foldl (fun n b => n * 10 + (b.toNat - 48)) k : Nat) : Int)
  | [], n, k, _, e => e
  | b :: l, n, k, hd, e => by
    have hb := hd b (by simp)
    unfold isDig at hb
    rw [List.foldl_cons, List.foldl_cons, if_pos hb]
    exact plain_fold l _ _ (fun x hx => hd x (by simp [hx])) (by subst e; omega)
theorem nDigits_small (u : Nat) (h : u ≤ 730499) : Lib.nDigits u ≤ 6 := by
  by_cases k : Lib.nDigits u ≤ 6
  · exact k
  · exfalso
    obtain ⟨j, hj⟩ : ∃ j, Lib.nDigits u = j + 1 := ⟨Lib.nDigits u - 1, by omega⟩
    by_cases hz : u < 10
    · have : Lib.nDigits u = 1 := Lib.nDigits_small hz
      omega
    · have : ∀ n : Nat, ∀ u : Nat, u < 10 ^ (n + 1) → Lib.nDigits u ≤ n + 1 := by
        intro n
        induction n with
        | zero => intro u hu; rw [Lib.nDigits_small (by simpa using hu)]; omega
        | succ n ih =>
          intro u hu
          by_cases h9 : u < 10
          · rw [Lib.nDigits_small h9]; omega
          · rw [Lib.nDigits_big h9]
            have := ih (u / 10) (by rw [Nat.pow_succ] at hu; omega)
            omega
      have := this 5 u (by omega)
      omega
theorem plain_dec (u : Nat) (h : u ≤ 730499) : plainL (Lib.decDigits u) = u := by
  have hl : (Lib.decDigits u).length ≤ 6 := by rw [Lib.decDigits_length]; exact nDigits_small u h
  unfold plainL
  rw [List.take_of_length_le (by omega), plain_fold _ 0 0 (dec_digits u) rfl]
  exact congrArg _ (val_dec u)
theorem readS_part {x : Int × Int} (h : okT x) : readS (partL x) = x := by
  obtain ⟨h1, h2, h3⟩ := h
  have d1 := not_dig (dec_digits x.1.toNat) (b := 46) (by unfold isDig; decide)
  have d2 := not_dig (dec_digits x.2.toNat) (b := 46) (by unfold isDig; decide)
  have e1 : ((x.1.toNat : Nat) : Int) = x.1 := by omega
  have e2 : ((x.2.toNat : Nat) : Int) = x.2 := by omega
  unfold readS partL
  split
  · have e : splitC 46 (Lib.decDigits x.1.toNat ++ ([46, 46] ++ Lib.decDigits x.2.toNat)) = [Lib.decDigits x.1.toNat, [], Lib.decDigits x.2.toNat] := by
      rw [show Lib.decDigits x.1.toNat ++ ([46, 46] ++ Lib.decDigits x.2.toNat) = Lib.decDigits x.1.toNat ++ 46 :: ([] ++ 46 :: Lib.decDigits x.2.toNat) by simp, splitC_app 46 _ _ d1, splitC_app 46 [] _ (by simp), splitC_one 46 _ d2]
    rw [e]
    simp only [List.headD_cons, List.getLastD_cons, List.getLastD_nil]
    rw [plain_dec _ (by omega), plain_dec _ (by omega), e1, e2]
  · rw [splitC_one 46 _ d1]
    simp only [List.headD_cons, List.getLastD_cons, List.getLastD_nil]
    rw [plain_dec _ (by omega), e1, Prod.ext_iff]
    exact ⟨rfl, by dsimp only; omega⟩

/-! ### The two readings of a whole text -/
theorem set_okT {xs : List (Int × Int)} (h : isSet xs = true) : ∀ x ∈ xs, okT x := by
  intro x hx
  obtain ⟨i, hi, rfl⟩ := List.mem_iff_getElem.1 hx
  have h1 := ((isSet_iff.1 h).1 i hi).1
  have e : gS xs i = xs[i] := by unfold gS; simp [List.getElem?_eq_getElem hi]
  rw [e] at h1
  unfold okS at h1
  simp only [Bool.and_eq_true, decide_eq_true_eq] at h1
  have a := inR_t h1.1.1
  have b := inR_t h1.1.2
  unfold okT
  omega
/-- The set that a text spells. -/
def Spells (s : List UInt8) (L : List (Int × Int)) : Prop := isSet L = true ∧ L ≠ [] ∧ textL L = s
theorem spells_parts {s : List UInt8} {L : List (Int × Int)} (h : Spells s L) : splitC 44 s = L.map partL := by rw [← h.2.2, text_parts h.2.1]
theorem map_inj_on {L M : List (Int × Int)} (hL : ∀ x ∈ L, okT x) (hM : ∀ x ∈ M, okT x) (h : L.map partL = M.map partL) : L = M := by
  have e1 : (L.map partL).map readS = L := by rw [List.map_map]; conv => rhs; rw [← List.map_id L]
                                              exact List.map_congr_left fun x hx => readS_part (hL x hx)
  have e2 : (M.map partL).map readS = M := by rw [List.map_map]; conv => rhs; rw [← List.map_id M]
                                              exact List.map_congr_left fun x hx => readS_part (hM x hx)
  rw [← e1, ← e2, h]
theorem spells_one {s : List UInt8} {L M : List (Int × Int)} (h : Spells s L) (k : Spells s M) : L = M :=
  map_inj_on (set_okT h.1) (set_okT k.1) ((spells_parts h).symm.trans (spells_parts k))
open Classical in
/-- What ReadSet gives. -/
noncomputable def readR (s : List UInt8) : List (Int × Int) × Int := if s = [45] then ([], 0) else if h : ∃ L, Spells s L then (h.choose, 0) else ([], 6)
theorem readR_dash : readR [45] = ([], 0) := by unfold readR; rw [if_pos rfl]
theorem readR_yes {s : List UInt8} {L : List (Int × Int)} (hs : s ≠ [45]) (h : Spells s L) : readR s = (L, 0) := by
  have hx : ∃ L, Spells s L := ⟨L, h⟩
  unfold readR
  rw [if_neg hs, dif_pos hx, spells_one hx.choose_spec h]
theorem readR_no {s : List UInt8} (hs : s ≠ [45]) (h : ∀ L, ¬ Spells s L) : readR s = ([], 6) := by
  unfold readR
  rw [if_neg hs, dif_neg (fun ⟨L, k⟩ => h L k)]
theorem readR_len (s : List UInt8) : (readR s).1.length ≤ 300 := by
  by_cases hs : s = [45]
  · subst hs; rw [readR_dash]; simp
  · by_cases h : ∃ L, Spells s L
    · obtain ⟨L, h⟩ := h
      rw [readR_yes hs h]; exact (isSet_iff.1 h.1).2
    · rw [readR_no hs (fun L k => h ⟨L, k⟩)]; simp

/-- The reference: all pieces read, then the text held against the whole. -/
def rawS (s : List UInt8) : List (Int × Int) := (splitC 44 s).map readS
theorem rawS_ne (s : List UInt8) : rawS s ≠ [] := by unfold rawS; simpa using splitC_ne 44 s
theorem spec_reads {s : List UInt8} (hs : s ≠ [45]) : readR s = if isSet (rawS s) = true ∧ textL (rawS s) = s then (rawS s, 0) else ([], 6) := by
  split
  · rename_i h
    exact readR_yes hs ⟨h.1, rawS_ne s, h.2⟩
  · rename_i h
    refine readR_no hs fun L k => h ?_
    have e : rawS s = L := by
      unfold rawS
      rw [spells_parts k, List.map_map]
      conv => rhs; rw [← List.map_id L]
      exact List.map_congr_left fun x hx => readS_part (set_okT k.1 x hx)
    rw [e]; exact ⟨k.1, k.2.2⟩
/-- The program: the pieces read one by one. -/
theorem impl_bad {s p : List UInt8} (hs : s ≠ [45]) (hp : p ∈ splitC 44 s) (h : readI p = none) : readR s = ([], 6) := by
  refine readR_no hs fun L k => ?_
  rw [spells_parts k] at hp
  obtain ⟨x, hx, rfl⟩ := List.mem_map.1 hp
  rw [readI_part (set_okT k.1 x hx)] at h
  simp at h
theorem impl_reads {s : List UInt8} {L : List (Int × Int)} (hs : s ≠ [45]) (h : (splitC 44 s).map readI = L.map some) : readR s = if isSet L = true then (L, 0) else ([], 6) := by
  have hne : L ≠ [] := by
    rintro rfl
    exact splitC_ne 44 s (by simpa using h)
  split
  · rename_i hS
    refine readR_yes hs ⟨hS, hne, ?_⟩
    unfold textL
    rw [if_neg hne]
    have e : L.map partL = splitC 44 s := by
      have hl : (splitC 44 s).length = L.length := by simpa using congrArg List.length h
      refine List.ext_getElem (by simp [hl]) (fun i h1 h2 => ?_)
      rw [List.getElem_map]
      have hi : i < L.length := by simpa using h1
      have : readI (splitC 44 s)[i] = some L[i] := by
        have := congrArg (fun l => l[i]?) h
        simpa [List.getElem?_eq_getElem h2, List.getElem?_eq_getElem hi] using this
      exact readI_ok this (set_okT hS _ (List.getElem_mem hi))
    rw [e, join_split]
  · rename_i hS
    refine readR_no hs fun M k => hS ?_
    rw [spells_parts k, List.map_map] at h
    have e : M.map (some ∘ id) = L.map some := by
      rw [← h]
      exact List.map_congr_left fun x hx => (readI_part (set_okT k.1 x hx)).symm
    have : M = L := by
      have := congrArg (List.map (fun o : Option (Int × Int) => o.getD (0, 0))) e
      simpa [List.map_map, Function.comp_def] using this
    rw [← this]; exact k.1
end Go.Proofs.YtpinngcdojbndaaGreatDoor
