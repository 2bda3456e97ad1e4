/- The plain law of FnSetTexts: a text is found again, a set is found from its text, a made set has the ends of its spans. -/
import Derived.Test.YtpinngcdojbndaaGreatDoorText2
import Derived.Test.YtpinngcdojbndaaGreatDoorSetLaw
import Derived.Test.YtpinngcdojbndaaGreatDoorSets4
import Derived.Test.YtpinngcdojbndaaGreatDoorMake2
namespace Go.Proofs.YtpinngcdojbndaaGreatDoor

theorem read_text {s : ByteArray} {x : List (Int × Int)} {one : Int} (h : readR s.data.toList = (x, one)) (h0 : one = 0) : setTextR x = (s, 0) := by
  subst h0
  by_cases hd : s.data.toList = [45]
  · rw [hd, readR_dash] at h
    obtain ⟨rfl, _⟩ := Prod.mk.inj h
    rw [setTextR_t isSet_nil]
    rw [← bs_of s, hd]; rfl
  · by_cases hx : ∃ L, Spells s.data.toList L
    · obtain ⟨L, hL⟩ := hx
      rw [readR_yes hd hL] at h
      obtain ⟨rfl, _⟩ := Prod.mk.inj h
      rw [setTextR_t hL.1, hL.2.2, bs_of]
    · rw [readR_no hd (fun L k => hx ⟨L, k⟩)] at h
      have := (Prod.mk.inj h).2
      omega
theorem part_head (x : Int × Int) : ∃ d r, partL x = d :: r ∧ isDig d := by
  have h1 := dec_digits x.1.toNat
  cases hl : Lib.decDigits x.1.toNat with
  | nil => exact absurd hl (dec_ne _)
  | cons d r =>
    rw [hl] at h1
    refine ⟨d, if x.1 < x.2 then r ++ ([46, 46] ++ Lib.decDigits x.2.toNat) else r, ?_, h1 d (by simp)⟩
    unfold partL
    split
    · rw [hl, List.cons_append]
    · exact hl
theorem text_dash {xs : List (Int × Int)} (h : xs ≠ []) : textL xs ≠ [45] := by
  intro e
  have hp := text_parts h
  rw [e] at hp
  cases xs with
  | nil => exact h rfl
  | cons x r =>
    obtain ⟨d, q, hd, hi⟩ := part_head x
    rw [List.map_cons, hd] at hp
    have : splitC 44 [45] = [[45]] := by decide
    rw [this] at hp
    injection hp with h1 _
    injection h1 with h2 _
    subst h2
    unfold isDig at hi
    revert hi
    decide
theorem text_read {t : ByteArray} {xs : List (Int × Int)} {bad : Int} (h : setTextR xs = (t, bad)) (h0 : bad = 0) : readR t.data.toList = (xs, 0) := by
  subst h0
  cases hS : isSet xs
  · rw [setTextR_f hS] at h
    have := (Prod.mk.inj h).2
    omega
  · rw [setTextR_t hS] at h
    obtain ⟨rfl, _⟩ := Prod.mk.inj h
    rw [bs_list]
    by_cases hx : xs = []
    · subst hx; exact readR_dash
    · exact readR_yes (text_dash hx) ⟨hS, hx, rfl⟩
theorem hasB_mem9 {xs : List (Int × Int)} {d : Int} (h : memS xs d) : hasB xs d = true := by
  obtain ⟨s, hs, h1, h2⟩ := h
  exact List.any_eq_true.2 ⟨s, hs, by unfold inR; simp; omega⟩
theorem made_has {xs m : List (Int × Int)} {three : Int} (h : makeR xs = (m, three)) (h0 : three = 0) : ∀ i, i < xs.length → hasR m (gS xs i).1 = (true, 0) ∧ hasR m (gS xs i).2 = (true, 0) := by
  subst h0
  unfold makeR at h
  split at h
  · have := (Prod.mk.inj h).2; omega
  · rename_i hb
    split at h
    · have := (Prod.mk.inj h).2; omega
    · unfold limR at h
      split at h
      · have := (Prod.mk.inj h).2; omega
      · rename_i hl
        obtain ⟨rfl, _⟩ := Prod.mk.inj h
        have hok := badB_ok (by simpa using hb)
        obtain ⟨⟨a, hn⟩, hm⟩ := unite_is (xs := xs) (fun s hs => ok_le (hok s hs))
        have hday : ∀ d, memS xs d → 0 ≤ d ∧ d ≤ 730499 := fun d ⟨s, hs, h1, h2⟩ => by
          have := okS_iff.1 (hok s hs); omega
        have hS : isSet (uniteL xs) = true := isSet_days hn (fun d hd => hday d ((hm d).1 hd)) (by omega)
        have key : ∀ d, memS xs d → hasR (uniteL xs) d = (true, 0) := fun d hd => by
          have hb2 := hasB_mem9 ((hm d).2 hd)
          have hi := hday d hd
          unfold hasR
          rw [if_pos hS, if_pos (inR_mk hi.1 hi.2), hb2]
        intro i hi
        have e : gS xs i = xs[i] := by unfold gS; simp [List.getD_eq_getElem?_getD, List.getElem?_eq_getElem hi]
        have hmem : xs[i] ∈ xs := List.getElem_mem hi
        rw [e]
        have := memS_of hmem (ok_le (hok _ hmem))
        exact ⟨key _ this.2, key _ this.1⟩
end Go.Proofs.YtpinngcdojbndaaGreatDoor
