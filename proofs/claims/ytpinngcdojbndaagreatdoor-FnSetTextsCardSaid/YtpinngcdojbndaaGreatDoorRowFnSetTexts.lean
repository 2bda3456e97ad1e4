/- The row and the card of the law FnSetTexts: the statement holds, for all arguments. No conditions. -/
import Derived.Test.YtpinngcdojbndaaGreatDoorFnSetTexts
import Derived.Test.YtpinngcdojbndaaGreatDoorFacts7
import Derived.Test.YtpinngcdojbndaaGreatDoorBytes
import Derived.ChangeMaps5
namespace Go.Proofs.YtpinngcdojbndaaGreatDoor
open Go.ChangeShapes Go.WideShapes Go.ChangeAt Go.RowKit Go.Joins Go.Deep Go.ChangeMaps
theorem facts_FnSetTexts {W : World} (h : laidMetH Tryz.prog Rows.fnSetTextsRow.laid W) (hs : W.ShapedOpen Tryz.prog) : LF W := lf_of (show laidMet Tryz.prog Rows.fnSetTextsRow.laid W from h) hs
/-! ### The row and the card of FnSetTexts -/
theorem reads_FnSetTexts (os : Os) {H : Type} (enc : TypeId × Value → H) : ∃ places, DataW.whole enc Tryz.prog ((laidWorld os).forCall (fun _ _ => 0) ⟨#[], #[.slice none 0 0], []⟩).memory Tryz.f3.params.toList Rows.fnSetTextsSpec.vars false #[Value.slice none 0 0].toList 8 = some ([.nil], [], places) := ⟨[], by kernel_rfl⟩
theorem met_FnSetTexts (os : Os) : laidMet Tryz.prog Rows.fnSetTextsRow.laid ((laidWorld os).forCall (fun _ _ => 0) ⟨#[], #[.slice none 0 0], []⟩).memory := laidMet_of_run' 8 (by kernel_rfl) (by kernel_rfl)
set_option maxRecDepth 100000 in
theorem lifted_FnSetTexts (os : Os) (started : os.Started) (H : Type) (enc : TypeId × Value → H) (F : Stop.Interp) :
    ReturnsInHanded {} Tryz.checked os 3 .any ((OpenSpec.ofChange Rows.fnSetTextsSpec).preRow enc Tryz.prog Tryz.f3 Rows.fnSetTextsRow.domain false Rows.fnSetTextsRow.laid) (((OpenSpec.ofChange Rows.fnSetTextsSpec).at F).post enc Tryz.prog Tryz.f3 false true false false) := by
  obtain ⟨places, hx⟩ := reads_FnSetTexts os enc
  refine returnsInHanded_of_row (C := Tryz.checked) (s := OpenSpec.ofChange Rows.fnSetTextsSpec) own started (by kernel_rfl) Tryz.func3
    (witness_row_at (enc := enc) (C := Tryz.checked) false (laidWorld os) #[.slice none 0 0] rfl (by kernel_rfl) (by kernel_rfl) (by kernel_rfl)
      (OpenSpec.preRow_of_cond 8 hx (by kernel_rfl) (fun k hk => by cases hk) (by kernel_rfl) (met_FnSetTexts os))) ?_
  intro W base args ds gs before hval0 hW hcnd _ hsz hL0 hsh _
  have hm := facts_FnSetTexts hL0 hsh
  have hval : ∀ (j : Nat) t v, Tryz.f3.params[j]? = some t → args[j]? = some v → Value.okWide Tryz.prog W .any base t v := hval0
  have hW' := hW
  obtain ⟨p, q, hA0, hV, rfl, hfz, hnd⟩ := hW
  have hA : DataW.TrodAll enc Tryz.prog W 0 (fun _ => true) true Tryz.f3.params.toList args.toList ds p := hA0
  rw [Tryz.params3] at hA hval
  obtain ⟨v0, vs0, d0, ds0, p0, q0, hargs, rfl, rfl, h0, r0⟩ := trodAll_cons hA
  obtain ⟨rfl, rfl, rfl⟩ := trodAll_nil r0
  obtain rfl : args = #[v0] := by cases args; simp_all
  obtain ⟨xs0, w0⟩ := open_bytes Tryz.underlying22 Tryz.underlying5 (by kernel_rfl) (hval 0 22 v0 rfl rfl) h0
  refine (walk_FnSetTexts hm v0 xs0 w0).mono fun e W' ⟨he, hb⟩ => ?_
  subst he
  exact ⟨_, rfl, law_post laidOut (by kernel_rfl) rfl rfl Tryz.underlying4 rfl hW' hb⟩
theorem said_FnSetTexts : Rows.FnSetTextsSaid :=
  OpenClaim.holds_of_cond 3 Tryz.f3 rfl rfl rfl rfl rfl rfl rfl ⟨rfl, rfl, rfl, rfl, rfl⟩ rfl rfl rfl rfl rfl (by kernel_rfl) Tryz.func3 (by kernel_rfl)
    (of_decide_eq_true (by kernel_rfl)) (by unfold Func.isWrapper; first | (rw [if_pos (by decide +kernel)]; kernel_rfl) | (rw [if_neg (by decide +kernel)]; exact ⟨rfl, rfl⟩))
    (fun os started H enc _ F => by rw [OpenClaim.pre_eq_preRow]; exact lifted_FnSetTexts os started H enc F)
theorem plain_FnSetTexts (f : FuncId) (fn : Func) (hf : Tryz.pinned.checked.prog.funcNamed "loop.example/g01034/laws.FnSetTexts" = some f) (hfn : Tryz.pinned.checked.prog.funcs[f]? = some fn) :
    true = Tryz.pinned.checked.prog.looks [] ∧ ∀ (j : Nat) t, fn.params[j]? = some t → Tryz.pinned.checked.prog.wantsStandIn t = false := by
  obtain rfl : f = 3 := Option.some.inj ((show Tryz.prog.funcNamed "loop.example/g01034/laws.FnSetTexts" = some 3 by kernel_rfl).symm.trans hf) |>.symm
  obtain rfl : fn = Tryz.f3 := (Option.some.inj (Tryz.func3.symm.trans hfn)).symm
  refine ⟨by kernel_rfl, fun j t ht => ?_⟩
  rw [Tryz.params3] at ht
  obtain rfl : t = 22 := by simpa using Array.mem_of_getElem? ht
  exact (show Tryz.prog.wantsStandIn 22 = false by kernel_rfl)
/-- THE STATEMENT: the tied card. -/
theorem fnSetTexts_holds : Rows.FnSetTextsCardSaid :=
  Claim7.holds_tied_plain_at .later [] _ _ _ _ said_FnSetTexts (fun _ h => by cases h) (by kernel_rfl) (fun _ h => by cases h) fnSetTexts_row_tie rfl ⟨rfl, rfl⟩ (by kernel_rfl) rfl plain_FnSetTexts (by kernel_rfl)
#print axioms fnSetTexts_holds
end Go.Proofs.YtpinngcdojbndaaGreatDoor
