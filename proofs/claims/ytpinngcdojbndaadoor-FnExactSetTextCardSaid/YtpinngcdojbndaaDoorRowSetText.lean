/- The row and the card of the law FnExactSetText: the statement holds, for all arguments. No conditions. -/
import Derived.Test.YtpinngcdojbndaaDoorLawText
import Derived.ChangeMaps5
namespace Go.Proofs.YtpinngcdojbndaaDoor
open Go.ChangeShapes Go.WideShapes Go.ChangeAt Go.RowKit Go.Joins Go.Deep Go.ChangeMaps
theorem facts_FnExactSetText {W : World} (h : laidMetH Tryd.prog Rows.fnExactSetTextRow.laid W) (_ : W.ShapedOpen Tryd.prog) : Tab W := tab_of (show laidMet Tryd.prog Rows.fnExactSetTextRow.laid W from h)
/-! ### The row and the card of FnExactSetText -/
theorem reads_FnExactSetText (os : Os) {H : Type} (enc : TypeId × Value → H) : ∃ places, DataW.whole enc Tryd.prog ((laidWorld os).forCall (fun _ _ => 0) ⟨#[], #[.slice none 0 0], []⟩).memory Tryd.f4.params.toList Rows.fnExactSetTextSpec.vars false #[Value.slice none 0 0].toList 8 = some ([.nil], [], places) := ⟨[], by kernel_rfl⟩
theorem met_FnExactSetText (os : Os) : laidMet Tryd.prog Rows.fnExactSetTextRow.laid ((laidWorld os).forCall (fun _ _ => 0) ⟨#[], #[.slice none 0 0], []⟩).memory := laidMet_of_run' 8 (by kernel_rfl) (by kernel_rfl)
set_option maxRecDepth 100000 in
theorem lifted_FnExactSetText (os : Os) (started : os.Started) (H : Type) (enc : TypeId × Value → H) (F : Stop.Interp) :
    ReturnsInHanded {} Tryd.checked os 4 .any ((OpenSpec.ofChange Rows.fnExactSetTextSpec).preRow enc Tryd.prog Tryd.f4 Rows.fnExactSetTextRow.domain false Rows.fnExactSetTextRow.laid) (((OpenSpec.ofChange Rows.fnExactSetTextSpec).at F).post enc Tryd.prog Tryd.f4 false true false false) := by
  obtain ⟨places, hx⟩ := reads_FnExactSetText os enc
  refine returnsInHanded_of_row (C := Tryd.checked) (s := OpenSpec.ofChange Rows.fnExactSetTextSpec) own started (by kernel_rfl) Tryd.func4
    (witness_row_at (enc := enc) (C := Tryd.checked) false (laidWorld os) #[.slice none 0 0] rfl (by kernel_rfl) (by kernel_rfl) (by kernel_rfl)
      (OpenSpec.preRow_of_cond 8 hx (by kernel_rfl) (fun k hk => by cases hk) (by kernel_rfl) (met_FnExactSetText os))) ?_
  intro W base args ds gs before hval0 hW hcnd _ hsz hL0 hsh _
  have hm := facts_FnExactSetText hL0 hsh
  have hval : ∀ (j : Nat) t v, Tryd.f4.params[j]? = some t → args[j]? = some v → Value.okWide Tryd.prog W .any base t v := hval0
  have hW' := hW
  obtain ⟨p, q, hA0, hV, rfl, hfz, hnd⟩ := hW
  have hA : DataW.TrodAll enc Tryd.prog W 0 (fun _ => true) true Tryd.f4.params.toList args.toList ds p := hA0
  rw [Tryd.params4] at hA hval
  obtain ⟨v0, vs0, d0, ds0, p0, q0, hargs, rfl, rfl, h0, r0⟩ := trodAll_cons hA
  obtain ⟨rfl, rfl, rfl⟩ := trodAll_nil r0
  obtain rfl : args = #[v0] := by cases args; simp_all
  obtain ⟨xs0, w0⟩ := open_spans Tryd.underlying28 Tryd.underlying48 (by kernel_rfl) (by rfl) (by rfl) (by kernel_rfl) (by kernel_rfl) Tryd.underlying2 Tryd.underlying2 (hval 0 28 v0 rfl rfl) h0
  refine (walk_FnExactSetText hm v0 xs0 w0).mono fun e W' ⟨he, hb⟩ => ?_
  subst he
  exact ⟨_, rfl, law_post laidOut (by kernel_rfl) rfl rfl Tryd.underlying4 rfl hW' hb⟩
theorem said_FnExactSetText : Rows.FnExactSetTextSaid :=
  OpenClaim.holds_of_cond 4 Tryd.f4 rfl rfl rfl rfl rfl rfl rfl ⟨rfl, rfl, rfl, rfl, rfl⟩ rfl rfl rfl rfl rfl (by kernel_rfl) Tryd.func4 (by kernel_rfl)
    (of_decide_eq_true (by kernel_rfl)) (by unfold Func.isWrapper; first | (rw [if_pos (by decide +kernel)]; kernel_rfl) | (rw [if_neg (by decide +kernel)]; exact ⟨rfl, rfl⟩))
    (fun os started H enc _ F => by rw [OpenClaim.pre_eq_preRow]; exact lifted_FnExactSetText os started H enc F)
theorem plain_FnExactSetText (f : FuncId) (fn : Func) (hf : Tryd.pinned.checked.prog.funcNamed "loop.example/g01034/laws.FnExactSetText" = some f) (hfn : Tryd.pinned.checked.prog.funcs[f]? = some fn) :
    true = Tryd.pinned.checked.prog.looks [] ∧ ∀ (j : Nat) t, fn.params[j]? = some t → Tryd.pinned.checked.prog.wantsStandIn t = false := by
  obtain rfl : f = 4 := Option.some.inj ((show Tryd.prog.funcNamed "loop.example/g01034/laws.FnExactSetText" = some 4 by kernel_rfl).symm.trans hf) |>.symm
  obtain rfl : fn = Tryd.f4 := (Option.some.inj (Tryd.func4.symm.trans hfn)).symm
  refine ⟨by kernel_rfl, fun j t ht => ?_⟩
  rw [Tryd.params4] at ht
  obtain rfl : t = 28 := by simpa using Array.mem_of_getElem? ht
  exact (show Tryd.prog.wantsStandIn 28 = false by kernel_rfl)
/-- THE STATEMENT: the tied card. -/
theorem fnExactSetText_holds : Rows.FnExactSetTextCardSaid :=
  Claim7.holds_tied_plain_at .later [] _ _ _ _ said_FnExactSetText (fun _ h => by cases h) (by kernel_rfl) (fun _ h => by cases h) fnExactSetText_row_tie rfl ⟨rfl, rfl⟩ (by kernel_rfl) rfl plain_FnExactSetText (by kernel_rfl)
#print axioms fnExactSetText_holds
end Go.Proofs.YtpinngcdojbndaaDoor
