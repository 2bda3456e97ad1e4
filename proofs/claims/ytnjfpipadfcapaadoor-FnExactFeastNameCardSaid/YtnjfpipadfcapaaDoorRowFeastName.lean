/- The row and the card of the law FnExactFeastName: the statement holds, for all arguments. No conditions. -/
import Derived.Test.YtnjfpipadfcapaaDoorDoor
import Derived.Test.YtnjfpipadfcapaaDoorNames
namespace Go.Proofs.YtnjfpipadfcapaaDoor
open Go.ChangeShapes Go.WideShapes Go.ChangeAt Go.RowKit Go.Joins Go.Deep
theorem walk_FnExactFeastName {w : World} {m : Int} (hm : w.cell? ⟨0, 0, none⟩ = some (.int .i64 m)) (f : Int) (_hf : I64 f) :
    Calls Tryd.prog 3 #[.int .i64 f] w (Yes w) := by
  have h : ML w m := ⟨hm⟩
  clear hm
  obtain ⟨x, hx⟩ : ∃ x, nmF f = x := ⟨_, rfl⟩
  have hx := Lib.hid hx
  go_enter Tryd.func3, Tryd.ntmps3
  go_wp2_with fail
  refine (specFeastName_any f _).mono ?_
  rintro e w1 ⟨rfl, b1⟩
  rw [hx.out]
  have h1 := h.below b1
  go_wp2_with fail
  refine (implFeastName_any h1 f).mono ?_
  rintro e w2 ⟨rfl, b2⟩
  rw [hx.out]
  go_wp2_with fail
  go_ret
  exact ⟨rfl, below_tt b1 b2⟩
/-! ### The row and the card of FnExactFeastName -/
theorem reads_FnExactFeastName (os : Os) {H : Type} (enc : TypeId × Value → H) : ∃ places, DataW.whole enc Tryd.prog ((laidWorld os).forCall (fun _ _ => 0) ⟨#[], #[.int .i64 0], []⟩).memory Tryd.f3.params.toList Rows.fnExactFeastNameSpec.vars false #[Value.int .i64 0].toList 8 = some ([.lit (.int .i64 0)], [], places) := ⟨[], by kernel_rfl⟩
theorem met_FnExactFeastName (os : Os) : laidMet Tryd.prog Rows.fnExactFeastNameRow.laid ((laidWorld os).forCall (fun _ _ => 0) ⟨#[], #[.int .i64 0], []⟩).memory := laidMet_of_run' 8 (by kernel_rfl) (by kernel_rfl)
set_option maxRecDepth 100000 in
theorem lifted_FnExactFeastName (os : Os) (started : os.Started) (H : Type) (enc : TypeId × Value → H) (F : Stop.Interp) :
    ReturnsInHanded {} Tryd.checked os 3 .any ((OpenSpec.ofChange Rows.fnExactFeastNameSpec).preRow enc Tryd.prog Tryd.f3 Rows.fnExactFeastNameRow.domain false Rows.fnExactFeastNameRow.laid) (((OpenSpec.ofChange Rows.fnExactFeastNameSpec).at F).post enc Tryd.prog Tryd.f3 false true false false) := by
  obtain ⟨places, hx⟩ := reads_FnExactFeastName os enc
  refine returnsInHanded_of_row (C := Tryd.checked) (s := OpenSpec.ofChange Rows.fnExactFeastNameSpec) own started (by kernel_rfl) Tryd.func3
    (witness_row_at (enc := enc) (C := Tryd.checked) false (laidWorld os) #[.int .i64 0] rfl (by kernel_rfl) (by kernel_rfl) (by kernel_rfl)
      (OpenSpec.preRow_of_cond 8 hx (by kernel_rfl) (fun k hk => by cases hk) (by kernel_rfl) (met_FnExactFeastName os))) ?_
  intro W base args ds gs before hval0 hW hcnd _ hsz _ hsh _
  obtain ⟨mm, hm⟩ := cell_ml hsh
  have hval : ∀ (j : Nat) t v, Tryd.f3.params[j]? = some t → args[j]? = some v → Value.okWide Tryd.prog W .any base t v := hval0
  have hW' := hW
  obtain ⟨p, q, hA0, hV, rfl, hfz, hnd⟩ := hW
  have hA : DataW.TrodAll enc Tryd.prog W 0 (fun _ => true) true Tryd.f3.params.toList args.toList ds p := hA0
  rw [Tryd.params3] at hA hval
  obtain ⟨v0, vs0, d0, ds0, p0, q0, hargs, rfl, rfl, h0, r0⟩ := trodAll_cons hA
  obtain ⟨rfl, rfl, rfl⟩ := trodAll_nil r0
  obtain rfl : args = #[v0] := by cases args; simp_all
  obtain ⟨a0, rfl, _, _, w0⟩ := open_int Tryd.underlying2 (hval 0 2 v0 rfl rfl) h0
  refine (walk_FnExactFeastName hm a0 (i64_of w0)).mono fun e W' ⟨he, hb⟩ => ?_
  subst he
  exact ⟨_, rfl, law_post laidOut (by kernel_rfl) rfl rfl Tryd.underlying4 rfl hW' hb⟩
theorem said_FnExactFeastName : Rows.FnExactFeastNameSaid :=
  OpenClaim.holds_of_cond 3 Tryd.f3 rfl rfl rfl rfl rfl rfl rfl ⟨rfl, rfl, rfl, rfl, rfl⟩ rfl rfl rfl rfl rfl (by kernel_rfl) Tryd.func3 (by kernel_rfl)
    (of_decide_eq_true (by kernel_rfl)) (by unfold Func.isWrapper; first | (rw [if_pos (by decide +kernel)]; kernel_rfl) | (rw [if_neg (by decide +kernel)]; exact ⟨rfl, rfl⟩))
    (fun os started H enc _ F => by rw [OpenClaim.pre_eq_preRow]; exact lifted_FnExactFeastName os started H enc F)
theorem plain_FnExactFeastName (f : FuncId) (fn : Func) (hf : Tryd.pinned.checked.prog.funcNamed "loop.example/g01034/laws.FnExactFeastName" = some f) (hfn : Tryd.pinned.checked.prog.funcs[f]? = some fn) :
    false = Tryd.pinned.checked.prog.looks [] ∧ ∀ (j : Nat) t, fn.params[j]? = some t → Tryd.pinned.checked.prog.wantsStandIn t = false := by
  obtain rfl : f = 3 := Option.some.inj ((show Tryd.prog.funcNamed "loop.example/g01034/laws.FnExactFeastName" = some 3 by kernel_rfl).symm.trans hf) |>.symm
  obtain rfl : fn = Tryd.f3 := (Option.some.inj (Tryd.func3.symm.trans hfn)).symm
  refine ⟨by kernel_rfl, fun j t ht => ?_⟩
  rw [Tryd.params3] at ht
  obtain rfl : t = 2 := by simpa using Array.mem_of_getElem? ht
  exact (show Tryd.prog.wantsStandIn 2 = false by kernel_rfl)
/-- THE STATEMENT: the tied card. -/
theorem fnExactFeastName_holds : Rows.FnExactFeastNameCardSaid :=
  Claim7.holds_tied_plain_at .later [] _ _ _ _ said_FnExactFeastName (fun _ h => by cases h) (by kernel_rfl) (fun _ h => by cases h) fnExactFeastName_row_tie rfl ⟨rfl, rfl⟩ (by kernel_rfl) rfl plain_FnExactFeastName (by kernel_rfl)
#print axioms fnExactFeastName_holds
end Go.Proofs.YtnjfpipadfcapaaDoor
