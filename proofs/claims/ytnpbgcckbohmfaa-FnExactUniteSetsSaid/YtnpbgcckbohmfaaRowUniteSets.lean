/- FnExactUniteSets: the statement holds, for all arguments. No conditions. -/
import Derived.Test.YtnpbgcckbohmfaaMake3
import Derived.Test.YtnpbgcckbohmfaaFrame
namespace Go.Proofs.Ytnpbgcckbohmfaa
open Go.ChangeShapes Go.WideShapes Go.ChangeAt Go.RowKit
/-! ### The row of FnExactUniteSets -/
set_option maxRecDepth 100000 in
theorem lifted_FnExactUniteSets (os : Os) (started : os.Started) (H : Type) (enc : TypeId × Value → H) :
    ReturnsInHanded {} Try.checked os 11 .any (Rows.fnExactUniteSetsSpec.pre6 enc Try.prog Try.f11 Rows.fnExactUniteSetsRow.domain false) (Rows.fnExactUniteSetsSpec.post enc Try.prog Try.f11 false true false false) := by
  refine returnsInHanded_of_change_sized (C := Try.checked) own started (by kernel_rfl) Try.func11
    (ChangeSpec.witness6 (enc := enc) (C := Try.checked) false ⟨#[], #[.slice none 0 0, .slice none 0 0], []⟩ 8 (by kernel_rfl) (by kernel_rfl) (by kernel_rfl) (by kernel_rfl)) ?_
  intro W base args ds gs before hval0 hW hcnd hsz _
  have hval : ∀ (j : Nat) t v, Try.f11.params[j]? = some t → args[j]? = some v → Value.okWide Try.prog W .any base t v := hval0
  have hW' := hW
  obtain ⟨p, q, hA0, hV, rfl, hfz, hnd⟩ := hW
  have hA : DataW.TrodAll enc Try.prog W 0 (fun _ => true) true Try.f11.params.toList args.toList ds p := hA0
  rw [Try.params11] at hA hval
  obtain ⟨v0, vs0, d0, ds0, p0, q0, hargs, rfl, rfl, h0, r0⟩ := trodAll_cons hA
  obtain ⟨v1, vs1, d1, ds1, p1, q1, rfl, rfl, rfl, h1, r1⟩ := trodAll_cons r0
  obtain ⟨rfl, rfl, rfl⟩ := trodAll_nil r1
  obtain rfl : args = #[v0, v1] := by cases args; simp_all
  obtain ⟨xs0, w0⟩ := open_spans Try.underlying22 Try.underlying55 (by kernel_rfl) (by rfl) (by rfl) (by kernel_rfl) (by kernel_rfl) Try.underlying2 Try.underlying2 (hval 0 22 v0 rfl rfl) h0
  obtain ⟨xs1, w1⟩ := open_spans Try.underlying22 Try.underlying55 (by kernel_rfl) (by rfl) (by rfl) (by kernel_rfl) (by kernel_rfl) Try.underlying2 Try.underlying2 (hval 1 22 v1 rfl rfl) h1
  refine (walk_FnExactUniteSets v0 xs0 v1 xs1 w0 w1).mono fun e W' ⟨he, hb⟩ => ?_
  subst he
  exact ⟨_, rfl, law_post laidOut (by kernel_rfl) rfl rfl Try.underlying4 rfl hW' hb⟩
theorem over_FnExactUniteSets : Rows.fnExactUniteSetsRow.holds Try.pinned (OpenSpec.ofChange Rows.fnExactUniteSetsSpec) :=
  OpenClaim.holds_of_wide 11 Try.f11 rfl rfl rfl rfl rfl rfl rfl ⟨rfl, rfl, rfl, rfl, rfl⟩ rfl rfl rfl rfl rfl (by kernel_rfl) Try.func11 (by kernel_rfl)
    (of_decide_eq_true (by kernel_rfl)) (by unfold Func.isWrapper; first | (rw [if_pos (by decide +kernel)]; kernel_rfl) | (rw [if_neg (by decide +kernel)]; exact ⟨rfl, rfl⟩))
    (fun os started H enc _ => lifted_FnExactUniteSets os started H enc)
/-- THE STATEMENT. -/
theorem fnExactUniteSets_holds : Rows.FnExactUniteSetsSaid := over_FnExactUniteSets
#print axioms fnExactUniteSets_holds
end Go.Proofs.Ytnpbgcckbohmfaa
