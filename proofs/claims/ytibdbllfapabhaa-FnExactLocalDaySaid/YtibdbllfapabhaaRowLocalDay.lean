/- FnExactLocalDay: program and reference agree, for all arguments. No conditions. -/
import Derived.Test.YtibdbllfapabhaaLawLoc
namespace Go.Proofs.Ytibdbllfapabhaa
open Go.ChangeShapes Go.WideShapes Go.ChangeAt Go.RowKit
/-! ### The row of FnExactLocalDay -/
theorem cells_FnExactLocalDay_C : Try.prog.cellsOf 29 = 1 := by kernel_rfl
theorem cells_FnExactLocalDay_D : Try.prog.cellsOf 35 = 3 := by kernel_rfl
set_option maxRecDepth 100000 in
theorem lifted_FnExactLocalDay (os : Os) (started : os.Started) (H : Type) (enc : TypeId × Value → H) :
    ReturnsInHanded {} Try.checked os 7 .any (Rows.fnExactLocalDaySpec.pre6 enc Try.prog Try.f7 Rows.fnExactLocalDayRow.domain false) (Rows.fnExactLocalDaySpec.post enc Try.prog Try.f7 false true false false) := by
  refine returnsInHanded_of_change (C := Try.checked) own started (by kernel_rfl) Try.func7
    (ChangeSpec.witness6 (enc := enc) (C := Try.checked) false ⟨#[], #[.agg #[.int .i64 0], .agg #[.int .i64 0, .int .i64 0, .int .i64 0]], []⟩ 8 (by kernel_rfl) (by kernel_rfl) (by kernel_rfl) (by kernel_rfl)) ?_
  intro W base args ds gs before hval0 hW hcnd _
  have hval : ∀ (j : Nat) t v, Try.f7.params[j]? = some t → args[j]? = some v → Value.okWide Try.prog W .any base t v := hval0
  have hW' := hW
  obtain ⟨p, q, hA0, hV, rfl, hfz, hnd⟩ := hW
  have hA : DataW.TrodAll enc Try.prog W 0 (fun _ => true) true Try.f7.params.toList args.toList ds p := hA0
  rw [Try.params7] at hA hval
  obtain ⟨v0, vs0, d0, ds0, p0, q0, hargs, rfl, rfl, h0, r0⟩ := trodAll_cons hA
  obtain ⟨v1, vs1, d1, ds1, p1, q1, rfl, rfl, rfl, h1, r1⟩ := trodAll_cons r0
  obtain ⟨rfl, rfl, rfl⟩ := trodAll_nil r1
  obtain rfl : args = #[v0, v1] := by cases args; simp_all
  obtain ⟨a0, rfl, w0⟩ := open_i1 Try.underlying29 (by kernel_rfl) cells_FnExactLocalDay_C Try.underlying2 (hval 0 29 v0 rfl rfl) h0
  obtain ⟨y1, m1, e1, rfl, wy1, wm1, we1⟩ := open_i3 Try.underlying35 (by kernel_rfl) cells_FnExactLocalDay_D Try.underlying2 Try.underlying2 Try.underlying2 (hval 1 35 v1 rfl rfl) h1
  refine (walk_FnExactLocalDay a0 y1 m1 e1 w0 wy1 wm1 we1 W).mono fun e W' ⟨he, hb⟩ => ?_
  subst he
  exact ⟨_, rfl, law_post laidOut (by kernel_rfl) rfl rfl Try.underlying4 rfl hW' hb⟩
theorem over_FnExactLocalDay : Rows.fnExactLocalDayRow.holds Try.pinned (OpenSpec.ofChange Rows.fnExactLocalDaySpec) :=
  OpenClaim.holds_of_wide 7 Try.f7 rfl rfl rfl rfl rfl rfl rfl ⟨rfl, rfl, rfl, rfl, rfl⟩ rfl rfl rfl rfl rfl (by kernel_rfl) Try.func7 (by kernel_rfl)
    (of_decide_eq_true (by kernel_rfl)) (by unfold Func.isWrapper; first | (rw [if_pos (by decide +kernel)]; kernel_rfl) | (rw [if_neg (by decide +kernel)]; exact ⟨rfl, rfl⟩))
    (fun os started H enc _ => lifted_FnExactLocalDay os started H enc)
/-- THE STATEMENT. -/
theorem fnExactLocalDay_holds : Rows.FnExactLocalDaySaid := over_FnExactLocalDay
#print axioms fnExactLocalDay_holds
end Go.Proofs.Ytibdbllfapabhaa
