/- FnExactSameDay: program and reference agree, for all arguments. No conditions. -/
import Derived.Test.YtibdbllfapabhaaLawLoc
namespace Go.Proofs.Ytibdbllfapabhaa
open Go.ChangeShapes Go.WideShapes Go.ChangeAt Go.RowKit
/-! ### The row of FnExactSameDay -/
theorem cells_FnExactSameDay_C : Try.prog.cellsOf 29 = 1 := by kernel_rfl
theorem cells_FnExactSameDay_D : Try.prog.cellsOf 35 = 3 := by kernel_rfl
set_option maxRecDepth 100000 in
theorem lifted_FnExactSameDay (os : Os) (started : os.Started) (H : Type) (enc : TypeId × Value → H) :
    ReturnsInHanded {} Try.checked os 9 .any (Rows.fnExactSameDaySpec.pre6 enc Try.prog Try.f9 Rows.fnExactSameDayRow.domain false) (Rows.fnExactSameDaySpec.post enc Try.prog Try.f9 false true false false) := by
  refine returnsInHanded_of_change (C := Try.checked) own started (by kernel_rfl) Try.func9
    (ChangeSpec.witness6 (enc := enc) (C := Try.checked) false ⟨#[], #[.agg #[.int .i64 0], .agg #[.int .i64 0, .int .i64 0, .int .i64 0], .agg #[.int .i64 0], .agg #[.int .i64 0, .int .i64 0, .int .i64 0]], []⟩ 8 (by kernel_rfl) (by kernel_rfl) (by kernel_rfl) (by kernel_rfl)) ?_
  intro W base args ds gs before hval0 hW hcnd _
  have hval : ∀ (j : Nat) t v, Try.f9.params[j]? = some t → args[j]? = some v → Value.okWide Try.prog W .any base t v := hval0
  have hW' := hW
  obtain ⟨p, q, hA0, hV, rfl, hfz, hnd⟩ := hW
  have hA : DataW.TrodAll enc Try.prog W 0 (fun _ => true) true Try.f9.params.toList args.toList ds p := hA0
  rw [Try.params9] at hA hval
  obtain ⟨v0, vs0, d0, ds0, p0, q0, hargs, rfl, rfl, h0, r0⟩ := trodAll_cons hA
  obtain ⟨v1, vs1, d1, ds1, p1, q1, rfl, rfl, rfl, h1, r1⟩ := trodAll_cons r0
  obtain ⟨v2, vs2, d2, ds2, p2, q2, rfl, rfl, rfl, h2, r2⟩ := trodAll_cons r1
  obtain ⟨v3, vs3, d3, ds3, p3, q3, rfl, rfl, rfl, h3, r3⟩ := trodAll_cons r2
  obtain ⟨rfl, rfl, rfl⟩ := trodAll_nil r3
  obtain rfl : args = #[v0, v1, v2, v3] := by cases args; simp_all
  obtain ⟨a0, rfl, w0⟩ := open_i1 Try.underlying29 (by kernel_rfl) cells_FnExactSameDay_C Try.underlying2 (hval 0 29 v0 rfl rfl) h0
  obtain ⟨y1, m1, e1, rfl, wy1, wm1, we1⟩ := open_i3 Try.underlying35 (by kernel_rfl) cells_FnExactSameDay_D Try.underlying2 Try.underlying2 Try.underlying2 (hval 1 35 v1 rfl rfl) h1
  obtain ⟨a2, rfl, w2⟩ := open_i1 Try.underlying29 (by kernel_rfl) cells_FnExactSameDay_C Try.underlying2 (hval 2 29 v2 rfl rfl) h2
  obtain ⟨y3, m3, e3, rfl, wy3, wm3, we3⟩ := open_i3 Try.underlying35 (by kernel_rfl) cells_FnExactSameDay_D Try.underlying2 Try.underlying2 Try.underlying2 (hval 3 35 v3 rfl rfl) h3
  refine (walk_FnExactSameDay a0 y1 m1 e1 a2 y3 m3 e3 w0 wy1 wm1 we1 w2 wy3 wm3 we3 W).mono fun e W' ⟨he, hb⟩ => ?_
  subst he
  exact ⟨_, rfl, law_post laidOut (by kernel_rfl) rfl rfl Try.underlying4 rfl hW' hb⟩
theorem over_FnExactSameDay : Rows.fnExactSameDayRow.holds Try.pinned (OpenSpec.ofChange Rows.fnExactSameDaySpec) :=
  OpenClaim.holds_of_wide 9 Try.f9 rfl rfl rfl rfl rfl rfl rfl ⟨rfl, rfl, rfl, rfl, rfl⟩ rfl rfl rfl rfl rfl (by kernel_rfl) Try.func9 (by kernel_rfl)
    (of_decide_eq_true (by kernel_rfl)) (by unfold Func.isWrapper; first | (rw [if_pos (by decide +kernel)]; kernel_rfl) | (rw [if_neg (by decide +kernel)]; exact ⟨rfl, rfl⟩))
    (fun os started H enc _ => lifted_FnExactSameDay os started H enc)
/-- THE STATEMENT. -/
theorem fnExactSameDay_holds : Rows.FnExactSameDaySaid := over_FnExactSameDay
#print axioms fnExactSameDay_holds
end Go.Proofs.Ytibdbllfapabhaa
