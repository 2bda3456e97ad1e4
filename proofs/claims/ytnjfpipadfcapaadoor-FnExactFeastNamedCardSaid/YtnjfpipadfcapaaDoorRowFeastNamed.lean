/- The row and the card of the law FnExactFeastNamed: the statement holds, for all arguments. No conditions. -/
import Derived.Test.YtnjfpipadfcapaaDoorDoor
import Derived.Test.YtnjfpipadfcapaaDoorNames
import Derived.ChangeMaps5
namespace Go.Proofs.YtnjfpipadfcapaaDoor
open Go.ChangeShapes Go.WideShapes Go.ChangeAt Go.RowKit Go.Joins Go.Deep Go.ChangeMaps
theorem walk_FnExactFeastNamed {w : World} {m : Int} (hm : w.cell? ⟨0, 0, none⟩ = some (.int .i64 m)) (s : ByteArray) (hs : s.size ≤ maxLen) :
    Calls Tryd.prog 4 #[.string s] w (Yes w) := by
  have h : ML w m := ⟨hm⟩
  clear hm
  have hs' : s.size ≤ 9223372036854775807 := hs
  by_cases hb : 1048576 < s.size
  · have hd : decide ((1048576 : Int) < s.size) = true := decide_eq_true (by omega)
    go_enter Tryd.func4, Tryd.ntmps4
    go_wp2_with fail
    go_ret
    exact ⟨rfl, Below.refl _ _⟩
  · have hd : decide ((1048576 : Int) < s.size) = false := decide_eq_false (by omega)
    obtain ⟨x, b, hx⟩ : ∃ x b, namedR s = (x, b) := ⟨_, _, rfl⟩
    have hx := Lib.hid hx
    go_enter Tryd.func4, Tryd.ntmps4
    go_wp2_with fail
    refine (specFeastNamed_any s _).mono ?_
    rintro e w1 ⟨rfl, b1⟩
    rw [hx.out]
    have h1 := h.below b1
    go_wp2_with fail
    refine (implFeastNamed_any h1 s).mono ?_
    rintro e w2 ⟨rfl, b2⟩
    rw [hx.out]
    go_wp2_with fail
    go_ret
    exact ⟨rfl, below_tt b1 b2⟩
/-! ### The row and the card of FnExactFeastNamed -/
theorem reads_FnExactFeastNamed (os : Os) {H : Type} (enc : TypeId × Value → H) : ∃ places, DataW.whole enc Tryd.prog ((laidWorld os).forCall (fun _ _ => 0) ⟨#[], #[.string ByteArray.empty], []⟩).memory Tryd.f4.params.toList Rows.fnExactFeastNamedSpec.vars false #[Value.string ByteArray.empty].toList 8 = some ([.lit (.string [])], [], places) := ⟨[], by kernel_rfl⟩
theorem met_FnExactFeastNamed (os : Os) : laidMet Tryd.prog Rows.fnExactFeastNamedRow.laid ((laidWorld os).forCall (fun _ _ => 0) ⟨#[], #[.string ByteArray.empty], []⟩).memory := laidMet_of_run' 8 (by kernel_rfl) (by kernel_rfl)
set_option maxRecDepth 100000 in
theorem lifted_FnExactFeastNamed (os : Os) (started : os.Started) (H : Type) (enc : TypeId × Value → H) (F : Stop.Interp) :
    ReturnsInHanded {} Tryd.checked os 4 .any ((OpenSpec.ofChange Rows.fnExactFeastNamedSpec).preRow enc Tryd.prog Tryd.f4 Rows.fnExactFeastNamedRow.domain false Rows.fnExactFeastNamedRow.laid) (((OpenSpec.ofChange Rows.fnExactFeastNamedSpec).at F).post enc Tryd.prog Tryd.f4 false true false false) := by
  obtain ⟨places, hx⟩ := reads_FnExactFeastNamed os enc
  refine returnsInHanded_of_row (C := Tryd.checked) (s := OpenSpec.ofChange Rows.fnExactFeastNamedSpec) own started (by kernel_rfl) Tryd.func4
    (witness_row_at (enc := enc) (C := Tryd.checked) false (laidWorld os) #[.string ByteArray.empty] rfl (by kernel_rfl) (by kernel_rfl) (by kernel_rfl)
      (OpenSpec.preRow_of_cond 8 hx (by kernel_rfl) (fun k hk => by cases hk) (by kernel_rfl) (met_FnExactFeastNamed os))) ?_
  intro W base args ds gs before hval0 hW hcnd _ hsz _ hsh _
  obtain ⟨mm, hm⟩ := cell_ml hsh
  have hval : ∀ (j : Nat) t v, Tryd.f4.params[j]? = some t → args[j]? = some v → Value.okWide Tryd.prog W .any base t v := hval0
  have hW' := hW
  obtain ⟨p, q, hA0, hV, rfl, hfz, hnd⟩ := hW
  have hA : DataW.TrodAll enc Tryd.prog W 0 (fun _ => true) true Tryd.f4.params.toList args.toList ds p := hA0
  rw [Tryd.params4] at hA hval
  obtain ⟨v0, vs0, d0, ds0, p0, q0, hargs, rfl, rfl, h0, r0⟩ := trodAll_cons hA
  obtain ⟨rfl, rfl, rfl⟩ := trodAll_nil r0
  obtain rfl : args = #[v0] := by cases args; simp_all
  obtain ⟨s0, rfl, _, _, w0⟩ := open_string Tryd.underlying9 (hval 0 9 v0 rfl rfl) h0
  refine (walk_FnExactFeastNamed hm s0 w0).mono fun e W' ⟨he, hb⟩ => ?_
  subst he
  exact ⟨_, rfl, law_post laidOut (by kernel_rfl) rfl rfl Tryd.underlying4 rfl hW' hb⟩
theorem said_FnExactFeastNamed : Rows.FnExactFeastNamedSaid :=
  OpenClaim.holds_of_cond 4 Tryd.f4 rfl rfl rfl rfl rfl rfl rfl ⟨rfl, rfl, rfl, rfl, rfl⟩ rfl rfl rfl rfl rfl (by kernel_rfl) Tryd.func4 (by kernel_rfl)
    (of_decide_eq_true (by kernel_rfl)) (by unfold Func.isWrapper; first | (rw [if_pos (by decide +kernel)]; kernel_rfl) | (rw [if_neg (by decide +kernel)]; exact ⟨rfl, rfl⟩))
    (fun os started H enc _ F => by rw [OpenClaim.pre_eq_preRow]; exact lifted_FnExactFeastNamed os started H enc F)
theorem plain_FnExactFeastNamed (f : FuncId) (fn : Func) (hf : Tryd.pinned.checked.prog.funcNamed "loop.example/g01034/laws.FnExactFeastNamed" = some f) (hfn : Tryd.pinned.checked.prog.funcs[f]? = some fn) :
    false = Tryd.pinned.checked.prog.looks [] ∧ ∀ (j : Nat) t, fn.params[j]? = some t → Tryd.pinned.checked.prog.wantsStandIn t = false := by
  obtain rfl : f = 4 := Option.some.inj ((show Tryd.prog.funcNamed "loop.example/g01034/laws.FnExactFeastNamed" = some 4 by kernel_rfl).symm.trans hf) |>.symm
  obtain rfl : fn = Tryd.f4 := (Option.some.inj (Tryd.func4.symm.trans hfn)).symm
  refine ⟨by kernel_rfl, fun j t ht => ?_⟩
  rw [Tryd.params4] at ht
  obtain rfl : t = 9 := by simpa using Array.mem_of_getElem? ht
  exact (show Tryd.prog.wantsStandIn 9 = false by kernel_rfl)
/-- THE STATEMENT: the tied card. -/
theorem fnExactFeastNamed_holds : Rows.FnExactFeastNamedCardSaid :=
  Claim7.holds_tied_plain_at .later [] _ _ _ _ said_FnExactFeastNamed (fun _ h => by cases h) (by kernel_rfl) (fun _ h => by cases h) fnExactFeastNamed_row_tie rfl ⟨rfl, rfl⟩ (by kernel_rfl) rfl plain_FnExactFeastNamed (by kernel_rfl)
#print axioms fnExactFeastNamed_holds
end Go.Proofs.YtnjfpipadfcapaaDoor
