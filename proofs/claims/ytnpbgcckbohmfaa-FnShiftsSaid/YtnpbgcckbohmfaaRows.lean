/-
  No cell of these rows narrows 'for every input' (looked for: loops, veiled, ifaces, maps, wideKeys, modest, calm, conditions, laid).
  DERIVED. THE GIVEN ROWS OF THIS SEAT. 11 by the template 'for every input the law returns true; each argument reads behind the call as it read before'; 0 by the template 'total and deterministic' (their statements: YtnpbgcckbohmfaaTotals.lean).
  GIVEN WITH THE SEED: the statements are not yours to turn. If you find one false, say at which input.
  Laid BY PROGRAM, IN A SANDBOX (cutbox-rows.mjs): the forced cells as the released guide's own fill.sh prints them over the translation 76aa06ab40c09166… (all of the seat's roots in one cut). By AI agents, Wed Nov 11 2026. No macro, syntax, notation, axiom, sorry.
-/
import Derived.Test.YtnpbgcckbohmfaaChecked
import GoSem.Claim
import GoSem.ClaimJoined
import GoSem.ClaimMapViews
import Derived.JoinedTies
import Derived.KernelRfl
namespace Go.Proofs.Ytnpbgcckbohmfaa
/- THE CELL 'sum', in the pinned program and in every row, IS THE sha256 OF THE DUMP (.gsa) THAT YtnpbgcckbohmfaaProg.lean LOADS. Nothing in Lean hashes anything: it is a label: what it is worth is what the hold of that sum in a sandbox is worth. -/
noncomputable def Try.pinned : Pinned := { name := "ytnpbgcckbohmfaa", sum := "76aa06ab40c09166b85f75c6b3b39a69239733efb6ffcb4005ac2761763f51c7", checked := Try.checked }
namespace Rows
def none {H : Type} : Left H := { results := [], args := [] }

/-- 'laws.FnExactIsSet': WHATEVER THE INPUT: true; the input reads as it did. -/
def fnExactIsSetSpec : ChangeSpec := { name := "fnExactIsSet", fn := fun _ => fun
  | [d] => { results := [.lit (.bool true)], args := [d] }
  | _ => none }
def fnExactIsSetRow : OpenClaim := { program := "ytnpbgcckbohmfaa", sum := "76aa06ab40c09166b85f75c6b3b39a69239733efb6ffcb4005ac2761763f51c7", func := "loop.example/g01034/laws.FnExactIsSet", spec := "fnExactIsSet", apart := false }
def FnExactIsSetSaid : Prop := fnExactIsSetRow.holds Try.pinned (OpenSpec.ofChange fnExactIsSetSpec)

/-- ITS FALSE NEIGHBOUR: 'it returns false'. Refute it at one input. -/
def fnExactIsSetWrong : ChangeSpec := { name := "fnExactIsSet", fn := fun _ => fun
  | [d] => { results := [.lit (.bool false)], args := [d] }
  | _ => none }
def FnExactIsSetWrongFalsely : Prop := fnExactIsSetRow.holds Try.pinned (OpenSpec.ofChange fnExactIsSetWrong)

/-- 'laws.FnExactCountDays': WHATEVER THE INPUT: true; the input reads as it did. -/
def fnExactCountDaysSpec : ChangeSpec := { name := "fnExactCountDays", fn := fun _ => fun
  | [d] => { results := [.lit (.bool true)], args := [d] }
  | _ => none }
def fnExactCountDaysRow : OpenClaim := { program := "ytnpbgcckbohmfaa", sum := "76aa06ab40c09166b85f75c6b3b39a69239733efb6ffcb4005ac2761763f51c7", func := "loop.example/g01034/laws.FnExactCountDays", spec := "fnExactCountDays", apart := false }
def FnExactCountDaysSaid : Prop := fnExactCountDaysRow.holds Try.pinned (OpenSpec.ofChange fnExactCountDaysSpec)

/-- ITS FALSE NEIGHBOUR: 'it returns false'. Refute it at one input. -/
def fnExactCountDaysWrong : ChangeSpec := { name := "fnExactCountDays", fn := fun _ => fun
  | [d] => { results := [.lit (.bool false)], args := [d] }
  | _ => none }
def FnExactCountDaysWrongFalsely : Prop := fnExactCountDaysRow.holds Try.pinned (OpenSpec.ofChange fnExactCountDaysWrong)

/-- 'laws.FnExactHasDay': WHATEVER THE INPUT: true; the input reads as it did. -/
def fnExactHasDaySpec : ChangeSpec := { name := "fnExactHasDay", fn := fun _ => fun
  | [d1, d2] => { results := [.lit (.bool true)], args := [d1, d2] }
  | _ => none }
def fnExactHasDayRow : OpenClaim := { program := "ytnpbgcckbohmfaa", sum := "76aa06ab40c09166b85f75c6b3b39a69239733efb6ffcb4005ac2761763f51c7", func := "loop.example/g01034/laws.FnExactHasDay", spec := "fnExactHasDay", unfollowed := true, recurses := true, apart := false }
def FnExactHasDaySaid : Prop := fnExactHasDayRow.holds Try.pinned (OpenSpec.ofChange fnExactHasDaySpec)

/-- ITS FALSE NEIGHBOUR: 'it returns false'. Refute it at one input. -/
def fnExactHasDayWrong : ChangeSpec := { name := "fnExactHasDay", fn := fun _ => fun
  | [d1, d2] => { results := [.lit (.bool false)], args := [d1, d2] }
  | _ => none }
def FnExactHasDayWrongFalsely : Prop := fnExactHasDayRow.holds Try.pinned (OpenSpec.ofChange fnExactHasDayWrong)

/-- 'laws.FnExactNthDay': WHATEVER THE INPUT: true; the input reads as it did. -/
def fnExactNthDaySpec : ChangeSpec := { name := "fnExactNthDay", fn := fun _ => fun
  | [d1, d2] => { results := [.lit (.bool true)], args := [d1, d2] }
  | _ => none }
def fnExactNthDayRow : OpenClaim := { program := "ytnpbgcckbohmfaa", sum := "76aa06ab40c09166b85f75c6b3b39a69239733efb6ffcb4005ac2761763f51c7", func := "loop.example/g01034/laws.FnExactNthDay", spec := "fnExactNthDay", apart := false }
def FnExactNthDaySaid : Prop := fnExactNthDayRow.holds Try.pinned (OpenSpec.ofChange fnExactNthDaySpec)

/-- ITS FALSE NEIGHBOUR: 'it returns false'. Refute it at one input. -/
def fnExactNthDayWrong : ChangeSpec := { name := "fnExactNthDay", fn := fun _ => fun
  | [d1, d2] => { results := [.lit (.bool false)], args := [d1, d2] }
  | _ => none }
def FnExactNthDayWrongFalsely : Prop := fnExactNthDayRow.holds Try.pinned (OpenSpec.ofChange fnExactNthDayWrong)

/-- 'laws.FnExactShiftSet': WHATEVER THE INPUT: true; the input reads as it did. -/
def fnExactShiftSetSpec : ChangeSpec := { name := "fnExactShiftSet", fn := fun _ => fun
  | [d1, d2] => { results := [.lit (.bool true)], args := [d1, d2] }
  | _ => none }
def fnExactShiftSetRow : OpenClaim := { program := "ytnpbgcckbohmfaa", sum := "76aa06ab40c09166b85f75c6b3b39a69239733efb6ffcb4005ac2761763f51c7", func := "loop.example/g01034/laws.FnExactShiftSet", spec := "fnExactShiftSet", apart := false }
def FnExactShiftSetSaid : Prop := fnExactShiftSetRow.holds Try.pinned (OpenSpec.ofChange fnExactShiftSetSpec)

/-- ITS FALSE NEIGHBOUR: 'it returns false'. Refute it at one input. -/
def fnExactShiftSetWrong : ChangeSpec := { name := "fnExactShiftSet", fn := fun _ => fun
  | [d1, d2] => { results := [.lit (.bool false)], args := [d1, d2] }
  | _ => none }
def FnExactShiftSetWrongFalsely : Prop := fnExactShiftSetRow.holds Try.pinned (OpenSpec.ofChange fnExactShiftSetWrong)

/-- 'laws.FnExactMeetSets': WHATEVER THE INPUT: true; the input reads as it did. -/
def fnExactMeetSetsSpec : ChangeSpec := { name := "fnExactMeetSets", fn := fun _ => fun
  | [d1, d2] => { results := [.lit (.bool true)], args := [d1, d2] }
  | _ => none }
def fnExactMeetSetsRow : OpenClaim := { program := "ytnpbgcckbohmfaa", sum := "76aa06ab40c09166b85f75c6b3b39a69239733efb6ffcb4005ac2761763f51c7", func := "loop.example/g01034/laws.FnExactMeetSets", spec := "fnExactMeetSets", unfollowed := true, recurses := true, apart := false }
def FnExactMeetSetsSaid : Prop := fnExactMeetSetsRow.holds Try.pinned (OpenSpec.ofChange fnExactMeetSetsSpec)

/-- ITS FALSE NEIGHBOUR: 'it returns false'. Refute it at one input. -/
def fnExactMeetSetsWrong : ChangeSpec := { name := "fnExactMeetSets", fn := fun _ => fun
  | [d1, d2] => { results := [.lit (.bool false)], args := [d1, d2] }
  | _ => none }
def FnExactMeetSetsWrongFalsely : Prop := fnExactMeetSetsRow.holds Try.pinned (OpenSpec.ofChange fnExactMeetSetsWrong)

/-- 'laws.FnExactWithoutSet': WHATEVER THE INPUT: true; the input reads as it did. -/
def fnExactWithoutSetSpec : ChangeSpec := { name := "fnExactWithoutSet", fn := fun _ => fun
  | [d1, d2] => { results := [.lit (.bool true)], args := [d1, d2] }
  | _ => none }
def fnExactWithoutSetRow : OpenClaim := { program := "ytnpbgcckbohmfaa", sum := "76aa06ab40c09166b85f75c6b3b39a69239733efb6ffcb4005ac2761763f51c7", func := "loop.example/g01034/laws.FnExactWithoutSet", spec := "fnExactWithoutSet", unfollowed := true, recurses := true, apart := false }
def FnExactWithoutSetSaid : Prop := fnExactWithoutSetRow.holds Try.pinned (OpenSpec.ofChange fnExactWithoutSetSpec)

/-- ITS FALSE NEIGHBOUR: 'it returns false'. Refute it at one input. -/
def fnExactWithoutSetWrong : ChangeSpec := { name := "fnExactWithoutSet", fn := fun _ => fun
  | [d1, d2] => { results := [.lit (.bool false)], args := [d1, d2] }
  | _ => none }
def FnExactWithoutSetWrongFalsely : Prop := fnExactWithoutSetRow.holds Try.pinned (OpenSpec.ofChange fnExactWithoutSetWrong)

/-- 'laws.FnExactMakeSet': WHATEVER THE INPUT: true; the input reads as it did. -/
def fnExactMakeSetSpec : ChangeSpec := { name := "fnExactMakeSet", fn := fun _ => fun
  | [d] => { results := [.lit (.bool true)], args := [d] }
  | _ => none }
def fnExactMakeSetRow : OpenClaim := { program := "ytnpbgcckbohmfaa", sum := "76aa06ab40c09166b85f75c6b3b39a69239733efb6ffcb4005ac2761763f51c7", func := "loop.example/g01034/laws.FnExactMakeSet", spec := "fnExactMakeSet", unfollowed := true, recurses := true, apart := false }
def FnExactMakeSetSaid : Prop := fnExactMakeSetRow.holds Try.pinned (OpenSpec.ofChange fnExactMakeSetSpec)

/-- ITS FALSE NEIGHBOUR: 'it returns false'. Refute it at one input. -/
def fnExactMakeSetWrong : ChangeSpec := { name := "fnExactMakeSet", fn := fun _ => fun
  | [d] => { results := [.lit (.bool false)], args := [d] }
  | _ => none }
def FnExactMakeSetWrongFalsely : Prop := fnExactMakeSetRow.holds Try.pinned (OpenSpec.ofChange fnExactMakeSetWrong)

/-- 'laws.FnExactUniteSets': WHATEVER THE INPUT: true; the input reads as it did. -/
def fnExactUniteSetsSpec : ChangeSpec := { name := "fnExactUniteSets", fn := fun _ => fun
  | [d1, d2] => { results := [.lit (.bool true)], args := [d1, d2] }
  | _ => none }
def fnExactUniteSetsRow : OpenClaim := { program := "ytnpbgcckbohmfaa", sum := "76aa06ab40c09166b85f75c6b3b39a69239733efb6ffcb4005ac2761763f51c7", func := "loop.example/g01034/laws.FnExactUniteSets", spec := "fnExactUniteSets", unfollowed := true, recurses := true, apart := false }
def FnExactUniteSetsSaid : Prop := fnExactUniteSetsRow.holds Try.pinned (OpenSpec.ofChange fnExactUniteSetsSpec)

/-- ITS FALSE NEIGHBOUR: 'it returns false'. Refute it at one input. -/
def fnExactUniteSetsWrong : ChangeSpec := { name := "fnExactUniteSets", fn := fun _ => fun
  | [d1, d2] => { results := [.lit (.bool false)], args := [d1, d2] }
  | _ => none }
def FnExactUniteSetsWrongFalsely : Prop := fnExactUniteSetsRow.holds Try.pinned (OpenSpec.ofChange fnExactUniteSetsWrong)

/-- 'laws.FnShifts': WHATEVER THE INPUT: true; the input reads as it did. -/
def fnShiftsSpec : ChangeSpec := { name := "fnShifts", fn := fun _ => fun
  | [d] => { results := [.lit (.bool true)], args := [d] }
  | _ => none }
def fnShiftsRow : OpenClaim := { program := "ytnpbgcckbohmfaa", sum := "76aa06ab40c09166b85f75c6b3b39a69239733efb6ffcb4005ac2761763f51c7", func := "loop.example/g01034/laws.FnShifts", spec := "fnShifts", unfollowed := true, recurses := true, apart := false }
def FnShiftsSaid : Prop := fnShiftsRow.holds Try.pinned (OpenSpec.ofChange fnShiftsSpec)

/-- ITS FALSE NEIGHBOUR: 'it returns false'. Refute it at one input. -/
def fnShiftsWrong : ChangeSpec := { name := "fnShifts", fn := fun _ => fun
  | [d] => { results := [.lit (.bool false)], args := [d] }
  | _ => none }
def FnShiftsWrongFalsely : Prop := fnShiftsRow.holds Try.pinned (OpenSpec.ofChange fnShiftsWrong)

/-- 'laws.FnSets': WHATEVER THE INPUT: true; the input reads as it did. -/
def fnSetsSpec : ChangeSpec := { name := "fnSets", fn := fun _ => fun
  | [d] => { results := [.lit (.bool true)], args := [d] }
  | _ => none }
def fnSetsRow : OpenClaim := { program := "ytnpbgcckbohmfaa", sum := "76aa06ab40c09166b85f75c6b3b39a69239733efb6ffcb4005ac2761763f51c7", func := "loop.example/g01034/laws.FnSets", spec := "fnSets", unfollowed := true, recurses := true, apart := false }
def FnSetsSaid : Prop := fnSetsRow.holds Try.pinned (OpenSpec.ofChange fnSetsSpec)

/-- ITS FALSE NEIGHBOUR: 'it returns false'. Refute it at one input. -/
def fnSetsWrong : ChangeSpec := { name := "fnSets", fn := fun _ => fun
  | [d] => { results := [.lit (.bool false)], args := [d] }
  | _ => none }
def FnSetsWrongFalsely : Prop := fnSetsRow.holds Try.pinned (OpenSpec.ofChange fnSetsWrong)

/- THE SECOND FORM. 'bulk': how many values and letters a reading holds, each counted each time it is reached (what is shared counts as often as it is met; a slice's spare places count too). A statement '..UptoSaid' is the law's where the arguments, and the package variables that the reading takes, are together of bulk at most 1048576: NARROWER than '..Said'. Prove '..Said' where nothing that the law and all that it calls make is longer than what came in: it says more and counts as full. Else prove '..UptoSaid'. A law counts once. -/
mutual
def uptoBulk {H : Type} : DataW H → Nat
  | .lit (.string bytes) => bytes.length + 1
  | .lit _ => 1
  | .nil => 1
  | .ptr d => uptoBulk d + 1
  | .slice elems spare => uptoBulkAll elems + uptoBulkAll spare + 1
  | .agg parts => uptoBulkAll parts + 1
  | .iface _ d => uptoBulk d + 1
  | .map entries => uptoBulkEntries entries + 1
  | .held _ => 1
def uptoBulkAll {H : Type} : List (DataW H) → Nat
  | [] => 0
  | d :: r => uptoBulk d + uptoBulkAll r
def uptoBulkEntries {H : Type} : List (Lit × DataW H) → Nat
  | [] => 0
  | x :: r => uptoBulkEntry x + uptoBulkEntries r
def uptoBulkEntry {H : Type} : Lit × DataW H → Nat
  | (.string bytes, d) => bytes.length + uptoBulk d + 1
  | (_, d) => uptoBulk d + 1
 end
def uptoSmall : (H : Type) → List (DataW H) → Bool := fun _ ds => decide (uptoBulkAll ds ≤ 1048576)
def OpenSpec.upto (s : _root_.Go.ChangeSpec) : _root_.Go.OpenSpec := { _root_.Go.OpenSpec.ofChange s with cond := some uptoSmall }

/-- 'laws.FnExactIsSet', WHERE WHAT IT READS IS OF BULK AT MOST 1048576: true; the input reads as it did. -/
def fnExactIsSetUptoRow : OpenClaim := { program := "ytnpbgcckbohmfaa", sum := "76aa06ab40c09166b85f75c6b3b39a69239733efb6ffcb4005ac2761763f51c7", func := "loop.example/g01034/laws.FnExactIsSet", spec := "fnExactIsSet", apart := false, narrowed := true }
def FnExactIsSetUptoSaid : Prop := fnExactIsSetUptoRow.holds Try.pinned (OpenSpec.upto fnExactIsSetSpec)

/-- 'laws.FnExactCountDays', WHERE WHAT IT READS IS OF BULK AT MOST 1048576: true; the input reads as it did. -/
def fnExactCountDaysUptoRow : OpenClaim := { program := "ytnpbgcckbohmfaa", sum := "76aa06ab40c09166b85f75c6b3b39a69239733efb6ffcb4005ac2761763f51c7", func := "loop.example/g01034/laws.FnExactCountDays", spec := "fnExactCountDays", apart := false, narrowed := true }
def FnExactCountDaysUptoSaid : Prop := fnExactCountDaysUptoRow.holds Try.pinned (OpenSpec.upto fnExactCountDaysSpec)

/-- 'laws.FnExactHasDay', WHERE WHAT IT READS IS OF BULK AT MOST 1048576: true; the input reads as it did. -/
def fnExactHasDayUptoRow : OpenClaim := { program := "ytnpbgcckbohmfaa", sum := "76aa06ab40c09166b85f75c6b3b39a69239733efb6ffcb4005ac2761763f51c7", func := "loop.example/g01034/laws.FnExactHasDay", spec := "fnExactHasDay", unfollowed := true, recurses := true, apart := false, narrowed := true }
def FnExactHasDayUptoSaid : Prop := fnExactHasDayUptoRow.holds Try.pinned (OpenSpec.upto fnExactHasDaySpec)

/-- 'laws.FnExactNthDay', WHERE WHAT IT READS IS OF BULK AT MOST 1048576: true; the input reads as it did. -/
def fnExactNthDayUptoRow : OpenClaim := { program := "ytnpbgcckbohmfaa", sum := "76aa06ab40c09166b85f75c6b3b39a69239733efb6ffcb4005ac2761763f51c7", func := "loop.example/g01034/laws.FnExactNthDay", spec := "fnExactNthDay", apart := false, narrowed := true }
def FnExactNthDayUptoSaid : Prop := fnExactNthDayUptoRow.holds Try.pinned (OpenSpec.upto fnExactNthDaySpec)

/-- 'laws.FnExactShiftSet', WHERE WHAT IT READS IS OF BULK AT MOST 1048576: true; the input reads as it did. -/
def fnExactShiftSetUptoRow : OpenClaim := { program := "ytnpbgcckbohmfaa", sum := "76aa06ab40c09166b85f75c6b3b39a69239733efb6ffcb4005ac2761763f51c7", func := "loop.example/g01034/laws.FnExactShiftSet", spec := "fnExactShiftSet", apart := false, narrowed := true }
def FnExactShiftSetUptoSaid : Prop := fnExactShiftSetUptoRow.holds Try.pinned (OpenSpec.upto fnExactShiftSetSpec)

/-- 'laws.FnExactMeetSets', WHERE WHAT IT READS IS OF BULK AT MOST 1048576: true; the input reads as it did. -/
def fnExactMeetSetsUptoRow : OpenClaim := { program := "ytnpbgcckbohmfaa", sum := "76aa06ab40c09166b85f75c6b3b39a69239733efb6ffcb4005ac2761763f51c7", func := "loop.example/g01034/laws.FnExactMeetSets", spec := "fnExactMeetSets", unfollowed := true, recurses := true, apart := false, narrowed := true }
def FnExactMeetSetsUptoSaid : Prop := fnExactMeetSetsUptoRow.holds Try.pinned (OpenSpec.upto fnExactMeetSetsSpec)

/-- 'laws.FnExactWithoutSet', WHERE WHAT IT READS IS OF BULK AT MOST 1048576: true; the input reads as it did. -/
def fnExactWithoutSetUptoRow : OpenClaim := { program := "ytnpbgcckbohmfaa", sum := "76aa06ab40c09166b85f75c6b3b39a69239733efb6ffcb4005ac2761763f51c7", func := "loop.example/g01034/laws.FnExactWithoutSet", spec := "fnExactWithoutSet", unfollowed := true, recurses := true, apart := false, narrowed := true }
def FnExactWithoutSetUptoSaid : Prop := fnExactWithoutSetUptoRow.holds Try.pinned (OpenSpec.upto fnExactWithoutSetSpec)

/-- 'laws.FnExactMakeSet', WHERE WHAT IT READS IS OF BULK AT MOST 1048576: true; the input reads as it did. -/
def fnExactMakeSetUptoRow : OpenClaim := { program := "ytnpbgcckbohmfaa", sum := "76aa06ab40c09166b85f75c6b3b39a69239733efb6ffcb4005ac2761763f51c7", func := "loop.example/g01034/laws.FnExactMakeSet", spec := "fnExactMakeSet", unfollowed := true, recurses := true, apart := false, narrowed := true }
def FnExactMakeSetUptoSaid : Prop := fnExactMakeSetUptoRow.holds Try.pinned (OpenSpec.upto fnExactMakeSetSpec)

/-- 'laws.FnExactUniteSets', WHERE WHAT IT READS IS OF BULK AT MOST 1048576: true; the input reads as it did. -/
def fnExactUniteSetsUptoRow : OpenClaim := { program := "ytnpbgcckbohmfaa", sum := "76aa06ab40c09166b85f75c6b3b39a69239733efb6ffcb4005ac2761763f51c7", func := "loop.example/g01034/laws.FnExactUniteSets", spec := "fnExactUniteSets", unfollowed := true, recurses := true, apart := false, narrowed := true }
def FnExactUniteSetsUptoSaid : Prop := fnExactUniteSetsUptoRow.holds Try.pinned (OpenSpec.upto fnExactUniteSetsSpec)

/-- 'laws.FnShifts', WHERE WHAT IT READS IS OF BULK AT MOST 1048576: true; the input reads as it did. -/
def fnShiftsUptoRow : OpenClaim := { program := "ytnpbgcckbohmfaa", sum := "76aa06ab40c09166b85f75c6b3b39a69239733efb6ffcb4005ac2761763f51c7", func := "loop.example/g01034/laws.FnShifts", spec := "fnShifts", unfollowed := true, recurses := true, apart := false, narrowed := true }
def FnShiftsUptoSaid : Prop := fnShiftsUptoRow.holds Try.pinned (OpenSpec.upto fnShiftsSpec)

/-- 'laws.FnSets', WHERE WHAT IT READS IS OF BULK AT MOST 1048576: true; the input reads as it did. -/
def fnSetsUptoRow : OpenClaim := { program := "ytnpbgcckbohmfaa", sum := "76aa06ab40c09166b85f75c6b3b39a69239733efb6ffcb4005ac2761763f51c7", func := "loop.example/g01034/laws.FnSets", spec := "fnSets", unfollowed := true, recurses := true, apart := false, narrowed := true }
def FnSetsUptoSaid : Prop := fnSetsUptoRow.holds Try.pinned (OpenSpec.upto fnSetsSpec)

end Rows
end Go.Proofs.Ytnpbgcckbohmfaa
