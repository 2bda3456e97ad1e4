/-
  No cell of these rows narrows 'for every input' (looked for: loops, veiled, ifaces, maps, wideKeys, modest, calm, conditions, laid).
  DERIVED. THE GIVEN ROWS OF THIS SEAT. 12 by the template 'for every input the law returns true; each argument reads behind the call as it read before'; 0 by the template 'total and deterministic' (their statements: YtibdbllfapabhaaTotals.lean).
  GIVEN WITH THE SEED: the statements are not yours to turn. If you find one false, say at which input.
  Laid BY PROGRAM, IN A SANDBOX (cutbox-rows.mjs): the forced cells as the released guide's own fill.sh prints them over the translation 9435a10ab570ddd2… (all of the seat's roots in one cut). By AI agents, Wed Nov 11 2026. No macro, syntax, notation, axiom, sorry.
-/
import Derived.Test.YtibdbllfapabhaaChecked
import GoSem.Claim
import GoSem.ClaimJoined
import GoSem.ClaimMapViews
import Derived.JoinedTies
import Derived.KernelRfl
namespace Go.Proofs.Ytibdbllfapabhaa
/- THE CELL 'sum', in the pinned program and in every row, IS THE sha256 OF THE DUMP (.gsa) THAT YtibdbllfapabhaaProg.lean LOADS. Nothing in Lean hashes anything: it is a label: what it is worth is what the hold of that sum in a sandbox is worth. -/
noncomputable def Try.pinned : Pinned := { name := "ytibdbllfapabhaa", sum := "9435a10ab570ddd20ab0d2dd88f7bea31dde7ae4c5ebaedc40c58e27961a2d68", checked := Try.checked }
namespace Rows
def none {H : Type} : Left H := { results := [], args := [] }

/-- 'laws.FnExactNewDate': WHATEVER THE INPUT: true; the input reads as it did. -/
def fnExactNewDateSpec : ChangeSpec := { name := "fnExactNewDate", fn := fun _ => fun
  | [d] => { results := [.lit (.bool true)], args := [d] }
  | _ => none }
def fnExactNewDateRow : OpenClaim := { program := "ytibdbllfapabhaa", sum := "9435a10ab570ddd20ab0d2dd88f7bea31dde7ae4c5ebaedc40c58e27961a2d68", func := "loop.example/g01034/laws.FnExactNewDate", spec := "fnExactNewDate", unfollowed := true, recurses := true, apart := false }
def FnExactNewDateSaid : Prop := fnExactNewDateRow.holds Try.pinned (OpenSpec.ofChange fnExactNewDateSpec)

/-- ITS FALSE NEIGHBOUR: 'it returns false'. Refute it at one input. -/
def fnExactNewDateWrong : ChangeSpec := { name := "fnExactNewDate", fn := fun _ => fun
  | [d] => { results := [.lit (.bool false)], args := [d] }
  | _ => none }
def FnExactNewDateWrongFalsely : Prop := fnExactNewDateRow.holds Try.pinned (OpenSpec.ofChange fnExactNewDateWrong)

/-- 'laws.FnExactOldDate': WHATEVER THE INPUT: true; the input reads as it did. -/
def fnExactOldDateSpec : ChangeSpec := { name := "fnExactOldDate", fn := fun _ => fun
  | [d] => { results := [.lit (.bool true)], args := [d] }
  | _ => none }
def fnExactOldDateRow : OpenClaim := { program := "ytibdbllfapabhaa", sum := "9435a10ab570ddd20ab0d2dd88f7bea31dde7ae4c5ebaedc40c58e27961a2d68", func := "loop.example/g01034/laws.FnExactOldDate", spec := "fnExactOldDate", unfollowed := true, recurses := true, apart := false }
def FnExactOldDateSaid : Prop := fnExactOldDateRow.holds Try.pinned (OpenSpec.ofChange fnExactOldDateSpec)

/-- ITS FALSE NEIGHBOUR: 'it returns false'. Refute it at one input. -/
def fnExactOldDateWrong : ChangeSpec := { name := "fnExactOldDate", fn := fun _ => fun
  | [d] => { results := [.lit (.bool false)], args := [d] }
  | _ => none }
def FnExactOldDateWrongFalsely : Prop := fnExactOldDateRow.holds Try.pinned (OpenSpec.ofChange fnExactOldDateWrong)

/-- 'laws.FnExactSkippedDates': WHATEVER THE INPUT: true; the input reads as it did. -/
def fnExactSkippedDatesSpec : ChangeSpec := { name := "fnExactSkippedDates", fn := fun _ => fun
  | [d] => { results := [.lit (.bool true)], args := [d] }
  | _ => none }
def fnExactSkippedDatesRow : OpenClaim := { program := "ytibdbllfapabhaa", sum := "9435a10ab570ddd20ab0d2dd88f7bea31dde7ae4c5ebaedc40c58e27961a2d68", func := "loop.example/g01034/laws.FnExactSkippedDates", spec := "fnExactSkippedDates", unfollowed := true, recurses := true, apart := false }
def FnExactSkippedDatesSaid : Prop := fnExactSkippedDatesRow.holds Try.pinned (OpenSpec.ofChange fnExactSkippedDatesSpec)

/-- ITS FALSE NEIGHBOUR: 'it returns false'. Refute it at one input. -/
def fnExactSkippedDatesWrong : ChangeSpec := { name := "fnExactSkippedDates", fn := fun _ => fun
  | [d] => { results := [.lit (.bool false)], args := [d] }
  | _ => none }
def FnExactSkippedDatesWrongFalsely : Prop := fnExactSkippedDatesRow.holds Try.pinned (OpenSpec.ofChange fnExactSkippedDatesWrong)

/-- 'laws.FnExactIsLocal': WHATEVER THE INPUT: true; the input reads as it did. -/
def fnExactIsLocalSpec : ChangeSpec := { name := "fnExactIsLocal", fn := fun _ => fun
  | [d1, d2] => { results := [.lit (.bool true)], args := [d1, d2] }
  | _ => none }
def fnExactIsLocalRow : OpenClaim := { program := "ytibdbllfapabhaa", sum := "9435a10ab570ddd20ab0d2dd88f7bea31dde7ae4c5ebaedc40c58e27961a2d68", func := "loop.example/g01034/laws.FnExactIsLocal", spec := "fnExactIsLocal", apart := false }
def FnExactIsLocalSaid : Prop := fnExactIsLocalRow.holds Try.pinned (OpenSpec.ofChange fnExactIsLocalSpec)

/-- ITS FALSE NEIGHBOUR: 'it returns false'. Refute it at one input. -/
def fnExactIsLocalWrong : ChangeSpec := { name := "fnExactIsLocal", fn := fun _ => fun
  | [d1, d2] => { results := [.lit (.bool false)], args := [d1, d2] }
  | _ => none }
def FnExactIsLocalWrongFalsely : Prop := fnExactIsLocalRow.holds Try.pinned (OpenSpec.ofChange fnExactIsLocalWrong)

/-- 'laws.FnExactLocalDay': WHATEVER THE INPUT: true; the input reads as it did. -/
def fnExactLocalDaySpec : ChangeSpec := { name := "fnExactLocalDay", fn := fun _ => fun
  | [d1, d2] => { results := [.lit (.bool true)], args := [d1, d2] }
  | _ => none }
def fnExactLocalDayRow : OpenClaim := { program := "ytibdbllfapabhaa", sum := "9435a10ab570ddd20ab0d2dd88f7bea31dde7ae4c5ebaedc40c58e27961a2d68", func := "loop.example/g01034/laws.FnExactLocalDay", spec := "fnExactLocalDay", apart := false }
def FnExactLocalDaySaid : Prop := fnExactLocalDayRow.holds Try.pinned (OpenSpec.ofChange fnExactLocalDaySpec)

/-- ITS FALSE NEIGHBOUR: 'it returns false'. Refute it at one input. -/
def fnExactLocalDayWrong : ChangeSpec := { name := "fnExactLocalDay", fn := fun _ => fun
  | [d1, d2] => { results := [.lit (.bool false)], args := [d1, d2] }
  | _ => none }
def FnExactLocalDayWrongFalsely : Prop := fnExactLocalDayRow.holds Try.pinned (OpenSpec.ofChange fnExactLocalDayWrong)

/-- 'laws.FnExactLocalDate': WHATEVER THE INPUT: true; the input reads as it did. -/
def fnExactLocalDateSpec : ChangeSpec := { name := "fnExactLocalDate", fn := fun _ => fun
  | [d1, d2] => { results := [.lit (.bool true)], args := [d1, d2] }
  | _ => none }
def fnExactLocalDateRow : OpenClaim := { program := "ytibdbllfapabhaa", sum := "9435a10ab570ddd20ab0d2dd88f7bea31dde7ae4c5ebaedc40c58e27961a2d68", func := "loop.example/g01034/laws.FnExactLocalDate", spec := "fnExactLocalDate", unfollowed := true, recurses := true, apart := false }
def FnExactLocalDateSaid : Prop := fnExactLocalDateRow.holds Try.pinned (OpenSpec.ofChange fnExactLocalDateSpec)

/-- ITS FALSE NEIGHBOUR: 'it returns false'. Refute it at one input. -/
def fnExactLocalDateWrong : ChangeSpec := { name := "fnExactLocalDate", fn := fun _ => fun
  | [d1, d2] => { results := [.lit (.bool false)], args := [d1, d2] }
  | _ => none }
def FnExactLocalDateWrongFalsely : Prop := fnExactLocalDateRow.holds Try.pinned (OpenSpec.ofChange fnExactLocalDateWrong)

/-- 'laws.FnExactSameDay': WHATEVER THE INPUT: true; the input reads as it did. -/
def fnExactSameDaySpec : ChangeSpec := { name := "fnExactSameDay", fn := fun _ => fun
  | [d1, d2, d3, d4] => { results := [.lit (.bool true)], args := [d1, d2, d3, d4] }
  | _ => none }
def fnExactSameDayRow : OpenClaim := { program := "ytibdbllfapabhaa", sum := "9435a10ab570ddd20ab0d2dd88f7bea31dde7ae4c5ebaedc40c58e27961a2d68", func := "loop.example/g01034/laws.FnExactSameDay", spec := "fnExactSameDay", apart := false }
def FnExactSameDaySaid : Prop := fnExactSameDayRow.holds Try.pinned (OpenSpec.ofChange fnExactSameDaySpec)

/-- ITS FALSE NEIGHBOUR: 'it returns false'. Refute it at one input. -/
def fnExactSameDayWrong : ChangeSpec := { name := "fnExactSameDay", fn := fun _ => fun
  | [d1, d2, d3, d4] => { results := [.lit (.bool false)], args := [d1, d2, d3, d4] }
  | _ => none }
def FnExactSameDayWrongFalsely : Prop := fnExactSameDayRow.holds Try.pinned (OpenSpec.ofChange fnExactSameDayWrong)

/-- 'laws.FnExactLocalEaster': WHATEVER THE INPUT: true; the input reads as it did. -/
def fnExactLocalEasterSpec : ChangeSpec := { name := "fnExactLocalEaster", fn := fun _ => fun
  | [d1, d2] => { results := [.lit (.bool true)], args := [d1, d2] }
  | _ => none }
def fnExactLocalEasterRow : OpenClaim := { program := "ytibdbllfapabhaa", sum := "9435a10ab570ddd20ab0d2dd88f7bea31dde7ae4c5ebaedc40c58e27961a2d68", func := "loop.example/g01034/laws.FnExactLocalEaster", spec := "fnExactLocalEaster", apart := false }
def FnExactLocalEasterSaid : Prop := fnExactLocalEasterRow.holds Try.pinned (OpenSpec.ofChange fnExactLocalEasterSpec)

/-- ITS FALSE NEIGHBOUR: 'it returns false'. Refute it at one input. -/
def fnExactLocalEasterWrong : ChangeSpec := { name := "fnExactLocalEaster", fn := fun _ => fun
  | [d1, d2] => { results := [.lit (.bool false)], args := [d1, d2] }
  | _ => none }
def FnExactLocalEasterWrongFalsely : Prop := fnExactLocalEasterRow.holds Try.pinned (OpenSpec.ofChange fnExactLocalEasterWrong)

/-- 'laws.FnExactLengthOfYear': WHATEVER THE INPUT: true; the input reads as it did. -/
def fnExactLengthOfYearSpec : ChangeSpec := { name := "fnExactLengthOfYear", fn := fun _ => fun
  | [d1, d2] => { results := [.lit (.bool true)], args := [d1, d2] }
  | _ => none }
def fnExactLengthOfYearRow : OpenClaim := { program := "ytibdbllfapabhaa", sum := "9435a10ab570ddd20ab0d2dd88f7bea31dde7ae4c5ebaedc40c58e27961a2d68", func := "loop.example/g01034/laws.FnExactLengthOfYear", spec := "fnExactLengthOfYear", apart := false }
def FnExactLengthOfYearSaid : Prop := fnExactLengthOfYearRow.holds Try.pinned (OpenSpec.ofChange fnExactLengthOfYearSpec)

/-- ITS FALSE NEIGHBOUR: 'it returns false'. Refute it at one input. -/
def fnExactLengthOfYearWrong : ChangeSpec := { name := "fnExactLengthOfYear", fn := fun _ => fun
  | [d1, d2] => { results := [.lit (.bool false)], args := [d1, d2] }
  | _ => none }
def FnExactLengthOfYearWrongFalsely : Prop := fnExactLengthOfYearRow.holds Try.pinned (OpenSpec.ofChange fnExactLengthOfYearWrong)

/-- 'laws.FnExactYearsWithEaster': WHATEVER THE INPUT: true; the input reads as it did. -/
def fnExactYearsWithEasterSpec : ChangeSpec := { name := "fnExactYearsWithEaster", fn := fun _ => fun
  | [d1, d2, d3, d4] => { results := [.lit (.bool true)], args := [d1, d2, d3, d4] }
  | _ => none }
def fnExactYearsWithEasterRow : OpenClaim := { program := "ytibdbllfapabhaa", sum := "9435a10ab570ddd20ab0d2dd88f7bea31dde7ae4c5ebaedc40c58e27961a2d68", func := "loop.example/g01034/laws.FnExactYearsWithEaster", spec := "fnExactYearsWithEaster", unfollowed := true, recurses := true, apart := false }
def FnExactYearsWithEasterSaid : Prop := fnExactYearsWithEasterRow.holds Try.pinned (OpenSpec.ofChange fnExactYearsWithEasterSpec)

/-- ITS FALSE NEIGHBOUR: 'it returns false'. Refute it at one input. -/
def fnExactYearsWithEasterWrong : ChangeSpec := { name := "fnExactYearsWithEaster", fn := fun _ => fun
  | [d1, d2, d3, d4] => { results := [.lit (.bool false)], args := [d1, d2, d3, d4] }
  | _ => none }
def FnExactYearsWithEasterWrongFalsely : Prop := fnExactYearsWithEasterRow.holds Try.pinned (OpenSpec.ofChange fnExactYearsWithEasterWrong)

/-- 'laws.FnExactDaysOfYear': WHATEVER THE INPUT: true; the input reads as it did. -/
def fnExactDaysOfYearSpec : ChangeSpec := { name := "fnExactDaysOfYear", fn := fun _ => fun
  | [d1, d2] => { results := [.lit (.bool true)], args := [d1, d2] }
  | _ => none }
def fnExactDaysOfYearRow : OpenClaim := { program := "ytibdbllfapabhaa", sum := "9435a10ab570ddd20ab0d2dd88f7bea31dde7ae4c5ebaedc40c58e27961a2d68", func := "loop.example/g01034/laws.FnExactDaysOfYear", spec := "fnExactDaysOfYear", apart := false }
def FnExactDaysOfYearSaid : Prop := fnExactDaysOfYearRow.holds Try.pinned (OpenSpec.ofChange fnExactDaysOfYearSpec)

/-- ITS FALSE NEIGHBOUR: 'it returns false'. Refute it at one input. -/
def fnExactDaysOfYearWrong : ChangeSpec := { name := "fnExactDaysOfYear", fn := fun _ => fun
  | [d1, d2] => { results := [.lit (.bool false)], args := [d1, d2] }
  | _ => none }
def FnExactDaysOfYearWrongFalsely : Prop := fnExactDaysOfYearRow.holds Try.pinned (OpenSpec.ofChange fnExactDaysOfYearWrong)

/-- 'laws.FnExactFeastDay': WHATEVER THE INPUT: true; the input reads as it did. -/
def fnExactFeastDaySpec : ChangeSpec := { name := "fnExactFeastDay", fn := fun _ => fun
  | [d1, d2] => { results := [.lit (.bool true)], args := [d1, d2] }
  | _ => none }
def fnExactFeastDayRow : OpenClaim := { program := "ytibdbllfapabhaa", sum := "9435a10ab570ddd20ab0d2dd88f7bea31dde7ae4c5ebaedc40c58e27961a2d68", func := "loop.example/g01034/laws.FnExactFeastDay", spec := "fnExactFeastDay", apart := false }
def FnExactFeastDaySaid : Prop := fnExactFeastDayRow.holds Try.pinned (OpenSpec.ofChange fnExactFeastDaySpec)

/-- ITS FALSE NEIGHBOUR: 'it returns false'. Refute it at one input. -/
def fnExactFeastDayWrong : ChangeSpec := { name := "fnExactFeastDay", fn := fun _ => fun
  | [d1, d2] => { results := [.lit (.bool false)], args := [d1, d2] }
  | _ => none }
def FnExactFeastDayWrongFalsely : Prop := fnExactFeastDayRow.holds Try.pinned (OpenSpec.ofChange fnExactFeastDayWrong)

/- THE SECOND FORM. 'bulk': how many values and letters a reading holds, each counted each time it is reached (what is shared counts as often as it is met; a slice's spare places count too). A statement '..UptoSaid' is the law's where the arguments, and the package variables that the reading takes, are together of bulk at most 1048576: NARROWER than '..Said'. Prove '..Said' where nothing that the law and all that it calls make is longer than what came in: it says more and counts as full. Else prove '..UptoSaid'. A law counts once. -/
mutual
def uptoBulk {H : Type} : DataW H → Nat
  | .lit (.string bytes) => bytes.length + 1
  | .lit _ => 1
  | .nil => 1
  | .ptr d => uptoBulk d + 1
  | .slice elems spare => uptoBulkAll elems + uptoBulkAll spare + 1
  | .agg parts => uptoBulkAll parts + 1
  | .iface _ d => uptoBulk d + 1
  | .map entries => uptoBulkEntries entries + 1
  | .held _ => 1
def uptoBulkAll {H : Type} : List (DataW H) → Nat
  | [] => 0
  | d :: r => uptoBulk d + uptoBulkAll r
def uptoBulkEntries {H : Type} : List (Lit × DataW H) → Nat
  | [] => 0
  | x :: r => uptoBulkEntry x + uptoBulkEntries r
def uptoBulkEntry {H : Type} : Lit × DataW H → Nat
  | (.string bytes, d) => bytes.length + uptoBulk d + 1
  | (_, d) => uptoBulk d + 1
 end
def uptoSmall : (H : Type) → List (DataW H) → Bool := fun _ ds => decide (uptoBulkAll ds ≤ 1048576)
def OpenSpec.upto (s : _root_.Go.ChangeSpec) : _root_.Go.OpenSpec := { _root_.Go.OpenSpec.ofChange s with cond := some uptoSmall }

/-- 'laws.FnExactNewDate', WHERE WHAT IT READS IS OF BULK AT MOST 1048576: true; the input reads as it did. -/
def fnExactNewDateUptoRow : OpenClaim := { program := "ytibdbllfapabhaa", sum := "9435a10ab570ddd20ab0d2dd88f7bea31dde7ae4c5ebaedc40c58e27961a2d68", func := "loop.example/g01034/laws.FnExactNewDate", spec := "fnExactNewDate", unfollowed := true, recurses := true, apart := false, narrowed := true }
def FnExactNewDateUptoSaid : Prop := fnExactNewDateUptoRow.holds Try.pinned (OpenSpec.upto fnExactNewDateSpec)

/-- 'laws.FnExactOldDate', WHERE WHAT IT READS IS OF BULK AT MOST 1048576: true; the input reads as it did. -/
def fnExactOldDateUptoRow : OpenClaim := { program := "ytibdbllfapabhaa", sum := "9435a10ab570ddd20ab0d2dd88f7bea31dde7ae4c5ebaedc40c58e27961a2d68", func := "loop.example/g01034/laws.FnExactOldDate", spec := "fnExactOldDate", unfollowed := true, recurses := true, apart := false, narrowed := true }
def FnExactOldDateUptoSaid : Prop := fnExactOldDateUptoRow.holds Try.pinned (OpenSpec.upto fnExactOldDateSpec)

/-- 'laws.FnExactSkippedDates', WHERE WHAT IT READS IS OF BULK AT MOST 1048576: true; the input reads as it did. -/
def fnExactSkippedDatesUptoRow : OpenClaim := { program := "ytibdbllfapabhaa", sum := "9435a10ab570ddd20ab0d2dd88f7bea31dde7ae4c5ebaedc40c58e27961a2d68", func := "loop.example/g01034/laws.FnExactSkippedDates", spec := "fnExactSkippedDates", unfollowed := true, recurses := true, apart := false, narrowed := true }
def FnExactSkippedDatesUptoSaid : Prop := fnExactSkippedDatesUptoRow.holds Try.pinned (OpenSpec.upto fnExactSkippedDatesSpec)

/-- 'laws.FnExactIsLocal', WHERE WHAT IT READS IS OF BULK AT MOST 1048576: true; the input reads as it did. -/
def fnExactIsLocalUptoRow : OpenClaim := { program := "ytibdbllfapabhaa", sum := "9435a10ab570ddd20ab0d2dd88f7bea31dde7ae4c5ebaedc40c58e27961a2d68", func := "loop.example/g01034/laws.FnExactIsLocal", spec := "fnExactIsLocal", apart := false, narrowed := true }
def FnExactIsLocalUptoSaid : Prop := fnExactIsLocalUptoRow.holds Try.pinned (OpenSpec.upto fnExactIsLocalSpec)

/-- 'laws.FnExactLocalDay', WHERE WHAT IT READS IS OF BULK AT MOST 1048576: true; the input reads as it did. -/
def fnExactLocalDayUptoRow : OpenClaim := { program := "ytibdbllfapabhaa", sum := "9435a10ab570ddd20ab0d2dd88f7bea31dde7ae4c5ebaedc40c58e27961a2d68", func := "loop.example/g01034/laws.FnExactLocalDay", spec := "fnExactLocalDay", apart := false, narrowed := true }
def FnExactLocalDayUptoSaid : Prop := fnExactLocalDayUptoRow.holds Try.pinned (OpenSpec.upto fnExactLocalDaySpec)

/-- 'laws.FnExactLocalDate', WHERE WHAT IT READS IS OF BULK AT MOST 1048576: true; the input reads as it did. -/
def fnExactLocalDateUptoRow : OpenClaim := { program := "ytibdbllfapabhaa", sum := "9435a10ab570ddd20ab0d2dd88f7bea31dde7ae4c5ebaedc40c58e27961a2d68", func := "loop.example/g01034/laws.FnExactLocalDate", spec := "fnExactLocalDate", unfollowed := true, recurses := true, apart := false, narrowed := true }
def FnExactLocalDateUptoSaid : Prop := fnExactLocalDateUptoRow.holds Try.pinned (OpenSpec.upto fnExactLocalDateSpec)

/-- 'laws.FnExactSameDay', WHERE WHAT IT READS IS OF BULK AT MOST 1048576: true; the input reads as it did. -/
def fnExactSameDayUptoRow : OpenClaim := { program := "ytibdbllfapabhaa", sum := "9435a10ab570ddd20ab0d2dd88f7bea31dde7ae4c5ebaedc40c58e27961a2d68", func := "loop.example/g01034/laws.FnExactSameDay", spec := "fnExactSameDay", apart := false, narrowed := true }
def FnExactSameDayUptoSaid : Prop := fnExactSameDayUptoRow.holds Try.pinned (OpenSpec.upto fnExactSameDaySpec)

/-- 'laws.FnExactLocalEaster', WHERE WHAT IT READS IS OF BULK AT MOST 1048576: true; the input reads as it did. -/
def fnExactLocalEasterUptoRow : OpenClaim := { program := "ytibdbllfapabhaa", sum := "9435a10ab570ddd20ab0d2dd88f7bea31dde7ae4c5ebaedc40c58e27961a2d68", func := "loop.example/g01034/laws.FnExactLocalEaster", spec := "fnExactLocalEaster", apart := false, narrowed := true }
def FnExactLocalEasterUptoSaid : Prop := fnExactLocalEasterUptoRow.holds Try.pinned (OpenSpec.upto fnExactLocalEasterSpec)

/-- 'laws.FnExactLengthOfYear', WHERE WHAT IT READS IS OF BULK AT MOST 1048576: true; the input reads as it did. -/
def fnExactLengthOfYearUptoRow : OpenClaim := { program := "ytibdbllfapabhaa", sum := "9435a10ab570ddd20ab0d2dd88f7bea31dde7ae4c5ebaedc40c58e27961a2d68", func := "loop.example/g01034/laws.FnExactLengthOfYear", spec := "fnExactLengthOfYear", apart := false, narrowed := true }
def FnExactLengthOfYearUptoSaid : Prop := fnExactLengthOfYearUptoRow.holds Try.pinned (OpenSpec.upto fnExactLengthOfYearSpec)

/-- 'laws.FnExactYearsWithEaster', WHERE WHAT IT READS IS OF BULK AT MOST 1048576: true; the input reads as it did. -/
def fnExactYearsWithEasterUptoRow : OpenClaim := { program := "ytibdbllfapabhaa", sum := "9435a10ab570ddd20ab0d2dd88f7bea31dde7ae4c5ebaedc40c58e27961a2d68", func := "loop.example/g01034/laws.FnExactYearsWithEaster", spec := "fnExactYearsWithEaster", unfollowed := true, recurses := true, apart := false, narrowed := true }
def FnExactYearsWithEasterUptoSaid : Prop := fnExactYearsWithEasterUptoRow.holds Try.pinned (OpenSpec.upto fnExactYearsWithEasterSpec)

/-- 'laws.FnExactDaysOfYear', WHERE WHAT IT READS IS OF BULK AT MOST 1048576: true; the input reads as it did. -/
def fnExactDaysOfYearUptoRow : OpenClaim := { program := "ytibdbllfapabhaa", sum := "9435a10ab570ddd20ab0d2dd88f7bea31dde7ae4c5ebaedc40c58e27961a2d68", func := "loop.example/g01034/laws.FnExactDaysOfYear", spec := "fnExactDaysOfYear", apart := false, narrowed := true }
def FnExactDaysOfYearUptoSaid : Prop := fnExactDaysOfYearUptoRow.holds Try.pinned (OpenSpec.upto fnExactDaysOfYearSpec)

/-- 'laws.FnExactFeastDay', WHERE WHAT IT READS IS OF BULK AT MOST 1048576: true; the input reads as it did. -/
def fnExactFeastDayUptoRow : OpenClaim := { program := "ytibdbllfapabhaa", sum := "9435a10ab570ddd20ab0d2dd88f7bea31dde7ae4c5ebaedc40c58e27961a2d68", func := "loop.example/g01034/laws.FnExactFeastDay", spec := "fnExactFeastDay", apart := false, narrowed := true }
def FnExactFeastDayUptoSaid : Prop := fnExactFeastDayUptoRow.holds Try.pinned (OpenSpec.upto fnExactFeastDaySpec)

end Rows
end Go.Proofs.Ytibdbllfapabhaa
