/-
  No cell of these rows narrows 'for every input' (looked for: loops, veiled, ifaces, maps, wideKeys, modest, calm, conditions, laid).
  DERIVED. THE GIVEN ROWS OF THIS SEAT. 12 by the template 'for every input the law returns true; each argument reads behind the call as it read before'; 0 by the template 'total and deterministic' (their statements: YtoiejdbmjdfdiaaTotals.lean).
  GIVEN WITH THE SEED: the statements are not yours to turn. If you find one false, say at which input.
  Laid BY PROGRAM, IN A SANDBOX (cutbox-rows.mjs): the forced cells as the released guide's own fill.sh prints them over the translation 4267f7df074f74eb… (all of the seat's roots in one cut). By AI agents, Wed Nov 11 2026. No macro, syntax, notation, axiom, sorry.
-/
import Derived.Test.YtoiejdbmjdfdiaaChecked
import GoSem.Claim
import GoSem.ClaimJoined
import GoSem.ClaimMapViews
import Derived.JoinedTies
import Derived.KernelRfl
namespace Go.Proofs.Ytoiejdbmjdfdiaa
/- THE CELL 'sum', in the pinned program and in every row, IS THE sha256 OF THE DUMP (.gsa) THAT YtoiejdbmjdfdiaaProg.lean LOADS. Nothing in Lean hashes anything: it is a label: what it is worth is what the hold of that sum in a sandbox is worth. -/
noncomputable def Try.pinned : Pinned := { name := "ytoiejdbmjdfdiaa", sum := "4267f7df074f74eb2b861afb8cbdcbb92d5374b479bf87079ffc5785209f5eb1", checked := Try.checked }
namespace Rows
def none {H : Type} : Left H := { results := [], args := [] }

/-- 'laws.FnExactConstants': WHATEVER THE INPUT: true; the input reads as it did. -/
def fnExactConstantsSpec : ChangeSpec := { name := "fnExactConstants", fn := fun _ => fun
  | [] => { results := [.lit (.bool true)], args := [] }
  | _ => none }
def fnExactConstantsRow : OpenClaim := { program := "ytoiejdbmjdfdiaa", sum := "4267f7df074f74eb2b861afb8cbdcbb92d5374b479bf87079ffc5785209f5eb1", func := "loop.example/g01034/laws.FnExactConstants", spec := "fnExactConstants", apart := false }
def FnExactConstantsSaid : Prop := fnExactConstantsRow.holds Try.pinned (OpenSpec.ofChange fnExactConstantsSpec)

/-- ITS FALSE NEIGHBOUR: 'it returns false'. Refute it at one input. -/
def fnExactConstantsWrong : ChangeSpec := { name := "fnExactConstants", fn := fun _ => fun
  | [] => { results := [.lit (.bool false)], args := [] }
  | _ => none }
def FnExactConstantsWrongFalsely : Prop := fnExactConstantsRow.holds Try.pinned (OpenSpec.ofChange fnExactConstantsWrong)

/-- 'laws.FnExactIsCalendar': WHATEVER THE INPUT: true; the input reads as it did. -/
def fnExactIsCalendarSpec : ChangeSpec := { name := "fnExactIsCalendar", fn := fun _ => fun
  | [d] => { results := [.lit (.bool true)], args := [d] }
  | _ => none }
def fnExactIsCalendarRow : OpenClaim := { program := "ytoiejdbmjdfdiaa", sum := "4267f7df074f74eb2b861afb8cbdcbb92d5374b479bf87079ffc5785209f5eb1", func := "loop.example/g01034/laws.FnExactIsCalendar", spec := "fnExactIsCalendar", apart := false }
def FnExactIsCalendarSaid : Prop := fnExactIsCalendarRow.holds Try.pinned (OpenSpec.ofChange fnExactIsCalendarSpec)

/-- ITS FALSE NEIGHBOUR: 'it returns false'. Refute it at one input. -/
def fnExactIsCalendarWrong : ChangeSpec := { name := "fnExactIsCalendar", fn := fun _ => fun
  | [d] => { results := [.lit (.bool false)], args := [d] }
  | _ => none }
def FnExactIsCalendarWrongFalsely : Prop := fnExactIsCalendarRow.holds Try.pinned (OpenSpec.ofChange fnExactIsCalendarWrong)

/-- 'laws.FnExactGoldenNumber': WHATEVER THE INPUT: true; the input reads as it did. -/
def fnExactGoldenNumberSpec : ChangeSpec := { name := "fnExactGoldenNumber", fn := fun _ => fun
  | [d] => { results := [.lit (.bool true)], args := [d] }
  | _ => none }
def fnExactGoldenNumberRow : OpenClaim := { program := "ytoiejdbmjdfdiaa", sum := "4267f7df074f74eb2b861afb8cbdcbb92d5374b479bf87079ffc5785209f5eb1", func := "loop.example/g01034/laws.FnExactGoldenNumber", spec := "fnExactGoldenNumber", apart := false }
def FnExactGoldenNumberSaid : Prop := fnExactGoldenNumberRow.holds Try.pinned (OpenSpec.ofChange fnExactGoldenNumberSpec)

/-- ITS FALSE NEIGHBOUR: 'it returns false'. Refute it at one input. -/
def fnExactGoldenNumberWrong : ChangeSpec := { name := "fnExactGoldenNumber", fn := fun _ => fun
  | [d] => { results := [.lit (.bool false)], args := [d] }
  | _ => none }
def FnExactGoldenNumberWrongFalsely : Prop := fnExactGoldenNumberRow.holds Try.pinned (OpenSpec.ofChange fnExactGoldenNumberWrong)

/-- 'laws.FnExactWeekdayOf': WHATEVER THE INPUT: true; the input reads as it did. -/
def fnExactWeekdayOfSpec : ChangeSpec := { name := "fnExactWeekdayOf", fn := fun _ => fun
  | [d] => { results := [.lit (.bool true)], args := [d] }
  | _ => none }
def fnExactWeekdayOfRow : OpenClaim := { program := "ytoiejdbmjdfdiaa", sum := "4267f7df074f74eb2b861afb8cbdcbb92d5374b479bf87079ffc5785209f5eb1", func := "loop.example/g01034/laws.FnExactWeekdayOf", spec := "fnExactWeekdayOf", apart := false }
def FnExactWeekdayOfSaid : Prop := fnExactWeekdayOfRow.holds Try.pinned (OpenSpec.ofChange fnExactWeekdayOfSpec)

/-- ITS FALSE NEIGHBOUR: 'it returns false'. Refute it at one input. -/
def fnExactWeekdayOfWrong : ChangeSpec := { name := "fnExactWeekdayOf", fn := fun _ => fun
  | [d] => { results := [.lit (.bool false)], args := [d] }
  | _ => none }
def FnExactWeekdayOfWrongFalsely : Prop := fnExactWeekdayOfRow.holds Try.pinned (OpenSpec.ofChange fnExactWeekdayOfWrong)

/-- 'laws.FnExactIsNewDate': WHATEVER THE INPUT: true; the input reads as it did. -/
def fnExactIsNewDateSpec : ChangeSpec := { name := "fnExactIsNewDate", fn := fun _ => fun
  | [d] => { results := [.lit (.bool true)], args := [d] }
  | _ => none }
def fnExactIsNewDateRow : OpenClaim := { program := "ytoiejdbmjdfdiaa", sum := "4267f7df074f74eb2b861afb8cbdcbb92d5374b479bf87079ffc5785209f5eb1", func := "loop.example/g01034/laws.FnExactIsNewDate", spec := "fnExactIsNewDate", apart := false }
def FnExactIsNewDateSaid : Prop := fnExactIsNewDateRow.holds Try.pinned (OpenSpec.ofChange fnExactIsNewDateSpec)

/-- ITS FALSE NEIGHBOUR: 'it returns false'. Refute it at one input. -/
def fnExactIsNewDateWrong : ChangeSpec := { name := "fnExactIsNewDate", fn := fun _ => fun
  | [d] => { results := [.lit (.bool false)], args := [d] }
  | _ => none }
def FnExactIsNewDateWrongFalsely : Prop := fnExactIsNewDateRow.holds Try.pinned (OpenSpec.ofChange fnExactIsNewDateWrong)

/-- 'laws.FnExactIsOldDate': WHATEVER THE INPUT: true; the input reads as it did. -/
def fnExactIsOldDateSpec : ChangeSpec := { name := "fnExactIsOldDate", fn := fun _ => fun
  | [d] => { results := [.lit (.bool true)], args := [d] }
  | _ => none }
def fnExactIsOldDateRow : OpenClaim := { program := "ytoiejdbmjdfdiaa", sum := "4267f7df074f74eb2b861afb8cbdcbb92d5374b479bf87079ffc5785209f5eb1", func := "loop.example/g01034/laws.FnExactIsOldDate", spec := "fnExactIsOldDate", apart := false }
def FnExactIsOldDateSaid : Prop := fnExactIsOldDateRow.holds Try.pinned (OpenSpec.ofChange fnExactIsOldDateSpec)

/-- ITS FALSE NEIGHBOUR: 'it returns false'. Refute it at one input. -/
def fnExactIsOldDateWrong : ChangeSpec := { name := "fnExactIsOldDate", fn := fun _ => fun
  | [d] => { results := [.lit (.bool false)], args := [d] }
  | _ => none }
def FnExactIsOldDateWrongFalsely : Prop := fnExactIsOldDateRow.holds Try.pinned (OpenSpec.ofChange fnExactIsOldDateWrong)

/-- 'laws.FnExactSundayLetters': WHATEVER THE INPUT: true; the input reads as it did. -/
def fnExactSundayLettersSpec : ChangeSpec := { name := "fnExactSundayLetters", fn := fun _ => fun
  | [d] => { results := [.lit (.bool true)], args := [d] }
  | _ => none }
def fnExactSundayLettersRow : OpenClaim := { program := "ytoiejdbmjdfdiaa", sum := "4267f7df074f74eb2b861afb8cbdcbb92d5374b479bf87079ffc5785209f5eb1", func := "loop.example/g01034/laws.FnExactSundayLetters", spec := "fnExactSundayLetters", apart := false }
def FnExactSundayLettersSaid : Prop := fnExactSundayLettersRow.holds Try.pinned (OpenSpec.ofChange fnExactSundayLettersSpec)

/-- ITS FALSE NEIGHBOUR: 'it returns false'. Refute it at one input. -/
def fnExactSundayLettersWrong : ChangeSpec := { name := "fnExactSundayLetters", fn := fun _ => fun
  | [d] => { results := [.lit (.bool false)], args := [d] }
  | _ => none }
def FnExactSundayLettersWrongFalsely : Prop := fnExactSundayLettersRow.holds Try.pinned (OpenSpec.ofChange fnExactSundayLettersWrong)

/-- 'laws.FnExactEasterTerm': WHATEVER THE INPUT: true; the input reads as it did. -/
def fnExactEasterTermSpec : ChangeSpec := { name := "fnExactEasterTerm", fn := fun _ => fun
  | [d] => { results := [.lit (.bool true)], args := [d] }
  | _ => none }
def fnExactEasterTermRow : OpenClaim := { program := "ytoiejdbmjdfdiaa", sum := "4267f7df074f74eb2b861afb8cbdcbb92d5374b479bf87079ffc5785209f5eb1", func := "loop.example/g01034/laws.FnExactEasterTerm", spec := "fnExactEasterTerm", apart := false }
def FnExactEasterTermSaid : Prop := fnExactEasterTermRow.holds Try.pinned (OpenSpec.ofChange fnExactEasterTermSpec)

/-- ITS FALSE NEIGHBOUR: 'it returns false'. Refute it at one input. -/
def fnExactEasterTermWrong : ChangeSpec := { name := "fnExactEasterTerm", fn := fun _ => fun
  | [d] => { results := [.lit (.bool false)], args := [d] }
  | _ => none }
def FnExactEasterTermWrongFalsely : Prop := fnExactEasterTermRow.holds Try.pinned (OpenSpec.ofChange fnExactEasterTermWrong)

/-- 'laws.FnExactNewDay': WHATEVER THE INPUT: true; the input reads as it did. -/
def fnExactNewDaySpec : ChangeSpec := { name := "fnExactNewDay", fn := fun _ => fun
  | [d] => { results := [.lit (.bool true)], args := [d] }
  | _ => none }
def fnExactNewDayRow : OpenClaim := { program := "ytoiejdbmjdfdiaa", sum := "4267f7df074f74eb2b861afb8cbdcbb92d5374b479bf87079ffc5785209f5eb1", func := "loop.example/g01034/laws.FnExactNewDay", spec := "fnExactNewDay", apart := false }
def FnExactNewDaySaid : Prop := fnExactNewDayRow.holds Try.pinned (OpenSpec.ofChange fnExactNewDaySpec)

/-- ITS FALSE NEIGHBOUR: 'it returns false'. Refute it at one input. -/
def fnExactNewDayWrong : ChangeSpec := { name := "fnExactNewDay", fn := fun _ => fun
  | [d] => { results := [.lit (.bool false)], args := [d] }
  | _ => none }
def FnExactNewDayWrongFalsely : Prop := fnExactNewDayRow.holds Try.pinned (OpenSpec.ofChange fnExactNewDayWrong)

/-- 'laws.FnExactOldDay': WHATEVER THE INPUT: true; the input reads as it did. -/
def fnExactOldDaySpec : ChangeSpec := { name := "fnExactOldDay", fn := fun _ => fun
  | [d] => { results := [.lit (.bool true)], args := [d] }
  | _ => none }
def fnExactOldDayRow : OpenClaim := { program := "ytoiejdbmjdfdiaa", sum := "4267f7df074f74eb2b861afb8cbdcbb92d5374b479bf87079ffc5785209f5eb1", func := "loop.example/g01034/laws.FnExactOldDay", spec := "fnExactOldDay", apart := false }
def FnExactOldDaySaid : Prop := fnExactOldDayRow.holds Try.pinned (OpenSpec.ofChange fnExactOldDaySpec)

/-- ITS FALSE NEIGHBOUR: 'it returns false'. Refute it at one input. -/
def fnExactOldDayWrong : ChangeSpec := { name := "fnExactOldDay", fn := fun _ => fun
  | [d] => { results := [.lit (.bool false)], args := [d] }
  | _ => none }
def FnExactOldDayWrongFalsely : Prop := fnExactOldDayRow.holds Try.pinned (OpenSpec.ofChange fnExactOldDayWrong)

/-- 'laws.FnExactOldEaster': WHATEVER THE INPUT: true; the input reads as it did. -/
def fnExactOldEasterSpec : ChangeSpec := { name := "fnExactOldEaster", fn := fun _ => fun
  | [d] => { results := [.lit (.bool true)], args := [d] }
  | _ => none }
def fnExactOldEasterRow : OpenClaim := { program := "ytoiejdbmjdfdiaa", sum := "4267f7df074f74eb2b861afb8cbdcbb92d5374b479bf87079ffc5785209f5eb1", func := "loop.example/g01034/laws.FnExactOldEaster", spec := "fnExactOldEaster", apart := false }
def FnExactOldEasterSaid : Prop := fnExactOldEasterRow.holds Try.pinned (OpenSpec.ofChange fnExactOldEasterSpec)

/-- ITS FALSE NEIGHBOUR: 'it returns false'. Refute it at one input. -/
def fnExactOldEasterWrong : ChangeSpec := { name := "fnExactOldEaster", fn := fun _ => fun
  | [d] => { results := [.lit (.bool false)], args := [d] }
  | _ => none }
def FnExactOldEasterWrongFalsely : Prop := fnExactOldEasterRow.holds Try.pinned (OpenSpec.ofChange fnExactOldEasterWrong)

/-- 'laws.FnExactNewEaster': WHATEVER THE INPUT: true; the input reads as it did. -/
def fnExactNewEasterSpec : ChangeSpec := { name := "fnExactNewEaster", fn := fun _ => fun
  | [d] => { results := [.lit (.bool true)], args := [d] }
  | _ => none }
def fnExactNewEasterRow : OpenClaim := { program := "ytoiejdbmjdfdiaa", sum := "4267f7df074f74eb2b861afb8cbdcbb92d5374b479bf87079ffc5785209f5eb1", func := "loop.example/g01034/laws.FnExactNewEaster", spec := "fnExactNewEaster", apart := false }
def FnExactNewEasterSaid : Prop := fnExactNewEasterRow.holds Try.pinned (OpenSpec.ofChange fnExactNewEasterSpec)

/-- ITS FALSE NEIGHBOUR: 'it returns false'. Refute it at one input. -/
def fnExactNewEasterWrong : ChangeSpec := { name := "fnExactNewEaster", fn := fun _ => fun
  | [d] => { results := [.lit (.bool false)], args := [d] }
  | _ => none }
def FnExactNewEasterWrongFalsely : Prop := fnExactNewEasterRow.holds Try.pinned (OpenSpec.ofChange fnExactNewEasterWrong)

/- THE SECOND FORM. 'bulk': how many values and letters a reading holds, each counted each time it is reached (what is shared counts as often as it is met; a slice's spare places count too). A statement '..UptoSaid' is the law's where the arguments, and the package variables that the reading takes, are together of bulk at most 1048576: NARROWER than '..Said'. Prove '..Said' where nothing that the law and all that it calls make is longer than what came in: it says more and counts as full. Else prove '..UptoSaid'. A law counts once. -/
mutual
def uptoBulk {H : Type} : DataW H → Nat
  | .lit (.string bytes) => bytes.length + 1
  | .lit _ => 1
  | .nil => 1
  | .ptr d => uptoBulk d + 1
  | .slice elems spare => uptoBulkAll elems + uptoBulkAll spare + 1
  | .agg parts => uptoBulkAll parts + 1
  | .iface _ d => uptoBulk d + 1
  | .map entries => uptoBulkEntries entries + 1
  | .held _ => 1
def uptoBulkAll {H : Type} : List (DataW H) → Nat
  | [] => 0
  | d :: r => uptoBulk d + uptoBulkAll r
def uptoBulkEntries {H : Type} : List (Lit × DataW H) → Nat
  | [] => 0
  | x :: r => uptoBulkEntry x + uptoBulkEntries r
def uptoBulkEntry {H : Type} : Lit × DataW H → Nat
  | (.string bytes, d) => bytes.length + uptoBulk d + 1
  | (_, d) => uptoBulk d + 1
 end
def uptoSmall : (H : Type) → List (DataW H) → Bool := fun _ ds => decide (uptoBulkAll ds ≤ 1048576)
def OpenSpec.upto (s : _root_.Go.ChangeSpec) : _root_.Go.OpenSpec := { _root_.Go.OpenSpec.ofChange s with cond := some uptoSmall }

/-- 'laws.FnExactConstants', WHERE WHAT IT READS IS OF BULK AT MOST 1048576: true; the input reads as it did. -/
def fnExactConstantsUptoRow : OpenClaim := { program := "ytoiejdbmjdfdiaa", sum := "4267f7df074f74eb2b861afb8cbdcbb92d5374b479bf87079ffc5785209f5eb1", func := "loop.example/g01034/laws.FnExactConstants", spec := "fnExactConstants", apart := false, narrowed := true }
def FnExactConstantsUptoSaid : Prop := fnExactConstantsUptoRow.holds Try.pinned (OpenSpec.upto fnExactConstantsSpec)

/-- 'laws.FnExactIsCalendar', WHERE WHAT IT READS IS OF BULK AT MOST 1048576: true; the input reads as it did. -/
def fnExactIsCalendarUptoRow : OpenClaim := { program := "ytoiejdbmjdfdiaa", sum := "4267f7df074f74eb2b861afb8cbdcbb92d5374b479bf87079ffc5785209f5eb1", func := "loop.example/g01034/laws.FnExactIsCalendar", spec := "fnExactIsCalendar", apart := false, narrowed := true }
def FnExactIsCalendarUptoSaid : Prop := fnExactIsCalendarUptoRow.holds Try.pinned (OpenSpec.upto fnExactIsCalendarSpec)

/-- 'laws.FnExactGoldenNumber', WHERE WHAT IT READS IS OF BULK AT MOST 1048576: true; the input reads as it did. -/
def fnExactGoldenNumberUptoRow : OpenClaim := { program := "ytoiejdbmjdfdiaa", sum := "4267f7df074f74eb2b861afb8cbdcbb92d5374b479bf87079ffc5785209f5eb1", func := "loop.example/g01034/laws.FnExactGoldenNumber", spec := "fnExactGoldenNumber", apart := false, narrowed := true }
def FnExactGoldenNumberUptoSaid : Prop := fnExactGoldenNumberUptoRow.holds Try.pinned (OpenSpec.upto fnExactGoldenNumberSpec)

/-- 'laws.FnExactWeekdayOf', WHERE WHAT IT READS IS OF BULK AT MOST 1048576: true; the input reads as it did. -/
def fnExactWeekdayOfUptoRow : OpenClaim := { program := "ytoiejdbmjdfdiaa", sum := "4267f7df074f74eb2b861afb8cbdcbb92d5374b479bf87079ffc5785209f5eb1", func := "loop.example/g01034/laws.FnExactWeekdayOf", spec := "fnExactWeekdayOf", apart := false, narrowed := true }
def FnExactWeekdayOfUptoSaid : Prop := fnExactWeekdayOfUptoRow.holds Try.pinned (OpenSpec.upto fnExactWeekdayOfSpec)

/-- 'laws.FnExactIsNewDate', WHERE WHAT IT READS IS OF BULK AT MOST 1048576: true; the input reads as it did. -/
def fnExactIsNewDateUptoRow : OpenClaim := { program := "ytoiejdbmjdfdiaa", sum := "4267f7df074f74eb2b861afb8cbdcbb92d5374b479bf87079ffc5785209f5eb1", func := "loop.example/g01034/laws.FnExactIsNewDate", spec := "fnExactIsNewDate", apart := false, narrowed := true }
def FnExactIsNewDateUptoSaid : Prop := fnExactIsNewDateUptoRow.holds Try.pinned (OpenSpec.upto fnExactIsNewDateSpec)

/-- 'laws.FnExactIsOldDate', WHERE WHAT IT READS IS OF BULK AT MOST 1048576: true; the input reads as it did. -/
def fnExactIsOldDateUptoRow : OpenClaim := { program := "ytoiejdbmjdfdiaa", sum := "4267f7df074f74eb2b861afb8cbdcbb92d5374b479bf87079ffc5785209f5eb1", func := "loop.example/g01034/laws.FnExactIsOldDate", spec := "fnExactIsOldDate", apart := false, narrowed := true }
def FnExactIsOldDateUptoSaid : Prop := fnExactIsOldDateUptoRow.holds Try.pinned (OpenSpec.upto fnExactIsOldDateSpec)

/-- 'laws.FnExactSundayLetters', WHERE WHAT IT READS IS OF BULK AT MOST 1048576: true; the input reads as it did. -/
def fnExactSundayLettersUptoRow : OpenClaim := { program := "ytoiejdbmjdfdiaa", sum := "4267f7df074f74eb2b861afb8cbdcbb92d5374b479bf87079ffc5785209f5eb1", func := "loop.example/g01034/laws.FnExactSundayLetters", spec := "fnExactSundayLetters", apart := false, narrowed := true }
def FnExactSundayLettersUptoSaid : Prop := fnExactSundayLettersUptoRow.holds Try.pinned (OpenSpec.upto fnExactSundayLettersSpec)

/-- 'laws.FnExactEasterTerm', WHERE WHAT IT READS IS OF BULK AT MOST 1048576: true; the input reads as it did. -/
def fnExactEasterTermUptoRow : OpenClaim := { program := "ytoiejdbmjdfdiaa", sum := "4267f7df074f74eb2b861afb8cbdcbb92d5374b479bf87079ffc5785209f5eb1", func := "loop.example/g01034/laws.FnExactEasterTerm", spec := "fnExactEasterTerm", apart := false, narrowed := true }
def FnExactEasterTermUptoSaid : Prop := fnExactEasterTermUptoRow.holds Try.pinned (OpenSpec.upto fnExactEasterTermSpec)

/-- 'laws.FnExactNewDay', WHERE WHAT IT READS IS OF BULK AT MOST 1048576: true; the input reads as it did. -/
def fnExactNewDayUptoRow : OpenClaim := { program := "ytoiejdbmjdfdiaa", sum := "4267f7df074f74eb2b861afb8cbdcbb92d5374b479bf87079ffc5785209f5eb1", func := "loop.example/g01034/laws.FnExactNewDay", spec := "fnExactNewDay", apart := false, narrowed := true }
def FnExactNewDayUptoSaid : Prop := fnExactNewDayUptoRow.holds Try.pinned (OpenSpec.upto fnExactNewDaySpec)

/-- 'laws.FnExactOldDay', WHERE WHAT IT READS IS OF BULK AT MOST 1048576: true; the input reads as it did. -/
def fnExactOldDayUptoRow : OpenClaim := { program := "ytoiejdbmjdfdiaa", sum := "4267f7df074f74eb2b861afb8cbdcbb92d5374b479bf87079ffc5785209f5eb1", func := "loop.example/g01034/laws.FnExactOldDay", spec := "fnExactOldDay", apart := false, narrowed := true }
def FnExactOldDayUptoSaid : Prop := fnExactOldDayUptoRow.holds Try.pinned (OpenSpec.upto fnExactOldDaySpec)

/-- 'laws.FnExactOldEaster', WHERE WHAT IT READS IS OF BULK AT MOST 1048576: true; the input reads as it did. -/
def fnExactOldEasterUptoRow : OpenClaim := { program := "ytoiejdbmjdfdiaa", sum := "4267f7df074f74eb2b861afb8cbdcbb92d5374b479bf87079ffc5785209f5eb1", func := "loop.example/g01034/laws.FnExactOldEaster", spec := "fnExactOldEaster", apart := false, narrowed := true }
def FnExactOldEasterUptoSaid : Prop := fnExactOldEasterUptoRow.holds Try.pinned (OpenSpec.upto fnExactOldEasterSpec)

/-- 'laws.FnExactNewEaster', WHERE WHAT IT READS IS OF BULK AT MOST 1048576: true; the input reads as it did. -/
def fnExactNewEasterUptoRow : OpenClaim := { program := "ytoiejdbmjdfdiaa", sum := "4267f7df074f74eb2b861afb8cbdcbb92d5374b479bf87079ffc5785209f5eb1", func := "loop.example/g01034/laws.FnExactNewEaster", spec := "fnExactNewEaster", apart := false, narrowed := true }
def FnExactNewEasterUptoSaid : Prop := fnExactNewEasterUptoRow.holds Try.pinned (OpenSpec.upto fnExactNewEasterSpec)

end Rows
end Go.Proofs.Ytoiejdbmjdfdiaa
