/-
  No cell of these rows narrows 'for every input' (looked for: loops, veiled, ifaces, maps, wideKeys, modest, calm, conditions, laid).
  DERIVED. THE GIVEN ROWS OF THIS SEAT. 12 by the template 'for every input the law returns true; each argument reads behind the call as it read before'; 0 by the template 'total and deterministic' (their statements: YticnkjpgjcddcaaTotals.lean).
  GIVEN WITH THE SEED: the statements are not yours to turn. If you find one false, say at which input.
  Laid BY PROGRAM, IN A SANDBOX (cutbox-rows.mjs): the forced cells as the released guide's own fill.sh prints them over the translation d75ed2ac9ba8ccd2… (all of the seat's roots in one cut). By AI agents, Wed Nov 11 2026. No macro, syntax, notation, axiom, sorry.
-/
import Derived.Test.YticnkjpgjcddcaaChecked
import GoSem.Claim
import GoSem.ClaimJoined
import GoSem.ClaimMapViews
import Derived.JoinedTies
import Derived.KernelRfl
namespace Go.Proofs.Yticnkjpgjcddcaa
/- THE CELL 'sum', in the pinned program and in every row, IS THE sha256 OF THE DUMP (.gsa) THAT YticnkjpgjcddcaaProg.lean LOADS. Nothing in Lean hashes anything: it is a label: what it is worth is what the hold of that sum in a sandbox is worth. -/
noncomputable def Try.pinned : Pinned := { name := "yticnkjpgjcddcaa", sum := "d75ed2ac9ba8ccd29cb1766cf510585a886dd498b754ba3606d5648e0008de67", checked := Try.checked }
namespace Rows
def none {H : Type} : Left H := { results := [], args := [] }

/-- 'laws.FnExactYearsWithEaster': WHATEVER THE INPUT: true; the input reads as it did. -/
def fnExactYearsWithEasterSpec : ChangeSpec := { name := "fnExactYearsWithEaster", fn := fun _ => fun
  | [d1, d2, d3, d4] => { results := [.lit (.bool true)], args := [d1, d2, d3, d4] }
  | _ => none }
def fnExactYearsWithEasterRow : OpenClaim := { program := "yticnkjpgjcddcaa", sum := "d75ed2ac9ba8ccd29cb1766cf510585a886dd498b754ba3606d5648e0008de67", func := "loop.example/g01034/laws.FnExactYearsWithEaster", spec := "fnExactYearsWithEaster", unfollowed := true, recurses := true, apart := false }
def FnExactYearsWithEasterSaid : Prop := fnExactYearsWithEasterRow.holds Try.pinned (OpenSpec.ofChange fnExactYearsWithEasterSpec)

/-- ITS FALSE NEIGHBOUR: 'it returns false'. Refute it at one input. -/
def fnExactYearsWithEasterWrong : ChangeSpec := { name := "fnExactYearsWithEaster", fn := fun _ => fun
  | [d1, d2, d3, d4] => { results := [.lit (.bool false)], args := [d1, d2, d3, d4] }
  | _ => none }
def FnExactYearsWithEasterWrongFalsely : Prop := fnExactYearsWithEasterRow.holds Try.pinned (OpenSpec.ofChange fnExactYearsWithEasterWrong)

/-- 'laws.FnExactRelatedDay': WHATEVER THE INPUT: true; the input reads as it did. -/
def fnExactRelatedDaySpec : ChangeSpec := { name := "fnExactRelatedDay", fn := fun _ => fun
  | [d1, d2, d3, d4] => { results := [.lit (.bool true)], args := [d1, d2, d3, d4] }
  | _ => none }
def fnExactRelatedDayRow : OpenClaim := { program := "yticnkjpgjcddcaa", sum := "d75ed2ac9ba8ccd29cb1766cf510585a886dd498b754ba3606d5648e0008de67", func := "loop.example/g01034/laws.FnExactRelatedDay", spec := "fnExactRelatedDay", apart := false }
def FnExactRelatedDaySaid : Prop := fnExactRelatedDayRow.holds Try.pinned (OpenSpec.ofChange fnExactRelatedDaySpec)

/-- ITS FALSE NEIGHBOUR: 'it returns false'. Refute it at one input. -/
def fnExactRelatedDayWrong : ChangeSpec := { name := "fnExactRelatedDay", fn := fun _ => fun
  | [d1, d2, d3, d4] => { results := [.lit (.bool false)], args := [d1, d2, d3, d4] }
  | _ => none }
def FnExactRelatedDayWrongFalsely : Prop := fnExactRelatedDayRow.holds Try.pinned (OpenSpec.ofChange fnExactRelatedDayWrong)

/-- 'laws.FnExactNearestFeast': WHATEVER THE INPUT: true; the input reads as it did. -/
def fnExactNearestFeastSpec : ChangeSpec := { name := "fnExactNearestFeast", fn := fun _ => fun
  | [d] => { results := [.lit (.bool true)], args := [d] }
  | _ => none }
def fnExactNearestFeastRow : OpenClaim := { program := "yticnkjpgjcddcaa", sum := "d75ed2ac9ba8ccd29cb1766cf510585a886dd498b754ba3606d5648e0008de67", func := "loop.example/g01034/laws.FnExactNearestFeast", spec := "fnExactNearestFeast", unfollowed := true, recurses := true, apart := false }
def FnExactNearestFeastSaid : Prop := fnExactNearestFeastRow.holds Try.pinned (OpenSpec.ofChange fnExactNearestFeastSpec)

/-- ITS FALSE NEIGHBOUR: 'it returns false'. Refute it at one input. -/
def fnExactNearestFeastWrong : ChangeSpec := { name := "fnExactNearestFeast", fn := fun _ => fun
  | [d] => { results := [.lit (.bool false)], args := [d] }
  | _ => none }
def FnExactNearestFeastWrongFalsely : Prop := fnExactNearestFeastRow.holds Try.pinned (OpenSpec.ofChange fnExactNearestFeastWrong)

/-- 'laws.FnExactNextFeast': WHATEVER THE INPUT: true; the input reads as it did. -/
def fnExactNextFeastSpec : ChangeSpec := { name := "fnExactNextFeast", fn := fun _ => fun
  | [d] => { results := [.lit (.bool true)], args := [d] }
  | _ => none }
def fnExactNextFeastRow : OpenClaim := { program := "yticnkjpgjcddcaa", sum := "d75ed2ac9ba8ccd29cb1766cf510585a886dd498b754ba3606d5648e0008de67", func := "loop.example/g01034/laws.FnExactNextFeast", spec := "fnExactNextFeast", unfollowed := true, recurses := true, apart := false }
def FnExactNextFeastSaid : Prop := fnExactNextFeastRow.holds Try.pinned (OpenSpec.ofChange fnExactNextFeastSpec)

/-- ITS FALSE NEIGHBOUR: 'it returns false'. Refute it at one input. -/
def fnExactNextFeastWrong : ChangeSpec := { name := "fnExactNextFeast", fn := fun _ => fun
  | [d] => { results := [.lit (.bool false)], args := [d] }
  | _ => none }
def FnExactNextFeastWrongFalsely : Prop := fnExactNextFeastRow.holds Try.pinned (OpenSpec.ofChange fnExactNextFeastWrong)

/-- 'laws.FnExactFeastsOn': WHATEVER THE INPUT: true; the input reads as it did. -/
def fnExactFeastsOnSpec : ChangeSpec := { name := "fnExactFeastsOn", fn := fun _ => fun
  | [d] => { results := [.lit (.bool true)], args := [d] }
  | _ => none }
def fnExactFeastsOnRow : OpenClaim := { program := "yticnkjpgjcddcaa", sum := "d75ed2ac9ba8ccd29cb1766cf510585a886dd498b754ba3606d5648e0008de67", func := "loop.example/g01034/laws.FnExactFeastsOn", spec := "fnExactFeastsOn", unfollowed := true, recurses := true, apart := false }
def FnExactFeastsOnSaid : Prop := fnExactFeastsOnRow.holds Try.pinned (OpenSpec.ofChange fnExactFeastsOnSpec)

/-- ITS FALSE NEIGHBOUR: 'it returns false'. Refute it at one input. -/
def fnExactFeastsOnWrong : ChangeSpec := { name := "fnExactFeastsOn", fn := fun _ => fun
  | [d] => { results := [.lit (.bool false)], args := [d] }
  | _ => none }
def FnExactFeastsOnWrongFalsely : Prop := fnExactFeastsOnRow.holds Try.pinned (OpenSpec.ofChange fnExactFeastsOnWrong)

/-- 'laws.FnExactFeastDays': WHATEVER THE INPUT: true; the input reads as it did. -/
def fnExactFeastDaysSpec : ChangeSpec := { name := "fnExactFeastDays", fn := fun _ => fun
  | [d1, d2, d3, d4, d5] => { results := [.lit (.bool true)], args := [d1, d2, d3, d4, d5] }
  | _ => none }
def fnExactFeastDaysRow : OpenClaim := { program := "yticnkjpgjcddcaa", sum := "d75ed2ac9ba8ccd29cb1766cf510585a886dd498b754ba3606d5648e0008de67", func := "loop.example/g01034/laws.FnExactFeastDays", spec := "fnExactFeastDays", unfollowed := true, recurses := true, apart := false }
def FnExactFeastDaysSaid : Prop := fnExactFeastDaysRow.holds Try.pinned (OpenSpec.ofChange fnExactFeastDaysSpec)

/-- ITS FALSE NEIGHBOUR: 'it returns false'. Refute it at one input. -/
def fnExactFeastDaysWrong : ChangeSpec := { name := "fnExactFeastDays", fn := fun _ => fun
  | [d1, d2, d3, d4, d5] => { results := [.lit (.bool false)], args := [d1, d2, d3, d4, d5] }
  | _ => none }
def FnExactFeastDaysWrongFalsely : Prop := fnExactFeastDaysRow.holds Try.pinned (OpenSpec.ofChange fnExactFeastDaysWrong)

/-- 'laws.FnDays': WHATEVER THE INPUT: true; the input reads as it did. -/
def fnDaysSpec : ChangeSpec := { name := "fnDays", fn := fun _ => fun
  | [d] => { results := [.lit (.bool true)], args := [d] }
  | _ => none }
def fnDaysRow : OpenClaim := { program := "yticnkjpgjcddcaa", sum := "d75ed2ac9ba8ccd29cb1766cf510585a886dd498b754ba3606d5648e0008de67", func := "loop.example/g01034/laws.FnDays", spec := "fnDays", unfollowed := true, recurses := true, apart := false }
def FnDaysSaid : Prop := fnDaysRow.holds Try.pinned (OpenSpec.ofChange fnDaysSpec)

/-- ITS FALSE NEIGHBOUR: 'it returns false'. Refute it at one input. -/
def fnDaysWrong : ChangeSpec := { name := "fnDays", fn := fun _ => fun
  | [d] => { results := [.lit (.bool false)], args := [d] }
  | _ => none }
def FnDaysWrongFalsely : Prop := fnDaysRow.holds Try.pinned (OpenSpec.ofChange fnDaysWrong)

/-- 'laws.FnLetters': WHATEVER THE INPUT: true; the input reads as it did. -/
def fnLettersSpec : ChangeSpec := { name := "fnLetters", fn := fun _ => fun
  | [d] => { results := [.lit (.bool true)], args := [d] }
  | _ => none }
def fnLettersRow : OpenClaim := { program := "yticnkjpgjcddcaa", sum := "d75ed2ac9ba8ccd29cb1766cf510585a886dd498b754ba3606d5648e0008de67", func := "loop.example/g01034/laws.FnLetters", spec := "fnLetters", unfollowed := true, recurses := true, apart := false }
def FnLettersSaid : Prop := fnLettersRow.holds Try.pinned (OpenSpec.ofChange fnLettersSpec)

/-- ITS FALSE NEIGHBOUR: 'it returns false'. Refute it at one input. -/
def fnLettersWrong : ChangeSpec := { name := "fnLetters", fn := fun _ => fun
  | [d] => { results := [.lit (.bool false)], args := [d] }
  | _ => none }
def FnLettersWrongFalsely : Prop := fnLettersRow.holds Try.pinned (OpenSpec.ofChange fnLettersWrong)

/-- 'laws.FnEasters': WHATEVER THE INPUT: true; the input reads as it did. -/
def fnEastersSpec : ChangeSpec := { name := "fnEasters", fn := fun _ => fun
  | [d] => { results := [.lit (.bool true)], args := [d] }
  | _ => none }
def fnEastersRow : OpenClaim := { program := "yticnkjpgjcddcaa", sum := "d75ed2ac9ba8ccd29cb1766cf510585a886dd498b754ba3606d5648e0008de67", func := "loop.example/g01034/laws.FnEasters", spec := "fnEasters", unfollowed := true, recurses := true, apart := false }
def FnEastersSaid : Prop := fnEastersRow.holds Try.pinned (OpenSpec.ofChange fnEastersSpec)

/-- ITS FALSE NEIGHBOUR: 'it returns false'. Refute it at one input. -/
def fnEastersWrong : ChangeSpec := { name := "fnEasters", fn := fun _ => fun
  | [d] => { results := [.lit (.bool false)], args := [d] }
  | _ => none }
def FnEastersWrongFalsely : Prop := fnEastersRow.holds Try.pinned (OpenSpec.ofChange fnEastersWrong)

/-- 'laws.FnCalendars': WHATEVER THE INPUT: true; the input reads as it did. -/
def fnCalendarsSpec : ChangeSpec := { name := "fnCalendars", fn := fun _ => fun
  | [d] => { results := [.lit (.bool true)], args := [d] }
  | _ => none }
def fnCalendarsRow : OpenClaim := { program := "yticnkjpgjcddcaa", sum := "d75ed2ac9ba8ccd29cb1766cf510585a886dd498b754ba3606d5648e0008de67", func := "loop.example/g01034/laws.FnCalendars", spec := "fnCalendars", unfollowed := true, recurses := true, apart := false }
def FnCalendarsSaid : Prop := fnCalendarsRow.holds Try.pinned (OpenSpec.ofChange fnCalendarsSpec)

/-- ITS FALSE NEIGHBOUR: 'it returns false'. Refute it at one input. -/
def fnCalendarsWrong : ChangeSpec := { name := "fnCalendars", fn := fun _ => fun
  | [d] => { results := [.lit (.bool false)], args := [d] }
  | _ => none }
def FnCalendarsWrongFalsely : Prop := fnCalendarsRow.holds Try.pinned (OpenSpec.ofChange fnCalendarsWrong)

/-- 'laws.FnReforms': WHATEVER THE INPUT: true; the input reads as it did. -/
def fnReformsSpec : ChangeSpec := { name := "fnReforms", fn := fun _ => fun
  | [d] => { results := [.lit (.bool true)], args := [d] }
  | _ => none }
def fnReformsRow : OpenClaim := { program := "yticnkjpgjcddcaa", sum := "d75ed2ac9ba8ccd29cb1766cf510585a886dd498b754ba3606d5648e0008de67", func := "loop.example/g01034/laws.FnReforms", spec := "fnReforms", unfollowed := true, recurses := true, apart := false }
def FnReformsSaid : Prop := fnReformsRow.holds Try.pinned (OpenSpec.ofChange fnReformsSpec)

/-- ITS FALSE NEIGHBOUR: 'it returns false'. Refute it at one input. -/
def fnReformsWrong : ChangeSpec := { name := "fnReforms", fn := fun _ => fun
  | [d] => { results := [.lit (.bool false)], args := [d] }
  | _ => none }
def FnReformsWrongFalsely : Prop := fnReformsRow.holds Try.pinned (OpenSpec.ofChange fnReformsWrong)

/-- 'laws.FnFeastDays': WHATEVER THE INPUT: true; the input reads as it did. -/
def fnFeastDaysSpec : ChangeSpec := { name := "fnFeastDays", fn := fun _ => fun
  | [d] => { results := [.lit (.bool true)], args := [d] }
  | _ => none }
def fnFeastDaysRow : OpenClaim := { program := "yticnkjpgjcddcaa", sum := "d75ed2ac9ba8ccd29cb1766cf510585a886dd498b754ba3606d5648e0008de67", func := "loop.example/g01034/laws.FnFeastDays", spec := "fnFeastDays", unfollowed := true, recurses := true, apart := false }
def FnFeastDaysSaid : Prop := fnFeastDaysRow.holds Try.pinned (OpenSpec.ofChange fnFeastDaysSpec)

/-- ITS FALSE NEIGHBOUR: 'it returns false'. Refute it at one input. -/
def fnFeastDaysWrong : ChangeSpec := { name := "fnFeastDays", fn := fun _ => fun
  | [d] => { results := [.lit (.bool false)], args := [d] }
  | _ => none }
def FnFeastDaysWrongFalsely : Prop := fnFeastDaysRow.holds Try.pinned (OpenSpec.ofChange fnFeastDaysWrong)

/- THE SECOND FORM. 'bulk': how many values and letters a reading holds, each counted each time it is reached (what is shared counts as often as it is met; a slice's spare places count too). A statement '..UptoSaid' is the law's where the arguments, and the package variables that the reading takes, are together of bulk at most 1048576: NARROWER than '..Said'. Prove '..Said' where nothing that the law and all that it calls make is longer than what came in: it says more and counts as full. Else prove '..UptoSaid'. A law counts once. -/
mutual
def uptoBulk {H : Type} : DataW H → Nat
  | .lit (.string bytes) => bytes.length + 1
  | .lit _ => 1
  | .nil => 1
  | .ptr d => uptoBulk d + 1
  | .slice elems spare => uptoBulkAll elems + uptoBulkAll spare + 1
  | .agg parts => uptoBulkAll parts + 1
  | .iface _ d => uptoBulk d + 1
  | .map entries => uptoBulkEntries entries + 1
  | .held _ => 1
def uptoBulkAll {H : Type} : List (DataW H) → Nat
  | [] => 0
  | d :: r => uptoBulk d + uptoBulkAll r
def uptoBulkEntries {H : Type} : List (Lit × DataW H) → Nat
  | [] => 0
  | x :: r => uptoBulkEntry x + uptoBulkEntries r
def uptoBulkEntry {H : Type} : Lit × DataW H → Nat
  | (.string bytes, d) => bytes.length + uptoBulk d + 1
  | (_, d) => uptoBulk d + 1
 end
def uptoSmall : (H : Type) → List (DataW H) → Bool := fun _ ds => decide (uptoBulkAll ds ≤ 1048576)
def OpenSpec.upto (s : _root_.Go.ChangeSpec) : _root_.Go.OpenSpec := { _root_.Go.OpenSpec.ofChange s with cond := some uptoSmall }

/-- 'laws.FnExactYearsWithEaster', WHERE WHAT IT READS IS OF BULK AT MOST 1048576: true; the input reads as it did. -/
def fnExactYearsWithEasterUptoRow : OpenClaim := { program := "yticnkjpgjcddcaa", sum := "d75ed2ac9ba8ccd29cb1766cf510585a886dd498b754ba3606d5648e0008de67", func := "loop.example/g01034/laws.FnExactYearsWithEaster", spec := "fnExactYearsWithEaster", unfollowed := true, recurses := true, apart := false, narrowed := true }
def FnExactYearsWithEasterUptoSaid : Prop := fnExactYearsWithEasterUptoRow.holds Try.pinned (OpenSpec.upto fnExactYearsWithEasterSpec)

/-- 'laws.FnExactRelatedDay', WHERE WHAT IT READS IS OF BULK AT MOST 1048576: true; the input reads as it did. -/
def fnExactRelatedDayUptoRow : OpenClaim := { program := "yticnkjpgjcddcaa", sum := "d75ed2ac9ba8ccd29cb1766cf510585a886dd498b754ba3606d5648e0008de67", func := "loop.example/g01034/laws.FnExactRelatedDay", spec := "fnExactRelatedDay", apart := false, narrowed := true }
def FnExactRelatedDayUptoSaid : Prop := fnExactRelatedDayUptoRow.holds Try.pinned (OpenSpec.upto fnExactRelatedDaySpec)

/-- 'laws.FnExactNearestFeast', WHERE WHAT IT READS IS OF BULK AT MOST 1048576: true; the input reads as it did. -/
def fnExactNearestFeastUptoRow : OpenClaim := { program := "yticnkjpgjcddcaa", sum := "d75ed2ac9ba8ccd29cb1766cf510585a886dd498b754ba3606d5648e0008de67", func := "loop.example/g01034/laws.FnExactNearestFeast", spec := "fnExactNearestFeast", unfollowed := true, recurses := true, apart := false, narrowed := true }
def FnExactNearestFeastUptoSaid : Prop := fnExactNearestFeastUptoRow.holds Try.pinned (OpenSpec.upto fnExactNearestFeastSpec)

/-- 'laws.FnExactNextFeast', WHERE WHAT IT READS IS OF BULK AT MOST 1048576: true; the input reads as it did. -/
def fnExactNextFeastUptoRow : OpenClaim := { program := "yticnkjpgjcddcaa", sum := "d75ed2ac9ba8ccd29cb1766cf510585a886dd498b754ba3606d5648e0008de67", func := "loop.example/g01034/laws.FnExactNextFeast", spec := "fnExactNextFeast", unfollowed := true, recurses := true, apart := false, narrowed := true }
def FnExactNextFeastUptoSaid : Prop := fnExactNextFeastUptoRow.holds Try.pinned (OpenSpec.upto fnExactNextFeastSpec)

/-- 'laws.FnExactFeastsOn', WHERE WHAT IT READS IS OF BULK AT MOST 1048576: true; the input reads as it did. -/
def fnExactFeastsOnUptoRow : OpenClaim := { program := "yticnkjpgjcddcaa", sum := "d75ed2ac9ba8ccd29cb1766cf510585a886dd498b754ba3606d5648e0008de67", func := "loop.example/g01034/laws.FnExactFeastsOn", spec := "fnExactFeastsOn", unfollowed := true, recurses := true, apart := false, narrowed := true }
def FnExactFeastsOnUptoSaid : Prop := fnExactFeastsOnUptoRow.holds Try.pinned (OpenSpec.upto fnExactFeastsOnSpec)

/-- 'laws.FnExactFeastDays', WHERE WHAT IT READS IS OF BULK AT MOST 1048576: true; the input reads as it did. -/
def fnExactFeastDaysUptoRow : OpenClaim := { program := "yticnkjpgjcddcaa", sum := "d75ed2ac9ba8ccd29cb1766cf510585a886dd498b754ba3606d5648e0008de67", func := "loop.example/g01034/laws.FnExactFeastDays", spec := "fnExactFeastDays", unfollowed := true, recurses := true, apart := false, narrowed := true }
def FnExactFeastDaysUptoSaid : Prop := fnExactFeastDaysUptoRow.holds Try.pinned (OpenSpec.upto fnExactFeastDaysSpec)

/-- 'laws.FnDays', WHERE WHAT IT READS IS OF BULK AT MOST 1048576: true; the input reads as it did. -/
def fnDaysUptoRow : OpenClaim := { program := "yticnkjpgjcddcaa", sum := "d75ed2ac9ba8ccd29cb1766cf510585a886dd498b754ba3606d5648e0008de67", func := "loop.example/g01034/laws.FnDays", spec := "fnDays", unfollowed := true, recurses := true, apart := false, narrowed := true }
def FnDaysUptoSaid : Prop := fnDaysUptoRow.holds Try.pinned (OpenSpec.upto fnDaysSpec)

/-- 'laws.FnLetters', WHERE WHAT IT READS IS OF BULK AT MOST 1048576: true; the input reads as it did. -/
def fnLettersUptoRow : OpenClaim := { program := "yticnkjpgjcddcaa", sum := "d75ed2ac9ba8ccd29cb1766cf510585a886dd498b754ba3606d5648e0008de67", func := "loop.example/g01034/laws.FnLetters", spec := "fnLetters", unfollowed := true, recurses := true, apart := false, narrowed := true }
def FnLettersUptoSaid : Prop := fnLettersUptoRow.holds Try.pinned (OpenSpec.upto fnLettersSpec)

/-- 'laws.FnEasters', WHERE WHAT IT READS IS OF BULK AT MOST 1048576: true; the input reads as it did. -/
def fnEastersUptoRow : OpenClaim := { program := "yticnkjpgjcddcaa", sum := "d75ed2ac9ba8ccd29cb1766cf510585a886dd498b754ba3606d5648e0008de67", func := "loop.example/g01034/laws.FnEasters", spec := "fnEasters", unfollowed := true, recurses := true, apart := false, narrowed := true }
def FnEastersUptoSaid : Prop := fnEastersUptoRow.holds Try.pinned (OpenSpec.upto fnEastersSpec)

/-- 'laws.FnCalendars', WHERE WHAT IT READS IS OF BULK AT MOST 1048576: true; the input reads as it did. -/
def fnCalendarsUptoRow : OpenClaim := { program := "yticnkjpgjcddcaa", sum := "d75ed2ac9ba8ccd29cb1766cf510585a886dd498b754ba3606d5648e0008de67", func := "loop.example/g01034/laws.FnCalendars", spec := "fnCalendars", unfollowed := true, recurses := true, apart := false, narrowed := true }
def FnCalendarsUptoSaid : Prop := fnCalendarsUptoRow.holds Try.pinned (OpenSpec.upto fnCalendarsSpec)

/-- 'laws.FnReforms', WHERE WHAT IT READS IS OF BULK AT MOST 1048576: true; the input reads as it did. -/
def fnReformsUptoRow : OpenClaim := { program := "yticnkjpgjcddcaa", sum := "d75ed2ac9ba8ccd29cb1766cf510585a886dd498b754ba3606d5648e0008de67", func := "loop.example/g01034/laws.FnReforms", spec := "fnReforms", unfollowed := true, recurses := true, apart := false, narrowed := true }
def FnReformsUptoSaid : Prop := fnReformsUptoRow.holds Try.pinned (OpenSpec.upto fnReformsSpec)

/-- 'laws.FnFeastDays', WHERE WHAT IT READS IS OF BULK AT MOST 1048576: true; the input reads as it did. -/
def fnFeastDaysUptoRow : OpenClaim := { program := "yticnkjpgjcddcaa", sum := "d75ed2ac9ba8ccd29cb1766cf510585a886dd498b754ba3606d5648e0008de67", func := "loop.example/g01034/laws.FnFeastDays", spec := "fnFeastDays", unfollowed := true, recurses := true, apart := false, narrowed := true }
def FnFeastDaysUptoSaid : Prop := fnFeastDaysUptoRow.holds Try.pinned (OpenSpec.upto fnFeastDaysSpec)

end Rows
end Go.Proofs.Yticnkjpgjcddcaa
