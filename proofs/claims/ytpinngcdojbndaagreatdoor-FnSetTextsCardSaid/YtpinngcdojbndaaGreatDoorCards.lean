/-
  DERIVED. GIVEN WITH THE SEED: THE CARDS: each row of YtpinngcdojbndaaGreatDoorRows.lean that lists a variable, with what it lists TIED to the program's text (the seventh form; the later family's looks); each row that meets fmt, with fmt's text TOLD by the authors' own Lean function (tested against real Go, not proved from fmt's source: count such statements apart). THE CARD IS WHAT COUNTS. Prove the row's statement (the work); the ties are given (YtpinngcdojbndaaGreatDoorTie.lean); close each card by the builder's one call (the guide's Derived/Test/ToyasCard.lean, 'card_holds'). Laid BY PROGRAM, IN A SANDBOX (cutbox-door.mjs). By AI agents, Wed Nov 11 2026. No macro, syntax, notation, axiom, sorry.
-/
import Derived.Test.YtpinngcdojbndaaGreatDoorRows
import GoSem.ClaimSeven
namespace Go.Proofs.YtpinngcdojbndaaGreatDoor
namespace Rows

/-- THE TIED CARD OF 'laws.FnSetTexts'. -/
def fnSetTextsCard : Claim7 := { stood := { row := fnSetTextsRow, standIns := [], harness := (true, "53aee4047a82f20f7ef34b1368a4a9e17365bbe52c2113229a454cfc38d7b357"), looks := true }, kinds := [], alts := [], laidByText := true, laidKinds := [.data, .data, .data, .data, .sentinel, .sentinel, .pinned], laidTests := true, laidLooks := .later }
def FnSetTextsCardSaid : Prop := Claim7.holds Tryz.pinned (.plain (OpenSpec.ofChange fnSetTextsSpec)) fnSetTextsCard

/-- THE SECOND FORM's CARD OF 'laws.FnSetTexts'. -/
def fnSetTextsUptoCard : Claim7 := { stood := { row := fnSetTextsUptoRow, standIns := [], harness := (true, "53aee4047a82f20f7ef34b1368a4a9e17365bbe52c2113229a454cfc38d7b357"), looks := true }, kinds := [], alts := [], laidByText := true, laidKinds := [.data, .data, .data, .data, .sentinel, .sentinel, .pinned], laidTests := true, laidLooks := .later }
def FnSetTextsUptoCardSaid : Prop := Claim7.holds Tryz.pinned (.plain (OpenSpec.upto fnSetTextsSpec)) fnSetTextsUptoCard
end Rows
end Go.Proofs.YtpinngcdojbndaaGreatDoor
