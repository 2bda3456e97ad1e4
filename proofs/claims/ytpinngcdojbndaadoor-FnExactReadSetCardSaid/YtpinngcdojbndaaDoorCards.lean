/-
  DERIVED. GIVEN WITH THE SEED: THE CARDS: each row of YtpinngcdojbndaaDoorRows.lean that lists a variable, with what it lists TIED to the program's text (the seventh form; the later family's looks); each row that meets fmt, with fmt's text TOLD by the authors' own Lean function (tested against real Go, not proved from fmt's source: count such statements apart). THE CARD IS WHAT COUNTS. Prove the row's statement (the work); the ties are given (YtpinngcdojbndaaDoorTie.lean); close each card by the builder's one call (the guide's Derived/Test/ToyasCard.lean, 'card_holds'). Laid BY PROGRAM, IN A SANDBOX (cutbox-door.mjs). By AI agents, Wed Nov 11 2026. No macro, syntax, notation, axiom, sorry.
-/
import Derived.Test.YtpinngcdojbndaaDoorRows
import GoSem.ClaimSeven
namespace Go.Proofs.YtpinngcdojbndaaDoor
namespace Rows

/-- THE TIED CARD OF 'laws.FnExactReadSet'. -/
def fnExactReadSetCard : Claim7 := { stood := { row := fnExactReadSetRow, standIns := [], harness := (true, "3cd04c6e3ed95f57a9676aaf11daf92e8c6090a5bcd43bb033f122a048669790"), looks := true }, kinds := [], alts := [], laidByText := true, laidKinds := [.data, .data, .data, .data, .sentinel, .sentinel, .pinned], laidTests := true, laidLooks := .later }
def FnExactReadSetCardSaid : Prop := Claim7.holds Tryd.pinned (.plain (OpenSpec.ofChange fnExactReadSetSpec)) fnExactReadSetCard

/-- THE TIED CARD OF 'laws.FnExactSetText'. -/
def fnExactSetTextCard : Claim7 := { stood := { row := fnExactSetTextRow, standIns := [], harness := (true, "3cd04c6e3ed95f57a9676aaf11daf92e8c6090a5bcd43bb033f122a048669790"), looks := true }, kinds := [], alts := [], laidByText := true, laidKinds := [.data, .data, .data], laidTests := true, laidLooks := .later }
def FnExactSetTextCardSaid : Prop := Claim7.holds Tryd.pinned (.plain (OpenSpec.ofChange fnExactSetTextSpec)) fnExactSetTextCard

/-- THE SECOND FORM's CARD OF 'laws.FnExactReadSet'. -/
def fnExactReadSetUptoCard : Claim7 := { stood := { row := fnExactReadSetUptoRow, standIns := [], harness := (true, "3cd04c6e3ed95f57a9676aaf11daf92e8c6090a5bcd43bb033f122a048669790"), looks := true }, kinds := [], alts := [], laidByText := true, laidKinds := [.data, .data, .data, .data, .sentinel, .sentinel, .pinned], laidTests := true, laidLooks := .later }
def FnExactReadSetUptoCardSaid : Prop := Claim7.holds Tryd.pinned (.plain (OpenSpec.upto fnExactReadSetSpec)) fnExactReadSetUptoCard

/-- THE SECOND FORM's CARD OF 'laws.FnExactSetText'. -/
def fnExactSetTextUptoCard : Claim7 := { stood := { row := fnExactSetTextUptoRow, standIns := [], harness := (true, "3cd04c6e3ed95f57a9676aaf11daf92e8c6090a5bcd43bb033f122a048669790"), looks := true }, kinds := [], alts := [], laidByText := true, laidKinds := [.data, .data, .data], laidTests := true, laidLooks := .later }
def FnExactSetTextUptoCardSaid : Prop := Claim7.holds Tryd.pinned (.plain (OpenSpec.upto fnExactSetTextSpec)) fnExactSetTextUptoCard
end Rows
end Go.Proofs.YtpinngcdojbndaaDoor
