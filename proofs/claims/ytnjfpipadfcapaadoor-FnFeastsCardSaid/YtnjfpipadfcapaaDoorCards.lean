/-
  DERIVED. GIVEN WITH THE SEED: THE CARDS: each row of YtnjfpipadfcapaaDoorRows.lean that lists a variable, with what it lists TIED to the program's text (the seventh form; the later family's looks); each row that meets fmt, with fmt's text TOLD by the authors' own Lean function (tested against real Go, not proved from fmt's source: count such statements apart). THE CARD IS WHAT COUNTS. Prove the row's statement (the work); the ties are given (YtnjfpipadfcapaaDoorTie.lean); close each card by the builder's one call (the guide's Derived/Test/ToyasCard.lean, 'card_holds'). Laid BY PROGRAM, IN A SANDBOX (cutbox-door.mjs). By AI agents, Wed Nov 11 2026. No macro, syntax, notation, axiom, sorry.
-/
import Derived.Test.YtnjfpipadfcapaaDoorRows
import GoSem.ClaimSeven
namespace Go.Proofs.YtnjfpipadfcapaaDoor
namespace Rows

/-- THE TIED CARD OF 'laws.FnExactFeastName'. -/
def fnExactFeastNameCard : Claim7 := { stood := { row := fnExactFeastNameRow, standIns := [], harness := (true, "dda6a6df70eeecc536f1456cddd7f716ea91ed87ee1c2918443062432d8161af"), looks := false }, kinds := [], alts := [], laidByText := true, laidKinds := [.data, .pinned], laidTests := true, laidLooks := .later }
def FnExactFeastNameCardSaid : Prop := Claim7.holds Tryd.pinned (.plain (OpenSpec.ofChange fnExactFeastNameSpec)) fnExactFeastNameCard

/-- THE TIED CARD OF 'laws.FnExactFeastNamed'. -/
def fnExactFeastNamedCard : Claim7 := { stood := { row := fnExactFeastNamedRow, standIns := [], harness := (true, "dda6a6df70eeecc536f1456cddd7f716ea91ed87ee1c2918443062432d8161af"), looks := false }, kinds := [], alts := [], laidByText := true, laidKinds := [.data, .pinned], laidTests := true, laidLooks := .later }
def FnExactFeastNamedCardSaid : Prop := Claim7.holds Tryd.pinned (.plain (OpenSpec.ofChange fnExactFeastNamedSpec)) fnExactFeastNamedCard

/-- THE TIED CARD OF 'laws.FnFeasts'. -/
def fnFeastsCard : Claim7 := { stood := { row := fnFeastsRow, standIns := [], harness := (true, "dda6a6df70eeecc536f1456cddd7f716ea91ed87ee1c2918443062432d8161af"), looks := false }, kinds := [], alts := [], laidByText := true, laidKinds := [.data, .pinned], laidTests := true, laidLooks := .later }
def FnFeastsCardSaid : Prop := Claim7.holds Tryd.pinned (.plain (OpenSpec.ofChange fnFeastsSpec)) fnFeastsCard

/-- THE SECOND FORM's CARD OF 'laws.FnExactFeastName'. -/
def fnExactFeastNameUptoCard : Claim7 := { stood := { row := fnExactFeastNameUptoRow, standIns := [], harness := (true, "dda6a6df70eeecc536f1456cddd7f716ea91ed87ee1c2918443062432d8161af"), looks := false }, kinds := [], alts := [], laidByText := true, laidKinds := [.data, .pinned], laidTests := true, laidLooks := .later }
def FnExactFeastNameUptoCardSaid : Prop := Claim7.holds Tryd.pinned (.plain (OpenSpec.upto fnExactFeastNameSpec)) fnExactFeastNameUptoCard

/-- THE SECOND FORM's CARD OF 'laws.FnExactFeastNamed'. -/
def fnExactFeastNamedUptoCard : Claim7 := { stood := { row := fnExactFeastNamedUptoRow, standIns := [], harness := (true, "dda6a6df70eeecc536f1456cddd7f716ea91ed87ee1c2918443062432d8161af"), looks := false }, kinds := [], alts := [], laidByText := true, laidKinds := [.data, .pinned], laidTests := true, laidLooks := .later }
def FnExactFeastNamedUptoCardSaid : Prop := Claim7.holds Tryd.pinned (.plain (OpenSpec.upto fnExactFeastNamedSpec)) fnExactFeastNamedUptoCard

/-- THE SECOND FORM's CARD OF 'laws.FnFeasts'. -/
def fnFeastsUptoCard : Claim7 := { stood := { row := fnFeastsUptoRow, standIns := [], harness := (true, "dda6a6df70eeecc536f1456cddd7f716ea91ed87ee1c2918443062432d8161af"), looks := false }, kinds := [], alts := [], laidByText := true, laidKinds := [.data, .pinned], laidTests := true, laidLooks := .later }
def FnFeastsUptoCardSaid : Prop := Claim7.holds Tryd.pinned (.plain (OpenSpec.upto fnFeastsSpec)) fnFeastsUptoCard
end Rows
end Go.Proofs.YtnjfpipadfcapaaDoor
