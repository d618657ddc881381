/-
  DERIVED. GIVEN WITH THE SEED: THE CARDS: each row of YtdlioodgfopmfaaGreatDoorRows.lean that lists a variable, with what it lists TIED to the program's text (the seventh form; the later family's looks); each row that meets fmt, with fmt's text TOLD by the authors' own Lean function (tested against real Go, not proved from fmt's source: count such statements apart). THE CARD IS WHAT COUNTS. Prove the row's statement (the work); the ties are given (YtdlioodgfopmfaaGreatDoorTie.lean); close each card by the builder's one call (the guide's Derived/Test/ToyasCard.lean, 'card_holds'). Laid BY PROGRAM, IN A SANDBOX (cutbox-door.mjs). By AI agents, Wed Nov 11 2026. No macro, syntax, notation, axiom, sorry.
-/
import Derived.Test.YtdlioodgfopmfaaGreatDoorRows
import GoSem.ClaimSeven
namespace Go.Proofs.YtdlioodgfopmfaaGreatDoor
namespace Rows

/-- THE TIED CARD OF 'glosswrightlaw2.TableauProveMatchesSpec'. -/
def tableauProveMatchesSpecCard : Claim7 := { stood := { row := tableauProveMatchesSpecRow, standIns := [], harness := (true, "be8c1b9e8ceff15c6c17033833faa8b48489713f7041f6bf1abf684ac64ca6bc"), looks := false }, kinds := [], alts := [], laidByText := true, laidKinds := [.data, .data, .data, .data], laidTests := true, laidLooks := .later }
def TableauProveMatchesSpecCardSaid : Prop := Claim7.holds Tryz.pinned (.plain (OpenSpec.ofChange tableauProveMatchesSpecSpec)) tableauProveMatchesSpecCard

/-- THE SECOND FORM's CARD OF 'glosswrightlaw2.TableauProveMatchesSpec'. -/
def tableauProveMatchesSpecUptoCard : Claim7 := { stood := { row := tableauProveMatchesSpecUptoRow, standIns := [], harness := (true, "be8c1b9e8ceff15c6c17033833faa8b48489713f7041f6bf1abf684ac64ca6bc"), looks := false }, kinds := [], alts := [], laidByText := true, laidKinds := [.data, .data, .data, .data], laidTests := true, laidLooks := .later }
def TableauProveMatchesSpecUptoCardSaid : Prop := Claim7.holds Tryz.pinned (.plain (OpenSpec.upto tableauProveMatchesSpecSpec)) tableauProveMatchesSpecUptoCard
end Rows
end Go.Proofs.YtdlioodgfopmfaaGreatDoor
