/-
  DERIVED. GIVEN WITH THE SEED: THE CARDS: each row of YtkkffhphodngkaaGreatDoorRows.lean that lists a variable, with what it lists TIED to the program's text (the seventh form; the later family's looks); each row that meets fmt, with fmt's text TOLD by the authors' own Lean function (tested against real Go, not proved from fmt's source: count such statements apart). THE CARD IS WHAT COUNTS. Prove the row's statement (the work); the ties are given (YtkkffhphodngkaaGreatDoorTie.lean); close each card by the builder's one call (the guide's Derived/Test/ToyasCard.lean, 'card_holds'). Laid BY PROGRAM, IN A SANDBOX (cutbox-door.mjs). By AI agents, Wed Nov 11 2026. No macro, syntax, notation, axiom, sorry.
-/
import Derived.Test.YtkkffhphodngkaaGreatDoorRows
import GoSem.ClaimSeven
namespace Go.Proofs.YtkkffhphodngkaaGreatDoor
namespace Rows

/-- THE TIED CARD OF 'glosswrightlaw2.FinderAgreesWithTableau'. -/
def finderAgreesWithTableauCard : Claim7 := { stood := { row := finderAgreesWithTableauRow, standIns := [], harness := (true, "0c83203b75fd3569c650c0cd1a65fc672adf16295cbba0c56433e681cdec06e8"), looks := false }, kinds := [], alts := [], laidByText := true, laidKinds := [.data, .data, .data, .data], laidTests := true, laidLooks := .later }
def FinderAgreesWithTableauCardSaid : Prop := Claim7.holds Tryz.pinned (.plain (OpenSpec.ofChange finderAgreesWithTableauSpec)) finderAgreesWithTableauCard

/-- THE SECOND FORM's CARD OF 'glosswrightlaw2.FinderAgreesWithTableau'. -/
def finderAgreesWithTableauUptoCard : Claim7 := { stood := { row := finderAgreesWithTableauUptoRow, standIns := [], harness := (true, "0c83203b75fd3569c650c0cd1a65fc672adf16295cbba0c56433e681cdec06e8"), looks := false }, kinds := [], alts := [], laidByText := true, laidKinds := [.data, .data, .data, .data], laidTests := true, laidLooks := .later }
def FinderAgreesWithTableauUptoCardSaid : Prop := Claim7.holds Tryz.pinned (.plain (OpenSpec.upto finderAgreesWithTableauSpec)) finderAgreesWithTableauUptoCard
end Rows
end Go.Proofs.YtkkffhphodngkaaGreatDoor
