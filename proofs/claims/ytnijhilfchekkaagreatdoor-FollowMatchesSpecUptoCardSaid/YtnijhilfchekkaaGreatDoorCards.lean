/-
  DERIVED. GIVEN WITH THE SEED: THE CARDS: each row of YtnijhilfchekkaaGreatDoorRows.lean that lists a variable, with what it lists TIED to the program's text (the seventh form; the later family's looks); each row that meets fmt, with fmt's text TOLD by the authors' own Lean function (tested against real Go, not proved from fmt's source: count such statements apart). THE CARD IS WHAT COUNTS. Prove the row's statement (the work); the ties are given (YtnijhilfchekkaaGreatDoorTie.lean); close each card by the builder's one call (the guide's Derived/Test/ToyasCard.lean, 'card_holds'). Laid BY PROGRAM, IN A SANDBOX (cutbox-door.mjs). By AI agents, Wed Nov 11 2026. No macro, syntax, notation, axiom, sorry.
-/
import Derived.Test.YtnijhilfchekkaaGreatDoorRows
import GoSem.ClaimSeven
namespace Go.Proofs.YtnijhilfchekkaaGreatDoor
namespace Rows

/-- THE TIED CARD OF 'glosswrightlaw2.FollowMatchesSpec'. -/
def followMatchesSpecCard : Claim7 := { stood := { row := followMatchesSpecRow, standIns := [], harness := (true, "c0f19cb1314f355023bfeb0d706a35dead4564c1dc14a5bd8c48c259a40bee46"), looks := false }, kinds := [], alts := [], laidByText := true, laidKinds := [.data, .data, .data, .data], laidTests := true, laidLooks := .later }
def FollowMatchesSpecCardSaid : Prop := Claim7.holds Tryz.pinned (.plain (OpenSpec.ofChange followMatchesSpecSpec)) followMatchesSpecCard

/-- THE SECOND FORM's CARD OF 'glosswrightlaw2.FollowMatchesSpec'. -/
def followMatchesSpecUptoCard : Claim7 := { stood := { row := followMatchesSpecUptoRow, standIns := [], harness := (true, "c0f19cb1314f355023bfeb0d706a35dead4564c1dc14a5bd8c48c259a40bee46"), looks := false }, kinds := [], alts := [], laidByText := true, laidKinds := [.data, .data, .data, .data], laidTests := true, laidLooks := .later }
def FollowMatchesSpecUptoCardSaid : Prop := Claim7.holds Tryz.pinned (.plain (OpenSpec.upto followMatchesSpecSpec)) followMatchesSpecUptoCard
end Rows
end Go.Proofs.YtnijhilfchekkaaGreatDoor
