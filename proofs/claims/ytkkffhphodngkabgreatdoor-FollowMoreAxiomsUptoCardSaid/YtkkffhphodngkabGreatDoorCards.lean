/-
  DERIVED. GIVEN WITH THE SEED: THE CARDS: each row of YtkkffhphodngkabGreatDoorRows.lean that lists a variable, with what it lists TIED to the program's text (the seventh form; the later family's looks); each row that meets fmt, with fmt's text TOLD by the authors' own Lean function (tested against real Go, not proved from fmt's source: count such statements apart). THE CARD IS WHAT COUNTS. Prove the row's statement (the work); the ties are given (YtkkffhphodngkabGreatDoorTie.lean); close each card by the builder's one call (the guide's Derived/Test/ToyasCard.lean, 'card_holds'). Laid BY PROGRAM, IN A SANDBOX (cutbox-door.mjs). By AI agents, Wed Nov 11 2026. No macro, syntax, notation, axiom, sorry.
-/
import Derived.Test.YtkkffhphodngkabGreatDoorRows
import GoSem.ClaimSeven
namespace Go.Proofs.YtkkffhphodngkabGreatDoor
namespace Rows

/-- THE TIED CARD OF 'glosswrightlaw2.FollowMatchesSpec'. -/
def followMatchesSpecCard : Claim7 := { stood := { row := followMatchesSpecRow, standIns := [], harness := (true, "e0a8df6d585c17840ff767073aa9c0abca2f6de89f5096042acaa2787615ef74"), looks := false }, kinds := [], alts := [], laidByText := true, laidKinds := [.data, .data, .data, .data], laidTests := true, laidLooks := .later }
def FollowMatchesSpecCardSaid : Prop := Claim7.holds Tryz.pinned (.plain (OpenSpec.ofChange followMatchesSpecSpec)) followMatchesSpecCard

/-- THE TIED CARD OF 'glosswrightlaw2.FollowMoreAxioms'. -/
def followMoreAxiomsCard : Claim7 := { stood := { row := followMoreAxiomsRow, standIns := [], harness := (true, "e0a8df6d585c17840ff767073aa9c0abca2f6de89f5096042acaa2787615ef74"), looks := false }, kinds := [], alts := [], laidByText := true, laidKinds := [.data, .data, .data, .data], laidTests := true, laidLooks := .later }
def FollowMoreAxiomsCardSaid : Prop := Claim7.holds Tryz.pinned (.plain (OpenSpec.ofChange followMoreAxiomsSpec)) followMoreAxiomsCard

/-- THE TIED CARD OF 'glosswrightlaw2.FollowConsistentMatchesSpec'. -/
def followConsistentMatchesSpecCard : Claim7 := { stood := { row := followConsistentMatchesSpecRow, standIns := [], harness := (true, "e0a8df6d585c17840ff767073aa9c0abca2f6de89f5096042acaa2787615ef74"), looks := false }, kinds := [], alts := [], laidByText := true, laidKinds := [.data, .data, .data, .data], laidTests := true, laidLooks := .later }
def FollowConsistentMatchesSpecCardSaid : Prop := Claim7.holds Tryz.pinned (.plain (OpenSpec.ofChange followConsistentMatchesSpecSpec)) followConsistentMatchesSpecCard

/-- THE TIED CARD OF 'glosswrightlaw2.FollowBoth'. -/
def followBothCard : Claim7 := { stood := { row := followBothRow, standIns := [], harness := (true, "e0a8df6d585c17840ff767073aa9c0abca2f6de89f5096042acaa2787615ef74"), looks := false }, kinds := [], alts := [], laidByText := true, laidKinds := [.data, .data, .data, .data], laidTests := true, laidLooks := .later }
def FollowBothCardSaid : Prop := Claim7.holds Tryz.pinned (.plain (OpenSpec.ofChange followBothSpec)) followBothCard

/-- THE TIED CARD OF 'glosswrightlaw2.FollowVerdictsHold'. -/
def followVerdictsHoldCard : Claim7 := { stood := { row := followVerdictsHoldRow, standIns := [], harness := (true, "e0a8df6d585c17840ff767073aa9c0abca2f6de89f5096042acaa2787615ef74"), looks := false }, kinds := [], alts := [], laidByText := true, laidKinds := [.data, .data, .data, .data], laidTests := true, laidLooks := .later }
def FollowVerdictsHoldCardSaid : Prop := Claim7.holds Tryz.pinned (.plain (OpenSpec.ofChange followVerdictsHoldSpec)) followVerdictsHoldCard

/-- THE SECOND FORM's CARD OF 'glosswrightlaw2.FollowMatchesSpec'. -/
def followMatchesSpecUptoCard : Claim7 := { stood := { row := followMatchesSpecUptoRow, standIns := [], harness := (true, "e0a8df6d585c17840ff767073aa9c0abca2f6de89f5096042acaa2787615ef74"), looks := false }, kinds := [], alts := [], laidByText := true, laidKinds := [.data, .data, .data, .data], laidTests := true, laidLooks := .later }
def FollowMatchesSpecUptoCardSaid : Prop := Claim7.holds Tryz.pinned (.plain (OpenSpec.upto followMatchesSpecSpec)) followMatchesSpecUptoCard

/-- THE SECOND FORM's CARD OF 'glosswrightlaw2.FollowMoreAxioms'. -/
def followMoreAxiomsUptoCard : Claim7 := { stood := { row := followMoreAxiomsUptoRow, standIns := [], harness := (true, "e0a8df6d585c17840ff767073aa9c0abca2f6de89f5096042acaa2787615ef74"), looks := false }, kinds := [], alts := [], laidByText := true, laidKinds := [.data, .data, .data, .data], laidTests := true, laidLooks := .later }
def FollowMoreAxiomsUptoCardSaid : Prop := Claim7.holds Tryz.pinned (.plain (OpenSpec.upto followMoreAxiomsSpec)) followMoreAxiomsUptoCard

/-- THE SECOND FORM's CARD OF 'glosswrightlaw2.FollowConsistentMatchesSpec'. -/
def followConsistentMatchesSpecUptoCard : Claim7 := { stood := { row := followConsistentMatchesSpecUptoRow, standIns := [], harness := (true, "e0a8df6d585c17840ff767073aa9c0abca2f6de89f5096042acaa2787615ef74"), looks := false }, kinds := [], alts := [], laidByText := true, laidKinds := [.data, .data, .data, .data], laidTests := true, laidLooks := .later }
def FollowConsistentMatchesSpecUptoCardSaid : Prop := Claim7.holds Tryz.pinned (.plain (OpenSpec.upto followConsistentMatchesSpecSpec)) followConsistentMatchesSpecUptoCard

/-- THE SECOND FORM's CARD OF 'glosswrightlaw2.FollowBoth'. -/
def followBothUptoCard : Claim7 := { stood := { row := followBothUptoRow, standIns := [], harness := (true, "e0a8df6d585c17840ff767073aa9c0abca2f6de89f5096042acaa2787615ef74"), looks := false }, kinds := [], alts := [], laidByText := true, laidKinds := [.data, .data, .data, .data], laidTests := true, laidLooks := .later }
def FollowBothUptoCardSaid : Prop := Claim7.holds Tryz.pinned (.plain (OpenSpec.upto followBothSpec)) followBothUptoCard

/-- THE SECOND FORM's CARD OF 'glosswrightlaw2.FollowVerdictsHold'. -/
def followVerdictsHoldUptoCard : Claim7 := { stood := { row := followVerdictsHoldUptoRow, standIns := [], harness := (true, "e0a8df6d585c17840ff767073aa9c0abca2f6de89f5096042acaa2787615ef74"), looks := false }, kinds := [], alts := [], laidByText := true, laidKinds := [.data, .data, .data, .data], laidTests := true, laidLooks := .later }
def FollowVerdictsHoldUptoCardSaid : Prop := Claim7.holds Tryz.pinned (.plain (OpenSpec.upto followVerdictsHoldSpec)) followVerdictsHoldUptoCard
end Rows
end Go.Proofs.YtkkffhphodngkabGreatDoor
