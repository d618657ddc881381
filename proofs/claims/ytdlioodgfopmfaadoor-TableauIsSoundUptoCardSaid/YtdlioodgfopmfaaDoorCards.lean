/-
  DERIVED. GIVEN WITH THE SEED: THE CARDS: each row of YtdlioodgfopmfaaDoorRows.lean that lists a variable, with what it lists TIED to the program's text (the seventh form; the later family's looks); each row that meets fmt, with fmt's text TOLD by the authors' own Lean function (tested against real Go, not proved from fmt's source: count such statements apart). THE CARD IS WHAT COUNTS. Prove the row's statement (the work); the ties are given (YtdlioodgfopmfaaDoorTie.lean); close each card by the builder's one call (the guide's Derived/Test/ToyasCard.lean, 'card_holds'). Laid BY PROGRAM, IN A SANDBOX (cutbox-door.mjs). By AI agents, Wed Nov 11 2026. No macro, syntax, notation, axiom, sorry.
-/
import Derived.Test.YtdlioodgfopmfaaDoorRows
import GoSem.ClaimSeven
namespace Go.Proofs.YtdlioodgfopmfaaDoor
namespace Rows

/-- THE TIED CARD OF 'glosswrightlaw2.TableauCheckMatchesSpec'. -/
def tableauCheckMatchesSpecCard : Claim7 := { stood := { row := tableauCheckMatchesSpecRow, standIns := [], harness := (true, "733e81ecc53cc5e1662a72bf3aaab49669e4482c494958cda45c7863d0ffc075"), looks := false }, kinds := [], alts := [], laidByText := true, laidKinds := [.data, .data, .data, .data], laidTests := true, laidLooks := .later }
def TableauCheckMatchesSpecCardSaid : Prop := Claim7.holds Tryd.pinned (.plain (OpenSpec.ofChange tableauCheckMatchesSpecSpec)) tableauCheckMatchesSpecCard

/-- THE TIED CARD OF 'glosswrightlaw2.TableauMoreRounds'. -/
def tableauMoreRoundsCard : Claim7 := { stood := { row := tableauMoreRoundsRow, standIns := [], harness := (true, "733e81ecc53cc5e1662a72bf3aaab49669e4482c494958cda45c7863d0ffc075"), looks := false }, kinds := [], alts := [], laidByText := true, laidKinds := [.data, .data, .data, .data], laidTests := true, laidLooks := .later }
def TableauMoreRoundsCardSaid : Prop := Claim7.holds Tryd.pinned (.plain (OpenSpec.ofChange tableauMoreRoundsSpec)) tableauMoreRoundsCard

/-- THE TIED CARD OF 'glosswrightlaw2.TableauProofsAreChecked'. -/
def tableauProofsAreCheckedCard : Claim7 := { stood := { row := tableauProofsAreCheckedRow, standIns := [], harness := (true, "733e81ecc53cc5e1662a72bf3aaab49669e4482c494958cda45c7863d0ffc075"), looks := false }, kinds := [], alts := [], laidByText := true, laidKinds := [.data, .data, .data, .data], laidTests := true, laidLooks := .later }
def TableauProofsAreCheckedCardSaid : Prop := Claim7.holds Tryd.pinned (.plain (OpenSpec.ofChange tableauProofsAreCheckedSpec)) tableauProofsAreCheckedCard

/-- THE TIED CARD OF 'glosswrightlaw2.TableauIsSound'. -/
def tableauIsSoundCard : Claim7 := { stood := { row := tableauIsSoundRow, standIns := [], harness := (true, "733e81ecc53cc5e1662a72bf3aaab49669e4482c494958cda45c7863d0ffc075"), looks := false }, kinds := [], alts := [], laidByText := true, laidKinds := [.data, .data, .data, .data], laidTests := true, laidLooks := .later }
def TableauIsSoundCardSaid : Prop := Claim7.holds Tryd.pinned (.plain (OpenSpec.ofChange tableauIsSoundSpec)) tableauIsSoundCard

/-- THE SECOND FORM's CARD OF 'glosswrightlaw2.TableauCheckMatchesSpec'. -/
def tableauCheckMatchesSpecUptoCard : Claim7 := { stood := { row := tableauCheckMatchesSpecUptoRow, standIns := [], harness := (true, "733e81ecc53cc5e1662a72bf3aaab49669e4482c494958cda45c7863d0ffc075"), looks := false }, kinds := [], alts := [], laidByText := true, laidKinds := [.data, .data, .data, .data], laidTests := true, laidLooks := .later }
def TableauCheckMatchesSpecUptoCardSaid : Prop := Claim7.holds Tryd.pinned (.plain (OpenSpec.upto tableauCheckMatchesSpecSpec)) tableauCheckMatchesSpecUptoCard

/-- THE SECOND FORM's CARD OF 'glosswrightlaw2.TableauMoreRounds'. -/
def tableauMoreRoundsUptoCard : Claim7 := { stood := { row := tableauMoreRoundsUptoRow, standIns := [], harness := (true, "733e81ecc53cc5e1662a72bf3aaab49669e4482c494958cda45c7863d0ffc075"), looks := false }, kinds := [], alts := [], laidByText := true, laidKinds := [.data, .data, .data, .data], laidTests := true, laidLooks := .later }
def TableauMoreRoundsUptoCardSaid : Prop := Claim7.holds Tryd.pinned (.plain (OpenSpec.upto tableauMoreRoundsSpec)) tableauMoreRoundsUptoCard

/-- THE SECOND FORM's CARD OF 'glosswrightlaw2.TableauProofsAreChecked'. -/
def tableauProofsAreCheckedUptoCard : Claim7 := { stood := { row := tableauProofsAreCheckedUptoRow, standIns := [], harness := (true, "733e81ecc53cc5e1662a72bf3aaab49669e4482c494958cda45c7863d0ffc075"), looks := false }, kinds := [], alts := [], laidByText := true, laidKinds := [.data, .data, .data, .data], laidTests := true, laidLooks := .later }
def TableauProofsAreCheckedUptoCardSaid : Prop := Claim7.holds Tryd.pinned (.plain (OpenSpec.upto tableauProofsAreCheckedSpec)) tableauProofsAreCheckedUptoCard

/-- THE SECOND FORM's CARD OF 'glosswrightlaw2.TableauIsSound'. -/
def tableauIsSoundUptoCard : Claim7 := { stood := { row := tableauIsSoundUptoRow, standIns := [], harness := (true, "733e81ecc53cc5e1662a72bf3aaab49669e4482c494958cda45c7863d0ffc075"), looks := false }, kinds := [], alts := [], laidByText := true, laidKinds := [.data, .data, .data, .data], laidTests := true, laidLooks := .later }
def TableauIsSoundUptoCardSaid : Prop := Claim7.holds Tryd.pinned (.plain (OpenSpec.upto tableauIsSoundSpec)) tableauIsSoundUptoCard
end Rows
end Go.Proofs.YtdlioodgfopmfaaDoor
