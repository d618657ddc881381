/-
  DERIVED. GIVEN WITH THE SEED: THE CARDS: each row of YtalbdmcklgglbaaDoorRows.lean that lists a variable, with what it lists TIED to the program's text (the seventh form; the later family's looks); each row that meets fmt, with fmt's text TOLD by the authors' own Lean function (tested against real Go, not proved from fmt's source: count such statements apart). THE CARD IS WHAT COUNTS. Prove the row's statement (the work); the ties are given (YtalbdmcklgglbaaDoorTie.lean); close each card by the builder's one call (the guide's Derived/Test/ToyasCard.lean, 'card_holds'). Laid BY PROGRAM, IN A SANDBOX (cutbox-door.mjs). By AI agents, Wed Nov 11 2026. No macro, syntax, notation, axiom, sorry.
-/
import Derived.Test.YtalbdmcklgglbaaDoorRows
import GoSem.ClaimSeven
namespace Go.Proofs.YtalbdmcklgglbaaDoor
namespace Rows

/-- THE TIED CARD OF 'glosswrightlaw2.DiscourseResolveMatchesSpec'. -/
def discourseResolveMatchesSpecCard : Claim7 := { stood := { row := discourseResolveMatchesSpecRow, standIns := [], harness := (true, "fa39734d4ca280f21ca1788e698541a5feba6ad1eebd47ffaaefd0586c4f5bdb"), looks := false }, kinds := [], alts := [], laidByText := true, laidKinds := [.data], laidTests := true, laidLooks := .later }
def DiscourseResolveMatchesSpecCardSaid : Prop := Claim7.holds Tryd.pinned (.plain (OpenSpec.ofChange discourseResolveMatchesSpecSpec)) discourseResolveMatchesSpecCard

/-- THE TIED CARD OF 'glosswrightlaw2.DiscourseResolvedIsSettled'. -/
def discourseResolvedIsSettledCard : Claim7 := { stood := { row := discourseResolvedIsSettledRow, standIns := [], harness := (true, "fa39734d4ca280f21ca1788e698541a5feba6ad1eebd47ffaaefd0586c4f5bdb"), looks := false }, kinds := [], alts := [], laidByText := true, laidKinds := [.data], laidTests := true, laidLooks := .later }
def DiscourseResolvedIsSettledCardSaid : Prop := Claim7.holds Tryd.pinned (.plain (OpenSpec.ofChange discourseResolvedIsSettledSpec)) discourseResolvedIsSettledCard

/-- THE SECOND FORM's CARD OF 'glosswrightlaw2.DiscourseResolveMatchesSpec'. -/
def discourseResolveMatchesSpecUptoCard : Claim7 := { stood := { row := discourseResolveMatchesSpecUptoRow, standIns := [], harness := (true, "fa39734d4ca280f21ca1788e698541a5feba6ad1eebd47ffaaefd0586c4f5bdb"), looks := false }, kinds := [], alts := [], laidByText := true, laidKinds := [.data], laidTests := true, laidLooks := .later }
def DiscourseResolveMatchesSpecUptoCardSaid : Prop := Claim7.holds Tryd.pinned (.plain (OpenSpec.upto discourseResolveMatchesSpecSpec)) discourseResolveMatchesSpecUptoCard

/-- THE SECOND FORM's CARD OF 'glosswrightlaw2.DiscourseResolvedIsSettled'. -/
def discourseResolvedIsSettledUptoCard : Claim7 := { stood := { row := discourseResolvedIsSettledUptoRow, standIns := [], harness := (true, "fa39734d4ca280f21ca1788e698541a5feba6ad1eebd47ffaaefd0586c4f5bdb"), looks := false }, kinds := [], alts := [], laidByText := true, laidKinds := [.data], laidTests := true, laidLooks := .later }
def DiscourseResolvedIsSettledUptoCardSaid : Prop := Claim7.holds Tryd.pinned (.plain (OpenSpec.upto discourseResolvedIsSettledSpec)) discourseResolvedIsSettledUptoCard
end Rows
end Go.Proofs.YtalbdmcklgglbaaDoor
