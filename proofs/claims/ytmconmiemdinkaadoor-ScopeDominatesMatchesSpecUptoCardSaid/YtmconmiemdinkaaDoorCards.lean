/-
  DERIVED. GIVEN WITH THE SEED: THE CARDS: each row of YtmconmiemdinkaaDoorRows.lean that lists a variable, with what it lists TIED to the program's text (the seventh form; the later family's looks); each row that meets fmt, with fmt's text TOLD by the authors' own Lean function (tested against real Go, not proved from fmt's source: count such statements apart). THE CARD IS WHAT COUNTS. Prove the row's statement (the work); the ties are given (YtmconmiemdinkaaDoorTie.lean); close each card by the builder's one call (the guide's Derived/Test/ToyasCard.lean, 'card_holds'). Laid BY PROGRAM, IN A SANDBOX (cutbox-door.mjs). By AI agents, Wed Nov 11 2026. No macro, syntax, notation, axiom, sorry.
-/
import Derived.Test.YtmconmiemdinkaaDoorRows
import GoSem.ClaimSeven
namespace Go.Proofs.YtmconmiemdinkaaDoor
namespace Rows

/-- THE TIED CARD OF 'glosswrightlaw2.ScopeDominatesMatchesSpec'. -/
def scopeDominatesMatchesSpecCard : Claim7 := { stood := { row := scopeDominatesMatchesSpecRow, standIns := [], harness := (true, "5ac8dffd9cfcf049646fb86681523df6c9c102c1f72d1c2322df24cb8c181859"), looks := false }, kinds := [], alts := [], laidByText := true, laidKinds := [.data], laidTests := true, laidLooks := .later }
def ScopeDominatesMatchesSpecCardSaid : Prop := Claim7.holds Tryd.pinned (.plain (OpenSpec.ofChange scopeDominatesMatchesSpecSpec)) scopeDominatesMatchesSpecCard

/-- THE SECOND FORM's CARD OF 'glosswrightlaw2.ScopeDominatesMatchesSpec'. -/
def scopeDominatesMatchesSpecUptoCard : Claim7 := { stood := { row := scopeDominatesMatchesSpecUptoRow, standIns := [], harness := (true, "5ac8dffd9cfcf049646fb86681523df6c9c102c1f72d1c2322df24cb8c181859"), looks := false }, kinds := [], alts := [], laidByText := true, laidKinds := [.data], laidTests := true, laidLooks := .later }
def ScopeDominatesMatchesSpecUptoCardSaid : Prop := Claim7.holds Tryd.pinned (.plain (OpenSpec.upto scopeDominatesMatchesSpecSpec)) scopeDominatesMatchesSpecUptoCard
end Rows
end Go.Proofs.YtmconmiemdinkaaDoor
