/-
  DERIVED. GIVEN WITH THE SEED: THE CARDS: each row of YtkkffhphodngkaaDoorRows.lean that lists a variable, with what it lists TIED to the program's text (the seventh form; the later family's looks); each row that meets fmt, with fmt's text TOLD by the authors' own Lean function (tested against real Go, not proved from fmt's source: count such statements apart). THE CARD IS WHAT COUNTS. Prove the row's statement (the work); the ties are given (YtkkffhphodngkaaDoorTie.lean); close each card by the builder's one call (the guide's Derived/Test/ToyasCard.lean, 'card_holds'). Laid BY PROGRAM, IN A SANDBOX (cutbox-door.mjs). By AI agents, Wed Nov 11 2026. No macro, syntax, notation, axiom, sorry.
-/
import Derived.Test.YtkkffhphodngkaaDoorRows
import GoSem.ClaimSeven
namespace Go.Proofs.YtkkffhphodngkaaDoor
namespace Rows

/-- THE TIED CARD OF 'glosswrightlaw2.FinderCountMatchesSpec'. -/
def finderCountMatchesSpecCard : Claim7 := { stood := { row := finderCountMatchesSpecRow, standIns := [], harness := (true, "934f950c0d459a68934344ee77090b8b4baf15c2f89b0fc93fa178f425621b89"), looks := false }, kinds := [], alts := [], laidByText := true, laidKinds := [.data], laidTests := true, laidLooks := .later }
def FinderCountMatchesSpecCardSaid : Prop := Claim7.holds Tryd.pinned (.plain (OpenSpec.ofChange finderCountMatchesSpecSpec)) finderCountMatchesSpecCard

/-- THE TIED CARD OF 'glosswrightlaw2.FinderCountsAll'. -/
def finderCountsAllCard : Claim7 := { stood := { row := finderCountsAllRow, standIns := [], harness := (true, "934f950c0d459a68934344ee77090b8b4baf15c2f89b0fc93fa178f425621b89"), looks := false }, kinds := [], alts := [], laidByText := true, laidKinds := [.data], laidTests := true, laidLooks := .later }
def FinderCountsAllCardSaid : Prop := Claim7.holds Tryd.pinned (.plain (OpenSpec.ofChange finderCountsAllSpec)) finderCountsAllCard

/-- THE TIED CARD OF 'glosswrightlaw2.FinderMatchesSpec'. -/
def finderMatchesSpecCard : Claim7 := { stood := { row := finderMatchesSpecRow, standIns := [], harness := (true, "934f950c0d459a68934344ee77090b8b4baf15c2f89b0fc93fa178f425621b89"), looks := false }, kinds := [], alts := [], laidByText := true, laidKinds := [.data], laidTests := true, laidLooks := .later }
def FinderMatchesSpecCardSaid : Prop := Claim7.holds Tryd.pinned (.plain (OpenSpec.ofChange finderMatchesSpecSpec)) finderMatchesSpecCard

/-- THE TIED CARD OF 'glosswrightlaw2.FinderModelsAreTrue'. -/
def finderModelsAreTrueCard : Claim7 := { stood := { row := finderModelsAreTrueRow, standIns := [], harness := (true, "934f950c0d459a68934344ee77090b8b4baf15c2f89b0fc93fa178f425621b89"), looks := false }, kinds := [], alts := [], laidByText := true, laidKinds := [.data], laidTests := true, laidLooks := .later }
def FinderModelsAreTrueCardSaid : Prop := Claim7.holds Tryd.pinned (.plain (OpenSpec.ofChange finderModelsAreTrueSpec)) finderModelsAreTrueCard

/-- THE SECOND FORM's CARD OF 'glosswrightlaw2.FinderCountMatchesSpec'. -/
def finderCountMatchesSpecUptoCard : Claim7 := { stood := { row := finderCountMatchesSpecUptoRow, standIns := [], harness := (true, "934f950c0d459a68934344ee77090b8b4baf15c2f89b0fc93fa178f425621b89"), looks := false }, kinds := [], alts := [], laidByText := true, laidKinds := [.data], laidTests := true, laidLooks := .later }
def FinderCountMatchesSpecUptoCardSaid : Prop := Claim7.holds Tryd.pinned (.plain (OpenSpec.upto finderCountMatchesSpecSpec)) finderCountMatchesSpecUptoCard

/-- THE SECOND FORM's CARD OF 'glosswrightlaw2.FinderCountsAll'. -/
def finderCountsAllUptoCard : Claim7 := { stood := { row := finderCountsAllUptoRow, standIns := [], harness := (true, "934f950c0d459a68934344ee77090b8b4baf15c2f89b0fc93fa178f425621b89"), looks := false }, kinds := [], alts := [], laidByText := true, laidKinds := [.data], laidTests := true, laidLooks := .later }
def FinderCountsAllUptoCardSaid : Prop := Claim7.holds Tryd.pinned (.plain (OpenSpec.upto finderCountsAllSpec)) finderCountsAllUptoCard

/-- THE SECOND FORM's CARD OF 'glosswrightlaw2.FinderMatchesSpec'. -/
def finderMatchesSpecUptoCard : Claim7 := { stood := { row := finderMatchesSpecUptoRow, standIns := [], harness := (true, "934f950c0d459a68934344ee77090b8b4baf15c2f89b0fc93fa178f425621b89"), looks := false }, kinds := [], alts := [], laidByText := true, laidKinds := [.data], laidTests := true, laidLooks := .later }
def FinderMatchesSpecUptoCardSaid : Prop := Claim7.holds Tryd.pinned (.plain (OpenSpec.upto finderMatchesSpecSpec)) finderMatchesSpecUptoCard

/-- THE SECOND FORM's CARD OF 'glosswrightlaw2.FinderModelsAreTrue'. -/
def finderModelsAreTrueUptoCard : Claim7 := { stood := { row := finderModelsAreTrueUptoRow, standIns := [], harness := (true, "934f950c0d459a68934344ee77090b8b4baf15c2f89b0fc93fa178f425621b89"), looks := false }, kinds := [], alts := [], laidByText := true, laidKinds := [.data], laidTests := true, laidLooks := .later }
def FinderModelsAreTrueUptoCardSaid : Prop := Claim7.holds Tryd.pinned (.plain (OpenSpec.upto finderModelsAreTrueSpec)) finderModelsAreTrueUptoCard
end Rows
end Go.Proofs.YtkkffhphodngkaaDoor
