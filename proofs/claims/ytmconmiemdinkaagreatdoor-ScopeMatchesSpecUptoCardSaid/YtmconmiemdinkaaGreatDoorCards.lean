/-
  DERIVED. GIVEN WITH THE SEED: THE CARDS: each row of YtmconmiemdinkaaGreatDoorRows.lean that lists a variable, with what it lists TIED to the program's text (the seventh form; the later family's looks); each row that meets fmt, with fmt's text TOLD by the authors' own Lean function (tested against real Go, not proved from fmt's source: count such statements apart). THE CARD IS WHAT COUNTS. Prove the row's statement (the work); the ties are given (YtmconmiemdinkaaGreatDoorTie.lean); close each card by the builder's one call (the guide's Derived/Test/ToyasCard.lean, 'card_holds'). Laid BY PROGRAM, IN A SANDBOX (cutbox-door.mjs). By AI agents, Wed Nov 11 2026. No macro, syntax, notation, axiom, sorry.
-/
import Derived.Test.YtmconmiemdinkaaGreatDoorRows
import GoSem.ClaimSeven
namespace Go.Proofs.YtmconmiemdinkaaGreatDoor
namespace Rows

/-- THE TIED CARD OF 'glosswrightlaw2.ScopeMoreConstraints'. -/
def scopeMoreConstraintsCard : Claim7 := { stood := { row := scopeMoreConstraintsRow, standIns := [], harness := (true, "a3cb5945398e026a1c661da40b4d93da2e403546df8ce23fabb7cd3ae5c675c7"), looks := false }, kinds := [], alts := [], laidByText := true, laidKinds := [.data, .data, .data, .data], laidTests := true, laidLooks := .later }
def ScopeMoreConstraintsCardSaid : Prop := Claim7.holds Tryz.pinned (.plain (OpenSpec.ofChange scopeMoreConstraintsSpec)) scopeMoreConstraintsCard

/-- THE TIED CARD OF 'glosswrightlaw2.ScopeMatchesSpec'. -/
def scopeMatchesSpecCard : Claim7 := { stood := { row := scopeMatchesSpecRow, standIns := [], harness := (true, "a3cb5945398e026a1c661da40b4d93da2e403546df8ce23fabb7cd3ae5c675c7"), looks := false }, kinds := [], alts := [], laidByText := true, laidKinds := [.data, .data, .data, .data], laidTests := true, laidLooks := .later }
def ScopeMatchesSpecCardSaid : Prop := Claim7.holds Tryz.pinned (.plain (OpenSpec.ofChange scopeMatchesSpecSpec)) scopeMatchesSpecCard

/-- THE TIED CARD OF 'glosswrightlaw2.ScopeReadingsHaveAll'. -/
def scopeReadingsHaveAllCard : Claim7 := { stood := { row := scopeReadingsHaveAllRow, standIns := [], harness := (true, "a3cb5945398e026a1c661da40b4d93da2e403546df8ce23fabb7cd3ae5c675c7"), looks := false }, kinds := [], alts := [], laidByText := true, laidKinds := [.data, .data, .data, .data], laidTests := true, laidLooks := .later }
def ScopeReadingsHaveAllCardSaid : Prop := Claim7.holds Tryz.pinned (.plain (OpenSpec.ofChange scopeReadingsHaveAllSpec)) scopeReadingsHaveAllCard

/-- THE TIED CARD OF 'glosswrightlaw2.ScopeFindsTheWhole'. -/
def scopeFindsTheWholeCard : Claim7 := { stood := { row := scopeFindsTheWholeRow, standIns := [], harness := (true, "a3cb5945398e026a1c661da40b4d93da2e403546df8ce23fabb7cd3ae5c675c7"), looks := false }, kinds := [], alts := [], laidByText := true, laidKinds := [.data, .data, .data, .data], laidTests := true, laidLooks := .later }
def ScopeFindsTheWholeCardSaid : Prop := Claim7.holds Tryz.pinned (.plain (OpenSpec.ofChange scopeFindsTheWholeSpec)) scopeFindsTheWholeCard

/-- THE SECOND FORM's CARD OF 'glosswrightlaw2.ScopeMoreConstraints'. -/
def scopeMoreConstraintsUptoCard : Claim7 := { stood := { row := scopeMoreConstraintsUptoRow, standIns := [], harness := (true, "a3cb5945398e026a1c661da40b4d93da2e403546df8ce23fabb7cd3ae5c675c7"), looks := false }, kinds := [], alts := [], laidByText := true, laidKinds := [.data, .data, .data, .data], laidTests := true, laidLooks := .later }
def ScopeMoreConstraintsUptoCardSaid : Prop := Claim7.holds Tryz.pinned (.plain (OpenSpec.upto scopeMoreConstraintsSpec)) scopeMoreConstraintsUptoCard

/-- THE SECOND FORM's CARD OF 'glosswrightlaw2.ScopeMatchesSpec'. -/
def scopeMatchesSpecUptoCard : Claim7 := { stood := { row := scopeMatchesSpecUptoRow, standIns := [], harness := (true, "a3cb5945398e026a1c661da40b4d93da2e403546df8ce23fabb7cd3ae5c675c7"), looks := false }, kinds := [], alts := [], laidByText := true, laidKinds := [.data, .data, .data, .data], laidTests := true, laidLooks := .later }
def ScopeMatchesSpecUptoCardSaid : Prop := Claim7.holds Tryz.pinned (.plain (OpenSpec.upto scopeMatchesSpecSpec)) scopeMatchesSpecUptoCard

/-- THE SECOND FORM's CARD OF 'glosswrightlaw2.ScopeReadingsHaveAll'. -/
def scopeReadingsHaveAllUptoCard : Claim7 := { stood := { row := scopeReadingsHaveAllUptoRow, standIns := [], harness := (true, "a3cb5945398e026a1c661da40b4d93da2e403546df8ce23fabb7cd3ae5c675c7"), looks := false }, kinds := [], alts := [], laidByText := true, laidKinds := [.data, .data, .data, .data], laidTests := true, laidLooks := .later }
def ScopeReadingsHaveAllUptoCardSaid : Prop := Claim7.holds Tryz.pinned (.plain (OpenSpec.upto scopeReadingsHaveAllSpec)) scopeReadingsHaveAllUptoCard

/-- THE SECOND FORM's CARD OF 'glosswrightlaw2.ScopeFindsTheWhole'. -/
def scopeFindsTheWholeUptoCard : Claim7 := { stood := { row := scopeFindsTheWholeUptoRow, standIns := [], harness := (true, "a3cb5945398e026a1c661da40b4d93da2e403546df8ce23fabb7cd3ae5c675c7"), looks := false }, kinds := [], alts := [], laidByText := true, laidKinds := [.data, .data, .data, .data], laidTests := true, laidLooks := .later }
def ScopeFindsTheWholeUptoCardSaid : Prop := Claim7.holds Tryz.pinned (.plain (OpenSpec.upto scopeFindsTheWholeSpec)) scopeFindsTheWholeUptoCard
end Rows
end Go.Proofs.YtmconmiemdinkaaGreatDoor
