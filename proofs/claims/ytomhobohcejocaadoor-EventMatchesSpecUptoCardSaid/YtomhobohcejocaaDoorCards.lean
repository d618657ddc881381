/-
  DERIVED. GIVEN WITH THE SEED: THE CARDS: each row of YtomhobohcejocaaDoorRows.lean that lists a variable, with what it lists TIED to the program's text (the seventh form; the later family's looks); each row that meets fmt, with fmt's text TOLD by the authors' own Lean function (tested against real Go, not proved from fmt's source: count such statements apart). THE CARD IS WHAT COUNTS. Prove the row's statement (the work); the ties are given (YtomhobohcejocaaDoorTie.lean); close each card by the builder's one call (the guide's Derived/Test/ToyasCard.lean, 'card_holds'). Laid BY PROGRAM, IN A SANDBOX (cutbox-door.mjs). By AI agents, Wed Nov 11 2026. No macro, syntax, notation, axiom, sorry.
-/
import Derived.Test.YtomhobohcejocaaDoorRows
import GoSem.ClaimSeven
namespace Go.Proofs.YtomhobohcejocaaDoor
namespace Rows

/-- THE TIED CARD OF 'glosswrightlaw2.DiscourseAccessibleMatchesSpec'. -/
def discourseAccessibleMatchesSpecCard : Claim7 := { stood := { row := discourseAccessibleMatchesSpecRow, standIns := [], harness := (true, "321bdc1195cb2d615dfa3b10fceb563224eb527b7105a654bbd7bfc9841b45d9"), looks := false }, kinds := [], alts := [], laidByText := true, laidKinds := [.data], laidTests := true, laidLooks := .later }
def DiscourseAccessibleMatchesSpecCardSaid : Prop := Claim7.holds Tryd.pinned (.plain (OpenSpec.ofChange discourseAccessibleMatchesSpecSpec)) discourseAccessibleMatchesSpecCard

/-- THE TIED CARD OF 'glosswrightlaw2.DiscourseMergeMatchesSpec'. -/
def discourseMergeMatchesSpecCard : Claim7 := { stood := { row := discourseMergeMatchesSpecRow, standIns := [], harness := (true, "321bdc1195cb2d615dfa3b10fceb563224eb527b7105a654bbd7bfc9841b45d9"), looks := false }, kinds := [], alts := [], laidByText := true, laidKinds := [.data], laidTests := true, laidLooks := .later }
def DiscourseMergeMatchesSpecCardSaid : Prop := Claim7.holds Tryd.pinned (.plain (OpenSpec.ofChange discourseMergeMatchesSpecSpec)) discourseMergeMatchesSpecCard

/-- THE TIED CARD OF 'glosswrightlaw2.DiscourseResolveMatchesSpec'. -/
def discourseResolveMatchesSpecCard : Claim7 := { stood := { row := discourseResolveMatchesSpecRow, standIns := [], harness := (true, "321bdc1195cb2d615dfa3b10fceb563224eb527b7105a654bbd7bfc9841b45d9"), looks := false }, kinds := [], alts := [], laidByText := true, laidKinds := [.data], laidTests := true, laidLooks := .later }
def DiscourseResolveMatchesSpecCardSaid : Prop := Claim7.holds Tryd.pinned (.plain (OpenSpec.ofChange discourseResolveMatchesSpecSpec)) discourseResolveMatchesSpecCard

/-- THE TIED CARD OF 'glosswrightlaw2.DiscourseResolvedIsSettled'. -/
def discourseResolvedIsSettledCard : Claim7 := { stood := { row := discourseResolvedIsSettledRow, standIns := [], harness := (true, "321bdc1195cb2d615dfa3b10fceb563224eb527b7105a654bbd7bfc9841b45d9"), looks := false }, kinds := [], alts := [], laidByText := true, laidKinds := [.data], laidTests := true, laidLooks := .later }
def DiscourseResolvedIsSettledCardSaid : Prop := Claim7.holds Tryd.pinned (.plain (OpenSpec.ofChange discourseResolvedIsSettledSpec)) discourseResolvedIsSettledCard

/-- THE TIED CARD OF 'glosswrightlaw2.ScopeDominatesMatchesSpec'. -/
def scopeDominatesMatchesSpecCard : Claim7 := { stood := { row := scopeDominatesMatchesSpecRow, standIns := [], harness := (true, "321bdc1195cb2d615dfa3b10fceb563224eb527b7105a654bbd7bfc9841b45d9"), looks := false }, kinds := [], alts := [], laidByText := true, laidKinds := [.data], laidTests := true, laidLooks := .later }
def ScopeDominatesMatchesSpecCardSaid : Prop := Claim7.holds Tryd.pinned (.plain (OpenSpec.ofChange scopeDominatesMatchesSpecSpec)) scopeDominatesMatchesSpecCard

/-- THE TIED CARD OF 'glosswrightlaw2.QuantityCountsMatchSpec'. -/
def quantityCountsMatchSpecCard : Claim7 := { stood := { row := quantityCountsMatchSpecRow, standIns := [], harness := (true, "321bdc1195cb2d615dfa3b10fceb563224eb527b7105a654bbd7bfc9841b45d9"), looks := false }, kinds := [], alts := [], laidByText := true, laidKinds := [.data], laidTests := true, laidLooks := .later }
def QuantityCountsMatchSpecCardSaid : Prop := Claim7.holds Tryd.pinned (.plain (OpenSpec.ofChange quantityCountsMatchSpecSpec)) quantityCountsMatchSpecCard

/-- THE TIED CARD OF 'glosswrightlaw2.QuantityOfSame'. -/
def quantityOfSameCard : Claim7 := { stood := { row := quantityOfSameRow, standIns := [], harness := (true, "321bdc1195cb2d615dfa3b10fceb563224eb527b7105a654bbd7bfc9841b45d9"), looks := false }, kinds := [], alts := [], laidByText := true, laidKinds := [.data], laidTests := true, laidLooks := .later }
def QuantityOfSameCardSaid : Prop := Claim7.holds Tryd.pinned (.plain (OpenSpec.ofChange quantityOfSameSpec)) quantityOfSameCard

/-- THE TIED CARD OF 'glosswrightlaw2.QuantityMatchesSpec'. -/
def quantityMatchesSpecCard : Claim7 := { stood := { row := quantityMatchesSpecRow, standIns := [], harness := (true, "321bdc1195cb2d615dfa3b10fceb563224eb527b7105a654bbd7bfc9841b45d9"), looks := false }, kinds := [], alts := [], laidByText := true, laidKinds := [.data, .data, .data, .data], laidTests := true, laidLooks := .later }
def QuantityMatchesSpecCardSaid : Prop := Claim7.holds Tryd.pinned (.plain (OpenSpec.ofChange quantityMatchesSpecSpec)) quantityMatchesSpecCard

/-- THE TIED CARD OF 'glosswrightlaw2.PluralMatchesSpec'. -/
def pluralMatchesSpecCard : Claim7 := { stood := { row := pluralMatchesSpecRow, standIns := [], harness := (true, "321bdc1195cb2d615dfa3b10fceb563224eb527b7105a654bbd7bfc9841b45d9"), looks := false }, kinds := [], alts := [], laidByText := true, laidKinds := [.data, .data, .data, .data], laidTests := true, laidLooks := .later }
def PluralMatchesSpecCardSaid : Prop := Claim7.holds Tryd.pinned (.plain (OpenSpec.ofChange pluralMatchesSpecSpec)) pluralMatchesSpecCard

/-- THE TIED CARD OF 'glosswrightlaw2.EventMatchesSpec'. -/
def eventMatchesSpecCard : Claim7 := { stood := { row := eventMatchesSpecRow, standIns := [], harness := (true, "321bdc1195cb2d615dfa3b10fceb563224eb527b7105a654bbd7bfc9841b45d9"), looks := false }, kinds := [], alts := [], laidByText := true, laidKinds := [.data, .data, .data, .data], laidTests := true, laidLooks := .later }
def EventMatchesSpecCardSaid : Prop := Claim7.holds Tryd.pinned (.plain (OpenSpec.ofChange eventMatchesSpecSpec)) eventMatchesSpecCard

/-- THE TIED CARD OF 'glosswrightlaw2.EventMergeUndoes'. -/
def eventMergeUndoesCard : Claim7 := { stood := { row := eventMergeUndoesRow, standIns := [], harness := (true, "321bdc1195cb2d615dfa3b10fceb563224eb527b7105a654bbd7bfc9841b45d9"), looks := false }, kinds := [], alts := [], laidByText := true, laidKinds := [.data, .data, .data, .data], laidTests := true, laidLooks := .later }
def EventMergeUndoesCardSaid : Prop := Claim7.holds Tryd.pinned (.plain (OpenSpec.ofChange eventMergeUndoesSpec)) eventMergeUndoesCard

/-- THE TIED CARD OF 'glosswrightlaw2.ScopeFromMatchesSpec'. -/
def scopeFromMatchesSpecCard : Claim7 := { stood := { row := scopeFromMatchesSpecRow, standIns := [], harness := (true, "321bdc1195cb2d615dfa3b10fceb563224eb527b7105a654bbd7bfc9841b45d9"), looks := false }, kinds := [], alts := [], laidByText := true, laidKinds := [.data, .data, .data, .data], laidTests := true, laidLooks := .later }
def ScopeFromMatchesSpecCardSaid : Prop := Claim7.holds Tryd.pinned (.plain (OpenSpec.ofChange scopeFromMatchesSpecSpec)) scopeFromMatchesSpecCard

/-- THE SECOND FORM's CARD OF 'glosswrightlaw2.DiscourseAccessibleMatchesSpec'. -/
def discourseAccessibleMatchesSpecUptoCard : Claim7 := { stood := { row := discourseAccessibleMatchesSpecUptoRow, standIns := [], harness := (true, "321bdc1195cb2d615dfa3b10fceb563224eb527b7105a654bbd7bfc9841b45d9"), looks := false }, kinds := [], alts := [], laidByText := true, laidKinds := [.data], laidTests := true, laidLooks := .later }
def DiscourseAccessibleMatchesSpecUptoCardSaid : Prop := Claim7.holds Tryd.pinned (.plain (OpenSpec.upto discourseAccessibleMatchesSpecSpec)) discourseAccessibleMatchesSpecUptoCard

/-- THE SECOND FORM's CARD OF 'glosswrightlaw2.DiscourseMergeMatchesSpec'. -/
def discourseMergeMatchesSpecUptoCard : Claim7 := { stood := { row := discourseMergeMatchesSpecUptoRow, standIns := [], harness := (true, "321bdc1195cb2d615dfa3b10fceb563224eb527b7105a654bbd7bfc9841b45d9"), looks := false }, kinds := [], alts := [], laidByText := true, laidKinds := [.data], laidTests := true, laidLooks := .later }
def DiscourseMergeMatchesSpecUptoCardSaid : Prop := Claim7.holds Tryd.pinned (.plain (OpenSpec.upto discourseMergeMatchesSpecSpec)) discourseMergeMatchesSpecUptoCard

/-- THE SECOND FORM's CARD OF 'glosswrightlaw2.DiscourseResolveMatchesSpec'. -/
def discourseResolveMatchesSpecUptoCard : Claim7 := { stood := { row := discourseResolveMatchesSpecUptoRow, standIns := [], harness := (true, "321bdc1195cb2d615dfa3b10fceb563224eb527b7105a654bbd7bfc9841b45d9"), looks := false }, kinds := [], alts := [], laidByText := true, laidKinds := [.data], laidTests := true, laidLooks := .later }
def DiscourseResolveMatchesSpecUptoCardSaid : Prop := Claim7.holds Tryd.pinned (.plain (OpenSpec.upto discourseResolveMatchesSpecSpec)) discourseResolveMatchesSpecUptoCard

/-- THE SECOND FORM's CARD OF 'glosswrightlaw2.DiscourseResolvedIsSettled'. -/
def discourseResolvedIsSettledUptoCard : Claim7 := { stood := { row := discourseResolvedIsSettledUptoRow, standIns := [], harness := (true, "321bdc1195cb2d615dfa3b10fceb563224eb527b7105a654bbd7bfc9841b45d9"), looks := false }, kinds := [], alts := [], laidByText := true, laidKinds := [.data], laidTests := true, laidLooks := .later }
def DiscourseResolvedIsSettledUptoCardSaid : Prop := Claim7.holds Tryd.pinned (.plain (OpenSpec.upto discourseResolvedIsSettledSpec)) discourseResolvedIsSettledUptoCard

/-- THE SECOND FORM's CARD OF 'glosswrightlaw2.ScopeDominatesMatchesSpec'. -/
def scopeDominatesMatchesSpecUptoCard : Claim7 := { stood := { row := scopeDominatesMatchesSpecUptoRow, standIns := [], harness := (true, "321bdc1195cb2d615dfa3b10fceb563224eb527b7105a654bbd7bfc9841b45d9"), looks := false }, kinds := [], alts := [], laidByText := true, laidKinds := [.data], laidTests := true, laidLooks := .later }
def ScopeDominatesMatchesSpecUptoCardSaid : Prop := Claim7.holds Tryd.pinned (.plain (OpenSpec.upto scopeDominatesMatchesSpecSpec)) scopeDominatesMatchesSpecUptoCard

/-- THE SECOND FORM's CARD OF 'glosswrightlaw2.QuantityCountsMatchSpec'. -/
def quantityCountsMatchSpecUptoCard : Claim7 := { stood := { row := quantityCountsMatchSpecUptoRow, standIns := [], harness := (true, "321bdc1195cb2d615dfa3b10fceb563224eb527b7105a654bbd7bfc9841b45d9"), looks := false }, kinds := [], alts := [], laidByText := true, laidKinds := [.data], laidTests := true, laidLooks := .later }
def QuantityCountsMatchSpecUptoCardSaid : Prop := Claim7.holds Tryd.pinned (.plain (OpenSpec.upto quantityCountsMatchSpecSpec)) quantityCountsMatchSpecUptoCard

/-- THE SECOND FORM's CARD OF 'glosswrightlaw2.QuantityOfSame'. -/
def quantityOfSameUptoCard : Claim7 := { stood := { row := quantityOfSameUptoRow, standIns := [], harness := (true, "321bdc1195cb2d615dfa3b10fceb563224eb527b7105a654bbd7bfc9841b45d9"), looks := false }, kinds := [], alts := [], laidByText := true, laidKinds := [.data], laidTests := true, laidLooks := .later }
def QuantityOfSameUptoCardSaid : Prop := Claim7.holds Tryd.pinned (.plain (OpenSpec.upto quantityOfSameSpec)) quantityOfSameUptoCard

/-- THE SECOND FORM's CARD OF 'glosswrightlaw2.QuantityMatchesSpec'. -/
def quantityMatchesSpecUptoCard : Claim7 := { stood := { row := quantityMatchesSpecUptoRow, standIns := [], harness := (true, "321bdc1195cb2d615dfa3b10fceb563224eb527b7105a654bbd7bfc9841b45d9"), looks := false }, kinds := [], alts := [], laidByText := true, laidKinds := [.data, .data, .data, .data], laidTests := true, laidLooks := .later }
def QuantityMatchesSpecUptoCardSaid : Prop := Claim7.holds Tryd.pinned (.plain (OpenSpec.upto quantityMatchesSpecSpec)) quantityMatchesSpecUptoCard

/-- THE SECOND FORM's CARD OF 'glosswrightlaw2.PluralMatchesSpec'. -/
def pluralMatchesSpecUptoCard : Claim7 := { stood := { row := pluralMatchesSpecUptoRow, standIns := [], harness := (true, "321bdc1195cb2d615dfa3b10fceb563224eb527b7105a654bbd7bfc9841b45d9"), looks := false }, kinds := [], alts := [], laidByText := true, laidKinds := [.data, .data, .data, .data], laidTests := true, laidLooks := .later }
def PluralMatchesSpecUptoCardSaid : Prop := Claim7.holds Tryd.pinned (.plain (OpenSpec.upto pluralMatchesSpecSpec)) pluralMatchesSpecUptoCard

/-- THE SECOND FORM's CARD OF 'glosswrightlaw2.EventMatchesSpec'. -/
def eventMatchesSpecUptoCard : Claim7 := { stood := { row := eventMatchesSpecUptoRow, standIns := [], harness := (true, "321bdc1195cb2d615dfa3b10fceb563224eb527b7105a654bbd7bfc9841b45d9"), looks := false }, kinds := [], alts := [], laidByText := true, laidKinds := [.data, .data, .data, .data], laidTests := true, laidLooks := .later }
def EventMatchesSpecUptoCardSaid : Prop := Claim7.holds Tryd.pinned (.plain (OpenSpec.upto eventMatchesSpecSpec)) eventMatchesSpecUptoCard

/-- THE SECOND FORM's CARD OF 'glosswrightlaw2.EventMergeUndoes'. -/
def eventMergeUndoesUptoCard : Claim7 := { stood := { row := eventMergeUndoesUptoRow, standIns := [], harness := (true, "321bdc1195cb2d615dfa3b10fceb563224eb527b7105a654bbd7bfc9841b45d9"), looks := false }, kinds := [], alts := [], laidByText := true, laidKinds := [.data, .data, .data, .data], laidTests := true, laidLooks := .later }
def EventMergeUndoesUptoCardSaid : Prop := Claim7.holds Tryd.pinned (.plain (OpenSpec.upto eventMergeUndoesSpec)) eventMergeUndoesUptoCard

/-- THE SECOND FORM's CARD OF 'glosswrightlaw2.ScopeFromMatchesSpec'. -/
def scopeFromMatchesSpecUptoCard : Claim7 := { stood := { row := scopeFromMatchesSpecUptoRow, standIns := [], harness := (true, "321bdc1195cb2d615dfa3b10fceb563224eb527b7105a654bbd7bfc9841b45d9"), looks := false }, kinds := [], alts := [], laidByText := true, laidKinds := [.data, .data, .data, .data], laidTests := true, laidLooks := .later }
def ScopeFromMatchesSpecUptoCardSaid : Prop := Claim7.holds Tryd.pinned (.plain (OpenSpec.upto scopeFromMatchesSpecSpec)) scopeFromMatchesSpecUptoCard
end Rows
end Go.Proofs.YtomhobohcejocaaDoor
