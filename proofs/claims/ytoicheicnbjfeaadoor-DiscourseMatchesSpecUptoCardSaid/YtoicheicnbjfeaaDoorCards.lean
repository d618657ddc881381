/-
  DERIVED. GIVEN WITH THE SEED: THE CARDS: each row of YtoicheicnbjfeaaDoorRows.lean that lists a variable, with what it lists TIED to the program's text (the seventh form; the later family's looks); each row that meets fmt, with fmt's text TOLD by the authors' own Lean function (tested against real Go, not proved from fmt's source: count such statements apart). THE CARD IS WHAT COUNTS. Prove the row's statement (the work); the ties are given (YtoicheicnbjfeaaDoorTie.lean); close each card by the builder's one call (the guide's Derived/Test/ToyasCard.lean, 'card_holds'). Laid BY PROGRAM, IN A SANDBOX (cutbox-door.mjs). By AI agents, Wed Nov 11 2026. No macro, syntax, notation, axiom, sorry.
-/
import Derived.Test.YtoicheicnbjfeaaDoorRows
import GoSem.ClaimSeven
namespace Go.Proofs.YtoicheicnbjfeaaDoor
namespace Rows

/-- THE TIED CARD OF 'glosswrightlaw2.DiscourseResolveMatchesSpec'. -/
def discourseResolveMatchesSpecCard : Claim7 := { stood := { row := discourseResolveMatchesSpecRow, standIns := [], harness := (true, "ff0ae6e95c42ffe03eff8a3b53ec480a2ead9d84e57187d6cc8c09881822255b"), looks := false }, kinds := [], alts := [], laidByText := true, laidKinds := [.data], laidTests := true, laidLooks := .later }
def DiscourseResolveMatchesSpecCardSaid : Prop := Claim7.holds Tryd.pinned (.plain (OpenSpec.ofChange discourseResolveMatchesSpecSpec)) discourseResolveMatchesSpecCard

/-- THE TIED CARD OF 'glosswrightlaw2.DiscourseResolvedIsSettled'. -/
def discourseResolvedIsSettledCard : Claim7 := { stood := { row := discourseResolvedIsSettledRow, standIns := [], harness := (true, "ff0ae6e95c42ffe03eff8a3b53ec480a2ead9d84e57187d6cc8c09881822255b"), looks := false }, kinds := [], alts := [], laidByText := true, laidKinds := [.data], laidTests := true, laidLooks := .later }
def DiscourseResolvedIsSettledCardSaid : Prop := Claim7.holds Tryd.pinned (.plain (OpenSpec.ofChange discourseResolvedIsSettledSpec)) discourseResolvedIsSettledCard

/-- THE TIED CARD OF 'glosswrightlaw2.ScopeDominatesMatchesSpec'. -/
def scopeDominatesMatchesSpecCard : Claim7 := { stood := { row := scopeDominatesMatchesSpecRow, standIns := [], harness := (true, "ff0ae6e95c42ffe03eff8a3b53ec480a2ead9d84e57187d6cc8c09881822255b"), looks := false }, kinds := [], alts := [], laidByText := true, laidKinds := [.data], laidTests := true, laidLooks := .later }
def ScopeDominatesMatchesSpecCardSaid : Prop := Claim7.holds Tryd.pinned (.plain (OpenSpec.ofChange scopeDominatesMatchesSpecSpec)) scopeDominatesMatchesSpecCard

/-- THE TIED CARD OF 'glosswrightlaw2.QuantityCountsMatchSpec'. -/
def quantityCountsMatchSpecCard : Claim7 := { stood := { row := quantityCountsMatchSpecRow, standIns := [], harness := (true, "ff0ae6e95c42ffe03eff8a3b53ec480a2ead9d84e57187d6cc8c09881822255b"), looks := false }, kinds := [], alts := [], laidByText := true, laidKinds := [.data], laidTests := true, laidLooks := .later }
def QuantityCountsMatchSpecCardSaid : Prop := Claim7.holds Tryd.pinned (.plain (OpenSpec.ofChange quantityCountsMatchSpecSpec)) quantityCountsMatchSpecCard

/-- THE TIED CARD OF 'glosswrightlaw2.QuantityOfSame'. -/
def quantityOfSameCard : Claim7 := { stood := { row := quantityOfSameRow, standIns := [], harness := (true, "ff0ae6e95c42ffe03eff8a3b53ec480a2ead9d84e57187d6cc8c09881822255b"), looks := false }, kinds := [], alts := [], laidByText := true, laidKinds := [.data], laidTests := true, laidLooks := .later }
def QuantityOfSameCardSaid : Prop := Claim7.holds Tryd.pinned (.plain (OpenSpec.ofChange quantityOfSameSpec)) quantityOfSameCard

/-- THE TIED CARD OF 'glosswrightlaw2.EventMergeUndoes'. -/
def eventMergeUndoesCard : Claim7 := { stood := { row := eventMergeUndoesRow, standIns := [], harness := (true, "ff0ae6e95c42ffe03eff8a3b53ec480a2ead9d84e57187d6cc8c09881822255b"), looks := false }, kinds := [], alts := [], laidByText := true, laidKinds := [.data, .data, .data, .data], laidTests := true, laidLooks := .later }
def EventMergeUndoesCardSaid : Prop := Claim7.holds Tryd.pinned (.plain (OpenSpec.ofChange eventMergeUndoesSpec)) eventMergeUndoesCard

/-- THE TIED CARD OF 'glosswrightlaw2.ScopeFromMatchesSpec'. -/
def scopeFromMatchesSpecCard : Claim7 := { stood := { row := scopeFromMatchesSpecRow, standIns := [], harness := (true, "ff0ae6e95c42ffe03eff8a3b53ec480a2ead9d84e57187d6cc8c09881822255b"), looks := false }, kinds := [], alts := [], laidByText := true, laidKinds := [.data, .data, .data, .data], laidTests := true, laidLooks := .later }
def ScopeFromMatchesSpecCardSaid : Prop := Claim7.holds Tryd.pinned (.plain (OpenSpec.ofChange scopeFromMatchesSpecSpec)) scopeFromMatchesSpecCard

/-- THE TIED CARD OF 'glosswrightlaw2.EventModifiersMatchSpec'. -/
def eventModifiersMatchSpecCard : Claim7 := { stood := { row := eventModifiersMatchSpecRow, standIns := [], harness := (true, "ff0ae6e95c42ffe03eff8a3b53ec480a2ead9d84e57187d6cc8c09881822255b"), looks := false }, kinds := [], alts := [], laidByText := true, laidKinds := [.data, .data, .data, .data], laidTests := true, laidLooks := .later }
def EventModifiersMatchSpecCardSaid : Prop := Claim7.holds Tryd.pinned (.plain (OpenSpec.ofChange eventModifiersMatchSpecSpec)) eventModifiersMatchSpecCard

/-- THE TIED CARD OF 'glosswrightlaw2.EventDropUndoes'. -/
def eventDropUndoesCard : Claim7 := { stood := { row := eventDropUndoesRow, standIns := [], harness := (true, "ff0ae6e95c42ffe03eff8a3b53ec480a2ead9d84e57187d6cc8c09881822255b"), looks := false }, kinds := [], alts := [], laidByText := true, laidKinds := [.data, .data, .data, .data], laidTests := true, laidLooks := .later }
def EventDropUndoesCardSaid : Prop := Claim7.holds Tryd.pinned (.plain (OpenSpec.ofChange eventDropUndoesSpec)) eventDropUndoesCard

/-- THE TIED CARD OF 'glosswrightlaw2.DiscourseMatchesSpec'. -/
def discourseMatchesSpecCard : Claim7 := { stood := { row := discourseMatchesSpecRow, standIns := [], harness := (true, "ff0ae6e95c42ffe03eff8a3b53ec480a2ead9d84e57187d6cc8c09881822255b"), looks := false }, kinds := [], alts := [], laidByText := true, laidKinds := [.data, .data, .data, .data], laidTests := true, laidLooks := .later }
def DiscourseMatchesSpecCardSaid : Prop := Claim7.holds Tryd.pinned (.plain (OpenSpec.ofChange discourseMatchesSpecSpec)) discourseMatchesSpecCard

/-- THE TIED CARD OF 'glosswrightlaw2.PluralEachIsTrueOfEach'. -/
def pluralEachIsTrueOfEachCard : Claim7 := { stood := { row := pluralEachIsTrueOfEachRow, standIns := [], harness := (true, "ff0ae6e95c42ffe03eff8a3b53ec480a2ead9d84e57187d6cc8c09881822255b"), looks := false }, kinds := [], alts := [], laidByText := true, laidKinds := [.data, .data, .data, .data], laidTests := true, laidLooks := .later }
def PluralEachIsTrueOfEachCardSaid : Prop := Claim7.holds Tryd.pinned (.plain (OpenSpec.ofChange pluralEachIsTrueOfEachSpec)) pluralEachIsTrueOfEachCard

/-- THE TIED CARD OF 'glosswrightlaw2.PluralEachIsCumulative'. -/
def pluralEachIsCumulativeCard : Claim7 := { stood := { row := pluralEachIsCumulativeRow, standIns := [], harness := (true, "ff0ae6e95c42ffe03eff8a3b53ec480a2ead9d84e57187d6cc8c09881822255b"), looks := false }, kinds := [], alts := [], laidByText := true, laidKinds := [.data, .data, .data, .data], laidTests := true, laidLooks := .later }
def PluralEachIsCumulativeCardSaid : Prop := Claim7.holds Tryd.pinned (.plain (OpenSpec.ofChange pluralEachIsCumulativeSpec)) pluralEachIsCumulativeCard

/-- THE SECOND FORM's CARD OF 'glosswrightlaw2.DiscourseResolveMatchesSpec'. -/
def discourseResolveMatchesSpecUptoCard : Claim7 := { stood := { row := discourseResolveMatchesSpecUptoRow, standIns := [], harness := (true, "ff0ae6e95c42ffe03eff8a3b53ec480a2ead9d84e57187d6cc8c09881822255b"), looks := false }, kinds := [], alts := [], laidByText := true, laidKinds := [.data], laidTests := true, laidLooks := .later }
def DiscourseResolveMatchesSpecUptoCardSaid : Prop := Claim7.holds Tryd.pinned (.plain (OpenSpec.upto discourseResolveMatchesSpecSpec)) discourseResolveMatchesSpecUptoCard

/-- THE SECOND FORM's CARD OF 'glosswrightlaw2.DiscourseResolvedIsSettled'. -/
def discourseResolvedIsSettledUptoCard : Claim7 := { stood := { row := discourseResolvedIsSettledUptoRow, standIns := [], harness := (true, "ff0ae6e95c42ffe03eff8a3b53ec480a2ead9d84e57187d6cc8c09881822255b"), looks := false }, kinds := [], alts := [], laidByText := true, laidKinds := [.data], laidTests := true, laidLooks := .later }
def DiscourseResolvedIsSettledUptoCardSaid : Prop := Claim7.holds Tryd.pinned (.plain (OpenSpec.upto discourseResolvedIsSettledSpec)) discourseResolvedIsSettledUptoCard

/-- THE SECOND FORM's CARD OF 'glosswrightlaw2.ScopeDominatesMatchesSpec'. -/
def scopeDominatesMatchesSpecUptoCard : Claim7 := { stood := { row := scopeDominatesMatchesSpecUptoRow, standIns := [], harness := (true, "ff0ae6e95c42ffe03eff8a3b53ec480a2ead9d84e57187d6cc8c09881822255b"), looks := false }, kinds := [], alts := [], laidByText := true, laidKinds := [.data], laidTests := true, laidLooks := .later }
def ScopeDominatesMatchesSpecUptoCardSaid : Prop := Claim7.holds Tryd.pinned (.plain (OpenSpec.upto scopeDominatesMatchesSpecSpec)) scopeDominatesMatchesSpecUptoCard

/-- THE SECOND FORM's CARD OF 'glosswrightlaw2.QuantityCountsMatchSpec'. -/
def quantityCountsMatchSpecUptoCard : Claim7 := { stood := { row := quantityCountsMatchSpecUptoRow, standIns := [], harness := (true, "ff0ae6e95c42ffe03eff8a3b53ec480a2ead9d84e57187d6cc8c09881822255b"), looks := false }, kinds := [], alts := [], laidByText := true, laidKinds := [.data], laidTests := true, laidLooks := .later }
def QuantityCountsMatchSpecUptoCardSaid : Prop := Claim7.holds Tryd.pinned (.plain (OpenSpec.upto quantityCountsMatchSpecSpec)) quantityCountsMatchSpecUptoCard

/-- THE SECOND FORM's CARD OF 'glosswrightlaw2.QuantityOfSame'. -/
def quantityOfSameUptoCard : Claim7 := { stood := { row := quantityOfSameUptoRow, standIns := [], harness := (true, "ff0ae6e95c42ffe03eff8a3b53ec480a2ead9d84e57187d6cc8c09881822255b"), looks := false }, kinds := [], alts := [], laidByText := true, laidKinds := [.data], laidTests := true, laidLooks := .later }
def QuantityOfSameUptoCardSaid : Prop := Claim7.holds Tryd.pinned (.plain (OpenSpec.upto quantityOfSameSpec)) quantityOfSameUptoCard

/-- THE SECOND FORM's CARD OF 'glosswrightlaw2.EventMergeUndoes'. -/
def eventMergeUndoesUptoCard : Claim7 := { stood := { row := eventMergeUndoesUptoRow, standIns := [], harness := (true, "ff0ae6e95c42ffe03eff8a3b53ec480a2ead9d84e57187d6cc8c09881822255b"), looks := false }, kinds := [], alts := [], laidByText := true, laidKinds := [.data, .data, .data, .data], laidTests := true, laidLooks := .later }
def EventMergeUndoesUptoCardSaid : Prop := Claim7.holds Tryd.pinned (.plain (OpenSpec.upto eventMergeUndoesSpec)) eventMergeUndoesUptoCard

/-- THE SECOND FORM's CARD OF 'glosswrightlaw2.ScopeFromMatchesSpec'. -/
def scopeFromMatchesSpecUptoCard : Claim7 := { stood := { row := scopeFromMatchesSpecUptoRow, standIns := [], harness := (true, "ff0ae6e95c42ffe03eff8a3b53ec480a2ead9d84e57187d6cc8c09881822255b"), looks := false }, kinds := [], alts := [], laidByText := true, laidKinds := [.data, .data, .data, .data], laidTests := true, laidLooks := .later }
def ScopeFromMatchesSpecUptoCardSaid : Prop := Claim7.holds Tryd.pinned (.plain (OpenSpec.upto scopeFromMatchesSpecSpec)) scopeFromMatchesSpecUptoCard

/-- THE SECOND FORM's CARD OF 'glosswrightlaw2.EventModifiersMatchSpec'. -/
def eventModifiersMatchSpecUptoCard : Claim7 := { stood := { row := eventModifiersMatchSpecUptoRow, standIns := [], harness := (true, "ff0ae6e95c42ffe03eff8a3b53ec480a2ead9d84e57187d6cc8c09881822255b"), looks := false }, kinds := [], alts := [], laidByText := true, laidKinds := [.data, .data, .data, .data], laidTests := true, laidLooks := .later }
def EventModifiersMatchSpecUptoCardSaid : Prop := Claim7.holds Tryd.pinned (.plain (OpenSpec.upto eventModifiersMatchSpecSpec)) eventModifiersMatchSpecUptoCard

/-- THE SECOND FORM's CARD OF 'glosswrightlaw2.EventDropUndoes'. -/
def eventDropUndoesUptoCard : Claim7 := { stood := { row := eventDropUndoesUptoRow, standIns := [], harness := (true, "ff0ae6e95c42ffe03eff8a3b53ec480a2ead9d84e57187d6cc8c09881822255b"), looks := false }, kinds := [], alts := [], laidByText := true, laidKinds := [.data, .data, .data, .data], laidTests := true, laidLooks := .later }
def EventDropUndoesUptoCardSaid : Prop := Claim7.holds Tryd.pinned (.plain (OpenSpec.upto eventDropUndoesSpec)) eventDropUndoesUptoCard

/-- THE SECOND FORM's CARD OF 'glosswrightlaw2.DiscourseMatchesSpec'. -/
def discourseMatchesSpecUptoCard : Claim7 := { stood := { row := discourseMatchesSpecUptoRow, standIns := [], harness := (true, "ff0ae6e95c42ffe03eff8a3b53ec480a2ead9d84e57187d6cc8c09881822255b"), looks := false }, kinds := [], alts := [], laidByText := true, laidKinds := [.data, .data, .data, .data], laidTests := true, laidLooks := .later }
def DiscourseMatchesSpecUptoCardSaid : Prop := Claim7.holds Tryd.pinned (.plain (OpenSpec.upto discourseMatchesSpecSpec)) discourseMatchesSpecUptoCard

/-- THE SECOND FORM's CARD OF 'glosswrightlaw2.PluralEachIsTrueOfEach'. -/
def pluralEachIsTrueOfEachUptoCard : Claim7 := { stood := { row := pluralEachIsTrueOfEachUptoRow, standIns := [], harness := (true, "ff0ae6e95c42ffe03eff8a3b53ec480a2ead9d84e57187d6cc8c09881822255b"), looks := false }, kinds := [], alts := [], laidByText := true, laidKinds := [.data, .data, .data, .data], laidTests := true, laidLooks := .later }
def PluralEachIsTrueOfEachUptoCardSaid : Prop := Claim7.holds Tryd.pinned (.plain (OpenSpec.upto pluralEachIsTrueOfEachSpec)) pluralEachIsTrueOfEachUptoCard

/-- THE SECOND FORM's CARD OF 'glosswrightlaw2.PluralEachIsCumulative'. -/
def pluralEachIsCumulativeUptoCard : Claim7 := { stood := { row := pluralEachIsCumulativeUptoRow, standIns := [], harness := (true, "ff0ae6e95c42ffe03eff8a3b53ec480a2ead9d84e57187d6cc8c09881822255b"), looks := false }, kinds := [], alts := [], laidByText := true, laidKinds := [.data, .data, .data, .data], laidTests := true, laidLooks := .later }
def PluralEachIsCumulativeUptoCardSaid : Prop := Claim7.holds Tryd.pinned (.plain (OpenSpec.upto pluralEachIsCumulativeSpec)) pluralEachIsCumulativeUptoCard
end Rows
end Go.Proofs.YtoicheicnbjfeaaDoor
