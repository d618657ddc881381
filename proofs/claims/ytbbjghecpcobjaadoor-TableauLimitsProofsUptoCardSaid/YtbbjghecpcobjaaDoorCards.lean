/-
  DERIVED. GIVEN WITH THE SEED: THE CARDS: each row of YtbbjghecpcobjaaDoorRows.lean that lists a variable, with what it lists TIED to the program's text (the seventh form; the later family's looks); each row that meets fmt, with fmt's text TOLD by the authors' own Lean function (tested against real Go, not proved from fmt's source: count such statements apart). THE CARD IS WHAT COUNTS. Prove the row's statement (the work); the ties are given (YtbbjghecpcobjaaDoorTie.lean); close each card by the builder's one call (the guide's Derived/Test/ToyasCard.lean, 'card_holds'). Laid BY PROGRAM, IN A SANDBOX (cutbox-door.mjs). By AI agents, Wed Nov 11 2026. No macro, syntax, notation, axiom, sorry.
-/
import Derived.Test.YtbbjghecpcobjaaDoorRows
import GoSem.ClaimSeven
namespace Go.Proofs.YtbbjghecpcobjaaDoor
namespace Rows

/-- THE TIED CARD OF 'glosswrightlaw2.QuantityCountsMatchSpec'. -/
def quantityCountsMatchSpecCard : Claim7 := { stood := { row := quantityCountsMatchSpecRow, standIns := [], harness := (true, "50e135586230ff27c7476e659947eddf1100c8fc7bbf396249a560da6fef1bd9"), looks := false }, kinds := [], alts := [], laidByText := true, laidKinds := [.data], laidTests := true, laidLooks := .later }
def QuantityCountsMatchSpecCardSaid : Prop := Claim7.holds Tryd.pinned (.plain (OpenSpec.ofChange quantityCountsMatchSpecSpec)) quantityCountsMatchSpecCard

/-- THE TIED CARD OF 'glosswrightlaw2.TableauCheckMatchesSpec'. -/
def tableauCheckMatchesSpecCard : Claim7 := { stood := { row := tableauCheckMatchesSpecRow, standIns := [], harness := (true, "50e135586230ff27c7476e659947eddf1100c8fc7bbf396249a560da6fef1bd9"), looks := false }, kinds := [], alts := [], laidByText := true, laidKinds := [.data, .data, .data, .data], laidTests := true, laidLooks := .later }
def TableauCheckMatchesSpecCardSaid : Prop := Claim7.holds Tryd.pinned (.plain (OpenSpec.ofChange tableauCheckMatchesSpecSpec)) tableauCheckMatchesSpecCard

/-- THE TIED CARD OF 'glosswrightlaw2.TableauLimitsProofs'. -/
def tableauLimitsProofsCard : Claim7 := { stood := { row := tableauLimitsProofsRow, standIns := [], harness := (true, "50e135586230ff27c7476e659947eddf1100c8fc7bbf396249a560da6fef1bd9"), looks := false }, kinds := [], alts := [], laidByText := true, laidKinds := [.data, .data, .data, .data], laidTests := true, laidLooks := .later }
def TableauLimitsProofsCardSaid : Prop := Claim7.holds Tryd.pinned (.plain (OpenSpec.ofChange tableauLimitsProofsSpec)) tableauLimitsProofsCard

/-- THE TIED CARD OF 'glosswrightlaw2.QuantityIsCounted'. -/
def quantityIsCountedCard : Claim7 := { stood := { row := quantityIsCountedRow, standIns := [], harness := (true, "50e135586230ff27c7476e659947eddf1100c8fc7bbf396249a560da6fef1bd9"), looks := false }, kinds := [], alts := [], laidByText := true, laidKinds := [.data, .data, .data, .data], laidTests := true, laidLooks := .later }
def QuantityIsCountedCardSaid : Prop := Claim7.holds Tryd.pinned (.plain (OpenSpec.ofChange quantityIsCountedSpec)) quantityIsCountedCard

/-- THE TIED CARD OF 'glosswrightlaw2.EventDropIsImplied'. -/
def eventDropIsImpliedCard : Claim7 := { stood := { row := eventDropIsImpliedRow, standIns := [], harness := (true, "50e135586230ff27c7476e659947eddf1100c8fc7bbf396249a560da6fef1bd9"), looks := false }, kinds := [], alts := [], laidByText := true, laidKinds := [.data, .data, .data, .data], laidTests := true, laidLooks := .later }
def EventDropIsImpliedCardSaid : Prop := Claim7.holds Tryd.pinned (.plain (OpenSpec.ofChange eventDropIsImpliedSpec)) eventDropIsImpliedCard

/-- THE TIED CARD OF 'glosswrightlaw2.DiscourseMergeSaysBoth'. -/
def discourseMergeSaysBothCard : Claim7 := { stood := { row := discourseMergeSaysBothRow, standIns := [], harness := (true, "50e135586230ff27c7476e659947eddf1100c8fc7bbf396249a560da6fef1bd9"), looks := false }, kinds := [], alts := [], laidByText := true, laidKinds := [.data, .data, .data, .data], laidTests := true, laidLooks := .later }
def DiscourseMergeSaysBothCardSaid : Prop := Claim7.holds Tryd.pinned (.plain (OpenSpec.ofChange discourseMergeSaysBothSpec)) discourseMergeSaysBothCard

/-- THE SECOND FORM's CARD OF 'glosswrightlaw2.QuantityCountsMatchSpec'. -/
def quantityCountsMatchSpecUptoCard : Claim7 := { stood := { row := quantityCountsMatchSpecUptoRow, standIns := [], harness := (true, "50e135586230ff27c7476e659947eddf1100c8fc7bbf396249a560da6fef1bd9"), looks := false }, kinds := [], alts := [], laidByText := true, laidKinds := [.data], laidTests := true, laidLooks := .later }
def QuantityCountsMatchSpecUptoCardSaid : Prop := Claim7.holds Tryd.pinned (.plain (OpenSpec.upto quantityCountsMatchSpecSpec)) quantityCountsMatchSpecUptoCard

/-- THE SECOND FORM's CARD OF 'glosswrightlaw2.TableauCheckMatchesSpec'. -/
def tableauCheckMatchesSpecUptoCard : Claim7 := { stood := { row := tableauCheckMatchesSpecUptoRow, standIns := [], harness := (true, "50e135586230ff27c7476e659947eddf1100c8fc7bbf396249a560da6fef1bd9"), looks := false }, kinds := [], alts := [], laidByText := true, laidKinds := [.data, .data, .data, .data], laidTests := true, laidLooks := .later }
def TableauCheckMatchesSpecUptoCardSaid : Prop := Claim7.holds Tryd.pinned (.plain (OpenSpec.upto tableauCheckMatchesSpecSpec)) tableauCheckMatchesSpecUptoCard

/-- THE SECOND FORM's CARD OF 'glosswrightlaw2.TableauLimitsProofs'. -/
def tableauLimitsProofsUptoCard : Claim7 := { stood := { row := tableauLimitsProofsUptoRow, standIns := [], harness := (true, "50e135586230ff27c7476e659947eddf1100c8fc7bbf396249a560da6fef1bd9"), looks := false }, kinds := [], alts := [], laidByText := true, laidKinds := [.data, .data, .data, .data], laidTests := true, laidLooks := .later }
def TableauLimitsProofsUptoCardSaid : Prop := Claim7.holds Tryd.pinned (.plain (OpenSpec.upto tableauLimitsProofsSpec)) tableauLimitsProofsUptoCard

/-- THE SECOND FORM's CARD OF 'glosswrightlaw2.QuantityIsCounted'. -/
def quantityIsCountedUptoCard : Claim7 := { stood := { row := quantityIsCountedUptoRow, standIns := [], harness := (true, "50e135586230ff27c7476e659947eddf1100c8fc7bbf396249a560da6fef1bd9"), looks := false }, kinds := [], alts := [], laidByText := true, laidKinds := [.data, .data, .data, .data], laidTests := true, laidLooks := .later }
def QuantityIsCountedUptoCardSaid : Prop := Claim7.holds Tryd.pinned (.plain (OpenSpec.upto quantityIsCountedSpec)) quantityIsCountedUptoCard

/-- THE SECOND FORM's CARD OF 'glosswrightlaw2.EventDropIsImplied'. -/
def eventDropIsImpliedUptoCard : Claim7 := { stood := { row := eventDropIsImpliedUptoRow, standIns := [], harness := (true, "50e135586230ff27c7476e659947eddf1100c8fc7bbf396249a560da6fef1bd9"), looks := false }, kinds := [], alts := [], laidByText := true, laidKinds := [.data, .data, .data, .data], laidTests := true, laidLooks := .later }
def EventDropIsImpliedUptoCardSaid : Prop := Claim7.holds Tryd.pinned (.plain (OpenSpec.upto eventDropIsImpliedSpec)) eventDropIsImpliedUptoCard

/-- THE SECOND FORM's CARD OF 'glosswrightlaw2.DiscourseMergeSaysBoth'. -/
def discourseMergeSaysBothUptoCard : Claim7 := { stood := { row := discourseMergeSaysBothUptoRow, standIns := [], harness := (true, "50e135586230ff27c7476e659947eddf1100c8fc7bbf396249a560da6fef1bd9"), looks := false }, kinds := [], alts := [], laidByText := true, laidKinds := [.data, .data, .data, .data], laidTests := true, laidLooks := .later }
def DiscourseMergeSaysBothUptoCardSaid : Prop := Claim7.holds Tryd.pinned (.plain (OpenSpec.upto discourseMergeSaysBothSpec)) discourseMergeSaysBothUptoCard
end Rows
end Go.Proofs.YtbbjghecpcobjaaDoor
