/-
  DERIVED. GIVEN WITH THE SEED: THE CARDS: each row of YtbbcinpmomjbgaaDoorRows.lean that lists a variable, with what it lists TIED to the program's text (the seventh form; the later family's looks); each row that meets fmt, with fmt's text TOLD by the authors' own Lean function (tested against real Go, not proved from fmt's source: count such statements apart). THE CARD IS WHAT COUNTS. Prove the row's statement (the work); the ties are given (YtbbcinpmomjbgaaDoorTie.lean); close each card by the builder's one call (the guide's Derived/Test/ToyasCard.lean, 'card_holds'). Laid BY PROGRAM, IN A SANDBOX (cutbox-door.mjs). By AI agents, Wed Nov 11 2026. No macro, syntax, notation, axiom, sorry.
-/
import Derived.Test.YtbbcinpmomjbgaaDoorRows
import GoSem.ClaimSeven
namespace Go.Proofs.YtbbcinpmomjbgaaDoor
namespace Rows

/-- THE TIED CARD OF 'glosswrightlaw2.PluralPartitionsMatchSpec'. -/
def pluralPartitionsMatchSpecCard : Claim7 := { stood := { row := pluralPartitionsMatchSpecRow, standIns := [], harness := (true, "2e9898245923a77f54cd70b8e937446736ea969c08c0140d11398003bd447d56"), looks := false }, kinds := [], alts := [], laidByText := true, laidKinds := [.data], laidTests := true, laidLooks := .later }
def PluralPartitionsMatchSpecCardSaid : Prop := Claim7.holds Tryd.pinned (.plain (OpenSpec.ofChange pluralPartitionsMatchSpecSpec)) pluralPartitionsMatchSpecCard

/-- THE TIED CARD OF 'glosswrightlaw2.TimelineEntailsItsRelations'. -/
def timelineEntailsItsRelationsCard : Claim7 := { stood := { row := timelineEntailsItsRelationsRow, standIns := [], harness := (true, "2e9898245923a77f54cd70b8e937446736ea969c08c0140d11398003bd447d56"), looks := false }, kinds := [], alts := [], laidByText := true, laidKinds := [.data], laidTests := true, laidLooks := .later }
def TimelineEntailsItsRelationsCardSaid : Prop := Claim7.holds Tryd.pinned (.plain (OpenSpec.ofChange timelineEntailsItsRelationsSpec)) timelineEntailsItsRelationsCard

/-- THE TIED CARD OF 'glosswrightlaw2.TimelineClosureIsSymmetric'. -/
def timelineClosureIsSymmetricCard : Claim7 := { stood := { row := timelineClosureIsSymmetricRow, standIns := [], harness := (true, "2e9898245923a77f54cd70b8e937446736ea969c08c0140d11398003bd447d56"), looks := false }, kinds := [], alts := [], laidByText := true, laidKinds := [.data], laidTests := true, laidLooks := .later }
def TimelineClosureIsSymmetricCardSaid : Prop := Claim7.holds Tryd.pinned (.plain (OpenSpec.ofChange timelineClosureIsSymmetricSpec)) timelineClosureIsSymmetricCard

/-- THE TIED CARD OF 'glosswrightlaw2.TimelineClosureMatchesSpec'. -/
def timelineClosureMatchesSpecCard : Claim7 := { stood := { row := timelineClosureMatchesSpecRow, standIns := [], harness := (true, "2e9898245923a77f54cd70b8e937446736ea969c08c0140d11398003bd447d56"), looks := false }, kinds := [], alts := [], laidByText := true, laidKinds := [.data], laidTests := true, laidLooks := .later }
def TimelineClosureMatchesSpecCardSaid : Prop := Claim7.holds Tryd.pinned (.plain (OpenSpec.ofChange timelineClosureMatchesSpecSpec)) timelineClosureMatchesSpecCard

/-- THE TIED CARD OF 'glosswrightlaw2.TimelineMatchesSpec'. -/
def timelineMatchesSpecCard : Claim7 := { stood := { row := timelineMatchesSpecRow, standIns := [], harness := (true, "2e9898245923a77f54cd70b8e937446736ea969c08c0140d11398003bd447d56"), looks := false }, kinds := [], alts := [], laidByText := true, laidKinds := [.data], laidTests := true, laidLooks := .later }
def TimelineMatchesSpecCardSaid : Prop := Claim7.holds Tryd.pinned (.plain (OpenSpec.ofChange timelineMatchesSpecSpec)) timelineMatchesSpecCard

/-- THE TIED CARD OF 'glosswrightlaw2.TimelineWhatFollowsChangesNothing'. -/
def timelineWhatFollowsChangesNothingCard : Claim7 := { stood := { row := timelineWhatFollowsChangesNothingRow, standIns := [], harness := (true, "2e9898245923a77f54cd70b8e937446736ea969c08c0140d11398003bd447d56"), looks := false }, kinds := [], alts := [], laidByText := true, laidKinds := [.data], laidTests := true, laidLooks := .later }
def TimelineWhatFollowsChangesNothingCardSaid : Prop := Claim7.holds Tryd.pinned (.plain (OpenSpec.ofChange timelineWhatFollowsChangesNothingSpec)) timelineWhatFollowsChangesNothingCard

/-- THE SECOND FORM's CARD OF 'glosswrightlaw2.PluralPartitionsMatchSpec'. -/
def pluralPartitionsMatchSpecUptoCard : Claim7 := { stood := { row := pluralPartitionsMatchSpecUptoRow, standIns := [], harness := (true, "2e9898245923a77f54cd70b8e937446736ea969c08c0140d11398003bd447d56"), looks := false }, kinds := [], alts := [], laidByText := true, laidKinds := [.data], laidTests := true, laidLooks := .later }
def PluralPartitionsMatchSpecUptoCardSaid : Prop := Claim7.holds Tryd.pinned (.plain (OpenSpec.upto pluralPartitionsMatchSpecSpec)) pluralPartitionsMatchSpecUptoCard

/-- THE SECOND FORM's CARD OF 'glosswrightlaw2.TimelineEntailsItsRelations'. -/
def timelineEntailsItsRelationsUptoCard : Claim7 := { stood := { row := timelineEntailsItsRelationsUptoRow, standIns := [], harness := (true, "2e9898245923a77f54cd70b8e937446736ea969c08c0140d11398003bd447d56"), looks := false }, kinds := [], alts := [], laidByText := true, laidKinds := [.data], laidTests := true, laidLooks := .later }
def TimelineEntailsItsRelationsUptoCardSaid : Prop := Claim7.holds Tryd.pinned (.plain (OpenSpec.upto timelineEntailsItsRelationsSpec)) timelineEntailsItsRelationsUptoCard

/-- THE SECOND FORM's CARD OF 'glosswrightlaw2.TimelineClosureIsSymmetric'. -/
def timelineClosureIsSymmetricUptoCard : Claim7 := { stood := { row := timelineClosureIsSymmetricUptoRow, standIns := [], harness := (true, "2e9898245923a77f54cd70b8e937446736ea969c08c0140d11398003bd447d56"), looks := false }, kinds := [], alts := [], laidByText := true, laidKinds := [.data], laidTests := true, laidLooks := .later }
def TimelineClosureIsSymmetricUptoCardSaid : Prop := Claim7.holds Tryd.pinned (.plain (OpenSpec.upto timelineClosureIsSymmetricSpec)) timelineClosureIsSymmetricUptoCard

/-- THE SECOND FORM's CARD OF 'glosswrightlaw2.TimelineClosureMatchesSpec'. -/
def timelineClosureMatchesSpecUptoCard : Claim7 := { stood := { row := timelineClosureMatchesSpecUptoRow, standIns := [], harness := (true, "2e9898245923a77f54cd70b8e937446736ea969c08c0140d11398003bd447d56"), looks := false }, kinds := [], alts := [], laidByText := true, laidKinds := [.data], laidTests := true, laidLooks := .later }
def TimelineClosureMatchesSpecUptoCardSaid : Prop := Claim7.holds Tryd.pinned (.plain (OpenSpec.upto timelineClosureMatchesSpecSpec)) timelineClosureMatchesSpecUptoCard

/-- THE SECOND FORM's CARD OF 'glosswrightlaw2.TimelineMatchesSpec'. -/
def timelineMatchesSpecUptoCard : Claim7 := { stood := { row := timelineMatchesSpecUptoRow, standIns := [], harness := (true, "2e9898245923a77f54cd70b8e937446736ea969c08c0140d11398003bd447d56"), looks := false }, kinds := [], alts := [], laidByText := true, laidKinds := [.data], laidTests := true, laidLooks := .later }
def TimelineMatchesSpecUptoCardSaid : Prop := Claim7.holds Tryd.pinned (.plain (OpenSpec.upto timelineMatchesSpecSpec)) timelineMatchesSpecUptoCard

/-- THE SECOND FORM's CARD OF 'glosswrightlaw2.TimelineWhatFollowsChangesNothing'. -/
def timelineWhatFollowsChangesNothingUptoCard : Claim7 := { stood := { row := timelineWhatFollowsChangesNothingUptoRow, standIns := [], harness := (true, "2e9898245923a77f54cd70b8e937446736ea969c08c0140d11398003bd447d56"), looks := false }, kinds := [], alts := [], laidByText := true, laidKinds := [.data], laidTests := true, laidLooks := .later }
def TimelineWhatFollowsChangesNothingUptoCardSaid : Prop := Claim7.holds Tryd.pinned (.plain (OpenSpec.upto timelineWhatFollowsChangesNothingSpec)) timelineWhatFollowsChangesNothingUptoCard
end Rows
end Go.Proofs.YtbbcinpmomjbgaaDoor
