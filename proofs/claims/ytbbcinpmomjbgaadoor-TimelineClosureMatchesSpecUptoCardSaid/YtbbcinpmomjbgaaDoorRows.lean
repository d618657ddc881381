/-
  NARROWER THAN 'FOR EVERY INPUT', by the rows' own cells (each row's printed sentence says how): PluralPartitionsMatchSpec: laid · TimelineEntailsItsRelations: laid · TimelineClosureIsSymmetric: laid · TimelineClosureMatchesSpec: laid · TimelineMatchesSpec: laid · TimelineWhatFollowsChangesNothing: laid.
  DERIVED. THE GIVEN ROWS OF THIS SEAT. 6 by the template 'for every input the law returns true; each argument reads behind the call as it read before'; 0 by the template 'total and deterministic' (their statements: YtbbcinpmomjbgaaDoorTotals.lean).
  GIVEN WITH THE SEED: the statements are not yours to turn. If you find one false, say at which input.
  Laid BY PROGRAM, IN A SANDBOX (cutbox-rows.mjs): the forced cells as the released guide's own fill.sh prints them over the translation 4eedee7f663391cd… (all of the seat's roots in one cut). By AI agents, Wed Nov 11 2026. No macro, syntax, notation, axiom, sorry.
-/
import Derived.Test.YtbbcinpmomjbgaaDoorChecked
import GoSem.Claim
import GoSem.ClaimJoined
import GoSem.ClaimMapViews
import Derived.JoinedTies
import Derived.KernelRfl
namespace Go.Proofs.YtbbcinpmomjbgaaDoor
/- THE CELL 'sum', in the pinned program and in every row, IS THE sha256 OF THE DUMP (.gsa) THAT YtbbcinpmomjbgaaDoorProg.lean LOADS. Nothing in Lean hashes anything: it is a label: what it is worth is what the hold of that sum in a sandbox is worth. -/
noncomputable def Tryd.pinned : Pinned := { name := "ytbbcinpmomjbgaadoor", sum := "4eedee7f663391cd42486dcae60e1c0e46004e88b64eb567a67273c12bc81897", checked := Tryd.checked }
namespace Rows
def none {H : Type} : Left H := { results := [], args := [] }

/- WHAT THE LISTED PACKAGE-LEVEL VARIABLES READ AS WHEN THE CALL BEGINS. Each datum BY PROGRAM (the guide's laid-datum.mjs) off the statement by which the dump's own 'gosem.cut.vars' lays the variable. In a bare row this is a premise. The card (YtbbcinpmomjbgaaDoorCards.lean) ties it to the program's text. -/
def laid_glosswright_glosswrightlaw2_none {H : Type} : DataW H := .agg [.lit (.int .i64 0), .lit (.int .i64 0)]

/-- 'glosswrightlaw2.PluralPartitionsMatchSpec': WHATEVER THE INPUT: true; the input reads as it did. -/
def pluralPartitionsMatchSpecSpec : ChangeSpec := { name := "pluralPartitionsMatchSpec", fn := fun _ => fun
  | [d] => { results := [.lit (.bool true)], args := [d] }
  | _ => none }
def pluralPartitionsMatchSpecRow : OpenClaim := { program := "ytbbcinpmomjbgaadoor", sum := "4eedee7f663391cd42486dcae60e1c0e46004e88b64eb567a67273c12bc81897", func := "glosswright/glosswrightlaw2.PluralPartitionsMatchSpec", spec := "pluralPartitionsMatchSpec", unfollowed := true, recurses := true, named := ["glosswright/glosswrightlaw2.none"], apart := false, laid := [("glosswright/glosswrightlaw2.none", laid_glosswright_glosswrightlaw2_none)] }
def PluralPartitionsMatchSpecSaid : Prop := pluralPartitionsMatchSpecRow.holds Tryd.pinned (OpenSpec.ofChange pluralPartitionsMatchSpecSpec)

/-- ITS FALSE NEIGHBOUR: 'it returns false'. Refute it at one input. -/
def pluralPartitionsMatchSpecWrong : ChangeSpec := { name := "pluralPartitionsMatchSpec", fn := fun _ => fun
  | [d] => { results := [.lit (.bool false)], args := [d] }
  | _ => none }
def PluralPartitionsMatchSpecWrongFalsely : Prop := pluralPartitionsMatchSpecRow.holds Tryd.pinned (OpenSpec.ofChange pluralPartitionsMatchSpecWrong)

/-- 'glosswrightlaw2.TimelineEntailsItsRelations': WHATEVER THE INPUT: true; the input reads as it did. -/
def timelineEntailsItsRelationsSpec : ChangeSpec := { name := "timelineEntailsItsRelations", fn := fun _ => fun
  | [d1, d2] => { results := [.lit (.bool true)], args := [d1, d2] }
  | _ => none }
def timelineEntailsItsRelationsRow : OpenClaim := { program := "ytbbcinpmomjbgaadoor", sum := "4eedee7f663391cd42486dcae60e1c0e46004e88b64eb567a67273c12bc81897", func := "glosswright/glosswrightlaw2.TimelineEntailsItsRelations", spec := "timelineEntailsItsRelations", named := ["glosswright/glosswrightlaw2.none"], apart := false, laid := [("glosswright/glosswrightlaw2.none", laid_glosswright_glosswrightlaw2_none)] }
def TimelineEntailsItsRelationsSaid : Prop := timelineEntailsItsRelationsRow.holds Tryd.pinned (OpenSpec.ofChange timelineEntailsItsRelationsSpec)

/-- ITS FALSE NEIGHBOUR: 'it returns false'. Refute it at one input. -/
def timelineEntailsItsRelationsWrong : ChangeSpec := { name := "timelineEntailsItsRelations", fn := fun _ => fun
  | [d1, d2] => { results := [.lit (.bool false)], args := [d1, d2] }
  | _ => none }
def TimelineEntailsItsRelationsWrongFalsely : Prop := timelineEntailsItsRelationsRow.holds Tryd.pinned (OpenSpec.ofChange timelineEntailsItsRelationsWrong)

/-- 'glosswrightlaw2.TimelineClosureIsSymmetric': WHATEVER THE INPUT: true; the input reads as it did. -/
def timelineClosureIsSymmetricSpec : ChangeSpec := { name := "timelineClosureIsSymmetric", fn := fun _ => fun
  | [d1, d2] => { results := [.lit (.bool true)], args := [d1, d2] }
  | _ => none }
def timelineClosureIsSymmetricRow : OpenClaim := { program := "ytbbcinpmomjbgaadoor", sum := "4eedee7f663391cd42486dcae60e1c0e46004e88b64eb567a67273c12bc81897", func := "glosswright/glosswrightlaw2.TimelineClosureIsSymmetric", spec := "timelineClosureIsSymmetric", named := ["glosswright/glosswrightlaw2.none"], apart := false, laid := [("glosswright/glosswrightlaw2.none", laid_glosswright_glosswrightlaw2_none)] }
def TimelineClosureIsSymmetricSaid : Prop := timelineClosureIsSymmetricRow.holds Tryd.pinned (OpenSpec.ofChange timelineClosureIsSymmetricSpec)

/-- ITS FALSE NEIGHBOUR: 'it returns false'. Refute it at one input. -/
def timelineClosureIsSymmetricWrong : ChangeSpec := { name := "timelineClosureIsSymmetric", fn := fun _ => fun
  | [d1, d2] => { results := [.lit (.bool false)], args := [d1, d2] }
  | _ => none }
def TimelineClosureIsSymmetricWrongFalsely : Prop := timelineClosureIsSymmetricRow.holds Tryd.pinned (OpenSpec.ofChange timelineClosureIsSymmetricWrong)

/-- 'glosswrightlaw2.TimelineClosureMatchesSpec': WHATEVER THE INPUT: true; the input reads as it did. -/
def timelineClosureMatchesSpecSpec : ChangeSpec := { name := "timelineClosureMatchesSpec", fn := fun _ => fun
  | [d1, d2, d3] => { results := [.lit (.bool true)], args := [d1, d2, d3] }
  | _ => none }
def timelineClosureMatchesSpecRow : OpenClaim := { program := "ytbbcinpmomjbgaadoor", sum := "4eedee7f663391cd42486dcae60e1c0e46004e88b64eb567a67273c12bc81897", func := "glosswright/glosswrightlaw2.TimelineClosureMatchesSpec", spec := "timelineClosureMatchesSpec", named := ["glosswright/glosswrightlaw2.none"], apart := false, laid := [("glosswright/glosswrightlaw2.none", laid_glosswright_glosswrightlaw2_none)] }
def TimelineClosureMatchesSpecSaid : Prop := timelineClosureMatchesSpecRow.holds Tryd.pinned (OpenSpec.ofChange timelineClosureMatchesSpecSpec)

/-- ITS FALSE NEIGHBOUR: 'it returns false'. Refute it at one input. -/
def timelineClosureMatchesSpecWrong : ChangeSpec := { name := "timelineClosureMatchesSpec", fn := fun _ => fun
  | [d1, d2, d3] => { results := [.lit (.bool false)], args := [d1, d2, d3] }
  | _ => none }
def TimelineClosureMatchesSpecWrongFalsely : Prop := timelineClosureMatchesSpecRow.holds Tryd.pinned (OpenSpec.ofChange timelineClosureMatchesSpecWrong)

/-- 'glosswrightlaw2.TimelineMatchesSpec': WHATEVER THE INPUT: true; the input reads as it did. -/
def timelineMatchesSpecSpec : ChangeSpec := { name := "timelineMatchesSpec", fn := fun _ => fun
  | [d1, d2] => { results := [.lit (.bool true)], args := [d1, d2] }
  | _ => none }
def timelineMatchesSpecRow : OpenClaim := { program := "ytbbcinpmomjbgaadoor", sum := "4eedee7f663391cd42486dcae60e1c0e46004e88b64eb567a67273c12bc81897", func := "glosswright/glosswrightlaw2.TimelineMatchesSpec", spec := "timelineMatchesSpec", unfollowed := true, recurses := true, named := ["glosswright/glosswrightlaw2.none"], apart := false, laid := [("glosswright/glosswrightlaw2.none", laid_glosswright_glosswrightlaw2_none)] }
def TimelineMatchesSpecSaid : Prop := timelineMatchesSpecRow.holds Tryd.pinned (OpenSpec.ofChange timelineMatchesSpecSpec)

/-- ITS FALSE NEIGHBOUR: 'it returns false'. Refute it at one input. -/
def timelineMatchesSpecWrong : ChangeSpec := { name := "timelineMatchesSpec", fn := fun _ => fun
  | [d1, d2] => { results := [.lit (.bool false)], args := [d1, d2] }
  | _ => none }
def TimelineMatchesSpecWrongFalsely : Prop := timelineMatchesSpecRow.holds Tryd.pinned (OpenSpec.ofChange timelineMatchesSpecWrong)

/-- 'glosswrightlaw2.TimelineWhatFollowsChangesNothing': WHATEVER THE INPUT: true; the input reads as it did. -/
def timelineWhatFollowsChangesNothingSpec : ChangeSpec := { name := "timelineWhatFollowsChangesNothing", fn := fun _ => fun
  | [d1, d2, d3] => { results := [.lit (.bool true)], args := [d1, d2, d3] }
  | _ => none }
def timelineWhatFollowsChangesNothingRow : OpenClaim := { program := "ytbbcinpmomjbgaadoor", sum := "4eedee7f663391cd42486dcae60e1c0e46004e88b64eb567a67273c12bc81897", func := "glosswright/glosswrightlaw2.TimelineWhatFollowsChangesNothing", spec := "timelineWhatFollowsChangesNothing", named := ["glosswright/glosswrightlaw2.none"], apart := false, laid := [("glosswright/glosswrightlaw2.none", laid_glosswright_glosswrightlaw2_none)] }
def TimelineWhatFollowsChangesNothingSaid : Prop := timelineWhatFollowsChangesNothingRow.holds Tryd.pinned (OpenSpec.ofChange timelineWhatFollowsChangesNothingSpec)

/-- ITS FALSE NEIGHBOUR: 'it returns false'. Refute it at one input. -/
def timelineWhatFollowsChangesNothingWrong : ChangeSpec := { name := "timelineWhatFollowsChangesNothing", fn := fun _ => fun
  | [d1, d2, d3] => { results := [.lit (.bool false)], args := [d1, d2, d3] }
  | _ => none }
def TimelineWhatFollowsChangesNothingWrongFalsely : Prop := timelineWhatFollowsChangesNothingRow.holds Tryd.pinned (OpenSpec.ofChange timelineWhatFollowsChangesNothingWrong)

/- THE SECOND FORM. 'bulk': how many values and letters a reading holds, each counted each time it is reached (what is shared counts as often as it is met; a slice's spare places count too). A statement '..UptoSaid' is the law's where the arguments, and the package variables that the reading takes, are together of bulk at most 1048576: NARROWER than '..Said'. Prove '..Said' where nothing that the law and all that it calls make is longer than what came in: it says more and counts as full. Else prove '..UptoSaid'. A law counts once. -/
mutual
def uptoBulk {H : Type} : DataW H → Nat
  | .lit (.string bytes) => bytes.length + 1
  | .lit _ => 1
  | .nil => 1
  | .ptr d => uptoBulk d + 1
  | .slice elems spare => uptoBulkAll elems + uptoBulkAll spare + 1
  | .agg parts => uptoBulkAll parts + 1
  | .iface _ d => uptoBulk d + 1
  | .map entries => uptoBulkEntries entries + 1
  | .held _ => 1
def uptoBulkAll {H : Type} : List (DataW H) → Nat
  | [] => 0
  | d :: r => uptoBulk d + uptoBulkAll r
def uptoBulkEntries {H : Type} : List (Lit × DataW H) → Nat
  | [] => 0
  | x :: r => uptoBulkEntry x + uptoBulkEntries r
def uptoBulkEntry {H : Type} : Lit × DataW H → Nat
  | (.string bytes, d) => bytes.length + uptoBulk d + 1
  | (_, d) => uptoBulk d + 1
 end
def uptoSmall : (H : Type) → List (DataW H) → Bool := fun _ ds => decide (uptoBulkAll ds ≤ 1048576)
def OpenSpec.upto (s : _root_.Go.ChangeSpec) : _root_.Go.OpenSpec := { _root_.Go.OpenSpec.ofChange s with cond := some uptoSmall }

/-- 'glosswrightlaw2.PluralPartitionsMatchSpec', WHERE WHAT IT READS IS OF BULK AT MOST 1048576: true; the input reads as it did. -/
def pluralPartitionsMatchSpecUptoRow : OpenClaim := { program := "ytbbcinpmomjbgaadoor", sum := "4eedee7f663391cd42486dcae60e1c0e46004e88b64eb567a67273c12bc81897", func := "glosswright/glosswrightlaw2.PluralPartitionsMatchSpec", spec := "pluralPartitionsMatchSpec", unfollowed := true, recurses := true, named := ["glosswright/glosswrightlaw2.none"], apart := false, laid := [("glosswright/glosswrightlaw2.none", laid_glosswright_glosswrightlaw2_none)], narrowed := true }
def PluralPartitionsMatchSpecUptoSaid : Prop := pluralPartitionsMatchSpecUptoRow.holds Tryd.pinned (OpenSpec.upto pluralPartitionsMatchSpecSpec)

/-- 'glosswrightlaw2.TimelineEntailsItsRelations', WHERE WHAT IT READS IS OF BULK AT MOST 1048576: true; the input reads as it did. -/
def timelineEntailsItsRelationsUptoRow : OpenClaim := { program := "ytbbcinpmomjbgaadoor", sum := "4eedee7f663391cd42486dcae60e1c0e46004e88b64eb567a67273c12bc81897", func := "glosswright/glosswrightlaw2.TimelineEntailsItsRelations", spec := "timelineEntailsItsRelations", named := ["glosswright/glosswrightlaw2.none"], apart := false, laid := [("glosswright/glosswrightlaw2.none", laid_glosswright_glosswrightlaw2_none)], narrowed := true }
def TimelineEntailsItsRelationsUptoSaid : Prop := timelineEntailsItsRelationsUptoRow.holds Tryd.pinned (OpenSpec.upto timelineEntailsItsRelationsSpec)

/-- 'glosswrightlaw2.TimelineClosureIsSymmetric', WHERE WHAT IT READS IS OF BULK AT MOST 1048576: true; the input reads as it did. -/
def timelineClosureIsSymmetricUptoRow : OpenClaim := { program := "ytbbcinpmomjbgaadoor", sum := "4eedee7f663391cd42486dcae60e1c0e46004e88b64eb567a67273c12bc81897", func := "glosswright/glosswrightlaw2.TimelineClosureIsSymmetric", spec := "timelineClosureIsSymmetric", named := ["glosswright/glosswrightlaw2.none"], apart := false, laid := [("glosswright/glosswrightlaw2.none", laid_glosswright_glosswrightlaw2_none)], narrowed := true }
def TimelineClosureIsSymmetricUptoSaid : Prop := timelineClosureIsSymmetricUptoRow.holds Tryd.pinned (OpenSpec.upto timelineClosureIsSymmetricSpec)

/-- 'glosswrightlaw2.TimelineClosureMatchesSpec', WHERE WHAT IT READS IS OF BULK AT MOST 1048576: true; the input reads as it did. -/
def timelineClosureMatchesSpecUptoRow : OpenClaim := { program := "ytbbcinpmomjbgaadoor", sum := "4eedee7f663391cd42486dcae60e1c0e46004e88b64eb567a67273c12bc81897", func := "glosswright/glosswrightlaw2.TimelineClosureMatchesSpec", spec := "timelineClosureMatchesSpec", named := ["glosswright/glosswrightlaw2.none"], apart := false, laid := [("glosswright/glosswrightlaw2.none", laid_glosswright_glosswrightlaw2_none)], narrowed := true }
def TimelineClosureMatchesSpecUptoSaid : Prop := timelineClosureMatchesSpecUptoRow.holds Tryd.pinned (OpenSpec.upto timelineClosureMatchesSpecSpec)

/-- 'glosswrightlaw2.TimelineMatchesSpec', WHERE WHAT IT READS IS OF BULK AT MOST 1048576: true; the input reads as it did. -/
def timelineMatchesSpecUptoRow : OpenClaim := { program := "ytbbcinpmomjbgaadoor", sum := "4eedee7f663391cd42486dcae60e1c0e46004e88b64eb567a67273c12bc81897", func := "glosswright/glosswrightlaw2.TimelineMatchesSpec", spec := "timelineMatchesSpec", unfollowed := true, recurses := true, named := ["glosswright/glosswrightlaw2.none"], apart := false, laid := [("glosswright/glosswrightlaw2.none", laid_glosswright_glosswrightlaw2_none)], narrowed := true }
def TimelineMatchesSpecUptoSaid : Prop := timelineMatchesSpecUptoRow.holds Tryd.pinned (OpenSpec.upto timelineMatchesSpecSpec)

/-- 'glosswrightlaw2.TimelineWhatFollowsChangesNothing', WHERE WHAT IT READS IS OF BULK AT MOST 1048576: true; the input reads as it did. -/
def timelineWhatFollowsChangesNothingUptoRow : OpenClaim := { program := "ytbbcinpmomjbgaadoor", sum := "4eedee7f663391cd42486dcae60e1c0e46004e88b64eb567a67273c12bc81897", func := "glosswright/glosswrightlaw2.TimelineWhatFollowsChangesNothing", spec := "timelineWhatFollowsChangesNothing", named := ["glosswright/glosswrightlaw2.none"], apart := false, laid := [("glosswright/glosswrightlaw2.none", laid_glosswright_glosswrightlaw2_none)], narrowed := true }
def TimelineWhatFollowsChangesNothingUptoSaid : Prop := timelineWhatFollowsChangesNothingUptoRow.holds Tryd.pinned (OpenSpec.upto timelineWhatFollowsChangesNothingSpec)

end Rows
end Go.Proofs.YtbbcinpmomjbgaaDoor
