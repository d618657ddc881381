/-
  NARROWER THAN 'FOR EVERY INPUT', by the rows' own cells (each row's printed sentence says how): FinderCountMatchesSpec: loops, laid · FinderCountsAll: loops, laid · FinderMatchesSpec: loops, laid · FinderModelsAreTrue: loops, laid.
  DERIVED. THE GIVEN ROWS OF THIS SEAT. 4 by the template 'for every input the law returns true; each argument reads behind the call as it read before'; 0 by the template 'total and deterministic' (their statements: YtkkffhphodngkaaDoorTotals.lean).
  GIVEN WITH THE SEED: the statements are not yours to turn. If you find one false, say at which input.
  Laid BY PROGRAM, IN A SANDBOX (cutbox-rows.mjs): the forced cells as the released guide's own fill.sh prints them over the translation 9d44e0e12cb96d35… (all of the seat's roots in one cut). By AI agents, Wed Nov 11 2026. No macro, syntax, notation, axiom, sorry.
-/
import Derived.Test.YtkkffhphodngkaaDoorChecked
import GoSem.Claim
import GoSem.ClaimJoined
import GoSem.ClaimMapViews
import Derived.JoinedTies
import Derived.KernelRfl
namespace Go.Proofs.YtkkffhphodngkaaDoor
/- THE CELL 'sum', in the pinned program and in every row, IS THE sha256 OF THE DUMP (.gsa) THAT YtkkffhphodngkaaDoorProg.lean LOADS. Nothing in Lean hashes anything: it is a label: what it is worth is what the hold of that sum in a sandbox is worth. -/
noncomputable def Tryd.pinned : Pinned := { name := "ytkkffhphodngkaadoor", sum := "9d44e0e12cb96d35b17a33d1ca29320ecc564689d3cc7e37fe3e0daf902c22ab", checked := Tryd.checked }
namespace Rows
def none {H : Type} : Left H := { results := [], args := [] }

/- WHAT THE LISTED PACKAGE-LEVEL VARIABLES READ AS WHEN THE CALL BEGINS. Each datum BY PROGRAM (the guide's laid-datum.mjs) off the statement by which the dump's own 'gosem.cut.vars' lays the variable. In a bare row this is a premise. The card (YtkkffhphodngkaaDoorCards.lean) ties it to the program's text. -/
def laid_glosswright_glosswrightlaw2_none {H : Type} : DataW H := .agg [.lit (.int .i64 0), .lit (.int .i64 0)]

/-- 'glosswrightlaw2.FinderCountMatchesSpec': WHATEVER THE INPUT: true; the input reads as it did. -/
def finderCountMatchesSpecSpec : ChangeSpec := { name := "finderCountMatchesSpec", fn := fun _ => fun
  | [d1, d2] => { results := [.lit (.bool true)], args := [d1, d2] }
  | _ => none }
def finderCountMatchesSpecRow : OpenClaim := { program := "ytkkffhphodngkaadoor", sum := "9d44e0e12cb96d35b17a33d1ca29320ecc564689d3cc7e37fe3e0daf902c22ab", func := "glosswright/glosswrightlaw2.FinderCountMatchesSpec", spec := "finderCountMatchesSpec", unfollowed := true, recurses := true, named := ["glosswright/glosswrightlaw2.none"], loops := true, apart := false, laid := [("glosswright/glosswrightlaw2.none", laid_glosswright_glosswrightlaw2_none)] }
def FinderCountMatchesSpecSaid : Prop := finderCountMatchesSpecRow.holds Tryd.pinned (OpenSpec.ofChange finderCountMatchesSpecSpec)

/-- ITS FALSE NEIGHBOUR: 'it returns false'. Refute it at one input. -/
def finderCountMatchesSpecWrong : ChangeSpec := { name := "finderCountMatchesSpec", fn := fun _ => fun
  | [d1, d2] => { results := [.lit (.bool false)], args := [d1, d2] }
  | _ => none }
def FinderCountMatchesSpecWrongFalsely : Prop := finderCountMatchesSpecRow.holds Tryd.pinned (OpenSpec.ofChange finderCountMatchesSpecWrong)

/-- 'glosswrightlaw2.FinderCountsAll': WHATEVER THE INPUT: true; the input reads as it did. -/
def finderCountsAllSpec : ChangeSpec := { name := "finderCountsAll", fn := fun _ => fun
  | [d1, d2, d3] => { results := [.lit (.bool true)], args := [d1, d2, d3] }
  | _ => none }
def finderCountsAllRow : OpenClaim := { program := "ytkkffhphodngkaadoor", sum := "9d44e0e12cb96d35b17a33d1ca29320ecc564689d3cc7e37fe3e0daf902c22ab", func := "glosswright/glosswrightlaw2.FinderCountsAll", spec := "finderCountsAll", unfollowed := true, recurses := true, named := ["glosswright/glosswrightlaw2.none"], loops := true, apart := false, laid := [("glosswright/glosswrightlaw2.none", laid_glosswright_glosswrightlaw2_none)] }
def FinderCountsAllSaid : Prop := finderCountsAllRow.holds Tryd.pinned (OpenSpec.ofChange finderCountsAllSpec)

/-- ITS FALSE NEIGHBOUR: 'it returns false'. Refute it at one input. -/
def finderCountsAllWrong : ChangeSpec := { name := "finderCountsAll", fn := fun _ => fun
  | [d1, d2, d3] => { results := [.lit (.bool false)], args := [d1, d2, d3] }
  | _ => none }
def FinderCountsAllWrongFalsely : Prop := finderCountsAllRow.holds Tryd.pinned (OpenSpec.ofChange finderCountsAllWrong)

/-- 'glosswrightlaw2.FinderMatchesSpec': WHATEVER THE INPUT: true; the input reads as it did. -/
def finderMatchesSpecSpec : ChangeSpec := { name := "finderMatchesSpec", fn := fun _ => fun
  | [d1, d2] => { results := [.lit (.bool true)], args := [d1, d2] }
  | _ => none }
def finderMatchesSpecRow : OpenClaim := { program := "ytkkffhphodngkaadoor", sum := "9d44e0e12cb96d35b17a33d1ca29320ecc564689d3cc7e37fe3e0daf902c22ab", func := "glosswright/glosswrightlaw2.FinderMatchesSpec", spec := "finderMatchesSpec", unfollowed := true, recurses := true, named := ["glosswright/glosswrightlaw2.none"], loops := true, apart := false, laid := [("glosswright/glosswrightlaw2.none", laid_glosswright_glosswrightlaw2_none)] }
def FinderMatchesSpecSaid : Prop := finderMatchesSpecRow.holds Tryd.pinned (OpenSpec.ofChange finderMatchesSpecSpec)

/-- ITS FALSE NEIGHBOUR: 'it returns false'. Refute it at one input. -/
def finderMatchesSpecWrong : ChangeSpec := { name := "finderMatchesSpec", fn := fun _ => fun
  | [d1, d2] => { results := [.lit (.bool false)], args := [d1, d2] }
  | _ => none }
def FinderMatchesSpecWrongFalsely : Prop := finderMatchesSpecRow.holds Tryd.pinned (OpenSpec.ofChange finderMatchesSpecWrong)

/-- 'glosswrightlaw2.FinderModelsAreTrue': WHATEVER THE INPUT: true; the input reads as it did. -/
def finderModelsAreTrueSpec : ChangeSpec := { name := "finderModelsAreTrue", fn := fun _ => fun
  | [d1, d2] => { results := [.lit (.bool true)], args := [d1, d2] }
  | _ => none }
def finderModelsAreTrueRow : OpenClaim := { program := "ytkkffhphodngkaadoor", sum := "9d44e0e12cb96d35b17a33d1ca29320ecc564689d3cc7e37fe3e0daf902c22ab", func := "glosswright/glosswrightlaw2.FinderModelsAreTrue", spec := "finderModelsAreTrue", unfollowed := true, recurses := true, named := ["glosswright/glosswrightlaw2.none"], loops := true, apart := false, laid := [("glosswright/glosswrightlaw2.none", laid_glosswright_glosswrightlaw2_none)] }
def FinderModelsAreTrueSaid : Prop := finderModelsAreTrueRow.holds Tryd.pinned (OpenSpec.ofChange finderModelsAreTrueSpec)

/-- ITS FALSE NEIGHBOUR: 'it returns false'. Refute it at one input. -/
def finderModelsAreTrueWrong : ChangeSpec := { name := "finderModelsAreTrue", fn := fun _ => fun
  | [d1, d2] => { results := [.lit (.bool false)], args := [d1, d2] }
  | _ => none }
def FinderModelsAreTrueWrongFalsely : Prop := finderModelsAreTrueRow.holds Tryd.pinned (OpenSpec.ofChange finderModelsAreTrueWrong)

/- THE SECOND FORM. 'bulk': how many values and letters a reading holds, each counted each time it is reached (what is shared counts as often as it is met; a slice's spare places count too). A statement '..UptoSaid' is the law's where the arguments, and the package variables that the reading takes, are together of bulk at most 1048576: NARROWER than '..Said'. Prove '..Said' where nothing that the law and all that it calls make is longer than what came in: it says more and counts as full. Else prove '..UptoSaid'. A law counts once. -/
mutual
def uptoBulk {H : Type} : DataW H → Nat
  | .lit (.string bytes) => bytes.length + 1
  | .lit _ => 1
  | .nil => 1
  | .ptr d => uptoBulk d + 1
  | .slice elems spare => uptoBulkAll elems + uptoBulkAll spare + 1
  | .agg parts => uptoBulkAll parts + 1
  | .iface _ d => uptoBulk d + 1
  | .map entries => uptoBulkEntries entries + 1
  | .held _ => 1
def uptoBulkAll {H : Type} : List (DataW H) → Nat
  | [] => 0
  | d :: r => uptoBulk d + uptoBulkAll r
def uptoBulkEntries {H : Type} : List (Lit × DataW H) → Nat
  | [] => 0
  | x :: r => uptoBulkEntry x + uptoBulkEntries r
def uptoBulkEntry {H : Type} : Lit × DataW H → Nat
  | (.string bytes, d) => bytes.length + uptoBulk d + 1
  | (_, d) => uptoBulk d + 1
 end
def uptoSmall : (H : Type) → List (DataW H) → Bool := fun _ ds => decide (uptoBulkAll ds ≤ 1048576)
def OpenSpec.upto (s : _root_.Go.ChangeSpec) : _root_.Go.OpenSpec := { _root_.Go.OpenSpec.ofChange s with cond := some uptoSmall }

/-- 'glosswrightlaw2.FinderCountMatchesSpec', WHERE WHAT IT READS IS OF BULK AT MOST 1048576: true; the input reads as it did. -/
def finderCountMatchesSpecUptoRow : OpenClaim := { program := "ytkkffhphodngkaadoor", sum := "9d44e0e12cb96d35b17a33d1ca29320ecc564689d3cc7e37fe3e0daf902c22ab", func := "glosswright/glosswrightlaw2.FinderCountMatchesSpec", spec := "finderCountMatchesSpec", unfollowed := true, recurses := true, named := ["glosswright/glosswrightlaw2.none"], loops := true, apart := false, laid := [("glosswright/glosswrightlaw2.none", laid_glosswright_glosswrightlaw2_none)], narrowed := true }
def FinderCountMatchesSpecUptoSaid : Prop := finderCountMatchesSpecUptoRow.holds Tryd.pinned (OpenSpec.upto finderCountMatchesSpecSpec)

/-- 'glosswrightlaw2.FinderCountsAll', WHERE WHAT IT READS IS OF BULK AT MOST 1048576: true; the input reads as it did. -/
def finderCountsAllUptoRow : OpenClaim := { program := "ytkkffhphodngkaadoor", sum := "9d44e0e12cb96d35b17a33d1ca29320ecc564689d3cc7e37fe3e0daf902c22ab", func := "glosswright/glosswrightlaw2.FinderCountsAll", spec := "finderCountsAll", unfollowed := true, recurses := true, named := ["glosswright/glosswrightlaw2.none"], loops := true, apart := false, laid := [("glosswright/glosswrightlaw2.none", laid_glosswright_glosswrightlaw2_none)], narrowed := true }
def FinderCountsAllUptoSaid : Prop := finderCountsAllUptoRow.holds Tryd.pinned (OpenSpec.upto finderCountsAllSpec)

/-- 'glosswrightlaw2.FinderMatchesSpec', WHERE WHAT IT READS IS OF BULK AT MOST 1048576: true; the input reads as it did. -/
def finderMatchesSpecUptoRow : OpenClaim := { program := "ytkkffhphodngkaadoor", sum := "9d44e0e12cb96d35b17a33d1ca29320ecc564689d3cc7e37fe3e0daf902c22ab", func := "glosswright/glosswrightlaw2.FinderMatchesSpec", spec := "finderMatchesSpec", unfollowed := true, recurses := true, named := ["glosswright/glosswrightlaw2.none"], loops := true, apart := false, laid := [("glosswright/glosswrightlaw2.none", laid_glosswright_glosswrightlaw2_none)], narrowed := true }
def FinderMatchesSpecUptoSaid : Prop := finderMatchesSpecUptoRow.holds Tryd.pinned (OpenSpec.upto finderMatchesSpecSpec)

/-- 'glosswrightlaw2.FinderModelsAreTrue', WHERE WHAT IT READS IS OF BULK AT MOST 1048576: true; the input reads as it did. -/
def finderModelsAreTrueUptoRow : OpenClaim := { program := "ytkkffhphodngkaadoor", sum := "9d44e0e12cb96d35b17a33d1ca29320ecc564689d3cc7e37fe3e0daf902c22ab", func := "glosswright/glosswrightlaw2.FinderModelsAreTrue", spec := "finderModelsAreTrue", unfollowed := true, recurses := true, named := ["glosswright/glosswrightlaw2.none"], loops := true, apart := false, laid := [("glosswright/glosswrightlaw2.none", laid_glosswright_glosswrightlaw2_none)], narrowed := true }
def FinderModelsAreTrueUptoSaid : Prop := finderModelsAreTrueUptoRow.holds Tryd.pinned (OpenSpec.upto finderModelsAreTrueSpec)

end Rows
end Go.Proofs.YtkkffhphodngkaaDoor
