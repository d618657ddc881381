/-
  NARROWER THAN 'FOR EVERY INPUT', by the rows' own cells (each row's printed sentence says how): QuantityCountsMatchSpec: loops, laid · TableauCheckMatchesSpec: loops, laid · TableauLimitsProofs: laid · QuantityIsCounted: loops, laid · EventDropIsImplied: loops, laid · DiscourseMergeSaysBoth: loops, laid.
  DERIVED. THE GIVEN ROWS OF THIS SEAT. 6 by the template 'for every input the law returns true; each argument reads behind the call as it read before'; 0 by the template 'total and deterministic' (their statements: YtbbjghecpcobjaaDoorTotals.lean).
  GIVEN WITH THE SEED: the statements are not yours to turn. If you find one false, say at which input.
  Laid BY PROGRAM, IN A SANDBOX (cutbox-rows.mjs): the forced cells as the released guide's own fill.sh prints them over the translation a5ddef2591df23ec… (all of the seat's roots in one cut). By AI agents, Wed Nov 11 2026. No macro, syntax, notation, axiom, sorry.
-/
import Derived.Test.YtbbjghecpcobjaaDoorChecked
import GoSem.Claim
import GoSem.ClaimJoined
import GoSem.ClaimMapViews
import Derived.JoinedTies
import Derived.KernelRfl
namespace Go.Proofs.YtbbjghecpcobjaaDoor
/- THE CELL 'sum', in the pinned program and in every row, IS THE sha256 OF THE DUMP (.gsa) THAT YtbbjghecpcobjaaDoorProg.lean LOADS. Nothing in Lean hashes anything: it is a label: what it is worth is what the hold of that sum in a sandbox is worth. -/
noncomputable def Tryd.pinned : Pinned := { name := "ytbbjghecpcobjaadoor", sum := "a5ddef2591df23ec62a8a1864d14ac181eedbcedefbe6a75f0f85c5a5758f4b2", checked := Tryd.checked }
namespace Rows
def none {H : Type} : Left H := { results := [], args := [] }

/- WHAT THE LISTED PACKAGE-LEVEL VARIABLES READ AS WHEN THE CALL BEGINS. Each datum BY PROGRAM (the guide's laid-datum.mjs) off the statement by which the dump's own 'gosem.cut.vars' lays the variable. In a bare row this is a premise. The card (YtbbjghecpcobjaaDoorCards.lean) ties it to the program's text. -/
def laid_glosswright_glosswrightlaw2_none {H : Type} : DataW H := .agg [.lit (.int .i64 0), .lit (.int .i64 0)]
def laid_math_bits_deBruijn32tab {H : Type} : DataW H := .agg [.lit (.int .u8 0), .lit (.int .u8 1), .lit (.int .u8 28), .lit (.int .u8 2), .lit (.int .u8 29), .lit (.int .u8 14), .lit (.int .u8 24), .lit (.int .u8 3), .lit (.int .u8 30), .lit (.int .u8 22), .lit (.int .u8 20), .lit (.int .u8 15), .lit (.int .u8 25), .lit (.int .u8 17), .lit (.int .u8 4), .lit (.int .u8 8), .lit (.int .u8 31), .lit (.int .u8 27), .lit (.int .u8 13), .lit (.int .u8 23), .lit (.int .u8 21), .lit (.int .u8 19), .lit (.int .u8 16), .lit (.int .u8 7), .lit (.int .u8 26), .lit (.int .u8 12), .lit (.int .u8 18), .lit (.int .u8 6), .lit (.int .u8 11), .lit (.int .u8 5), .lit (.int .u8 10), .lit (.int .u8 9)]
def laid_math_bits_deBruijn64tab {H : Type} : DataW H := .agg [.lit (.int .u8 0), .lit (.int .u8 1), .lit (.int .u8 56), .lit (.int .u8 2), .lit (.int .u8 57), .lit (.int .u8 49), .lit (.int .u8 28), .lit (.int .u8 3), .lit (.int .u8 61), .lit (.int .u8 58), .lit (.int .u8 42), .lit (.int .u8 50), .lit (.int .u8 38), .lit (.int .u8 29), .lit (.int .u8 17), .lit (.int .u8 4), .lit (.int .u8 62), .lit (.int .u8 47), .lit (.int .u8 59), .lit (.int .u8 36), .lit (.int .u8 45), .lit (.int .u8 43), .lit (.int .u8 51), .lit (.int .u8 22), .lit (.int .u8 53), .lit (.int .u8 39), .lit (.int .u8 33), .lit (.int .u8 30), .lit (.int .u8 24), .lit (.int .u8 18), .lit (.int .u8 12), .lit (.int .u8 5), .lit (.int .u8 63), .lit (.int .u8 55), .lit (.int .u8 48), .lit (.int .u8 27), .lit (.int .u8 60), .lit (.int .u8 41), .lit (.int .u8 37), .lit (.int .u8 16), .lit (.int .u8 46), .lit (.int .u8 35), .lit (.int .u8 44), .lit (.int .u8 21), .lit (.int .u8 52), .lit (.int .u8 32), .lit (.int .u8 23), .lit (.int .u8 11), .lit (.int .u8 54), .lit (.int .u8 26), .lit (.int .u8 40), .lit (.int .u8 15), .lit (.int .u8 34), .lit (.int .u8 20), .lit (.int .u8 31), .lit (.int .u8 10), .lit (.int .u8 25), .lit (.int .u8 14), .lit (.int .u8 19), .lit (.int .u8 9), .lit (.int .u8 13), .lit (.int .u8 8), .lit (.int .u8 7), .lit (.int .u8 6)]
def laid_internal_strconv_uint64pow10 {H : Type} : DataW H := .agg [.lit (.int .u64 1), .lit (.int .u64 10), .lit (.int .u64 100), .lit (.int .u64 1000), .lit (.int .u64 10000), .lit (.int .u64 100000), .lit (.int .u64 1000000), .lit (.int .u64 10000000), .lit (.int .u64 100000000), .lit (.int .u64 1000000000), .lit (.int .u64 10000000000), .lit (.int .u64 100000000000), .lit (.int .u64 1000000000000), .lit (.int .u64 10000000000000), .lit (.int .u64 100000000000000), .lit (.int .u64 1000000000000000), .lit (.int .u64 10000000000000000), .lit (.int .u64 100000000000000000), .lit (.int .u64 1000000000000000000), .lit (.int .u64 10000000000000000000)]

/-- 'glosswrightlaw2.QuantityCountsMatchSpec': WHATEVER THE INPUT: true; the input reads as it did. -/
def quantityCountsMatchSpecSpec : ChangeSpec := { name := "quantityCountsMatchSpec", fn := fun _ => fun
  | [d1, d2, d3, d4] => { results := [.lit (.bool true)], args := [d1, d2, d3, d4] }
  | _ => none }
def quantityCountsMatchSpecRow : OpenClaim := { program := "ytbbjghecpcobjaadoor", sum := "a5ddef2591df23ec62a8a1864d14ac181eedbcedefbe6a75f0f85c5a5758f4b2", func := "glosswright/glosswrightlaw2.QuantityCountsMatchSpec", spec := "quantityCountsMatchSpec", unfollowed := true, recurses := true, named := ["glosswright/glosswrightlaw2.none"], loops := true, apart := false, laid := [("glosswright/glosswrightlaw2.none", laid_glosswright_glosswrightlaw2_none)] }
def QuantityCountsMatchSpecSaid : Prop := quantityCountsMatchSpecRow.holds Tryd.pinned (OpenSpec.ofChange quantityCountsMatchSpecSpec)

/-- ITS FALSE NEIGHBOUR: 'it returns false'. Refute it at one input. -/
def quantityCountsMatchSpecWrong : ChangeSpec := { name := "quantityCountsMatchSpec", fn := fun _ => fun
  | [d1, d2, d3, d4] => { results := [.lit (.bool false)], args := [d1, d2, d3, d4] }
  | _ => none }
def QuantityCountsMatchSpecWrongFalsely : Prop := quantityCountsMatchSpecRow.holds Tryd.pinned (OpenSpec.ofChange quantityCountsMatchSpecWrong)

/-- 'glosswrightlaw2.TableauCheckMatchesSpec': WHATEVER THE INPUT: true; the input reads as it did. -/
def tableauCheckMatchesSpecSpec : ChangeSpec := { name := "tableauCheckMatchesSpec", fn := fun _ => fun
  | [d1, d2, d3] => { results := [.lit (.bool true)], args := [d1, d2, d3] }
  | _ => none }
def tableauCheckMatchesSpecRow : OpenClaim := { program := "ytbbjghecpcobjaadoor", sum := "a5ddef2591df23ec62a8a1864d14ac181eedbcedefbe6a75f0f85c5a5758f4b2", func := "glosswright/glosswrightlaw2.TableauCheckMatchesSpec", spec := "tableauCheckMatchesSpec", unfollowed := true, recurses := true, named := ["glosswright/glosswrightlaw2.none", "internal/strconv.uint64pow10", "math/bits.deBruijn32tab", "math/bits.deBruijn64tab"], loops := true, apart := false, laid := [("math/bits.deBruijn32tab", laid_math_bits_deBruijn32tab), ("math/bits.deBruijn64tab", laid_math_bits_deBruijn64tab), ("internal/strconv.uint64pow10", laid_internal_strconv_uint64pow10), ("glosswright/glosswrightlaw2.none", laid_glosswright_glosswrightlaw2_none)] }
def TableauCheckMatchesSpecSaid : Prop := tableauCheckMatchesSpecRow.holds Tryd.pinned (OpenSpec.ofChange tableauCheckMatchesSpecSpec)

/-- ITS FALSE NEIGHBOUR: 'it returns false'. Refute it at one input. -/
def tableauCheckMatchesSpecWrong : ChangeSpec := { name := "tableauCheckMatchesSpec", fn := fun _ => fun
  | [d1, d2, d3] => { results := [.lit (.bool false)], args := [d1, d2, d3] }
  | _ => none }
def TableauCheckMatchesSpecWrongFalsely : Prop := tableauCheckMatchesSpecRow.holds Tryd.pinned (OpenSpec.ofChange tableauCheckMatchesSpecWrong)

/-- 'glosswrightlaw2.TableauLimitsProofs': WHATEVER THE INPUT: true; the input reads as it did. -/
def tableauLimitsProofsSpec : ChangeSpec := { name := "tableauLimitsProofs", fn := fun _ => fun
  | [d] => { results := [.lit (.bool true)], args := [d] }
  | _ => none }
def tableauLimitsProofsRow : OpenClaim := { program := "ytbbjghecpcobjaadoor", sum := "a5ddef2591df23ec62a8a1864d14ac181eedbcedefbe6a75f0f85c5a5758f4b2", func := "glosswright/glosswrightlaw2.TableauLimitsProofs", spec := "tableauLimitsProofs", unfollowed := true, recurses := true, named := ["glosswright/glosswrightlaw2.none", "internal/strconv.uint64pow10", "math/bits.deBruijn32tab", "math/bits.deBruijn64tab"], apart := false, laid := [("math/bits.deBruijn32tab", laid_math_bits_deBruijn32tab), ("math/bits.deBruijn64tab", laid_math_bits_deBruijn64tab), ("internal/strconv.uint64pow10", laid_internal_strconv_uint64pow10), ("glosswright/glosswrightlaw2.none", laid_glosswright_glosswrightlaw2_none)] }
def TableauLimitsProofsSaid : Prop := tableauLimitsProofsRow.holds Tryd.pinned (OpenSpec.ofChange tableauLimitsProofsSpec)

/-- ITS FALSE NEIGHBOUR: 'it returns false'. Refute it at one input. -/
def tableauLimitsProofsWrong : ChangeSpec := { name := "tableauLimitsProofs", fn := fun _ => fun
  | [d] => { results := [.lit (.bool false)], args := [d] }
  | _ => none }
def TableauLimitsProofsWrongFalsely : Prop := tableauLimitsProofsRow.holds Tryd.pinned (OpenSpec.ofChange tableauLimitsProofsWrong)

/-- 'glosswrightlaw2.QuantityIsCounted': WHATEVER THE INPUT: true; the input reads as it did. -/
def quantityIsCountedSpec : ChangeSpec := { name := "quantityIsCounted", fn := fun _ => fun
  | [d1, d2, d3, d4] => { results := [.lit (.bool true)], args := [d1, d2, d3, d4] }
  | _ => none }
def quantityIsCountedRow : OpenClaim := { program := "ytbbjghecpcobjaadoor", sum := "a5ddef2591df23ec62a8a1864d14ac181eedbcedefbe6a75f0f85c5a5758f4b2", func := "glosswright/glosswrightlaw2.QuantityIsCounted", spec := "quantityIsCounted", unfollowed := true, recurses := true, named := ["glosswright/glosswrightlaw2.none", "internal/strconv.uint64pow10", "math/bits.deBruijn32tab", "math/bits.deBruijn64tab"], loops := true, apart := false, laid := [("math/bits.deBruijn32tab", laid_math_bits_deBruijn32tab), ("math/bits.deBruijn64tab", laid_math_bits_deBruijn64tab), ("internal/strconv.uint64pow10", laid_internal_strconv_uint64pow10), ("glosswright/glosswrightlaw2.none", laid_glosswright_glosswrightlaw2_none)] }
def QuantityIsCountedSaid : Prop := quantityIsCountedRow.holds Tryd.pinned (OpenSpec.ofChange quantityIsCountedSpec)

/-- ITS FALSE NEIGHBOUR: 'it returns false'. Refute it at one input. -/
def quantityIsCountedWrong : ChangeSpec := { name := "quantityIsCounted", fn := fun _ => fun
  | [d1, d2, d3, d4] => { results := [.lit (.bool false)], args := [d1, d2, d3, d4] }
  | _ => none }
def QuantityIsCountedWrongFalsely : Prop := quantityIsCountedRow.holds Tryd.pinned (OpenSpec.ofChange quantityIsCountedWrong)

/-- 'glosswrightlaw2.EventDropIsImplied': WHATEVER THE INPUT: true; the input reads as it did. -/
def eventDropIsImpliedSpec : ChangeSpec := { name := "eventDropIsImplied", fn := fun _ => fun
  | [d1, d2, d3] => { results := [.lit (.bool true)], args := [d1, d2, d3] }
  | _ => none }
def eventDropIsImpliedRow : OpenClaim := { program := "ytbbjghecpcobjaadoor", sum := "a5ddef2591df23ec62a8a1864d14ac181eedbcedefbe6a75f0f85c5a5758f4b2", func := "glosswright/glosswrightlaw2.EventDropIsImplied", spec := "eventDropIsImplied", unfollowed := true, recurses := true, named := ["glosswright/glosswrightlaw2.none", "internal/strconv.uint64pow10", "math/bits.deBruijn32tab", "math/bits.deBruijn64tab"], loops := true, apart := false, laid := [("math/bits.deBruijn32tab", laid_math_bits_deBruijn32tab), ("math/bits.deBruijn64tab", laid_math_bits_deBruijn64tab), ("internal/strconv.uint64pow10", laid_internal_strconv_uint64pow10), ("glosswright/glosswrightlaw2.none", laid_glosswright_glosswrightlaw2_none)] }
def EventDropIsImpliedSaid : Prop := eventDropIsImpliedRow.holds Tryd.pinned (OpenSpec.ofChange eventDropIsImpliedSpec)

/-- ITS FALSE NEIGHBOUR: 'it returns false'. Refute it at one input. -/
def eventDropIsImpliedWrong : ChangeSpec := { name := "eventDropIsImplied", fn := fun _ => fun
  | [d1, d2, d3] => { results := [.lit (.bool false)], args := [d1, d2, d3] }
  | _ => none }
def EventDropIsImpliedWrongFalsely : Prop := eventDropIsImpliedRow.holds Tryd.pinned (OpenSpec.ofChange eventDropIsImpliedWrong)

/-- 'glosswrightlaw2.DiscourseMergeSaysBoth': WHATEVER THE INPUT: true; the input reads as it did. -/
def discourseMergeSaysBothSpec : ChangeSpec := { name := "discourseMergeSaysBoth", fn := fun _ => fun
  | [d1, d2, d3] => { results := [.lit (.bool true)], args := [d1, d2, d3] }
  | _ => none }
def discourseMergeSaysBothRow : OpenClaim := { program := "ytbbjghecpcobjaadoor", sum := "a5ddef2591df23ec62a8a1864d14ac181eedbcedefbe6a75f0f85c5a5758f4b2", func := "glosswright/glosswrightlaw2.DiscourseMergeSaysBoth", spec := "discourseMergeSaysBoth", unfollowed := true, recurses := true, named := ["glosswright/glosswrightlaw2.none", "internal/strconv.uint64pow10", "math/bits.deBruijn32tab", "math/bits.deBruijn64tab"], loops := true, apart := false, laid := [("math/bits.deBruijn32tab", laid_math_bits_deBruijn32tab), ("math/bits.deBruijn64tab", laid_math_bits_deBruijn64tab), ("internal/strconv.uint64pow10", laid_internal_strconv_uint64pow10), ("glosswright/glosswrightlaw2.none", laid_glosswright_glosswrightlaw2_none)] }
def DiscourseMergeSaysBothSaid : Prop := discourseMergeSaysBothRow.holds Tryd.pinned (OpenSpec.ofChange discourseMergeSaysBothSpec)

/-- ITS FALSE NEIGHBOUR: 'it returns false'. Refute it at one input. -/
def discourseMergeSaysBothWrong : ChangeSpec := { name := "discourseMergeSaysBoth", fn := fun _ => fun
  | [d1, d2, d3] => { results := [.lit (.bool false)], args := [d1, d2, d3] }
  | _ => none }
def DiscourseMergeSaysBothWrongFalsely : Prop := discourseMergeSaysBothRow.holds Tryd.pinned (OpenSpec.ofChange discourseMergeSaysBothWrong)

/- THE SECOND FORM. 'bulk': how many values and letters a reading holds, each counted each time it is reached (what is shared counts as often as it is met; a slice's spare places count too). A statement '..UptoSaid' is the law's where the arguments, and the package variables that the reading takes, are together of bulk at most 1048576: NARROWER than '..Said'. Prove '..Said' where nothing that the law and all that it calls make is longer than what came in: it says more and counts as full. Else prove '..UptoSaid'. A law counts once. -/
mutual
def uptoBulk {H : Type} : DataW H → Nat
  | .lit (.string bytes) => bytes.length + 1
  | .lit _ => 1
  | .nil => 1
  | .ptr d => uptoBulk d + 1
  | .slice elems spare => uptoBulkAll elems + uptoBulkAll spare + 1
  | .agg parts => uptoBulkAll parts + 1
  | .iface _ d => uptoBulk d + 1
  | .map entries => uptoBulkEntries entries + 1
  | .held _ => 1
def uptoBulkAll {H : Type} : List (DataW H) → Nat
  | [] => 0
  | d :: r => uptoBulk d + uptoBulkAll r
def uptoBulkEntries {H : Type} : List (Lit × DataW H) → Nat
  | [] => 0
  | x :: r => uptoBulkEntry x + uptoBulkEntries r
def uptoBulkEntry {H : Type} : Lit × DataW H → Nat
  | (.string bytes, d) => bytes.length + uptoBulk d + 1
  | (_, d) => uptoBulk d + 1
 end
def uptoSmall : (H : Type) → List (DataW H) → Bool := fun _ ds => decide (uptoBulkAll ds ≤ 1048576)
def OpenSpec.upto (s : _root_.Go.ChangeSpec) : _root_.Go.OpenSpec := { _root_.Go.OpenSpec.ofChange s with cond := some uptoSmall }

/-- 'glosswrightlaw2.QuantityCountsMatchSpec', WHERE WHAT IT READS IS OF BULK AT MOST 1048576: true; the input reads as it did. -/
def quantityCountsMatchSpecUptoRow : OpenClaim := { program := "ytbbjghecpcobjaadoor", sum := "a5ddef2591df23ec62a8a1864d14ac181eedbcedefbe6a75f0f85c5a5758f4b2", func := "glosswright/glosswrightlaw2.QuantityCountsMatchSpec", spec := "quantityCountsMatchSpec", unfollowed := true, recurses := true, named := ["glosswright/glosswrightlaw2.none"], loops := true, apart := false, laid := [("glosswright/glosswrightlaw2.none", laid_glosswright_glosswrightlaw2_none)], narrowed := true }
def QuantityCountsMatchSpecUptoSaid : Prop := quantityCountsMatchSpecUptoRow.holds Tryd.pinned (OpenSpec.upto quantityCountsMatchSpecSpec)

/-- 'glosswrightlaw2.TableauCheckMatchesSpec', WHERE WHAT IT READS IS OF BULK AT MOST 1048576: true; the input reads as it did. -/
def tableauCheckMatchesSpecUptoRow : OpenClaim := { program := "ytbbjghecpcobjaadoor", sum := "a5ddef2591df23ec62a8a1864d14ac181eedbcedefbe6a75f0f85c5a5758f4b2", func := "glosswright/glosswrightlaw2.TableauCheckMatchesSpec", spec := "tableauCheckMatchesSpec", unfollowed := true, recurses := true, named := ["glosswright/glosswrightlaw2.none", "internal/strconv.uint64pow10", "math/bits.deBruijn32tab", "math/bits.deBruijn64tab"], loops := true, apart := false, laid := [("math/bits.deBruijn32tab", laid_math_bits_deBruijn32tab), ("math/bits.deBruijn64tab", laid_math_bits_deBruijn64tab), ("internal/strconv.uint64pow10", laid_internal_strconv_uint64pow10), ("glosswright/glosswrightlaw2.none", laid_glosswright_glosswrightlaw2_none)], narrowed := true }
def TableauCheckMatchesSpecUptoSaid : Prop := tableauCheckMatchesSpecUptoRow.holds Tryd.pinned (OpenSpec.upto tableauCheckMatchesSpecSpec)

/-- 'glosswrightlaw2.TableauLimitsProofs', WHERE WHAT IT READS IS OF BULK AT MOST 1048576: true; the input reads as it did. -/
def tableauLimitsProofsUptoRow : OpenClaim := { program := "ytbbjghecpcobjaadoor", sum := "a5ddef2591df23ec62a8a1864d14ac181eedbcedefbe6a75f0f85c5a5758f4b2", func := "glosswright/glosswrightlaw2.TableauLimitsProofs", spec := "tableauLimitsProofs", unfollowed := true, recurses := true, named := ["glosswright/glosswrightlaw2.none", "internal/strconv.uint64pow10", "math/bits.deBruijn32tab", "math/bits.deBruijn64tab"], apart := false, laid := [("math/bits.deBruijn32tab", laid_math_bits_deBruijn32tab), ("math/bits.deBruijn64tab", laid_math_bits_deBruijn64tab), ("internal/strconv.uint64pow10", laid_internal_strconv_uint64pow10), ("glosswright/glosswrightlaw2.none", laid_glosswright_glosswrightlaw2_none)], narrowed := true }
def TableauLimitsProofsUptoSaid : Prop := tableauLimitsProofsUptoRow.holds Tryd.pinned (OpenSpec.upto tableauLimitsProofsSpec)

/-- 'glosswrightlaw2.QuantityIsCounted', WHERE WHAT IT READS IS OF BULK AT MOST 1048576: true; the input reads as it did. -/
def quantityIsCountedUptoRow : OpenClaim := { program := "ytbbjghecpcobjaadoor", sum := "a5ddef2591df23ec62a8a1864d14ac181eedbcedefbe6a75f0f85c5a5758f4b2", func := "glosswright/glosswrightlaw2.QuantityIsCounted", spec := "quantityIsCounted", unfollowed := true, recurses := true, named := ["glosswright/glosswrightlaw2.none", "internal/strconv.uint64pow10", "math/bits.deBruijn32tab", "math/bits.deBruijn64tab"], loops := true, apart := false, laid := [("math/bits.deBruijn32tab", laid_math_bits_deBruijn32tab), ("math/bits.deBruijn64tab", laid_math_bits_deBruijn64tab), ("internal/strconv.uint64pow10", laid_internal_strconv_uint64pow10), ("glosswright/glosswrightlaw2.none", laid_glosswright_glosswrightlaw2_none)], narrowed := true }
def QuantityIsCountedUptoSaid : Prop := quantityIsCountedUptoRow.holds Tryd.pinned (OpenSpec.upto quantityIsCountedSpec)

/-- 'glosswrightlaw2.EventDropIsImplied', WHERE WHAT IT READS IS OF BULK AT MOST 1048576: true; the input reads as it did. -/
def eventDropIsImpliedUptoRow : OpenClaim := { program := "ytbbjghecpcobjaadoor", sum := "a5ddef2591df23ec62a8a1864d14ac181eedbcedefbe6a75f0f85c5a5758f4b2", func := "glosswright/glosswrightlaw2.EventDropIsImplied", spec := "eventDropIsImplied", unfollowed := true, recurses := true, named := ["glosswright/glosswrightlaw2.none", "internal/strconv.uint64pow10", "math/bits.deBruijn32tab", "math/bits.deBruijn64tab"], loops := true, apart := false, laid := [("math/bits.deBruijn32tab", laid_math_bits_deBruijn32tab), ("math/bits.deBruijn64tab", laid_math_bits_deBruijn64tab), ("internal/strconv.uint64pow10", laid_internal_strconv_uint64pow10), ("glosswright/glosswrightlaw2.none", laid_glosswright_glosswrightlaw2_none)], narrowed := true }
def EventDropIsImpliedUptoSaid : Prop := eventDropIsImpliedUptoRow.holds Tryd.pinned (OpenSpec.upto eventDropIsImpliedSpec)

/-- 'glosswrightlaw2.DiscourseMergeSaysBoth', WHERE WHAT IT READS IS OF BULK AT MOST 1048576: true; the input reads as it did. -/
def discourseMergeSaysBothUptoRow : OpenClaim := { program := "ytbbjghecpcobjaadoor", sum := "a5ddef2591df23ec62a8a1864d14ac181eedbcedefbe6a75f0f85c5a5758f4b2", func := "glosswright/glosswrightlaw2.DiscourseMergeSaysBoth", spec := "discourseMergeSaysBoth", unfollowed := true, recurses := true, named := ["glosswright/glosswrightlaw2.none", "internal/strconv.uint64pow10", "math/bits.deBruijn32tab", "math/bits.deBruijn64tab"], loops := true, apart := false, laid := [("math/bits.deBruijn32tab", laid_math_bits_deBruijn32tab), ("math/bits.deBruijn64tab", laid_math_bits_deBruijn64tab), ("internal/strconv.uint64pow10", laid_internal_strconv_uint64pow10), ("glosswright/glosswrightlaw2.none", laid_glosswright_glosswrightlaw2_none)], narrowed := true }
def DiscourseMergeSaysBothUptoSaid : Prop := discourseMergeSaysBothUptoRow.holds Tryd.pinned (OpenSpec.upto discourseMergeSaysBothSpec)

end Rows
end Go.Proofs.YtbbjghecpcobjaaDoor
