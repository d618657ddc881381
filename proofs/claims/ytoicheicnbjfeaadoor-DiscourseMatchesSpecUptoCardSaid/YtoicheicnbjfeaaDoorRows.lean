/-
  NARROWER THAN 'FOR EVERY INPUT', by the rows' own cells (each row's printed sentence says how): DiscourseResolveMatchesSpec: loops, laid · DiscourseResolvedIsSettled: loops, laid · ScopeDominatesMatchesSpec: loops, laid · QuantityCountsMatchSpec: loops, laid · QuantityOfSame: loops, laid · EventMergeUndoes: loops, laid · ScopeFromMatchesSpec: loops, laid · EventModifiersMatchSpec: loops, laid · EventDropUndoes: loops, laid · DiscourseMatchesSpec: loops, laid · PluralEachIsTrueOfEach: loops, laid · PluralEachIsCumulative: laid.
  DERIVED. THE GIVEN ROWS OF THIS SEAT. 12 by the template 'for every input the law returns true; each argument reads behind the call as it read before'; 0 by the template 'total and deterministic' (their statements: YtoicheicnbjfeaaDoorTotals.lean).
  GIVEN WITH THE SEED: the statements are not yours to turn. If you find one false, say at which input.
  Laid BY PROGRAM, IN A SANDBOX (cutbox-rows.mjs): the forced cells as the released guide's own fill.sh prints them over the translation a10798c804bf7d09… (all of the seat's roots in one cut). By AI agents, Wed Nov 11 2026. No macro, syntax, notation, axiom, sorry.
-/
import Derived.Test.YtoicheicnbjfeaaDoorChecked
import GoSem.Claim
import GoSem.ClaimJoined
import GoSem.ClaimMapViews
import Derived.JoinedTies
import Derived.KernelRfl
namespace Go.Proofs.YtoicheicnbjfeaaDoor
/- THE CELL 'sum', in the pinned program and in every row, IS THE sha256 OF THE DUMP (.gsa) THAT YtoicheicnbjfeaaDoorProg.lean LOADS. Nothing in Lean hashes anything: it is a label: what it is worth is what the hold of that sum in a sandbox is worth. -/
noncomputable def Tryd.pinned : Pinned := { name := "ytoicheicnbjfeaadoor", sum := "a10798c804bf7d099a8d460814afbf63b605563d887d159d067881d6ff851eb1", checked := Tryd.checked }
namespace Rows
def none {H : Type} : Left H := { results := [], args := [] }

/- WHAT THE LISTED PACKAGE-LEVEL VARIABLES READ AS WHEN THE CALL BEGINS. Each datum BY PROGRAM (the guide's laid-datum.mjs) off the statement by which the dump's own 'gosem.cut.vars' lays the variable. In a bare row this is a premise. The card (YtoicheicnbjfeaaDoorCards.lean) ties it to the program's text. -/
def laid_glosswright_glosswrightlaw2_none {H : Type} : DataW H := .agg [.lit (.int .i64 0), .lit (.int .i64 0)]
def laid_math_bits_deBruijn32tab {H : Type} : DataW H := .agg [.lit (.int .u8 0), .lit (.int .u8 1), .lit (.int .u8 28), .lit (.int .u8 2), .lit (.int .u8 29), .lit (.int .u8 14), .lit (.int .u8 24), .lit (.int .u8 3), .lit (.int .u8 30), .lit (.int .u8 22), .lit (.int .u8 20), .lit (.int .u8 15), .lit (.int .u8 25), .lit (.int .u8 17), .lit (.int .u8 4), .lit (.int .u8 8), .lit (.int .u8 31), .lit (.int .u8 27), .lit (.int .u8 13), .lit (.int .u8 23), .lit (.int .u8 21), .lit (.int .u8 19), .lit (.int .u8 16), .lit (.int .u8 7), .lit (.int .u8 26), .lit (.int .u8 12), .lit (.int .u8 18), .lit (.int .u8 6), .lit (.int .u8 11), .lit (.int .u8 5), .lit (.int .u8 10), .lit (.int .u8 9)]
def laid_math_bits_deBruijn64tab {H : Type} : DataW H := .agg [.lit (.int .u8 0), .lit (.int .u8 1), .lit (.int .u8 56), .lit (.int .u8 2), .lit (.int .u8 57), .lit (.int .u8 49), .lit (.int .u8 28), .lit (.int .u8 3), .lit (.int .u8 61), .lit (.int .u8 58), .lit (.int .u8 42), .lit (.int .u8 50), .lit (.int .u8 38), .lit (.int .u8 29), .lit (.int .u8 17), .lit (.int .u8 4), .lit (.int .u8 62), .lit (.int .u8 47), .lit (.int .u8 59), .lit (.int .u8 36), .lit (.int .u8 45), .lit (.int .u8 43), .lit (.int .u8 51), .lit (.int .u8 22), .lit (.int .u8 53), .lit (.int .u8 39), .lit (.int .u8 33), .lit (.int .u8 30), .lit (.int .u8 24), .lit (.int .u8 18), .lit (.int .u8 12), .lit (.int .u8 5), .lit (.int .u8 63), .lit (.int .u8 55), .lit (.int .u8 48), .lit (.int .u8 27), .lit (.int .u8 60), .lit (.int .u8 41), .lit (.int .u8 37), .lit (.int .u8 16), .lit (.int .u8 46), .lit (.int .u8 35), .lit (.int .u8 44), .lit (.int .u8 21), .lit (.int .u8 52), .lit (.int .u8 32), .lit (.int .u8 23), .lit (.int .u8 11), .lit (.int .u8 54), .lit (.int .u8 26), .lit (.int .u8 40), .lit (.int .u8 15), .lit (.int .u8 34), .lit (.int .u8 20), .lit (.int .u8 31), .lit (.int .u8 10), .lit (.int .u8 25), .lit (.int .u8 14), .lit (.int .u8 19), .lit (.int .u8 9), .lit (.int .u8 13), .lit (.int .u8 8), .lit (.int .u8 7), .lit (.int .u8 6)]
def laid_internal_strconv_uint64pow10 {H : Type} : DataW H := .agg [.lit (.int .u64 1), .lit (.int .u64 10), .lit (.int .u64 100), .lit (.int .u64 1000), .lit (.int .u64 10000), .lit (.int .u64 100000), .lit (.int .u64 1000000), .lit (.int .u64 10000000), .lit (.int .u64 100000000), .lit (.int .u64 1000000000), .lit (.int .u64 10000000000), .lit (.int .u64 100000000000), .lit (.int .u64 1000000000000), .lit (.int .u64 10000000000000), .lit (.int .u64 100000000000000), .lit (.int .u64 1000000000000000), .lit (.int .u64 10000000000000000), .lit (.int .u64 100000000000000000), .lit (.int .u64 1000000000000000000), .lit (.int .u64 10000000000000000000)]

/-- 'glosswrightlaw2.DiscourseResolveMatchesSpec': WHATEVER THE INPUT: true; the input reads as it did. -/
def discourseResolveMatchesSpecSpec : ChangeSpec := { name := "discourseResolveMatchesSpec", fn := fun _ => fun
  | [d] => { results := [.lit (.bool true)], args := [d] }
  | _ => none }
def discourseResolveMatchesSpecRow : OpenClaim := { program := "ytoicheicnbjfeaadoor", sum := "a10798c804bf7d099a8d460814afbf63b605563d887d159d067881d6ff851eb1", func := "glosswright/glosswrightlaw2.DiscourseResolveMatchesSpec", spec := "discourseResolveMatchesSpec", unfollowed := true, recurses := true, named := ["glosswright/glosswrightlaw2.none"], loops := true, apart := false, laid := [("glosswright/glosswrightlaw2.none", laid_glosswright_glosswrightlaw2_none)] }
def DiscourseResolveMatchesSpecSaid : Prop := discourseResolveMatchesSpecRow.holds Tryd.pinned (OpenSpec.ofChange discourseResolveMatchesSpecSpec)

/-- ITS FALSE NEIGHBOUR: 'it returns false'. Refute it at one input. -/
def discourseResolveMatchesSpecWrong : ChangeSpec := { name := "discourseResolveMatchesSpec", fn := fun _ => fun
  | [d] => { results := [.lit (.bool false)], args := [d] }
  | _ => none }
def DiscourseResolveMatchesSpecWrongFalsely : Prop := discourseResolveMatchesSpecRow.holds Tryd.pinned (OpenSpec.ofChange discourseResolveMatchesSpecWrong)

/-- 'glosswrightlaw2.DiscourseResolvedIsSettled': WHATEVER THE INPUT: true; the input reads as it did. -/
def discourseResolvedIsSettledSpec : ChangeSpec := { name := "discourseResolvedIsSettled", fn := fun _ => fun
  | [d] => { results := [.lit (.bool true)], args := [d] }
  | _ => none }
def discourseResolvedIsSettledRow : OpenClaim := { program := "ytoicheicnbjfeaadoor", sum := "a10798c804bf7d099a8d460814afbf63b605563d887d159d067881d6ff851eb1", func := "glosswright/glosswrightlaw2.DiscourseResolvedIsSettled", spec := "discourseResolvedIsSettled", unfollowed := true, recurses := true, named := ["glosswright/glosswrightlaw2.none"], loops := true, apart := false, laid := [("glosswright/glosswrightlaw2.none", laid_glosswright_glosswrightlaw2_none)] }
def DiscourseResolvedIsSettledSaid : Prop := discourseResolvedIsSettledRow.holds Tryd.pinned (OpenSpec.ofChange discourseResolvedIsSettledSpec)

/-- ITS FALSE NEIGHBOUR: 'it returns false'. Refute it at one input. -/
def discourseResolvedIsSettledWrong : ChangeSpec := { name := "discourseResolvedIsSettled", fn := fun _ => fun
  | [d] => { results := [.lit (.bool false)], args := [d] }
  | _ => none }
def DiscourseResolvedIsSettledWrongFalsely : Prop := discourseResolvedIsSettledRow.holds Tryd.pinned (OpenSpec.ofChange discourseResolvedIsSettledWrong)

/-- 'glosswrightlaw2.ScopeDominatesMatchesSpec': WHATEVER THE INPUT: true; the input reads as it did. -/
def scopeDominatesMatchesSpecSpec : ChangeSpec := { name := "scopeDominatesMatchesSpec", fn := fun _ => fun
  | [d1, d2, d3] => { results := [.lit (.bool true)], args := [d1, d2, d3] }
  | _ => none }
def scopeDominatesMatchesSpecRow : OpenClaim := { program := "ytoicheicnbjfeaadoor", sum := "a10798c804bf7d099a8d460814afbf63b605563d887d159d067881d6ff851eb1", func := "glosswright/glosswrightlaw2.ScopeDominatesMatchesSpec", spec := "scopeDominatesMatchesSpec", unfollowed := true, recurses := true, named := ["glosswright/glosswrightlaw2.none"], loops := true, apart := false, laid := [("glosswright/glosswrightlaw2.none", laid_glosswright_glosswrightlaw2_none)] }
def ScopeDominatesMatchesSpecSaid : Prop := scopeDominatesMatchesSpecRow.holds Tryd.pinned (OpenSpec.ofChange scopeDominatesMatchesSpecSpec)

/-- ITS FALSE NEIGHBOUR: 'it returns false'. Refute it at one input. -/
def scopeDominatesMatchesSpecWrong : ChangeSpec := { name := "scopeDominatesMatchesSpec", fn := fun _ => fun
  | [d1, d2, d3] => { results := [.lit (.bool false)], args := [d1, d2, d3] }
  | _ => none }
def ScopeDominatesMatchesSpecWrongFalsely : Prop := scopeDominatesMatchesSpecRow.holds Tryd.pinned (OpenSpec.ofChange scopeDominatesMatchesSpecWrong)

/-- 'glosswrightlaw2.QuantityCountsMatchSpec': WHATEVER THE INPUT: true; the input reads as it did. -/
def quantityCountsMatchSpecSpec : ChangeSpec := { name := "quantityCountsMatchSpec", fn := fun _ => fun
  | [d1, d2, d3, d4] => { results := [.lit (.bool true)], args := [d1, d2, d3, d4] }
  | _ => none }
def quantityCountsMatchSpecRow : OpenClaim := { program := "ytoicheicnbjfeaadoor", sum := "a10798c804bf7d099a8d460814afbf63b605563d887d159d067881d6ff851eb1", func := "glosswright/glosswrightlaw2.QuantityCountsMatchSpec", spec := "quantityCountsMatchSpec", unfollowed := true, recurses := true, named := ["glosswright/glosswrightlaw2.none"], loops := true, apart := false, laid := [("glosswright/glosswrightlaw2.none", laid_glosswright_glosswrightlaw2_none)] }
def QuantityCountsMatchSpecSaid : Prop := quantityCountsMatchSpecRow.holds Tryd.pinned (OpenSpec.ofChange quantityCountsMatchSpecSpec)

/-- ITS FALSE NEIGHBOUR: 'it returns false'. Refute it at one input. -/
def quantityCountsMatchSpecWrong : ChangeSpec := { name := "quantityCountsMatchSpec", fn := fun _ => fun
  | [d1, d2, d3, d4] => { results := [.lit (.bool false)], args := [d1, d2, d3, d4] }
  | _ => none }
def QuantityCountsMatchSpecWrongFalsely : Prop := quantityCountsMatchSpecRow.holds Tryd.pinned (OpenSpec.ofChange quantityCountsMatchSpecWrong)

/-- 'glosswrightlaw2.QuantityOfSame': WHATEVER THE INPUT: true; the input reads as it did. -/
def quantityOfSameSpec : ChangeSpec := { name := "quantityOfSame", fn := fun _ => fun
  | [d1, d2, d3] => { results := [.lit (.bool true)], args := [d1, d2, d3] }
  | _ => none }
def quantityOfSameRow : OpenClaim := { program := "ytoicheicnbjfeaadoor", sum := "a10798c804bf7d099a8d460814afbf63b605563d887d159d067881d6ff851eb1", func := "glosswright/glosswrightlaw2.QuantityOfSame", spec := "quantityOfSame", unfollowed := true, recurses := true, named := ["glosswright/glosswrightlaw2.none"], loops := true, apart := false, laid := [("glosswright/glosswrightlaw2.none", laid_glosswright_glosswrightlaw2_none)] }
def QuantityOfSameSaid : Prop := quantityOfSameRow.holds Tryd.pinned (OpenSpec.ofChange quantityOfSameSpec)

/-- ITS FALSE NEIGHBOUR: 'it returns false'. Refute it at one input. -/
def quantityOfSameWrong : ChangeSpec := { name := "quantityOfSame", fn := fun _ => fun
  | [d1, d2, d3] => { results := [.lit (.bool false)], args := [d1, d2, d3] }
  | _ => none }
def QuantityOfSameWrongFalsely : Prop := quantityOfSameRow.holds Tryd.pinned (OpenSpec.ofChange quantityOfSameWrong)

/-- 'glosswrightlaw2.EventMergeUndoes': WHATEVER THE INPUT: true; the input reads as it did. -/
def eventMergeUndoesSpec : ChangeSpec := { name := "eventMergeUndoes", fn := fun _ => fun
  | [d1, d2] => { results := [.lit (.bool true)], args := [d1, d2] }
  | _ => none }
def eventMergeUndoesRow : OpenClaim := { program := "ytoicheicnbjfeaadoor", sum := "a10798c804bf7d099a8d460814afbf63b605563d887d159d067881d6ff851eb1", func := "glosswright/glosswrightlaw2.EventMergeUndoes", spec := "eventMergeUndoes", unfollowed := true, recurses := true, named := ["glosswright/glosswrightlaw2.none", "internal/strconv.uint64pow10", "math/bits.deBruijn32tab", "math/bits.deBruijn64tab"], loops := true, apart := false, laid := [("math/bits.deBruijn32tab", laid_math_bits_deBruijn32tab), ("math/bits.deBruijn64tab", laid_math_bits_deBruijn64tab), ("internal/strconv.uint64pow10", laid_internal_strconv_uint64pow10), ("glosswright/glosswrightlaw2.none", laid_glosswright_glosswrightlaw2_none)] }
def EventMergeUndoesSaid : Prop := eventMergeUndoesRow.holds Tryd.pinned (OpenSpec.ofChange eventMergeUndoesSpec)

/-- ITS FALSE NEIGHBOUR: 'it returns false'. Refute it at one input. -/
def eventMergeUndoesWrong : ChangeSpec := { name := "eventMergeUndoes", fn := fun _ => fun
  | [d1, d2] => { results := [.lit (.bool false)], args := [d1, d2] }
  | _ => none }
def EventMergeUndoesWrongFalsely : Prop := eventMergeUndoesRow.holds Tryd.pinned (OpenSpec.ofChange eventMergeUndoesWrong)

/-- 'glosswrightlaw2.ScopeFromMatchesSpec': WHATEVER THE INPUT: true; the input reads as it did. -/
def scopeFromMatchesSpecSpec : ChangeSpec := { name := "scopeFromMatchesSpec", fn := fun _ => fun
  | [d] => { results := [.lit (.bool true)], args := [d] }
  | _ => none }
def scopeFromMatchesSpecRow : OpenClaim := { program := "ytoicheicnbjfeaadoor", sum := "a10798c804bf7d099a8d460814afbf63b605563d887d159d067881d6ff851eb1", func := "glosswright/glosswrightlaw2.ScopeFromMatchesSpec", spec := "scopeFromMatchesSpec", unfollowed := true, recurses := true, named := ["glosswright/glosswrightlaw2.none", "internal/strconv.uint64pow10", "math/bits.deBruijn32tab", "math/bits.deBruijn64tab"], loops := true, apart := false, laid := [("math/bits.deBruijn32tab", laid_math_bits_deBruijn32tab), ("math/bits.deBruijn64tab", laid_math_bits_deBruijn64tab), ("internal/strconv.uint64pow10", laid_internal_strconv_uint64pow10), ("glosswright/glosswrightlaw2.none", laid_glosswright_glosswrightlaw2_none)] }
def ScopeFromMatchesSpecSaid : Prop := scopeFromMatchesSpecRow.holds Tryd.pinned (OpenSpec.ofChange scopeFromMatchesSpecSpec)

/-- ITS FALSE NEIGHBOUR: 'it returns false'. Refute it at one input. -/
def scopeFromMatchesSpecWrong : ChangeSpec := { name := "scopeFromMatchesSpec", fn := fun _ => fun
  | [d] => { results := [.lit (.bool false)], args := [d] }
  | _ => none }
def ScopeFromMatchesSpecWrongFalsely : Prop := scopeFromMatchesSpecRow.holds Tryd.pinned (OpenSpec.ofChange scopeFromMatchesSpecWrong)

/-- 'glosswrightlaw2.EventModifiersMatchSpec': WHATEVER THE INPUT: true; the input reads as it did. -/
def eventModifiersMatchSpecSpec : ChangeSpec := { name := "eventModifiersMatchSpec", fn := fun _ => fun
  | [d1, d2, d3] => { results := [.lit (.bool true)], args := [d1, d2, d3] }
  | _ => none }
def eventModifiersMatchSpecRow : OpenClaim := { program := "ytoicheicnbjfeaadoor", sum := "a10798c804bf7d099a8d460814afbf63b605563d887d159d067881d6ff851eb1", func := "glosswright/glosswrightlaw2.EventModifiersMatchSpec", spec := "eventModifiersMatchSpec", unfollowed := true, recurses := true, named := ["glosswright/glosswrightlaw2.none", "internal/strconv.uint64pow10", "math/bits.deBruijn32tab", "math/bits.deBruijn64tab"], loops := true, apart := false, laid := [("math/bits.deBruijn32tab", laid_math_bits_deBruijn32tab), ("math/bits.deBruijn64tab", laid_math_bits_deBruijn64tab), ("internal/strconv.uint64pow10", laid_internal_strconv_uint64pow10), ("glosswright/glosswrightlaw2.none", laid_glosswright_glosswrightlaw2_none)] }
def EventModifiersMatchSpecSaid : Prop := eventModifiersMatchSpecRow.holds Tryd.pinned (OpenSpec.ofChange eventModifiersMatchSpecSpec)

/-- ITS FALSE NEIGHBOUR: 'it returns false'. Refute it at one input. -/
def eventModifiersMatchSpecWrong : ChangeSpec := { name := "eventModifiersMatchSpec", fn := fun _ => fun
  | [d1, d2, d3] => { results := [.lit (.bool false)], args := [d1, d2, d3] }
  | _ => none }
def EventModifiersMatchSpecWrongFalsely : Prop := eventModifiersMatchSpecRow.holds Tryd.pinned (OpenSpec.ofChange eventModifiersMatchSpecWrong)

/-- 'glosswrightlaw2.EventDropUndoes': WHATEVER THE INPUT: true; the input reads as it did. -/
def eventDropUndoesSpec : ChangeSpec := { name := "eventDropUndoes", fn := fun _ => fun
  | [d1, d2, d3] => { results := [.lit (.bool true)], args := [d1, d2, d3] }
  | _ => none }
def eventDropUndoesRow : OpenClaim := { program := "ytoicheicnbjfeaadoor", sum := "a10798c804bf7d099a8d460814afbf63b605563d887d159d067881d6ff851eb1", func := "glosswright/glosswrightlaw2.EventDropUndoes", spec := "eventDropUndoes", unfollowed := true, recurses := true, named := ["glosswright/glosswrightlaw2.none", "internal/strconv.uint64pow10", "math/bits.deBruijn32tab", "math/bits.deBruijn64tab"], loops := true, apart := false, laid := [("math/bits.deBruijn32tab", laid_math_bits_deBruijn32tab), ("math/bits.deBruijn64tab", laid_math_bits_deBruijn64tab), ("internal/strconv.uint64pow10", laid_internal_strconv_uint64pow10), ("glosswright/glosswrightlaw2.none", laid_glosswright_glosswrightlaw2_none)] }
def EventDropUndoesSaid : Prop := eventDropUndoesRow.holds Tryd.pinned (OpenSpec.ofChange eventDropUndoesSpec)

/-- ITS FALSE NEIGHBOUR: 'it returns false'. Refute it at one input. -/
def eventDropUndoesWrong : ChangeSpec := { name := "eventDropUndoes", fn := fun _ => fun
  | [d1, d2, d3] => { results := [.lit (.bool false)], args := [d1, d2, d3] }
  | _ => none }
def EventDropUndoesWrongFalsely : Prop := eventDropUndoesRow.holds Tryd.pinned (OpenSpec.ofChange eventDropUndoesWrong)

/-- 'glosswrightlaw2.DiscourseMatchesSpec': WHATEVER THE INPUT: true; the input reads as it did. -/
def discourseMatchesSpecSpec : ChangeSpec := { name := "discourseMatchesSpec", fn := fun _ => fun
  | [d] => { results := [.lit (.bool true)], args := [d] }
  | _ => none }
def discourseMatchesSpecRow : OpenClaim := { program := "ytoicheicnbjfeaadoor", sum := "a10798c804bf7d099a8d460814afbf63b605563d887d159d067881d6ff851eb1", func := "glosswright/glosswrightlaw2.DiscourseMatchesSpec", spec := "discourseMatchesSpec", unfollowed := true, recurses := true, named := ["glosswright/glosswrightlaw2.none", "internal/strconv.uint64pow10", "math/bits.deBruijn32tab", "math/bits.deBruijn64tab"], loops := true, apart := false, laid := [("math/bits.deBruijn32tab", laid_math_bits_deBruijn32tab), ("math/bits.deBruijn64tab", laid_math_bits_deBruijn64tab), ("internal/strconv.uint64pow10", laid_internal_strconv_uint64pow10), ("glosswright/glosswrightlaw2.none", laid_glosswright_glosswrightlaw2_none)] }
def DiscourseMatchesSpecSaid : Prop := discourseMatchesSpecRow.holds Tryd.pinned (OpenSpec.ofChange discourseMatchesSpecSpec)

/-- ITS FALSE NEIGHBOUR: 'it returns false'. Refute it at one input. -/
def discourseMatchesSpecWrong : ChangeSpec := { name := "discourseMatchesSpec", fn := fun _ => fun
  | [d] => { results := [.lit (.bool false)], args := [d] }
  | _ => none }
def DiscourseMatchesSpecWrongFalsely : Prop := discourseMatchesSpecRow.holds Tryd.pinned (OpenSpec.ofChange discourseMatchesSpecWrong)

/-- 'glosswrightlaw2.PluralEachIsTrueOfEach': WHATEVER THE INPUT: true; the input reads as it did. -/
def pluralEachIsTrueOfEachSpec : ChangeSpec := { name := "pluralEachIsTrueOfEach", fn := fun _ => fun
  | [d1, d2, d3, d4] => { results := [.lit (.bool true)], args := [d1, d2, d3, d4] }
  | _ => none }
def pluralEachIsTrueOfEachRow : OpenClaim := { program := "ytoicheicnbjfeaadoor", sum := "a10798c804bf7d099a8d460814afbf63b605563d887d159d067881d6ff851eb1", func := "glosswright/glosswrightlaw2.PluralEachIsTrueOfEach", spec := "pluralEachIsTrueOfEach", unfollowed := true, recurses := true, named := ["glosswright/glosswrightlaw2.none", "internal/strconv.uint64pow10", "math/bits.deBruijn32tab", "math/bits.deBruijn64tab"], loops := true, apart := false, laid := [("math/bits.deBruijn32tab", laid_math_bits_deBruijn32tab), ("math/bits.deBruijn64tab", laid_math_bits_deBruijn64tab), ("internal/strconv.uint64pow10", laid_internal_strconv_uint64pow10), ("glosswright/glosswrightlaw2.none", laid_glosswright_glosswrightlaw2_none)] }
def PluralEachIsTrueOfEachSaid : Prop := pluralEachIsTrueOfEachRow.holds Tryd.pinned (OpenSpec.ofChange pluralEachIsTrueOfEachSpec)

/-- ITS FALSE NEIGHBOUR: 'it returns false'. Refute it at one input. -/
def pluralEachIsTrueOfEachWrong : ChangeSpec := { name := "pluralEachIsTrueOfEach", fn := fun _ => fun
  | [d1, d2, d3, d4] => { results := [.lit (.bool false)], args := [d1, d2, d3, d4] }
  | _ => none }
def PluralEachIsTrueOfEachWrongFalsely : Prop := pluralEachIsTrueOfEachRow.holds Tryd.pinned (OpenSpec.ofChange pluralEachIsTrueOfEachWrong)

/-- 'glosswrightlaw2.PluralEachIsCumulative': WHATEVER THE INPUT: true; the input reads as it did. -/
def pluralEachIsCumulativeSpec : ChangeSpec := { name := "pluralEachIsCumulative", fn := fun _ => fun
  | [d1, d2, d3, d4] => { results := [.lit (.bool true)], args := [d1, d2, d3, d4] }
  | _ => none }
def pluralEachIsCumulativeRow : OpenClaim := { program := "ytoicheicnbjfeaadoor", sum := "a10798c804bf7d099a8d460814afbf63b605563d887d159d067881d6ff851eb1", func := "glosswright/glosswrightlaw2.PluralEachIsCumulative", spec := "pluralEachIsCumulative", unfollowed := true, recurses := true, named := ["glosswright/glosswrightlaw2.none", "internal/strconv.uint64pow10", "math/bits.deBruijn32tab", "math/bits.deBruijn64tab"], apart := false, laid := [("math/bits.deBruijn32tab", laid_math_bits_deBruijn32tab), ("math/bits.deBruijn64tab", laid_math_bits_deBruijn64tab), ("internal/strconv.uint64pow10", laid_internal_strconv_uint64pow10), ("glosswright/glosswrightlaw2.none", laid_glosswright_glosswrightlaw2_none)] }
def PluralEachIsCumulativeSaid : Prop := pluralEachIsCumulativeRow.holds Tryd.pinned (OpenSpec.ofChange pluralEachIsCumulativeSpec)

/-- ITS FALSE NEIGHBOUR: 'it returns false'. Refute it at one input. -/
def pluralEachIsCumulativeWrong : ChangeSpec := { name := "pluralEachIsCumulative", fn := fun _ => fun
  | [d1, d2, d3, d4] => { results := [.lit (.bool false)], args := [d1, d2, d3, d4] }
  | _ => none }
def PluralEachIsCumulativeWrongFalsely : Prop := pluralEachIsCumulativeRow.holds Tryd.pinned (OpenSpec.ofChange pluralEachIsCumulativeWrong)

/- THE SECOND FORM. 'bulk': how many values and letters a reading holds, each counted each time it is reached (what is shared counts as often as it is met; a slice's spare places count too). A statement '..UptoSaid' is the law's where the arguments, and the package variables that the reading takes, are together of bulk at most 1048576: NARROWER than '..Said'. Prove '..Said' where nothing that the law and all that it calls make is longer than what came in: it says more and counts as full. Else prove '..UptoSaid'. A law counts once. -/
mutual
def uptoBulk {H : Type} : DataW H → Nat
  | .lit (.string bytes) => bytes.length + 1
  | .lit _ => 1
  | .nil => 1
  | .ptr d => uptoBulk d + 1
  | .slice elems spare => uptoBulkAll elems + uptoBulkAll spare + 1
  | .agg parts => uptoBulkAll parts + 1
  | .iface _ d => uptoBulk d + 1
  | .map entries => uptoBulkEntries entries + 1
  | .held _ => 1
def uptoBulkAll {H : Type} : List (DataW H) → Nat
  | [] => 0
  | d :: r => uptoBulk d + uptoBulkAll r
def uptoBulkEntries {H : Type} : List (Lit × DataW H) → Nat
  | [] => 0
  | x :: r => uptoBulkEntry x + uptoBulkEntries r
def uptoBulkEntry {H : Type} : Lit × DataW H → Nat
  | (.string bytes, d) => bytes.length + uptoBulk d + 1
  | (_, d) => uptoBulk d + 1
 end
def uptoSmall : (H : Type) → List (DataW H) → Bool := fun _ ds => decide (uptoBulkAll ds ≤ 1048576)
def OpenSpec.upto (s : _root_.Go.ChangeSpec) : _root_.Go.OpenSpec := { _root_.Go.OpenSpec.ofChange s with cond := some uptoSmall }

/-- 'glosswrightlaw2.DiscourseResolveMatchesSpec', WHERE WHAT IT READS IS OF BULK AT MOST 1048576: true; the input reads as it did. -/
def discourseResolveMatchesSpecUptoRow : OpenClaim := { program := "ytoicheicnbjfeaadoor", sum := "a10798c804bf7d099a8d460814afbf63b605563d887d159d067881d6ff851eb1", func := "glosswright/glosswrightlaw2.DiscourseResolveMatchesSpec", spec := "discourseResolveMatchesSpec", unfollowed := true, recurses := true, named := ["glosswright/glosswrightlaw2.none"], loops := true, apart := false, laid := [("glosswright/glosswrightlaw2.none", laid_glosswright_glosswrightlaw2_none)], narrowed := true }
def DiscourseResolveMatchesSpecUptoSaid : Prop := discourseResolveMatchesSpecUptoRow.holds Tryd.pinned (OpenSpec.upto discourseResolveMatchesSpecSpec)

/-- 'glosswrightlaw2.DiscourseResolvedIsSettled', WHERE WHAT IT READS IS OF BULK AT MOST 1048576: true; the input reads as it did. -/
def discourseResolvedIsSettledUptoRow : OpenClaim := { program := "ytoicheicnbjfeaadoor", sum := "a10798c804bf7d099a8d460814afbf63b605563d887d159d067881d6ff851eb1", func := "glosswright/glosswrightlaw2.DiscourseResolvedIsSettled", spec := "discourseResolvedIsSettled", unfollowed := true, recurses := true, named := ["glosswright/glosswrightlaw2.none"], loops := true, apart := false, laid := [("glosswright/glosswrightlaw2.none", laid_glosswright_glosswrightlaw2_none)], narrowed := true }
def DiscourseResolvedIsSettledUptoSaid : Prop := discourseResolvedIsSettledUptoRow.holds Tryd.pinned (OpenSpec.upto discourseResolvedIsSettledSpec)

/-- 'glosswrightlaw2.ScopeDominatesMatchesSpec', WHERE WHAT IT READS IS OF BULK AT MOST 1048576: true; the input reads as it did. -/
def scopeDominatesMatchesSpecUptoRow : OpenClaim := { program := "ytoicheicnbjfeaadoor", sum := "a10798c804bf7d099a8d460814afbf63b605563d887d159d067881d6ff851eb1", func := "glosswright/glosswrightlaw2.ScopeDominatesMatchesSpec", spec := "scopeDominatesMatchesSpec", unfollowed := true, recurses := true, named := ["glosswright/glosswrightlaw2.none"], loops := true, apart := false, laid := [("glosswright/glosswrightlaw2.none", laid_glosswright_glosswrightlaw2_none)], narrowed := true }
def ScopeDominatesMatchesSpecUptoSaid : Prop := scopeDominatesMatchesSpecUptoRow.holds Tryd.pinned (OpenSpec.upto scopeDominatesMatchesSpecSpec)

/-- 'glosswrightlaw2.QuantityCountsMatchSpec', WHERE WHAT IT READS IS OF BULK AT MOST 1048576: true; the input reads as it did. -/
def quantityCountsMatchSpecUptoRow : OpenClaim := { program := "ytoicheicnbjfeaadoor", sum := "a10798c804bf7d099a8d460814afbf63b605563d887d159d067881d6ff851eb1", func := "glosswright/glosswrightlaw2.QuantityCountsMatchSpec", spec := "quantityCountsMatchSpec", unfollowed := true, recurses := true, named := ["glosswright/glosswrightlaw2.none"], loops := true, apart := false, laid := [("glosswright/glosswrightlaw2.none", laid_glosswright_glosswrightlaw2_none)], narrowed := true }
def QuantityCountsMatchSpecUptoSaid : Prop := quantityCountsMatchSpecUptoRow.holds Tryd.pinned (OpenSpec.upto quantityCountsMatchSpecSpec)

/-- 'glosswrightlaw2.QuantityOfSame', WHERE WHAT IT READS IS OF BULK AT MOST 1048576: true; the input reads as it did. -/
def quantityOfSameUptoRow : OpenClaim := { program := "ytoicheicnbjfeaadoor", sum := "a10798c804bf7d099a8d460814afbf63b605563d887d159d067881d6ff851eb1", func := "glosswright/glosswrightlaw2.QuantityOfSame", spec := "quantityOfSame", unfollowed := true, recurses := true, named := ["glosswright/glosswrightlaw2.none"], loops := true, apart := false, laid := [("glosswright/glosswrightlaw2.none", laid_glosswright_glosswrightlaw2_none)], narrowed := true }
def QuantityOfSameUptoSaid : Prop := quantityOfSameUptoRow.holds Tryd.pinned (OpenSpec.upto quantityOfSameSpec)

/-- 'glosswrightlaw2.EventMergeUndoes', WHERE WHAT IT READS IS OF BULK AT MOST 1048576: true; the input reads as it did. -/
def eventMergeUndoesUptoRow : OpenClaim := { program := "ytoicheicnbjfeaadoor", sum := "a10798c804bf7d099a8d460814afbf63b605563d887d159d067881d6ff851eb1", func := "glosswright/glosswrightlaw2.EventMergeUndoes", spec := "eventMergeUndoes", unfollowed := true, recurses := true, named := ["glosswright/glosswrightlaw2.none", "internal/strconv.uint64pow10", "math/bits.deBruijn32tab", "math/bits.deBruijn64tab"], loops := true, apart := false, laid := [("math/bits.deBruijn32tab", laid_math_bits_deBruijn32tab), ("math/bits.deBruijn64tab", laid_math_bits_deBruijn64tab), ("internal/strconv.uint64pow10", laid_internal_strconv_uint64pow10), ("glosswright/glosswrightlaw2.none", laid_glosswright_glosswrightlaw2_none)], narrowed := true }
def EventMergeUndoesUptoSaid : Prop := eventMergeUndoesUptoRow.holds Tryd.pinned (OpenSpec.upto eventMergeUndoesSpec)

/-- 'glosswrightlaw2.ScopeFromMatchesSpec', WHERE WHAT IT READS IS OF BULK AT MOST 1048576: true; the input reads as it did. -/
def scopeFromMatchesSpecUptoRow : OpenClaim := { program := "ytoicheicnbjfeaadoor", sum := "a10798c804bf7d099a8d460814afbf63b605563d887d159d067881d6ff851eb1", func := "glosswright/glosswrightlaw2.ScopeFromMatchesSpec", spec := "scopeFromMatchesSpec", unfollowed := true, recurses := true, named := ["glosswright/glosswrightlaw2.none", "internal/strconv.uint64pow10", "math/bits.deBruijn32tab", "math/bits.deBruijn64tab"], loops := true, apart := false, laid := [("math/bits.deBruijn32tab", laid_math_bits_deBruijn32tab), ("math/bits.deBruijn64tab", laid_math_bits_deBruijn64tab), ("internal/strconv.uint64pow10", laid_internal_strconv_uint64pow10), ("glosswright/glosswrightlaw2.none", laid_glosswright_glosswrightlaw2_none)], narrowed := true }
def ScopeFromMatchesSpecUptoSaid : Prop := scopeFromMatchesSpecUptoRow.holds Tryd.pinned (OpenSpec.upto scopeFromMatchesSpecSpec)

/-- 'glosswrightlaw2.EventModifiersMatchSpec', WHERE WHAT IT READS IS OF BULK AT MOST 1048576: true; the input reads as it did. -/
def eventModifiersMatchSpecUptoRow : OpenClaim := { program := "ytoicheicnbjfeaadoor", sum := "a10798c804bf7d099a8d460814afbf63b605563d887d159d067881d6ff851eb1", func := "glosswright/glosswrightlaw2.EventModifiersMatchSpec", spec := "eventModifiersMatchSpec", unfollowed := true, recurses := true, named := ["glosswright/glosswrightlaw2.none", "internal/strconv.uint64pow10", "math/bits.deBruijn32tab", "math/bits.deBruijn64tab"], loops := true, apart := false, laid := [("math/bits.deBruijn32tab", laid_math_bits_deBruijn32tab), ("math/bits.deBruijn64tab", laid_math_bits_deBruijn64tab), ("internal/strconv.uint64pow10", laid_internal_strconv_uint64pow10), ("glosswright/glosswrightlaw2.none", laid_glosswright_glosswrightlaw2_none)], narrowed := true }
def EventModifiersMatchSpecUptoSaid : Prop := eventModifiersMatchSpecUptoRow.holds Tryd.pinned (OpenSpec.upto eventModifiersMatchSpecSpec)

/-- 'glosswrightlaw2.EventDropUndoes', WHERE WHAT IT READS IS OF BULK AT MOST 1048576: true; the input reads as it did. -/
def eventDropUndoesUptoRow : OpenClaim := { program := "ytoicheicnbjfeaadoor", sum := "a10798c804bf7d099a8d460814afbf63b605563d887d159d067881d6ff851eb1", func := "glosswright/glosswrightlaw2.EventDropUndoes", spec := "eventDropUndoes", unfollowed := true, recurses := true, named := ["glosswright/glosswrightlaw2.none", "internal/strconv.uint64pow10", "math/bits.deBruijn32tab", "math/bits.deBruijn64tab"], loops := true, apart := false, laid := [("math/bits.deBruijn32tab", laid_math_bits_deBruijn32tab), ("math/bits.deBruijn64tab", laid_math_bits_deBruijn64tab), ("internal/strconv.uint64pow10", laid_internal_strconv_uint64pow10), ("glosswright/glosswrightlaw2.none", laid_glosswright_glosswrightlaw2_none)], narrowed := true }
def EventDropUndoesUptoSaid : Prop := eventDropUndoesUptoRow.holds Tryd.pinned (OpenSpec.upto eventDropUndoesSpec)

/-- 'glosswrightlaw2.DiscourseMatchesSpec', WHERE WHAT IT READS IS OF BULK AT MOST 1048576: true; the input reads as it did. -/
def discourseMatchesSpecUptoRow : OpenClaim := { program := "ytoicheicnbjfeaadoor", sum := "a10798c804bf7d099a8d460814afbf63b605563d887d159d067881d6ff851eb1", func := "glosswright/glosswrightlaw2.DiscourseMatchesSpec", spec := "discourseMatchesSpec", unfollowed := true, recurses := true, named := ["glosswright/glosswrightlaw2.none", "internal/strconv.uint64pow10", "math/bits.deBruijn32tab", "math/bits.deBruijn64tab"], loops := true, apart := false, laid := [("math/bits.deBruijn32tab", laid_math_bits_deBruijn32tab), ("math/bits.deBruijn64tab", laid_math_bits_deBruijn64tab), ("internal/strconv.uint64pow10", laid_internal_strconv_uint64pow10), ("glosswright/glosswrightlaw2.none", laid_glosswright_glosswrightlaw2_none)], narrowed := true }
def DiscourseMatchesSpecUptoSaid : Prop := discourseMatchesSpecUptoRow.holds Tryd.pinned (OpenSpec.upto discourseMatchesSpecSpec)

/-- 'glosswrightlaw2.PluralEachIsTrueOfEach', WHERE WHAT IT READS IS OF BULK AT MOST 1048576: true; the input reads as it did. -/
def pluralEachIsTrueOfEachUptoRow : OpenClaim := { program := "ytoicheicnbjfeaadoor", sum := "a10798c804bf7d099a8d460814afbf63b605563d887d159d067881d6ff851eb1", func := "glosswright/glosswrightlaw2.PluralEachIsTrueOfEach", spec := "pluralEachIsTrueOfEach", unfollowed := true, recurses := true, named := ["glosswright/glosswrightlaw2.none", "internal/strconv.uint64pow10", "math/bits.deBruijn32tab", "math/bits.deBruijn64tab"], loops := true, apart := false, laid := [("math/bits.deBruijn32tab", laid_math_bits_deBruijn32tab), ("math/bits.deBruijn64tab", laid_math_bits_deBruijn64tab), ("internal/strconv.uint64pow10", laid_internal_strconv_uint64pow10), ("glosswright/glosswrightlaw2.none", laid_glosswright_glosswrightlaw2_none)], narrowed := true }
def PluralEachIsTrueOfEachUptoSaid : Prop := pluralEachIsTrueOfEachUptoRow.holds Tryd.pinned (OpenSpec.upto pluralEachIsTrueOfEachSpec)

/-- 'glosswrightlaw2.PluralEachIsCumulative', WHERE WHAT IT READS IS OF BULK AT MOST 1048576: true; the input reads as it did. -/
def pluralEachIsCumulativeUptoRow : OpenClaim := { program := "ytoicheicnbjfeaadoor", sum := "a10798c804bf7d099a8d460814afbf63b605563d887d159d067881d6ff851eb1", func := "glosswright/glosswrightlaw2.PluralEachIsCumulative", spec := "pluralEachIsCumulative", unfollowed := true, recurses := true, named := ["glosswright/glosswrightlaw2.none", "internal/strconv.uint64pow10", "math/bits.deBruijn32tab", "math/bits.deBruijn64tab"], apart := false, laid := [("math/bits.deBruijn32tab", laid_math_bits_deBruijn32tab), ("math/bits.deBruijn64tab", laid_math_bits_deBruijn64tab), ("internal/strconv.uint64pow10", laid_internal_strconv_uint64pow10), ("glosswright/glosswrightlaw2.none", laid_glosswright_glosswrightlaw2_none)], narrowed := true }
def PluralEachIsCumulativeUptoSaid : Prop := pluralEachIsCumulativeUptoRow.holds Tryd.pinned (OpenSpec.upto pluralEachIsCumulativeSpec)

end Rows
end Go.Proofs.YtoicheicnbjfeaaDoor
