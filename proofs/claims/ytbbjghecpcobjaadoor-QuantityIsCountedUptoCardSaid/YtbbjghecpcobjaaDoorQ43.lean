import Derived.Test.YtbbjghecpcobjaaDoorAT
import Derived.Test.YtbbjghecpcobjaaDoorQ42
set_option linter.unusedSimpArgs false
namespace Go.Abs
open Go
/-! the differences of the document, as they are made -/
def refD (v : Nat → Str) (n k : Nat) : List Abs.Form := ((List.range k).filter fun k => decide (k / n < k % n)).map fun k => notF (.mk 3 ⟨[]⟩ [v (k / n), v (k % n)] [])
end Go.Abs
namespace Go.Proofs.YtbbjghecpcobjaaDoor
open Go Go.Abs Go.Proofs

/-! ## the document's Least -/
def tree477 : Tv := (.q 0 (.q 1 (.q 2 (.q 3 (.q 4 (.q 5 (.q 6 (.q 7 (.q 8 (.q 9 (.br [(10, (.q 11 .leaf))])))))))))))
def tree4711 : Tv := (.q 0 (.q 1 (.q 2 (.q 3 (.q 4 (.q 5 (.q 6 .leaf)))))))
def tree4712 : Tv := (.q 0 (.q 1 (.q 2 (.q 3 (.q 4 (.q 5 (.q 6 (.q 7 (.q 8 (.q 9 (.q 10 (.q 11 (.br [(12, (.br [(13, .leaf)]))])))))))))))))
def tree4718 : Tv := (.q 0 (.q 1 (.q 2 (.q 3 (.q 4 (.q 5 (.br [(6, .leaf)])))))))
def R37 : Tbl := R36
attribute [go_sem] R37
theorem hR37 : TblOk Tryd.prog GA R37 := hR36
end Go.Proofs.YtbbjghecpcobjaaDoor
