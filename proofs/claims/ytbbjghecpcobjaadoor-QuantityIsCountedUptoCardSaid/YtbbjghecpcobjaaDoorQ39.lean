import Derived.Test.YtbbjghecpcobjaaDoorAT
import Derived.Test.YtbbjghecpcobjaaDoorY3
set_option linter.unusedSimpArgs false
namespace Go.Abs
open Go
/-! the rows of the document's cumulative formula -/
def cumT (pred : Str) (a b : List Str) (k i j : Nat) : List Abs.Form := if i = k ∨ j + a.length = k then [holdsM pred (a.getD i default) (b.getD j default)] else []
def cumL (pred : Str) (a b : List Str) (k i j : Nat) : List Abs.Form := (List.range i).flatMap (fun i' => (List.range b.length).flatMap (cumT pred a b k i')) ++ (List.range j).flatMap (cumT pred a b k i)
def cumC (pred : Str) (a b : List Str) : List Abs.Form := a.map (rowA pred b) ++ b.map (rowB pred a)
end Go.Abs
namespace Go.Proofs.YtbbjghecpcobjaaDoor
open Go Go.Abs Go.Proofs

/-! ## the document's cumulative formula -/
def tree5413 : Tv := (.q 0 (.q 1 (.q 2 (.q 3 (.q 4 (.q 5 (.q 6 (.q 7 (.q 8 (.q 9 (.q 10 (.q 11 (.q 12 (.br [(13, (.q 14 .leaf))]))))))))))))))
def cumPre (_ : Str) (a b : List Str) : Prop := 1 ≤ a.length ∧ a.length ≤ 5 ∧ 1 ≤ b.length ∧ b.length ≤ 5
def R26 : Tbl := R25
attribute [go_sem] R26
end Go.Proofs.YtbbjghecpcobjaaDoor
