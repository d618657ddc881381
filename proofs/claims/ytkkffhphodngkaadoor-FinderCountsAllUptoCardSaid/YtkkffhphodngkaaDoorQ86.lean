import Derived.Test.YtkkffhphodngkaaDoorAT
import Derived.Test.YtkkffhphodngkaaDoorY4
set_option linter.unusedSimpArgs false
namespace Go.Abs
open Go
structure zHY (T n0:Nat)(X:zcV)(i:Int)(inv:Nat→Prop) where
 k:Nat
 c:Int
 m:Nat
 hm:n0≤m
 h:(c=0∧k≤T∧inv k)∨(c≠0∧X=⟨c,i⟩)
end Go.Abs
namespace Go.Proofs.YtkkffhphodngkaaDoor
open Go Go.Abs Go.Proofs
section
variable {G:Nat→List FD}
def A22:Tbl:=A21
attribute [go_sem] A22
theorem zFI:zap Tryd.prog G A22:=zvu
end
end Go.Proofs.YtkkffhphodngkaaDoor
