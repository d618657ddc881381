/- several texts of this proof in one; no conditions -/
import Derived.Test.YtkkffhphodngkaaDoorAT
import Derived.Test.YtkkffhphodngkaaDoorY4
import Derived.Test.YtkkffhphodngkaaDoorVP
set_option linter.unusedSimpArgs false
namespace Go.Proofs.YtkkffhphodngkaaDoor
open Go Go.Abs Go.Proofs
section
variable {G:Nat→List FD}
def B25:Tbl:=B24
attribute [go_sem] B25
theorem zHa:zan Tryd.prog G B25:=zG9
end
section
variable {G:Nat→List FD}
def B26:Tbl:=B25
attribute [go_sem] B26
theorem zEL:zan Tryd.prog G B26:=zHa
def B27:Tbl:=B26.add 11 (sp1 zxb fun _=>True)
attribute [go_sem] B27
set_option maxRecDepth 100000 in
set_option maxHeartbeats 1000000 in
theorem zHb:zan Tryd.prog G B27:=by
 refine zb4 zB2 zEL fun f _ _=>?_
 simp only[zxb]
 refine zah (N:=6) hm (G:=G) zEL 11000 (lst []) zB2 Tryd.func11 rfl rfl (by simp) (by kernel_rfl) ?_
 repeat'(first|refine rq fun _=>?_|simp only[go_sem,zad,Tryd.f11])
end
end Go.Proofs.YtkkffhphodngkaaDoor
namespace Go.Abs
open Go
structure zJo (T n0:Nat)(X:zcD)(i:Int)(inv:Nat→Prop) where
 k:Nat
 c:Int
 m:Nat
 hm:n0≤m
 h:(c=0∧k≤T∧inv k)∨(c≠0∧X=⟨c,i⟩)
end Go.Abs
namespace Go.Proofs.YtkkffhphodngkaaDoor
open Go Go.Abs Go.Proofs
section
variable {G:Nat→List FD}
def A22:Tbl:=A21
attribute [go_sem] A22
theorem zG6:zan Tryd.prog G A22:=zwG
end
end Go.Proofs.YtkkffhphodngkaaDoor
