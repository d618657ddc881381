import Derived.Test.YtkkffhphodngkaaDoorAT
import Derived.Test.YtkkffhphodngkaaDoorY4
import Derived.Test.YtkkffhphodngkaaDoorVP
set_option linter.unusedSimpArgs false
namespace Go.Proofs.YtkkffhphodngkaaDoor
open Go Go.Abs Go.Proofs
section
variable {G:Nat→List FD}
def B25:Tbl:=B24
attribute [go_sem] B25
theorem zFM:zap Tryd.prog G B25:=zFL
end
section
variable {G:Nat→List FD}
def B26:Tbl:=B25
attribute [go_sem] B26
theorem zDt:zap Tryd.prog G B26:=zFM
def B27:Tbl:=B26.add 11 (sp1 zy9 fun _=>True)
attribute [go_sem] B27
set_option maxRecDepth 100000 in
set_option maxHeartbeats 1000000 in
theorem zFN:zap Tryd.prog G B27:=by
 refine zb6 zAM zDt fun f _ _=>?_
 simp only[zy9]
 refine zah (N:=6) hm (G:=G) zDt 11000 (lst []) zAM Tryd.func11 rfl rfl (by simp) (by kernel_rfl) ?_
 repeat'(first|refine rq fun _=>?_|simp only[go_sem,zag,Tryd.f11])
end
end Go.Proofs.YtkkffhphodngkaaDoor
