import Derived.Test.YtkkffhphodngkaaDoorAT
import Derived.Test.YtkkffhphodngkaaDoorQ88
import Derived.Test.YtkkffhphodngkaaDoorQ86
import Derived.Test.YtkkffhphodngkaaDoorY2
set_option linter.unusedSimpArgs false
namespace Go.Proofs.YtkkffhphodngkaaDoor
open Go Go.Abs Go.Proofs
section
variable {G:Nat→List FD}
def E1:Tbl:=Tbl.or B27 A22
attribute [go_sem] E1
theorem hE1:zap Tryd.prog G E1:=zmZ zFN zFI
def E2:Tbl:=E1
attribute [go_sem] E2
theorem hE2:zap Tryd.prog G E2:=hE1
def E3:Tbl:=E2
attribute [go_sem] E3
theorem hE3:zap Tryd.prog G E3:=hE2
end
end Go.Proofs.YtkkffhphodngkaaDoor
