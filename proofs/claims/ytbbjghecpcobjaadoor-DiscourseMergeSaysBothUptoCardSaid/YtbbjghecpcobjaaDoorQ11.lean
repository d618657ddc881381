import Derived.Test.YtbbjghecpcobjaaDoorAT
import Derived.Test.YtbbjghecpcobjaaDoorQ10
set_option linter.unusedSimpArgs false
namespace Go.Proofs.YtbbjghecpcobjaaDoor
open Go Go.Abs Go.Proofs

def Q22 : Tbl := Q21
attribute [go_sem] Q22
theorem hQ22 : TblOk Tryd.prog G0 Q22 := hQ21
end Go.Proofs.YtbbjghecpcobjaaDoor
