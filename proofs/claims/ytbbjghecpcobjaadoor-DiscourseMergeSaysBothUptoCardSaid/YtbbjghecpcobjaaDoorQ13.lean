import Derived.Test.YtbbjghecpcobjaaDoorAT
import Derived.Test.YtbbjghecpcobjaaDoorQ12
set_option linter.unusedSimpArgs false
namespace Go.Proofs.YtbbjghecpcobjaaDoor
open Go Go.Abs Go.Proofs

def Q23 : Tbl := Q22
attribute [go_sem] Q23
theorem hQ23 : TblOk Tryd.prog G0 Q23 := hQ22
/-! ## what is accessible; a view is a box of referents and conditions -/
def withM (v b : Abs.Box) : Abs.Box := .mk (v.refs ++ b.refs) (v.conds ++ b.conds)
@[go_sem] theorem withM_refs {v b : Abs.Box} : (withM v b).refs = v.refs ++ b.refs := rfl
@[go_sem] theorem withM_conds {v b : Abs.Box} : (withM v b).conds = v.conds ++ b.conds := rfl
def innerM (v : Abs.Box) (c : Abs.Cond) (k : Int) : Abs.Box := if c.kind = 3 ∧ k = 1 then withM v (c.boxes.getD 0 noB) else v
def Q24 : Tbl := Q23
attribute [go_sem] Q24
theorem hQ24 : TblOk Tryd.prog G0 Q24 := hQ23
def Q25 : Tbl := Q24
attribute [go_sem] Q25
theorem hQ25 : TblOk Tryd.prog G0 Q25 := hQ24
end Go.Proofs.YtbbjghecpcobjaaDoor
