import Derived.Test.YtbbjghecpcobjaaDoorAT
import Derived.Test.YtbbjghecpcobjaaDoorQ5
set_option linter.unusedSimpArgs false
namespace Go.Proofs.YtbbjghecpcobjaaDoor
open Go Go.Abs Go.Proofs

def refsOf (l : List Abs.Box) : List Str := l.flatMap Box.refs
def Q14 : Tbl := Q13
attribute [go_sem] Q14
theorem hQ14 : TblOk Tryd.prog G0 Q14 := hQ13
def predM (nm : Str) (w : List Str) : Abs.Form := .mk 2 nm w []
def Q15 : Tbl := Q14.add 11 (sp2 predM fun _ _ => True)
attribute [go_sem] Q15
set_option maxRecDepth 100000 in
set_option maxHeartbeats 1000000 in
theorem hQ15 : TblOk Tryd.prog G0 Q15 := by
  refine sp2_ok ok11 hQ14 fun nm w _ _ hs => ?_
  refine Wcall_K (N := 8) hm hQ14 11000 (lst []) ok11 Tryd.func11 rfl rfl (by simp) (by kernel_rfl) ?_
  repeat' (first | refine rq fun _ => ?_ | simp only [go_sem, Tryd.f11, predM])

def sX : Str := ⟨[120]⟩
def sY : Str := ⟨[121]⟩
def sDog : Str := ⟨[100, 111, 103]⟩
def saidM : Abs.Box := .mk [sX, sY] [.mk 1 ⟨[]⟩ (predM sDog [sX]) [], .mk 5 sY (predM sDog []) []]
def Q16 : Tbl := Q15
attribute [go_sem] Q16
theorem hQ16 : TblOk Tryd.prog G0 Q16 := hQ15
end Go.Proofs.YtbbjghecpcobjaaDoor
