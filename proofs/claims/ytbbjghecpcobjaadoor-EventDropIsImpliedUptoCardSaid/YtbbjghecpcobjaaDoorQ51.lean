import Derived.Test.YtbbjghecpcobjaaDoorAT
import Derived.Test.YtbbjghecpcobjaaDoorY3
import Derived.Test.YtbbjghecpcobjaaDoorEV
set_option linter.unusedSimpArgs false
namespace Go.Proofs.YtbbjghecpcobjaaDoor
open Go Go.Abs Go.Proofs

/-! ## small functions of the package event, and of the document -/
def V29 : Tbl := R28.add 68 (sp2 predM fun _ _ => True)
attribute [go_sem] V29
set_option maxRecDepth 100000 in
set_option maxHeartbeats 1000000 in
theorem hV29 : TblOk Tryd.prog GA V29 := by
  refine sp2_ok ok68 hR28 fun nm w _ _ hs => ?_
  refine Wcall_K (N := 8) hm hR28 68000 (lst []) ok68 Tryd.func68 rfl rfl (by simp) (by kernel_rfl) ?_
  repeat' (first | refine rq fun _ => ?_ | simp only [go_sem, Tryd.f68, predM])
def V30 : Tbl := V29.add 110 (sp2 andF fun _ _ => True)
attribute [go_sem] V30
set_option maxRecDepth 100000 in
set_option maxHeartbeats 1000000 in
theorem hV30 : TblOk Tryd.prog GA V30 := by
  refine sp2_ok ok110 hV29 fun f g _ _ _ => ?_
  simp only [andF]
  refine Wcall_K (N := 9) hm hV29 110000 (lst []) ok110 Tryd.func110 rfl rfl (by simp) (by kernel_rfl) ?_
  repeat' (first | refine rq fun _ => ?_ | simp only [go_sem, form_eta, Tryd.f110])
def argI (i : Int) : Str := argS i.toNat
def V31 : Tbl := V30
attribute [go_sem] V31
theorem hV31 : TblOk Tryd.prog GA V31 := hV30
def V32 : Tbl := V31
attribute [go_sem] V32
theorem hV32 : TblOk Tryd.prog GA V32 := hV31
def V33 : Tbl := V32.add 63 (sp1p (fun f : Abs.Form => (doneF f, doneE f)) szPre)
attribute [go_sem] V33
set_option maxRecDepth 100000 in
set_option maxHeartbeats 1000000 in
theorem hV33 : TblOk Tryd.prog GA V33 := by
  refine sp1p_ok ok63 hV32 fun f hpre hw => ?_
  cases hf : fitsM f with
  | true =>
    have h1 := of_decide_eq_true hf
    have hp : f.fit = true ∧ f.size ≤ 1000 := ⟨hpre.1, by omega⟩
    have e1 : doneF f = canonM f [] := by unfold doneF; rw [if_pos hf]
    have e2 : doneE f = ⟨0, 0⟩ := by unfold doneE; rw [if_pos hf]
    obtain ⟨c, hc⟩ : ∃ c, canonM f [] = c := ⟨_, rfl⟩
    simp only [e1, e2, hc]
    refine Wcall_K (N := 12) hm hV32 63000 (lst []) ok63 Tryd.func63 rfl rfl (by simp) (by kernel_rfl) ?_
    repeat' (first | refine ReqK.i hpre fun _ => ?_ | refine ReqK.i hp fun _ => ?_ | refine rq fun _ => ?_ | simp only [go_sem, hf, hc, form_eta, Tryd.f63])
  | false =>
    have e1 : doneF f = zeroF := by unfold doneF; rw [if_neg (by simp [hf])]
    have e2 : doneE f = ⟨1, -1⟩ := by unfold doneE; rw [if_neg (by simp [hf])]
    simp only [e1, e2, zeroF]
    refine Wcall_K (N := 12) hm hV32 63000 (lst []) ok63 Tryd.func63 rfl rfl (by simp) (by kernel_rfl) ?_
    repeat' (first | refine ReqK.i hpre fun _ => ?_ | refine rq fun _ => ?_ | simp only [go_sem, hf, form_eta, Tryd.f63])
end Go.Proofs.YtbbjghecpcobjaaDoor
