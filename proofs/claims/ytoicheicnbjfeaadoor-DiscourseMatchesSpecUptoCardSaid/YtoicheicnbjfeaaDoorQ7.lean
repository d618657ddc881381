import Derived.Test.YtoicheicnbjfeaaDoorAT
import Derived.Test.YtoicheicnbjfeaaDoorQ6
set_option linter.unusedSimpArgs false
namespace Go.Proofs.YtoicheicnbjfeaaDoor
open Go Go.Abs Go.Proofs

def Q17 : Tbl := Q16.add 73 (sp1 boxesK fun _ => True)
set_option maxRecDepth 100000 in
set_option maxHeartbeats 1000000 in
theorem hQ17 : TblOk Tryd.prog G0 Q17 := by
  refine sp1_ok ok73 hQ16 fun k _ hs => ?_
  refine Wcall_K (N := 13) hm hQ16 73000 (lst []) ok73 Tryd.func73 rfl rfl (by simp) (by kernel_rfl) ?_
  repeat' (first | refine CondK.d (fun _ => ?_) (fun _ => ?_) | refine ReqK.i (by omega) fun _ => ?_ | simp only [go_sem, Tryd.f73, *])
  all_goals (unfold boxesK; first | rw [if_pos (by omega)] | rw [if_neg (by omega), if_pos (by omega)] | rw [if_neg (by omega), if_neg (by omega), if_pos (by omega)] | rw [if_neg (by omega), if_neg (by omega), if_neg (by omega)])

theorem noForm_eq {f : Abs.Form} : noForm f = decide (f.kind = 0 ∧ f.name.l = [] ∧ (f.words.length : Int) = 0 ∧ (f.subs.length : Int) = 0) := by
  have e1 : ((f.words.length : Int) = 0) = (f.words.length = 0) := propext (by omega)
  have e2 : ((f.subs.length : Int) = 0) = (f.subs.length = 0) := propext (by omega)
  unfold noForm
  rw [Bool.eq_iff_iff]
  simp only [e1, e2, Bool.and_eq_true, decide_eq_true_eq, str_nil, and_assoc]
def Q18 : Tbl := Q17.add 74 (sp1 noForm fun _ => True)
set_option maxRecDepth 100000 in
set_option maxHeartbeats 1000000 in
theorem hQ18 : TblOk Tryd.prog G0 Q18 := by
  refine sp1_ok ok74 hQ17 fun f _ hs => ?_
  refine Wcall_K (N := 23) hm hQ17 74000 (lst []) ok74 Tryd.func74 rfl rfl (by simp) (by kernel_rfl) ?_
  repeat' (first | refine CondK.d (fun _ => ?_) (fun _ => ?_) | refine ReqK.i (by omega) fun _ => ?_ | simp only [go_sem, Tryd.f74, *])
  all_goals simp only [noForm_eq, *, true_and, false_and, decide_false]
end Go.Proofs.YtoicheicnbjfeaaDoor
