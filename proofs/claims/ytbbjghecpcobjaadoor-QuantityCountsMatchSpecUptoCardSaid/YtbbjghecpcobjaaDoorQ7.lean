import Derived.Test.YtbbjghecpcobjaaDoorAT
import Derived.Test.YtbbjghecpcobjaaDoorQ6
set_option linter.unusedSimpArgs false
namespace Go.Proofs.YtbbjghecpcobjaaDoor
open Go Go.Abs Go.Proofs

def Q17 : Tbl := Q16.add 120 (sp1 boxesK fun _ => True)
attribute [go_sem] Q17
set_option maxRecDepth 100000 in
set_option maxHeartbeats 1000000 in
theorem hQ17 : TblOk Tryd.prog G0 Q17 := by
  refine sp1_ok ok120 hQ16 fun k _ hs => ?_
  refine Wcall_K (N := 13) hm hQ16 120000 (lst []) ok120 Tryd.func120 rfl rfl (by simp) (by kernel_rfl) ?_
  repeat' (first | refine CondK.d (fun _ => ?_) (fun _ => ?_) | refine rq fun _ => ?_ | simp only [go_sem, Tryd.f120, *])
  all_goals (unfold boxesK; first | rw [if_pos (by omega)] | rw [if_neg (by omega), if_pos (by omega)] | rw [if_neg (by omega), if_neg (by omega), if_pos (by omega)] | rw [if_neg (by omega), if_neg (by omega), if_neg (by omega)])

theorem noForm_eq {f : Abs.Form} : noForm f = decide (f.kind = 0 ∧ f.name.l = [] ∧ (f.words.length : Int) = 0 ∧ (f.subs.length : Int) = 0) := by
  have e1 : ((f.words.length : Int) = 0) = (f.words.length = 0) := propext (by omega)
  have e2 : ((f.subs.length : Int) = 0) = (f.subs.length = 0) := propext (by omega)
  unfold noForm
  rw [Bool.eq_iff_iff]
  simp only [e1, e2, Bool.and_eq_true, decide_eq_true_eq, str_nil, and_assoc]
def Q18 : Tbl := Q17.add 121 (sp1 noForm fun _ => True)
attribute [go_sem] Q18
set_option maxRecDepth 100000 in
set_option maxHeartbeats 1000000 in
theorem hQ18 : TblOk Tryd.prog G0 Q18 := by
  refine sp1_ok ok121 hQ17 fun f _ hs => ?_
  refine Wcall_K (N := 23) hm hQ17 121000 (lst []) ok121 Tryd.func121 rfl rfl (by simp) (by kernel_rfl) ?_
  repeat' (first | refine CondK.d (fun _ => ?_) (fun _ => ?_) | refine rq fun _ => ?_ | simp only [go_sem, Tryd.f121, *])
  all_goals simp only [noForm_eq, *, true_and, false_and, decide_false]
end Go.Proofs.YtbbjghecpcobjaaDoor
