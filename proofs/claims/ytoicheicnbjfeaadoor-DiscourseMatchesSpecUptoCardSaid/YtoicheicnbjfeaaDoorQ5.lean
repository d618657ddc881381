import Derived.Test.YtoicheicnbjfeaaDoorAT
import Derived.Test.YtoicheicnbjfeaaDoorQ4
set_option linter.unusedSimpArgs false
namespace Go.Proofs.YtoicheicnbjfeaaDoor
open Go Go.Abs Go.Proofs

def Q12 : Tbl := Q11.add 168 (sp1 subsK fun _ => True)
set_option maxRecDepth 100000 in
set_option maxHeartbeats 1000000 in
theorem hQ12 : TblOk Tryd.prog G0 Q12 := by
  refine sp1_ok ok168 hQ11 fun k _ hs => ?_
  refine Wcall_K (N := 13) hm hQ11 168000 (lst []) ok168 Tryd.func168 rfl rfl (by simp) (by kernel_rfl) ?_
  by_cases h : 1 ≤ k ∧ k ≤ 9
  · have hk : k = 1 ∨ k = 2 ∨ k = 3 ∨ k = 4 ∨ k = 5 ∨ k = 6 ∨ k = 7 ∨ k = 8 ∨ k = 9 := by omega
    rcases hk with rfl | rfl | rfl | rfl | rfl | rfl | rfl | rfl | rfl
    all_goals
      repeat' (first | refine ReqK.i (by omega) fun _ => ?_ | refine ReqK.i (by unfold maxL; omega) fun _ => ?_ | simp only [go_sem, Tryd.f168, subsK])
  · have e : subsK k = -1 := by unfold subsK; rw [if_neg (by omega), if_neg (by omega), if_neg (by omega)]
    repeat' (first | refine CondK.d (fun _ => ?_) (fun _ => ?_) | refine ReqK.i (by omega) fun _ => ?_ | simp only [go_sem, Tryd.f168, e, *])
    all_goals (exfalso; omega)

def Q13 : Tbl := Q12.add 147 (sp1 boxesK fun _ => True)
set_option maxRecDepth 100000 in
set_option maxHeartbeats 1000000 in
theorem hQ13 : TblOk Tryd.prog G0 Q13 := by
  refine sp1_ok ok147 hQ12 fun k _ hs => ?_
  refine Wcall_K (N := 13) hm hQ12 147000 (lst []) ok147 Tryd.func147 rfl rfl (by simp) (by kernel_rfl) ?_
  by_cases h : 1 ≤ k ∧ k ≤ 6
  · have hk : k = 1 ∨ k = 2 ∨ k = 3 ∨ k = 4 ∨ k = 5 ∨ k = 6 := by omega
    rcases hk with rfl | rfl | rfl | rfl | rfl | rfl
    all_goals
      repeat' (first | refine ReqK.i (by omega) fun _ => ?_ | refine ReqK.i (by unfold maxL; omega) fun _ => ?_ | simp only [go_sem, Tryd.f147, boxesK])
  · have e : boxesK k = -1 := by unfold boxesK; rw [if_neg (by omega), if_neg (by omega), if_neg (by omega)]
    repeat' (first | refine CondK.d (fun _ => ?_) (fun _ => ?_) | refine ReqK.i (by omega) fun _ => ?_ | simp only [go_sem, Tryd.f147, e, *])
    all_goals (exfalso; omega)
end Go.Proofs.YtoicheicnbjfeaaDoor
