import Derived.Test.YtbbjghecpcobjaaDoorAT
import Derived.Test.YtbbjghecpcobjaaDoorQ4
set_option linter.unusedSimpArgs false
namespace Go.Proofs.YtbbjghecpcobjaaDoor
open Go Go.Abs Go.Proofs

def Q12 : Tbl := Q11.add 135 (sp1 subsK fun _ => True)
attribute [go_sem] Q12
set_option maxRecDepth 100000 in
set_option maxHeartbeats 1000000 in
theorem hQ12 : TblOk Tryd.prog G0 Q12 := by
  refine sp1_ok ok135 hQ11 fun k _ hs => ?_
  refine Wcall_K (N := 13) hm hQ11 135000 (lst []) ok135 Tryd.func135 rfl rfl (by simp) (by kernel_rfl) ?_
  by_cases h : 1 ≤ k ∧ k ≤ 9
  · have hk : k = 1 ∨ k = 2 ∨ k = 3 ∨ k = 4 ∨ k = 5 ∨ k = 6 ∨ k = 7 ∨ k = 8 ∨ k = 9 := by omega
    rcases hk with rfl | rfl | rfl | rfl | rfl | rfl | rfl | rfl | rfl
    all_goals
      repeat' (first | refine rq fun _ => ?_ | simp only [go_sem, Tryd.f135, subsK])
  · have e : subsK k = -1 := by unfold subsK; rw [if_neg (by omega), if_neg (by omega), if_neg (by omega)]
    repeat' (first | refine CondK.d (fun _ => ?_) (fun _ => ?_) | refine rq fun _ => ?_ | simp only [go_sem, Tryd.f135, e, *])
    all_goals (exfalso; omega)

def Q13 : Tbl := Q12
attribute [go_sem] Q13
theorem hQ13 : TblOk Tryd.prog G0 Q13 := hQ12
end Go.Proofs.YtbbjghecpcobjaaDoor
