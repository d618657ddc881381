import Derived.Test.YtbbjghecpcobjaaDoorAT
import Derived.Test.YtbbjghecpcobjaaDoorQ3
set_option linter.unusedSimpArgs false
namespace Go.Proofs.YtbbjghecpcobjaaDoor
open Go Go.Abs Go.Proofs

def Q10 : Tbl := Q9.add 111 (sp2 (fun (f : Abs.Form) (op : Bool) => checkM op f) fun _ _ => True)
attribute [go_sem] Q10
set_option maxRecDepth 100000 in
set_option maxHeartbeats 1000000 in
theorem hQ10 : TblOk Tryd.prog G0 Q10 := by
  refine sp2_ok ok111 hQ9 fun f op _ hf _ => ?_
  refine Wcall_K (N := 11) hm hQ9 111000 (lst []) ok111 Tryd.func111 rfl rfl (by simp) (by kernel_rfl) ?_
  have h := f143 op f.size f 1 0 5 (fun _ => none) (Nat.le_refl _) hf (by omega) (by omega) (by omega) (by omega) (fun id o ho => nomatch ho)
  rw [enc_form] at h
  repeat' (first | refine rq fun _ => ?_ | simp only [go_sem, Tryd.f111])
  refine WcallK.i (Wcall_hd rfl (Wcall_toX (by simp only [go_sem, argL]) (by simp only [go_sem, HHc]) (fun id o ho => ?_) (Nat.le_refl _) (Wcall_mono h ?_)))
  · cases ho
  rintro d' H' n' ⟨rfl, e1, e2, e3⟩
  simp only [go_sem, HHc] at e2
  obtain ⟨b1, b2, b3, b4⟩ := e2
  rw [show H' = hpX [] H' from rfl]
  repeat' (first | refine rq fun _ => ?_ | simp only [go_sem, HHc, agg2, b4, checkM, Tryd.f111])

def Q11 : Tbl := Q10.add 71 (sp1 (fun (f : Abs.Form) => checkM false f) fun _ => True)
attribute [go_sem] Q11
set_option maxRecDepth 100000 in
set_option maxHeartbeats 1000000 in
theorem hQ11 : TblOk Tryd.prog G0 Q11 := by
  refine sp1_ok ok71 hQ10 fun f _ hf => ?_
  refine Wcall_K (N := 5) hm hQ10 71000 (lst []) ok71 Tryd.func71 rfl rfl (by simp) (by kernel_rfl) ?_
  repeat' (first | refine rq fun _ => ?_ | simp only [go_sem, Tryd.f71])
end Go.Proofs.YtbbjghecpcobjaaDoor
