import Derived.Test.YtdlioodgfopmfaaDoorAT
import Derived.Test.YtdlioodgfopmfaaDoorQ114
import Derived.Test.YtdlioodgfopmfaaDoorQ115B
set_option linter.unusedSimpArgs false
namespace Go.Proofs.YtdlioodgfopmfaaDoor
open Go Go.Abs Go.Proofs

/-! ## Check -/
def treeCk : Tv := (.q 0 (.q 1 (.br [(2, .leaf)])))
def Y11 : Tbl := Y10.add 8 (sp3p chkP fun _ _ _ => True)
attribute [go_sem] Y11
set_option maxRecDepth 100000 in
set_option maxHeartbeats 1000000 in
set_option maxHeartbeats 4000000 in
theorem hY11 : TblOk Tryd.prog GA Y11 := by
  refine sp3p_ok ok8 hY10 fun ax g p _ _ _ _ => ?_
  by_cases h0 : (beginP ax g).2.code = 0
  rotate_left
  · have e : chkP ax g p = (false, (beginP ax g).2) := by unfold chkP; rw [if_pos h0]
    obtain ⟨a, X, hX⟩ : ∃ a X, beginP ax g = (a, X) := ⟨_, _, rfl⟩
    rw [hX] at e h0
    simp only at e h0
    rw [e]
    refine Wcall_K (N := 28) hm hY10 8000 (lst [1000003]) ok8 Tryd.func8 rfl rfl (by simp) (by kernel_rfl) ?_
    repeat' (first | refine WK_drawV (id := 3) hm hY10 8000 (lst [1000003]) treeCk (by kernel_rfl) (by kernel_rfl) ?_ | refine And.intro ?_ ?_ | exact True.intro | refine rq fun _ => ?_ | simp only [go_sem, hX, h0, form_eta, prf_eta, treeCk, Tryd.f8])
  obtain ⟨hb, hl, hax, hg⟩ := begin_ok h0
  have hcn : (0 : Int) ≤ 0 ∧ (0 : Int) ≤ 2000 := by decide
  obtain ⟨c, hcc⟩ : ∃ c, cntK p 0 = c := ⟨_, rfl⟩
  have hbd : c ≤ 2001 := by rw [← hcc]; exact (cntK_le p 0 (by decide)).2
  have hb0 : 1 ≤ c := by rw [← hcc]; have := (cntK_le p 0 (by decide)).1; omega
  by_cases h : 2000 < c
  · have e : chkP ax g p = (false, ⟨1, -3⟩) := by unfold chkP; rw [if_neg (by simp [h0]), hcc, if_pos h]
    rw [e]
    refine Wcall_K (N := 28) hm hY10 8000 (lst [1000003]) ok8 Tryd.func8 rfl rfl (by simp) (by kernel_rfl) ?_
    repeat' (first | refine ReqK.i hcn fun _ => ?_ | refine And.intro ?_ ?_ | exact True.intro | refine rq fun _ => ?_ | simp only [go_sem, hb, hcc, h, form_eta, prf_eta, Tryd.f8])
  · have e : chkP ax g p = (chkM p (branch1 ax g), ⟨0, 0⟩) := by unfold chkP; rw [if_neg (by simp [h0]), hcc, if_neg h]
    have hpre : ckPreY (branch1 ax g) p := ⟨branch1_br hax hg, by
      have hz := cntK_size p 0 (by rw [hcc]; omega)
      unfold branch1
      rw [List.length_append, canL_len, List.length_singleton]
      omega⟩
    obtain ⟨L, hL⟩ : ∃ L, branch1 ax g = L := ⟨_, rfl⟩
    rw [hL] at e hb hpre
    obtain ⟨B, hB⟩ : ∃ B, chkM p L = B := ⟨_, rfl⟩
    rw [hB] at e
    rw [e]
    refine Wcall_K (N := 28) hm hY10 8000 (lst [1000003]) ok8 Tryd.func8 rfl rfl (by simp) (by kernel_rfl) ?_
    repeat' (first | refine ReqK.i hcn fun _ => ?_ | refine ReqK.i hpre fun _ => ?_ | refine And.intro ?_ ?_ | exact True.intro | refine rq fun _ => ?_ | simp only [go_sem, hb, hcc, h, hB, form_eta, prf_eta, Tryd.f8])
end Go.Proofs.YtdlioodgfopmfaaDoor
