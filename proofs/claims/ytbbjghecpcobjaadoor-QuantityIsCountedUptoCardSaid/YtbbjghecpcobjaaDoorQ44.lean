import Derived.Test.YtbbjghecpcobjaaDoorAT
import Derived.Test.YtbbjghecpcobjaaDoorQ43
set_option linter.unusedSimpArgs false
namespace Go.Proofs.YtbbjghecpcobjaaDoor
open Go Go.Abs Go.Proofs

/-! ## AtLeast, AtMost, Exactly -/
theorem leastP_ok {f : Abs.Form} {name : Str} {n : Nat} (h : n ≤ 4) (hc : (checkM false f).code = 0) : (leastP f name n).size ≤ 3000 ∧ (leastP f name n).fit = true :=
  leastG_ok h fun w => ⟨by rw [canonM_size]; exact checkM_size hc, by rw [canonM_fit]; exact checkM_fit hc⟩
theorem notF_ok {f : Abs.Form} (h : f.size ≤ 3000 ∧ f.fit = true) : szPre (notF f) := ⟨by simp [notF, Form.fit, Form.fits, h.2], by simp only [notF, Form.size, Form.sizes]; omega⟩
theorem andF_ok {f g : Abs.Form} (h : f.size ≤ 3000 ∧ f.fit = true) (h2 : g.size ≤ 3001 ∧ g.fit = true) : szPre (andF f g) := ⟨by simp [andF, Form.fit, Form.fits, h.2, h2.2], by simp only [andF, Form.size, Form.sizes]; omega⟩
theorem checkQ_ok {n : Int} {name : Str} {f : Abs.Form} (h : (checkQ n name f).code = 0) : checkQ n name f = ⟨0, 0⟩ ∧ 0 ≤ n ∧ n ≤ 3 ∧ isName name = true ∧ (checkM false f).code = 0 := by
  unfold checkQ at h ⊢
  split at h
  · simp at h
  rename_i h1
  rw [if_neg h1]
  split at h
  · simp at h
  rename_i h2
  rw [if_neg h2]
  exact ⟨checkM_code h, by omega, by omega, by simpa using h2, h⟩
def tree464 : Tv := (.q 0 (.q 1 (.q 2 (.q 3 (.q 4 (.q 5 (.q 6 (.q 7 (.q 8 (.q 9 (.q 10 (.q 11 (.q 12 (.q 13 (.br [(14, (.br [(15, .leaf)]))])))))))))))))))
def alP (n : Int) (name : Str) (f : Abs.Form) : Abs.Form × Fault := if (checkQ n name f).code ≠ 0 then (zeroF, checkQ n name f) else (doneF (leastP f name n.toNat), doneE (leastP f name n.toNat))
def R38 : Tbl := R37.add 21 (sp3p alP fun _ _ _ => True)
attribute [go_sem] R38
set_option maxRecDepth 100000 in
set_option maxHeartbeats 1000000 in
theorem hR38 : TblOk Tryd.prog GA R38 := by
  refine sp3p_ok ok21 hR37 fun n name f _ _ _ _ => ?_
  by_cases hc1 : ¬ (checkQ n name f).code = 0
  · have e1 : alP n name f = (zeroF, checkQ n name f) := by unfold alP; rw [if_pos hc1]
    simp only [e1, zeroF]
    refine Wcall_K (N := 25) hm hR37 21000 (lst [1000003]) ok21 Tryd.func21 rfl rfl (by simp) (by kernel_rfl) ?_
    repeat' (first | refine WK_drawV hm hR37 21000 (lst [1000003]) tree503p (by kernel_rfl) (by kernel_rfl) ?_ | refine And.intro ?_ ?_ | exact True.intro | refine rq fun _ => ?_ | simp only [go_sem, hc1, form_eta, str_eta, tree503p, Tryd.f21])
  · have hc1 := Decidable.not_not.1 hc1
    obtain ⟨hcc, h0, h3, hnm, hc⟩ := checkQ_ok hc1
    have e1 : alP n name f = (doneF (leastP f name n.toNat), doneE (leastP f name n.toNat)) := by unfold alP; rw [if_neg (by simp [hc1])]
    rw [e1]
    obtain ⟨N, rfl⟩ : ∃ N : Nat, n = (N : Int) := ⟨n.toNat, by omega⟩
    have hN0 : ((N : Int)).toNat = N := rfl
    have hN1 : ((N : Int) + 1).toNat = N + 1 := rfl
    have hp0 : leastPre (N : Int) name f := ⟨by omega, by omega, hc⟩
    have hp1 : leastPre ((N : Int) + 1) name f := ⟨by omega, by omega, hc⟩
    have hl0 := leastP_ok (name := name) (show N ≤ 4 by omega) hc
    have hl1 := leastP_ok (name := name) (show N + 1 ≤ 4 by omega) hc
    have hs : szPre (leastP f name N) := ⟨hl0.2, by omega⟩
    rw [hN0]
    obtain ⟨c, hcE⟩ : ∃ c, doneF (leastP f name N) = c := ⟨_, rfl⟩
    rw [hcE]
    refine Wcall_K (N := 25) hm hR37 21000 (lst [1000003]) ok21 Tryd.func21 rfl rfl (by simp) (by kernel_rfl) ?_
    repeat' (first | refine ReqK.i hp0 fun _ => ?_ | refine ReqK.i hp1 fun _ => ?_ | refine ReqK.i hs fun _ => ?_ | refine rq fun _ => ?_ | simp only [go_sem, hcc, hN0, hN1, hcE, form_eta, str_eta, Tryd.f21])
def amP (n : Int) (name : Str) (f : Abs.Form) : Abs.Form × Fault := if (checkQ n name f).code ≠ 0 then (zeroF, checkQ n name f) else (doneF (notF (leastP f name (n.toNat + 1))), doneE (notF (leastP f name (n.toNat + 1))))
def R39 : Tbl := R38.add 22 (sp3p amP fun _ _ _ => True)
attribute [go_sem] R39
set_option maxRecDepth 100000 in
set_option maxHeartbeats 1000000 in
theorem hR39 : TblOk Tryd.prog GA R39 := by
  refine sp3p_ok ok22 hR38 fun n name f _ _ _ _ => ?_
  by_cases hc1 : ¬ (checkQ n name f).code = 0
  · have e1 : amP n name f = (zeroF, checkQ n name f) := by unfold amP; rw [if_pos hc1]
    simp only [e1, zeroF]
    refine Wcall_K (N := 27) hm hR38 22000 (lst [1000003]) ok22 Tryd.func22 rfl rfl (by simp) (by kernel_rfl) ?_
    repeat' (first | refine WK_drawV hm hR38 22000 (lst [1000003]) tree503p (by kernel_rfl) (by kernel_rfl) ?_ | refine And.intro ?_ ?_ | exact True.intro | refine rq fun _ => ?_ | simp only [go_sem, hc1, form_eta, str_eta, tree503p, Tryd.f22])
  · have hc1 := Decidable.not_not.1 hc1
    obtain ⟨hcc, h0, h3, hnm, hc⟩ := checkQ_ok hc1
    have e1 : amP n name f = (doneF (notF (leastP f name (n.toNat + 1))), doneE (notF (leastP f name (n.toNat + 1)))) := by unfold amP; rw [if_neg (by simp [hc1])]
    rw [e1]
    obtain ⟨N, rfl⟩ : ∃ N : Nat, n = (N : Int) := ⟨n.toNat, by omega⟩
    have hN0 : ((N : Int)).toNat = N := rfl
    have hN1 : ((N : Int) + 1).toNat = N + 1 := rfl
    have hp0 : leastPre (N : Int) name f := ⟨by omega, by omega, hc⟩
    have hp1 : leastPre ((N : Int) + 1) name f := ⟨by omega, by omega, hc⟩
    have hl0 := leastP_ok (name := name) (show N ≤ 4 by omega) hc
    have hl1 := leastP_ok (name := name) (show N + 1 ≤ 4 by omega) hc
    have hs : szPre (notF (leastP f name (N + 1))) := notF_ok hl1
    rw [hN0]
    obtain ⟨c, hcE⟩ : ∃ c, doneF (notF (leastP f name (N + 1))) = c := ⟨_, rfl⟩
    rw [hcE]
    refine Wcall_K (N := 27) hm hR38 22000 (lst [1000003]) ok22 Tryd.func22 rfl rfl (by simp) (by kernel_rfl) ?_
    repeat' (first | refine ReqK.i hp0 fun _ => ?_ | refine ReqK.i hp1 fun _ => ?_ | refine ReqK.i hs fun _ => ?_ | refine rq fun _ => ?_ | simp only [go_sem, hcc, hN0, hN1, hcE, form_eta, str_eta, Tryd.f22])
def exP (n : Int) (name : Str) (f : Abs.Form) : Abs.Form × Fault := if (checkQ n name f).code ≠ 0 then (zeroF, checkQ n name f) else (doneF (andF (leastP f name n.toNat) (notF (leastP f name (n.toNat + 1)))), doneE (andF (leastP f name n.toNat) (notF (leastP f name (n.toNat + 1)))))
def R40 : Tbl := R39.add 20 (sp3p exP fun _ _ _ => True)
attribute [go_sem] R40
set_option maxRecDepth 100000 in
set_option maxHeartbeats 1000000 in
theorem hR40 : TblOk Tryd.prog GA R40 := by
  refine sp3p_ok ok20 hR39 fun n name f _ _ _ _ => ?_
  by_cases hc1 : ¬ (checkQ n name f).code = 0
  · have e1 : exP n name f = (zeroF, checkQ n name f) := by unfold exP; rw [if_pos hc1]
    simp only [e1, zeroF]
    refine Wcall_K (N := 32) hm hR39 20000 (lst [1000003, 1000004]) ok20 Tryd.func20 rfl rfl (by simp) (by kernel_rfl) ?_
    repeat' (first | refine WK_drawV hm hR39 20000 (lst [1000003, 1000004]) tree503p (by kernel_rfl) (by kernel_rfl) ?_ | refine And.intro ?_ ?_ | exact True.intro | refine rq fun _ => ?_ | simp only [go_sem, hc1, form_eta, str_eta, tree503p, Tryd.f20])
  · have hc1 := Decidable.not_not.1 hc1
    obtain ⟨hcc, h0, h3, hnm, hc⟩ := checkQ_ok hc1
    have e1 : exP n name f = (doneF (andF (leastP f name n.toNat) (notF (leastP f name (n.toNat + 1)))), doneE (andF (leastP f name n.toNat) (notF (leastP f name (n.toNat + 1))))) := by unfold exP; rw [if_neg (by simp [hc1])]
    rw [e1]
    obtain ⟨N, rfl⟩ : ∃ N : Nat, n = (N : Int) := ⟨n.toNat, by omega⟩
    have hN0 : ((N : Int)).toNat = N := rfl
    have hN1 : ((N : Int) + 1).toNat = N + 1 := rfl
    have hp0 : leastPre (N : Int) name f := ⟨by omega, by omega, hc⟩
    have hp1 : leastPre ((N : Int) + 1) name f := ⟨by omega, by omega, hc⟩
    have hl0 := leastP_ok (name := name) (show N ≤ 4 by omega) hc
    have hl1 := leastP_ok (name := name) (show N + 1 ≤ 4 by omega) hc
    have hs : szPre (andF (leastP f name N) (notF (leastP f name (N + 1)))) := andF_ok hl0 ⟨by simp only [notF, Form.size, Form.sizes]; omega, by simp [notF, Form.fit, Form.fits, hl1.2]⟩
    rw [hN0]
    obtain ⟨c, hcE⟩ : ∃ c, doneF (andF (leastP f name N) (notF (leastP f name (N + 1)))) = c := ⟨_, rfl⟩
    rw [hcE]
    refine Wcall_K (N := 32) hm hR39 20000 (lst [1000003, 1000004]) ok20 Tryd.func20 rfl rfl (by simp) (by kernel_rfl) ?_
    repeat' (first | refine ReqK.i hp0 fun _ => ?_ | refine ReqK.i hp1 fun _ => ?_ | refine ReqK.i hs fun _ => ?_ | refine rq fun _ => ?_ | simp only [go_sem, hcc, hN0, hN1, hcE, form_eta, str_eta, Tryd.f20])
    refine WK_weak2 (Weak_rpL (id := (20005, 0)) (t := 5) (b := true) (ys := [.i .i64 f.kind, .s f.name.l, .sl (f.words.map enc), .sl (f.subs.map enc)]) (by simp only [go_sem]) (by simp only [go_sem])) ?_
    repeat' (first | refine ReqK.i hp0 fun _ => ?_ | refine ReqK.i hp1 fun _ => ?_ | refine ReqK.i hs fun _ => ?_ | refine WK_drawV hm hR39 20000 (lst [1000003, 1000004]) tree464 (by kernel_rfl) (by kernel_rfl) ?_ | refine And.intro ?_ ?_ | exact True.intro | refine rq fun _ => ?_ | simp only [go_sem, tree464, hcc, hN0, hN1, hcE, form_eta, str_eta, Tryd.f20])
end Go.Proofs.YtbbjghecpcobjaaDoor
