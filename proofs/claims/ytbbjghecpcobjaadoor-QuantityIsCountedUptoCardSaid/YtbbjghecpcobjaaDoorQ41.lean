import Derived.Test.YtbbjghecpcobjaaDoorAT
import Derived.Test.YtbbjghecpcobjaaDoorQ39
import Derived.Test.YtbbjghecpcobjaaDoorY3
import Derived.Test.YtbbjghecpcobjaaDoorAL
set_option linter.unusedSimpArgs false
namespace Go.Proofs.YtbbjghecpcobjaaDoor
open Go Go.Abs Go.Proofs

/-! ## small functions of the package quantity, and of the laws -/
def R29 : Tbl := R28.add 61 (sp1 notF fun _ => True)
attribute [go_sem] R29
set_option maxRecDepth 100000 in
set_option maxHeartbeats 1000000 in
theorem hR29 : TblOk Tryd.prog GA R29 := by
  refine sp1_ok ok61 hR28 fun f _ _ => ?_
  simp only [notF]
  refine Wcall_K (N := 6) hm hR28 61000 (lst []) ok61 Tryd.func61 rfl rfl (by simp) (by kernel_rfl) ?_
  repeat' (first | refine rq fun _ => ?_ | simp only [go_sem, form_eta, Tryd.f61])
def R30 : Tbl := R29
attribute [go_sem] R30
theorem hR30 : TblOk Tryd.prog GA R30 := hR29
def R31 : Tbl := R30.add 59 (sp2 andF fun _ _ => True)
attribute [go_sem] R31
set_option maxRecDepth 100000 in
set_option maxHeartbeats 1000000 in
theorem hR31 : TblOk Tryd.prog GA R31 := by
  refine sp2_ok ok59 hR30 fun f g _ _ _ => ?_
  simp only [andF]
  refine Wcall_K (N := 9) hm hR30 59000 (lst []) ok59 Tryd.func59 rfl rfl (by simp) (by kernel_rfl) ?_
  repeat' (first | refine rq fun _ => ?_ | simp only [go_sem, form_eta, Tryd.f59])
def boundM (k : Int) (x : Str) (f : Abs.Form) : Abs.Form := .mk k x [] [f]
def R32 : Tbl := R31.add 24 (sp3 boundM fun _ _ _ => True)
attribute [go_sem] R32
set_option maxRecDepth 100000 in
set_option maxHeartbeats 1000000 in
theorem hR32 : TblOk Tryd.prog GA R32 := by
  refine sp3_ok ok24 hR31 fun k x f _ _ _ _ => ?_
  simp only [boundM]
  refine Wcall_K (N := 12) hm hR31 24000 (lst []) ok24 Tryd.func24 rfl rfl (by simp) (by kernel_rfl) ?_
  repeat' (first | refine rq fun _ => ?_ | simp only [go_sem, form_eta, Tryd.f24])
def qnS (i : Int) : Str := ⟨63 :: digits i.toNat⟩
def R33 : Tbl := R32.add 106 (sp1 qnS fun i => 0 ≤ i ∧ i ≤ 1000)
attribute [go_sem] R33
set_option maxRecDepth 100000 in
set_option maxHeartbeats 1000000 in
theorem hR33 : TblOk Tryd.prog GA R33 := by
  refine sp1_ok ok106 hR32 fun i hi _ => ?_
  obtain ⟨k, rfl⟩ : ∃ k : Nat, i = (k : Int) := ⟨i.toNat, by omega⟩
  have hdl := digits_len k
  have e : qnS (k : Int) = qn k := rfl
  have e2 : (qn k).l = 63 :: digits k := rfl
  rw [e]
  refine Wcall_K (N := 6) hm hR32 106000 (lst []) ok106 Tryd.func106 rfl rfl (by simp) (by kernel_rfl) ?_
  repeat' (first | refine ReqK.i ⟨by omega, by omega⟩ fun _ => ?_ | refine rq fun _ => ?_ | simp only [go_sem, itoaS_nat, e2, Tryd.f106])
def checkQ (n : Int) (name : Str) (f : Abs.Form) : Fault := if n < 0 ∨ 3 < n then ⟨3, -1⟩ else if isName name = false then ⟨10, -2⟩ else checkM false f
def R34 : Tbl := R33.add 57 (sp3 checkQ fun _ _ _ => True)
attribute [go_sem] R34
set_option maxRecDepth 100000 in
set_option maxHeartbeats 1000000 in
theorem hR34 : TblOk Tryd.prog GA R34 := by
  refine sp3_ok ok57 hR33 fun n name f _ _ _ _ => ?_
  by_cases h1 : n < 0
  · have e : checkQ n name f = ⟨3, -1⟩ := by unfold checkQ; rw [if_pos (.inl h1)]
    refine Wcall_K (N := 20) hm hR33 57000 (lst []) ok57 Tryd.func57 rfl rfl (by simp) (by kernel_rfl) ?_
    repeat' (first | refine rq fun _ => ?_ | simp only [go_sem, h1, e, form_eta, str_eta, Tryd.f57])
  by_cases h2 : 3 < n
  · have e : checkQ n name f = ⟨3, -1⟩ := by unfold checkQ; rw [if_pos (.inr h2)]
    refine Wcall_K (N := 20) hm hR33 57000 (lst []) ok57 Tryd.func57 rfl rfl (by simp) (by kernel_rfl) ?_
    repeat' (first | refine rq fun _ => ?_ | simp only [go_sem, h1, h2, e, form_eta, str_eta, Tryd.f57])
  cases h3 : isName name with
  | false =>
    have e : checkQ n name f = ⟨10, -2⟩ := by unfold checkQ; rw [if_neg (by omega), if_pos h3]
    refine Wcall_K (N := 20) hm hR33 57000 (lst []) ok57 Tryd.func57 rfl rfl (by simp) (by kernel_rfl) ?_
    repeat' (first | refine rq fun _ => ?_ | simp only [go_sem, h1, h2, h3, e, form_eta, str_eta, Tryd.f57])
  | true =>
    have e : checkQ n name f = checkM false f := by unfold checkQ; rw [if_neg (by omega), if_neg (by simp [h3])]
    refine Wcall_K (N := 20) hm hR33 57000 (lst []) ok57 Tryd.func57 rfl rfl (by simp) (by kernel_rfl) ?_
    repeat' (first | refine rq fun _ => ?_ | simp only [go_sem, h1, h2, h3, e, form_eta, str_eta, Tryd.f57])
def R35 : Tbl := R34.add 58 (sp1p (fun f : Abs.Form => (doneF f, doneE f)) szPre)
attribute [go_sem] R35
set_option maxRecDepth 100000 in
set_option maxHeartbeats 1000000 in
theorem hR35 : TblOk Tryd.prog GA R35 := by
  refine sp1p_ok ok58 hR34 fun f hpre hw => ?_
  cases hf : fitsM f with
  | true =>
    have h1 := of_decide_eq_true hf
    have hp : f.fit = true ∧ f.size ≤ 1000 := ⟨hpre.1, by omega⟩
    have e1 : doneF f = canonM f [] := by unfold doneF; rw [if_pos hf]
    have e2 : doneE f = ⟨0, 0⟩ := by unfold doneE; rw [if_pos hf]
    obtain ⟨c, hc⟩ : ∃ c, canonM f [] = c := ⟨_, rfl⟩
    simp only [e1, e2, hc]
    refine Wcall_K (N := 12) hm hR34 58000 (lst []) ok58 Tryd.func58 rfl rfl (by simp) (by kernel_rfl) ?_
    repeat' (first | refine ReqK.i hpre fun _ => ?_ | refine ReqK.i hp fun _ => ?_ | refine rq fun _ => ?_ | simp only [go_sem, hf, hc, form_eta, Tryd.f58])
  | false =>
    have e1 : doneF f = zeroF := by unfold doneF; rw [if_neg (by simp [hf])]
    have e2 : doneE f = ⟨1, -1⟩ := by unfold doneE; rw [if_neg (by simp [hf])]
    simp only [e1, e2, zeroF]
    refine Wcall_K (N := 12) hm hR34 58000 (lst []) ok58 Tryd.func58 rfl rfl (by simp) (by kernel_rfl) ?_
    repeat' (first | refine ReqK.i hpre fun _ => ?_ | refine rq fun _ => ?_ | simp only [go_sem, hf, form_eta, Tryd.f58])
end Go.Proofs.YtbbjghecpcobjaaDoor
