/- several texts of this proof in one; no conditions -/
import Derived.Test.YtoicheicnbjfeaaDoorAT
import Derived.Test.YtoicheicnbjfeaaDoorZQ84Q40E10
import Derived.Test.YtoicheicnbjfeaaDoorVP
import Derived.Test.YtoicheicnbjfeaaDoorAbs46
set_option linter.unusedSimpArgs false
namespace Go.Proofs.YtoicheicnbjfeaaDoor
open Go Go.Abs Go.Proofs

/-! ## truth.Holds, beside the package plural -/
def C1 : Tbl := Tbl.or R25 (Tbl.or R28 A21)
theorem hC1 : TblOk Tryd.prog GA C1 := TblOk_or hR25 (TblOk_or hR28 hA21)
def holdsP (m : Model) (f : Abs.Form) : Bool × Fault := if (modelM m).code ≠ 0 then (false, modelM m) else if (checkM false f).code ≠ 0 then (false, checkM false f) else if (truthE m f).code ≠ 0 then (false, truthE m f) else (valM m f [], ⟨0, 0⟩)
theorem flP_ok {m : Model} {f : Abs.Form} (hm : mval m) (h : (checkM false f).code = 0) : flP m f := by
  have h1 := checkM_fit h
  have h2 := checkM_size h
  have := cst_len h1 []
  exact ⟨hm.c, hm.r, ⟨h1, by omega⟩, by omega⟩
theorem truthE_zero {m : Model} {f : Abs.Form} (h : (truthE m f).code = 0) : truthE m f = ⟨0, 0⟩ := by
  unfold truthE at h ⊢
  split at h
  · exact absurd h (by decide)
  · rename_i h1
    split at h
    · exact absurd h (by decide)
    · rename_i h2; rw [if_neg h1, if_neg h2]
theorem holds_ok {m : Model} {f : Abs.Form} (h1 : (modelM m).code = 0) (h2 : (checkM false f).code = 0) (h3 : (truthE m f).code = 0) : holdsP m f = (valM m f [], ⟨0, 0⟩) := by
  unfold holdsP
  rw [if_neg (by simp [h1]), if_neg (by simp [h2]), if_neg (by simp [h3])]
theorem holds_inv {m : Model} {f : Abs.Form} {b : Bool} {e : Fault} (h : holdsP m f = (b, e)) (he : e.code = 0) : (modelM m).code = 0 ∧ (checkM false f).code = 0 ∧ (truthE m f).code = 0 ∧ b = valM m f [] ∧ e = ⟨0, 0⟩ := by
  unfold holdsP at h
  split at h
  · rename_i h1; obtain ⟨rfl, rfl⟩ := Prod.mk.inj h; exact absurd he h1
  · rename_i h1
    split at h
    · rename_i h2; obtain ⟨rfl, rfl⟩ := Prod.mk.inj h; exact absurd he h2
    · rename_i h2
      split at h
      · rename_i h3; obtain ⟨rfl, rfl⟩ := Prod.mk.inj h; exact absurd he h3
      · rename_i h3
        obtain ⟨rfl, rfl⟩ := Prod.mk.inj h
        exact ⟨Decidable.not_not.1 h1, Decidable.not_not.1 h2, Decidable.not_not.1 h3, rfl, rfl⟩
def C2 : Tbl := C1.add 54 (sp2p holdsP fun _ _ => True)
set_option maxRecDepth 100000 in
set_option maxHeartbeats 1000000 in
set_option maxHeartbeats 4000000 in
theorem hC2 : TblOk Tryd.prog GA C2 := by
  refine sp2p_ok ok54 hC1 fun m f _ _ _ => ?_
  by_cases h1 : (modelM m).code = 0
  rotate_left
  · have e : holdsP m f = (false, modelM m) := by unfold holdsP; rw [if_pos h1]
    obtain ⟨X, hX⟩ : ∃ X, modelM m = X := ⟨_, rfl⟩
    rw [hX] at e h1
    rw [e]
    refine Wcall_K (N := 32) hm hC1 54000 (lst []) ok54 Tryd.func54 rfl rfl (by simp) (by kernel_rfl) ?_
    repeat' (first | refine ReqK.i (by omega) fun _ => ?_ | refine ReqK.i (by unfold maxL; omega) fun _ => ?_ | refine ReqK.i rfl fun _ => ?_ | refine ReqK.i ⟨rfl, rfl⟩ fun _ => ?_ | refine ReqK.i ⟨rfl, rfl, rfl⟩ fun _ => ?_ | refine ReqK.i ⟨rfl, rfl, rfl, rfl⟩ fun _ => ?_ | refine ReqK.i ⟨rfl, rfl, rfl, trivial⟩ fun _ => ?_ | refine ReqK.i ⟨rfl, rfl, rfl, rfl, trivial⟩ fun _ => ?_ | simp only [go_sem, h1, hX, model_eta, form_eta, Tryd.f54, C1, R25, R24, R23, R22, R21, R20, R19, R18, R17, R16, R15, R14, R13, R12, R11, R10, R9, R8, R7, R6, R5, R4, R3, R2, R1, Q20, Q19, Q18, Q17, Q16, Q15, Q14, Q13, Q12, Q11, Q10, Q9, Q8, Q7, Q6, Q5, Q4, Q3, Q2, Q1, Tbl0, R28, R27, A21, A20, A19, A18, A17, A16, A15, A14, A13, A12, A11, A10, A9, A8, A7, A6, A5, A4, A3, A2, A1, Q20, Q19, Q18, Q17, Q16, Q15, Q14, Q13, Q12, Q11, Q10, Q9, Q8, Q7, Q6, Q5, Q4, Q3, Q2, Q1, Tbl0])
  have hmv := (modelM_good h1).v
  have hmz := modelM_zero h1
  by_cases h2 : (checkM false f).code = 0
  rotate_left
  · have e : holdsP m f = (false, checkM false f) := by unfold holdsP; rw [if_neg (by simp [h1]), if_pos h2]
    obtain ⟨X, hX⟩ : ∃ X, checkM false f = X := ⟨_, rfl⟩
    rw [hX] at e h2
    rw [e]
    refine Wcall_K (N := 32) hm hC1 54000 (lst []) ok54 Tryd.func54 rfl rfl (by simp) (by kernel_rfl) ?_
    repeat' (first | refine ReqK.i (by omega) fun _ => ?_ | refine ReqK.i (by unfold maxL; omega) fun _ => ?_ | refine ReqK.i rfl fun _ => ?_ | refine ReqK.i ⟨rfl, rfl⟩ fun _ => ?_ | refine ReqK.i ⟨rfl, rfl, rfl⟩ fun _ => ?_ | refine ReqK.i ⟨rfl, rfl, rfl, rfl⟩ fun _ => ?_ | refine ReqK.i ⟨rfl, rfl, rfl, trivial⟩ fun _ => ?_ | refine ReqK.i ⟨rfl, rfl, rfl, rfl, trivial⟩ fun _ => ?_ | simp only [go_sem, hmz, h2, hX, model_eta, form_eta, Tryd.f54, C1, R25, R24, R23, R22, R21, R20, R19, R18, R17, R16, R15, R14, R13, R12, R11, R10, R9, R8, R7, R6, R5, R4, R3, R2, R1, Q20, Q19, Q18, Q17, Q16, Q15, Q14, Q13, Q12, Q11, Q10, Q9, Q8, Q7, Q6, Q5, Q4, Q3, Q2, Q1, Tbl0, R28, R27, A21, A20, A19, A18, A17, A16, A15, A14, A13, A12, A11, A10, A9, A8, A7, A6, A5, A4, A3, A2, A1, Q20, Q19, Q18, Q17, Q16, Q15, Q14, Q13, Q12, Q11, Q10, Q9, Q8, Q7, Q6, Q5, Q4, Q3, Q2, Q1, Tbl0])
  have hck := checkM_code h2
  have hfl := flP_ok hmv h2
  have hvp := vsP_val (vsP_ok hmv h2) [] (by simp)
  by_cases h3 : (truthE m f).code = 0
  rotate_left
  · have e : holdsP m f = (false, truthE m f) := by unfold holdsP; rw [if_neg (by simp [h1]), if_neg (by simp [h2]), if_pos h3]
    obtain ⟨X, hX⟩ : ∃ X, truthE m f = X := ⟨_, rfl⟩
    rw [hX] at e h3
    rw [e]
    refine Wcall_K (N := 32) hm hC1 54000 (lst []) ok54 Tryd.func54 rfl rfl (by simp) (by kernel_rfl) ?_
    repeat' (first | refine ReqK.i hfl fun _ => ?_ | refine ReqK.i (by omega) fun _ => ?_ | refine ReqK.i (by unfold maxL; omega) fun _ => ?_ | refine ReqK.i rfl fun _ => ?_ | refine ReqK.i ⟨rfl, rfl⟩ fun _ => ?_ | refine ReqK.i ⟨rfl, rfl, rfl⟩ fun _ => ?_ | refine ReqK.i ⟨rfl, rfl, rfl, rfl⟩ fun _ => ?_ | refine ReqK.i ⟨rfl, rfl, rfl, trivial⟩ fun _ => ?_ | refine ReqK.i ⟨rfl, rfl, rfl, rfl, trivial⟩ fun _ => ?_ | simp only [go_sem, hmz, hck, h3, hX, model_eta, form_eta, Tryd.f54, C1, R25, R24, R23, R22, R21, R20, R19, R18, R17, R16, R15, R14, R13, R12, R11, R10, R9, R8, R7, R6, R5, R4, R3, R2, R1, Q20, Q19, Q18, Q17, Q16, Q15, Q14, Q13, Q12, Q11, Q10, Q9, Q8, Q7, Q6, Q5, Q4, Q3, Q2, Q1, Tbl0, R28, R27, A21, A20, A19, A18, A17, A16, A15, A14, A13, A12, A11, A10, A9, A8, A7, A6, A5, A4, A3, A2, A1, Q20, Q19, Q18, Q17, Q16, Q15, Q14, Q13, Q12, Q11, Q10, Q9, Q8, Q7, Q6, Q5, Q4, Q3, Q2, Q1, Tbl0])
  have htz := truthE_zero h3
  rw [holds_ok h1 h2 h3]
  obtain ⟨b, hb⟩ : ∃ b, valM m f [] = b := ⟨_, rfl⟩
  rw [hb]
  refine Wcall_K (N := 32) hm hC1 54000 (lst []) ok54 Tryd.func54 rfl rfl (by simp) (by kernel_rfl) ?_
  repeat' (first | refine ReqK.i hfl fun _ => ?_ | refine ReqK.i hvp fun _ => ?_ | refine ReqK.i (by omega) fun _ => ?_ | refine ReqK.i (by unfold maxL; omega) fun _ => ?_ | refine ReqK.i rfl fun _ => ?_ | refine ReqK.i ⟨rfl, rfl⟩ fun _ => ?_ | refine ReqK.i ⟨rfl, rfl, rfl⟩ fun _ => ?_ | refine ReqK.i ⟨rfl, rfl, rfl, rfl⟩ fun _ => ?_ | refine ReqK.i ⟨rfl, rfl, rfl, trivial⟩ fun _ => ?_ | refine ReqK.i ⟨rfl, rfl, rfl, rfl, trivial⟩ fun _ => ?_ | simp only [go_sem, hmz, hck, htz, hb, dec_sl_nil, model_eta, form_eta, Tryd.f54, C1, R25, R24, R23, R22, R21, R20, R19, R18, R17, R16, R15, R14, R13, R12, R11, R10, R9, R8, R7, R6, R5, R4, R3, R2, R1, Q20, Q19, Q18, Q17, Q16, Q15, Q14, Q13, Q12, Q11, Q10, Q9, Q8, Q7, Q6, Q5, Q4, Q3, Q2, Q1, Tbl0, R28, R27, A21, A20, A19, A18, A17, A16, A15, A14, A13, A12, A11, A10, A9, A8, A7, A6, A5, A4, A3, A2, A1, Q20, Q19, Q18, Q17, Q16, Q15, Q14, Q13, Q12, Q11, Q10, Q9, Q8, Q7, Q6, Q5, Q4, Q3, Q2, Q1, Tbl0])
theorem chkG_one {a : Str} {at' : Int} (h : isName a = true) : chkG [a] at' = ⟨0, 0⟩ := by
  unfold chkG
  rw [if_neg (by simp), chkGo, if_neg (by simp [h]), if_neg (by simp), chkGo]
theorem each_inv {f g : Abs.Form} {name : Str} {l : List Str} {e : Fault} (h : eachP f name l = (g, e)) (he : e.code = 0) : (checkM false f).code = 0 ∧ isName name = true ∧ (1 ≤ l.length ∧ l.length ≤ 5 ∧ ∀ a ∈ l, isName a = true) ∧ g = canonM (eachM f name l) [] ∧ e = ⟨0, 0⟩ := by
  unfold eachP at h
  split at h
  · rename_i h1; obtain ⟨rfl, rfl⟩ := Prod.mk.inj h; exact absurd he h1
  · rename_i h1
    split at h
    · obtain ⟨rfl, rfl⟩ := Prod.mk.inj h; exact absurd he (by decide)
    · rename_i h2
      split at h
      · rename_i h3; obtain ⟨rfl, rfl⟩ := Prod.mk.inj h; exact absurd he h3
      · rename_i h3
        obtain ⟨rfl, rfl⟩ := Prod.mk.inj h
        obtain ⟨_, g1, g2, g3⟩ := chkG_zero (Decidable.not_not.1 h3)
        unfold doneE at he
        split at he
        · rename_i h4
          refine ⟨Decidable.not_not.1 h1, by simpa using h2, ⟨g1, g2, g3⟩, ?_, ?_⟩
          · unfold doneF; rw [if_pos h4]
          · unfold doneE; rw [if_pos h4]
        · exact absurd he (by decide)
theorem cut_mid {l : List Str} {i : Nat} (h : i < l.length) : cutFD (l.map enc) (i : Int) ((i : Int) + 1) = [enc l[i]] := by
  unfold cutFD
  rw [show ((i : Int) + 1).toNat = i + 1 by omega, Int.toNat_natCast, ← List.map_take, ← List.map_drop, List.take_succ_eq_append_getElem h, List.drop_left' (by rw [List.length_take]; omega)]
  rfl
def sPD : Str := ⟨[100, 111, 103]⟩
def sPX : Str := ⟨[120]⟩
def sPK : Str := ⟨[107, 105, 109]⟩
def sPL : Str := ⟨[108, 101, 101]⟩
def sPS : Str := ⟨[115, 101, 101]⟩
def fPX : Abs.Form := predM sPD [sPX]
def fPK : Abs.Form := predM sPD [sPK]
theorem each_x : eachP fPX sPX [sPK] = (fPK, ⟨0, 0⟩) := by
  have h1 : (checkM false fPX).code = 0 := by kernel_rfl
  have h2 : (chkG [sPK] (-3)).code = 0 := by kernel_rfl
  have h3 : eachM fPX sPX [sPK] = fPK := by
    rw [eachM_one]
    unfold canonM fPX predM
    rw [ren, if_neg (by decide), rens]
    rfl
  have h4 : fitsM fPK = true := by kernel_rfl
  have h5 : canonM fPK [] = fPK := by
    unfold canonM fPK predM
    rw [ren, if_neg (by decide), rens]
    rfl
  unfold eachP
  rw [if_neg (by simp [h1]), if_neg (by decide), if_neg (by simp [h2]), h3]
  unfold doneF doneE
  rw [h4, if_pos rfl, if_pos rfl, h5]
theorem cum_x : ∃ g : Abs.Form, cumP sPS [sPK] [sPL] = (g, ⟨0, 0⟩) ∧ g.kind = 5 := by
  have h3 : fitsM (cumM sPS [sPK] [sPL]) = true := by kernel_rfl
  refine ⟨canonM (cumM sPS [sPK] [sPL]) [], ?_, ?_⟩
  · unfold cumP
    rw [if_neg (by decide), if_neg (by rw [chkG_one (by decide)]; simp), if_neg (by rw [chkG_one (by decide)]; simp)]
    unfold doneF doneE
    rw [h3, if_pos rfl, if_pos rfl]
  · unfold canonM
    show (ren _ (.mk 5 ⟨[]⟩ [] [_, _]) [] 0).1.kind = 5
    rw [ren, if_neg (by decide)]
    rfl
theorem cum_inv {g : Abs.Form} {p : Str} {a b : List Str} {e : Fault} (h : cumP p a b = (g, e)) (he : e.code = 0) : isName p = true ∧ (1 ≤ a.length ∧ a.length ≤ 5 ∧ ∀ x ∈ a, isName x = true) ∧ (1 ≤ b.length ∧ b.length ≤ 5 ∧ ∀ x ∈ b, isName x = true) ∧ g = canonM (cumM p a b) [] ∧ e = ⟨0, 0⟩ := by
  unfold cumP at h
  split at h
  · obtain ⟨rfl, rfl⟩ := Prod.mk.inj h; exact absurd he (by decide)
  · rename_i h1
    split at h
    · rename_i h2; obtain ⟨rfl, rfl⟩ := Prod.mk.inj h; exact absurd he h2
    · rename_i h2
      split at h
      · rename_i h3; obtain ⟨rfl, rfl⟩ := Prod.mk.inj h; exact absurd he h3
      · rename_i h3
        obtain ⟨rfl, rfl⟩ := Prod.mk.inj h
        obtain ⟨_, g1, g2, g3⟩ := chkG_zero (Decidable.not_not.1 h2)
        obtain ⟨_, k1, k2, k3⟩ := chkG_zero (Decidable.not_not.1 h3)
        unfold doneE at he
        split at he
        · rename_i h4
          refine ⟨by simpa using h1, ⟨g1, g2, g3⟩, ⟨k1, k2, k3⟩, ?_, ?_⟩
          · unfold doneF; rw [if_pos h4]
          · unfold doneE; rw [if_pos h4]
        · exact absurd he (by decide)
/-! ## the law PluralEachIsTrueOfEach -/
def tree1314 : Tv := (.q 0 (.q 1 (.q 2 (.q 3 (.q 4 (.q 5 (.q 6 (.q 7 (.q 8 (.q 9 (.q 10 (.br [(11, (.br [(12, (.br [(13, (.br [(14, .leaf)]))]))])), (12, (.br [(11, (.br [(13, (.br [(14, .leaf)]))]))]))]))))))))))))
set_option maxRecDepth 100000 in
set_option maxHeartbeats 1000000 in
set_option maxHeartbeats 8000000 in
theorem lawEach (hT : TblOk Tryd.prog GA C2) (m : Model) (f : Abs.Form) (name : Str) (l : List Str) (_ : (enc m).Wf) (_ : (enc f).Wf) (_ : (enc name).Wf) (_ : (enc l).Wf) : Wcall Tryd.prog GA 13 [.fz (enc m), .fz (enc f), .fz (enc name), .fz (enc l)] (hpL []) 0 (fun d _ _ => d = .fz (.b true)) := by
  have dD : Str.mk [100, 111, 103] = sPD := rfl
  have dX : Str.mk [120] = sPX := rfl
  have dK : Str.mk [107, 105, 109] = sPK := rfl
  have dF : predM sPD [sPX] = fPX := rfl
  have dG : predM sPD [sPK] = fPK := rfl
  obtain ⟨g, e, hge⟩ : ∃ g e, eachP f name l = (g, e) := ⟨_, _, rfl⟩
  obtain ⟨b, c, hbc⟩ : ∃ b c, holdsP m g = (b, c) := ⟨_, _, rfl⟩
  refine Wcall_K (N := 95) hm hT 13000 (lst [1000014]) ok13 Tryd.func13 rfl rfl (by simp) (by kernel_rfl) ?_
  by_cases he : e.code = 0
  rotate_left
  · have he' : (e.code = 0) = False := eq_false he
    repeat' (first | refine ReqK.i (by omega) fun _ => ?_ | refine ReqK.i (by unfold maxL; omega) fun _ => ?_ | refine ReqK.i rfl fun _ => ?_ | refine ReqK.i ⟨rfl, rfl⟩ fun _ => ?_ | refine ReqK.i ⟨rfl, rfl, rfl⟩ fun _ => ?_ | refine ReqK.i ⟨rfl, rfl, rfl, rfl⟩ fun _ => ?_ | refine ReqK.i ⟨rfl, rfl, rfl, trivial⟩ fun _ => ?_ | refine ReqK.i ⟨rfl, rfl, rfl, rfl, trivial⟩ fun _ => ?_ | simp only [go_sem, dD, dX, dK, dF, dG, each_x, GA, str_eta, form_eta, model_eta, hge, hbc, he', Tryd.f13, C2, C1, R25, R24, R23, R22, R21, R20, R19, R18, R17, R16, R15, R14, R13, R12, R11, R10, R9, R8, R7, R6, R5, R4, R3, R2, R1, Q20, Q19, Q18, Q17, Q16, Q15, Q14, Q13, Q12, Q11, Q10, Q9, Q8, Q7, Q6, Q5, Q4, Q3, Q2, Q1, Tbl0, R28, R27, A21, A20, A19, A18, A17, A16, A15, A14, A13, A12, A11, A10, A9, A8, A7, A6, A5, A4, A3, A2, A1, Q20, Q19, Q18, Q17, Q16, Q15, Q14, Q13, Q12, Q11, Q10, Q9, Q8, Q7, Q6, Q5, Q4, Q3, Q2, Q1, Tbl0])
  obtain ⟨h1, h2, ⟨h3, h4, h5⟩, hg, rfl⟩ := each_inv hge he
  by_cases hc : c.code = 0
  rotate_left
  · have hc' : (c.code = 0) = False := eq_false hc
    repeat' (first | refine ReqK.i (by omega) fun _ => ?_ | refine ReqK.i (by unfold maxL; omega) fun _ => ?_ | refine ReqK.i rfl fun _ => ?_ | refine ReqK.i ⟨rfl, rfl⟩ fun _ => ?_ | refine ReqK.i ⟨rfl, rfl, rfl⟩ fun _ => ?_ | refine ReqK.i ⟨rfl, rfl, rfl, rfl⟩ fun _ => ?_ | refine ReqK.i ⟨rfl, rfl, rfl, trivial⟩ fun _ => ?_ | refine ReqK.i ⟨rfl, rfl, rfl, rfl, trivial⟩ fun _ => ?_ | simp only [go_sem, dD, dX, dK, dF, dG, each_x, GA, str_eta, form_eta, model_eta, hge, hbc, hc', Tryd.f13, C2, C1, R25, R24, R23, R22, R21, R20, R19, R18, R17, R16, R15, R14, R13, R12, R11, R10, R9, R8, R7, R6, R5, R4, R3, R2, R1, Q20, Q19, Q18, Q17, Q16, Q15, Q14, Q13, Q12, Q11, Q10, Q9, Q8, Q7, Q6, Q5, Q4, Q3, Q2, Q1, Tbl0, R28, R27, A21, A20, A19, A18, A17, A16, A15, A14, A13, A12, A11, A10, A9, A8, A7, A6, A5, A4, A3, A2, A1, Q20, Q19, Q18, Q17, Q16, Q15, Q14, Q13, Q12, Q11, Q10, Q9, Q8, Q7, Q6, Q5, Q4, Q3, Q2, Q1, Tbl0])
  obtain ⟨k1, k2, k3, hb, rfl⟩ := holds_inv hbc hc
  have hne : l ≠ [] := by intro h; rw [h] at h3; simp at h3
  obtain ⟨w1, w2, w3⟩ := each_one (m := m) (nm := name) h1 h5 hne
  rw [hg] at k3
  have w2 := w2 k3
  have hone : ∀ i (h : i < l.length), eachP f name [l[i]] = (canonM (eachM f name [l[i]]) [], ⟨0, 0⟩) ∧ holdsP m (canonM (eachM f name [l[i]]) []) = (valM m (canonM (eachM f name [l[i]]) []) [], ⟨0, 0⟩) := fun i h => by
    have hm := List.getElem_mem h
    obtain ⟨w4, w5⟩ := w3 _ hm
    refine ⟨?_, holds_ok k1 (by rw [w5]) (w2 _ hm)⟩
    unfold eachP
    rw [if_neg (by simp [h1]), if_neg (by simp [h2]), chkG_one (h5 _ hm), if_neg (by simp)]
    unfold doneF doneE
    rw [if_pos w4, if_pos w4]
  have hb2 : b = l.all fun a => valM m (canonM (eachM f name [a]) []) [] := by rw [hb, hg, w1]
  obtain ⟨V, hV⟩ : ∃ V : Str → Bool, V = fun a => valM m (canonM (eachM f name [a]) []) [] := ⟨_, rfl⟩
  obtain ⟨X, hX⟩ : ∃ X : Str → Abs.Form, X = fun a => canonM (eachM f name [a]) [] := ⟨_, rfl⟩
  have hone2 : ∀ i (h : i < l.length), eachP f name [l[i]] = (X l[i], ⟨0, 0⟩) ∧ holdsP m (X l[i]) = (V l[i], ⟨0, 0⟩) := fun i h => by rw [hX, hV]; exact hone i h
  rw [← hV] at hb2
  have kO := Kp.mk hone2
  clear hone hone2 hV hX w1 w2 w3 hb hg k3
  repeat' (first | refine ReqK.i (by omega) fun _ => ?_ | refine ReqK.i (by unfold maxL; omega) fun _ => ?_ | refine ReqK.i rfl fun _ => ?_ | refine ReqK.i ⟨rfl, rfl⟩ fun _ => ?_ | refine ReqK.i ⟨rfl, rfl, rfl⟩ fun _ => ?_ | refine ReqK.i ⟨rfl, rfl, rfl, rfl⟩ fun _ => ?_ | refine ReqK.i ⟨rfl, rfl, rfl, trivial⟩ fun _ => ?_ | refine ReqK.i ⟨rfl, rfl, rfl, rfl, trivial⟩ fun _ => ?_ | simp only [go_sem, dD, dX, dK, dF, dG, each_x, GA, str_eta, form_eta, model_eta, hge, hbc, Tryd.f13, C2, C1, R25, R24, R23, R22, R21, R20, R19, R18, R17, R16, R15, R14, R13, R12, R11, R10, R9, R8, R7, R6, R5, R4, R3, R2, R1, Q20, Q19, Q18, Q17, Q16, Q15, Q14, Q13, Q12, Q11, Q10, Q9, Q8, Q7, Q6, Q5, Q4, Q3, Q2, Q1, Tbl0, R28, R27, A21, A20, A19, A18, A17, A16, A15, A14, A13, A12, A11, A10, A9, A8, A7, A6, A5, A4, A3, A2, A1, Q20, Q19, Q18, Q17, Q16, Q15, Q14, Q13, Q12, Q11, Q10, Q9, Q8, Q7, Q6, Q5, Q4, Q3, Q2, Q1, Tbl0])
  refine WK_loop hm hT 13000 (lst [1000014]) (ι := LoopM l.length 4 fun _ => True)
    ⟨fun q => ⟨frL [(2, .fz (.s name.l)), (3, .fz (.sl (l.map enc))), (4, .ptr (13004, 0) 0), (5, .ptr (13005, 1) 0), (13, .fz (.b b)), (15, .fz (.b ((l.take q.i).all V))), (57, .fz (.sl (l.map enc))), (58, .fz (.i .i64 l.length)), (59, .fz (.i .i64 q.i))],
      hpL [((13004, 0), some ⟨[.fz (.i .i64 m.size), .fz (.sl (m.consts.map enc)), .fz (.sl (m.rels.map enc))], true, false⟩), ((13005, 1), some ⟨[.fz (.i .i64 f.kind), .fz (.s f.name.l), .fz (.sl (f.words.map enc)), .fz (.sl (f.subs.map enc))], true, false⟩)], q.m⟩, fun q => l.length - q.i⟩
    ⟨0, 20, by omega, by omega, trivial⟩ (by kernel_rfl) ?_ ?_
  · refine Weak_to ?_ ?_ ?_ <;> simp only [go_sem]
    all_goals first | done | rfl | omega | trace_state
  rintro ⟨i, q, hi, hq, _⟩
  try simp only at hi hq
  rcases Nat.lt_or_ge i l.length with h6 | h6
  · obtain ⟨u1, u2⟩ := kO.out i h6
    have hct := cut_mid h6
    have hal := all_take_succ (f := V) h6
    obtain ⟨a, ha⟩ : ∃ a, l[i] = a := ⟨_, rfl⟩
    rw [ha] at u1 u2 hct hal
    obtain ⟨x, hx⟩ : ∃ x, X a = x := ⟨_, rfl⟩
    obtain ⟨v, hv⟩ : ∃ v, V a = v := ⟨_, rfl⟩
    rw [hx] at u1 u2
    rw [hv] at u2 hal
    obtain ⟨B, hB⟩ : ∃ B, (l.take i).all V = B := ⟨_, rfl⟩
    rw [hB] at hal
    have hqc : (i : Int) = (i : Int) + 1 ∨ ((l.map enc).getD i FD.nilf).cells.length = 1 := .inr (by rw [getD_map_lt h6]; rfl)
    repeat' (first | refine WK_drawV hm hT 13000 (lst [1000014]) tree1314 (by kernel_rfl) (by kernel_rfl) ?_ | refine And.intro ?_ ?_ | exact True.intro | refine ReqK.i ⟨by omega, by omega, hqc⟩ fun _ => ?_ | refine ReqK.i ⟨by omega, by omega⟩ fun _ => ?_ | refine ReqK.i (by omega) fun _ => ?_ | refine ReqK.i (by unfold maxL; omega) fun _ => ?_ | refine ReqK.i rfl fun _ => ?_ | refine ReqK.i ⟨rfl, rfl⟩ fun _ => ?_ | refine ReqK.i ⟨rfl, rfl, rfl⟩ fun _ => ?_ | refine ReqK.i ⟨rfl, rfl, rfl, rfl⟩ fun _ => ?_ | refine ReqK.i ⟨rfl, rfl, rfl, trivial⟩ fun _ => ?_ | refine ReqK.i ⟨rfl, rfl, rfl, rfl, trivial⟩ fun _ => ?_ | simp only [go_sem, dD, dX, dK, dF, dG, each_x, GA, str_eta, form_eta, model_eta, tree1314, h6, ha, hct, u1, u2, dec_sl_cons, dec_sl_nil, hB, Tryd.f13, C2, C1, R25, R24, R23, R22, R21, R20, R19, R18, R17, R16, R15, R14, R13, R12, R11, R10, R9, R8, R7, R6, R5, R4, R3, R2, R1, Q20, Q19, Q18, Q17, Q16, Q15, Q14, Q13, Q12, Q11, Q10, Q9, Q8, Q7, Q6, Q5, Q4, Q3, Q2, Q1, Tbl0, R28, R27, A21, A20, A19, A18, A17, A16, A15, A14, A13, A12, A11, A10, A9, A8, A7, A6, A5, A4, A3, A2, A1, Q20, Q19, Q18, Q17, Q16, Q15, Q14, Q13, Q12, Q11, Q10, Q9, Q8, Q7, Q6, Q5, Q4, Q3, Q2, Q1, Tbl0])
    all_goals
      cases B <;> cases v
      all_goals
        repeat' (first | refine ReqK.i (by omega) fun _ => ?_ | refine ReqK.i (by unfold maxL; omega) fun _ => ?_ | refine ReqK.i rfl fun _ => ?_ | refine ReqK.i ⟨rfl, rfl⟩ fun _ => ?_ | refine ReqK.i ⟨rfl, rfl, rfl⟩ fun _ => ?_ | refine ReqK.i ⟨rfl, rfl, rfl, rfl⟩ fun _ => ?_ | refine ReqK.i ⟨rfl, rfl, rfl, trivial⟩ fun _ => ?_ | refine ReqK.i ⟨rfl, rfl, rfl, rfl, trivial⟩ fun _ => ?_ | simp only [go_sem, dD, dX, dK, dF, dG, each_x, GA, str_eta, form_eta, model_eta, u1, u2, Tryd.f13, C2, C1, R25, R24, R23, R22, R21, R20, R19, R18, R17, R16, R15, R14, R13, R12, R11, R10, R9, R8, R7, R6, R5, R4, R3, R2, R1, Q20, Q19, Q18, Q17, Q16, Q15, Q14, Q13, Q12, Q11, Q10, Q9, Q8, Q7, Q6, Q5, Q4, Q3, Q2, Q1, Tbl0, R28, R27, A21, A20, A19, A18, A17, A16, A15, A14, A13, A12, A11, A10, A9, A8, A7, A6, A5, A4, A3, A2, A1, Q20, Q19, Q18, Q17, Q16, Q15, Q14, Q13, Q12, Q11, Q10, Q9, Q8, Q7, Q6, Q5, Q4, Q3, Q2, Q1, Tbl0])
        refine ⟨⟨i + 1, q + 9, by omega, by omega, trivial⟩, by simp only; omega, ?_⟩
        refine Weak_to ?_ ?_ ?_ <;> simp only [go_sem, hal, Bool.and_true, Bool.and_false, Bool.true_and, Bool.false_and]
        all_goals first | done | rfl | omega | trace_state
  obtain rfl : i = l.length := by omega
  rw [hb2]
  repeat' (first | refine ReqK.i (by omega) fun _ => ?_ | refine ReqK.i (by unfold maxL; omega) fun _ => ?_ | refine ReqK.i rfl fun _ => ?_ | refine ReqK.i ⟨rfl, rfl⟩ fun _ => ?_ | refine ReqK.i ⟨rfl, rfl, rfl⟩ fun _ => ?_ | refine ReqK.i ⟨rfl, rfl, rfl, rfl⟩ fun _ => ?_ | refine ReqK.i ⟨rfl, rfl, rfl, trivial⟩ fun _ => ?_ | refine ReqK.i ⟨rfl, rfl, rfl, rfl, trivial⟩ fun _ => ?_ | simp only [go_sem, dD, dX, dK, dF, dG, each_x, GA, str_eta, form_eta, model_eta, Nat.lt_irrefl, List.take_length, Tryd.f13, C2, C1, R25, R24, R23, R22, R21, R20, R19, R18, R17, R16, R15, R14, R13, R12, R11, R10, R9, R8, R7, R6, R5, R4, R3, R2, R1, Q20, Q19, Q18, Q17, Q16, Q15, Q14, Q13, Q12, Q11, Q10, Q9, Q8, Q7, Q6, Q5, Q4, Q3, Q2, Q1, Tbl0, R28, R27, A21, A20, A19, A18, A17, A16, A15, A14, A13, A12, A11, A10, A9, A8, A7, A6, A5, A4, A3, A2, A1, Q20, Q19, Q18, Q17, Q16, Q15, Q14, Q13, Q12, Q11, Q10, Q9, Q8, Q7, Q6, Q5, Q4, Q3, Q2, Q1, Tbl0])
end Go.Proofs.YtoicheicnbjfeaaDoor

namespace Go.Proofs.YtoicheicnbjfeaaDoor
open Go Go.Abs Go.Proofs

/-! ## the law PluralEachIsCumulative -/
theorem any_take_succ' {α : Type} {f : α → Bool} {l : List α} {j : Nat} (h : j < l.length) : (l.take (j + 1)).any f = ((l.take j).any f || f l[j]) := by
  rw [List.take_succ_eq_append_getElem h, List.any_append]
  simp
theorem all_take_succ' {α : Type} {f : α → Bool} {l : List α} {j : Nat} (h : j < l.length) : (l.take (j + 1)).all f = ((l.take j).all f && f l[j]) := by
  rw [List.take_succ_eq_append_getElem h, List.all_append]
  simp
set_option maxRecDepth 100000 in
set_option maxHeartbeats 1000000 in
set_option maxHeartbeats 8000000 in
theorem lawCum (hT : TblOk Tryd.prog GA C2) (m : Model) (name : Str) (a b : List Str) (_ : (enc m).Wf) (_ : (enc name).Wf) (_ : (enc a).Wf) (_ : (enc b).Wf) : Wcall Tryd.prog GA 14 [.fz (enc m), .fz (enc name), .fz (enc a), .fz (enc b)] (hpL []) 0 (fun d _ _ => d = .fz (.b true)) := by
  have dS : Str.mk [115, 101, 101] = sPS := rfl
  have dK : Str.mk [107, 105, 109] = sPK := rfl
  have dL : Str.mk [108, 101, 101] = sPL := rfl
  obtain ⟨gx, hgx, hgk⟩ := cum_x
  obtain ⟨g, e, hge⟩ : ∃ g e, cumP name a b = (g, e) := ⟨_, _, rfl⟩
  obtain ⟨z, c, hbc⟩ : ∃ z c, holdsP m g = (z, c) := ⟨_, _, rfl⟩
  refine Wcall_K (N := 110) hm hT 14000 (lst []) ok14 Tryd.func14 rfl rfl (by simp) (by kernel_rfl) ?_
  by_cases he : e.code = 0
  rotate_left
  · have he' : (e.code = 0) = False := eq_false he
    repeat' (first | refine ReqK.i (by omega) fun _ => ?_ | refine ReqK.i (by unfold maxL; omega) fun _ => ?_ | refine ReqK.i rfl fun _ => ?_ | refine ReqK.i ⟨rfl, rfl⟩ fun _ => ?_ | refine ReqK.i ⟨rfl, rfl, rfl⟩ fun _ => ?_ | refine ReqK.i ⟨rfl, rfl, rfl, rfl⟩ fun _ => ?_ | refine ReqK.i ⟨rfl, rfl, rfl, trivial⟩ fun _ => ?_ | refine ReqK.i ⟨rfl, rfl, rfl, rfl, trivial⟩ fun _ => ?_ | simp only [go_sem, dS, dK, dL, hgx, hgk, GA, str_eta, form_eta, model_eta, dec_sl_cons, dec_sl_nil, hge, hbc, he', Tryd.f14, C2, C1, R25, R24, R23, R22, R21, R20, R19, R18, R17, R16, R15, R14, R13, R12, R11, R10, R9, R8, R7, R6, R5, R4, R3, R2, R1, Q20, Q19, Q18, Q17, Q16, Q15, Q14, Q13, Q12, Q11, Q10, Q9, Q8, Q7, Q6, Q5, Q4, Q3, Q2, Q1, Tbl0, R28, R27, A21, A20, A19, A18, A17, A16, A15, A14, A13, A12, A11, A10, A9, A8, A7, A6, A5, A4, A3, A2, A1, Q20, Q19, Q18, Q17, Q16, Q15, Q14, Q13, Q12, Q11, Q10, Q9, Q8, Q7, Q6, Q5, Q4, Q3, Q2, Q1, Tbl0])
  obtain ⟨h1, ⟨h2, h2', h3⟩, ⟨h4, h4', h5⟩, hg, rfl⟩ := cum_inv hge he
  by_cases hc : c.code = 0
  rotate_left
  · have hc' : (c.code = 0) = False := eq_false hc
    repeat' (first | refine ReqK.i (by omega) fun _ => ?_ | refine ReqK.i (by unfold maxL; omega) fun _ => ?_ | refine ReqK.i rfl fun _ => ?_ | refine ReqK.i ⟨rfl, rfl⟩ fun _ => ?_ | refine ReqK.i ⟨rfl, rfl, rfl⟩ fun _ => ?_ | refine ReqK.i ⟨rfl, rfl, rfl, rfl⟩ fun _ => ?_ | refine ReqK.i ⟨rfl, rfl, rfl, trivial⟩ fun _ => ?_ | refine ReqK.i ⟨rfl, rfl, rfl, rfl, trivial⟩ fun _ => ?_ | simp only [go_sem, dS, dK, dL, hgx, hgk, GA, str_eta, form_eta, model_eta, dec_sl_cons, dec_sl_nil, hge, hbc, hc', Tryd.f14, C2, C1, R25, R24, R23, R22, R21, R20, R19, R18, R17, R16, R15, R14, R13, R12, R11, R10, R9, R8, R7, R6, R5, R4, R3, R2, R1, Q20, Q19, Q18, Q17, Q16, Q15, Q14, Q13, Q12, Q11, Q10, Q9, Q8, Q7, Q6, Q5, Q4, Q3, Q2, Q1, Tbl0, R28, R27, A21, A20, A19, A18, A17, A16, A15, A14, A13, A12, A11, A10, A9, A8, A7, A6, A5, A4, A3, A2, A1, Q20, Q19, Q18, Q17, Q16, Q15, Q14, Q13, Q12, Q11, Q10, Q9, Q8, Q7, Q6, Q5, Q4, Q3, Q2, Q1, Tbl0])
  obtain ⟨k1, k2, k3, hz, rfl⟩ := holds_inv hbc hc
  have hna : a ≠ [] := by intro h; rw [h] at h2; simp at h2
  have hnb : b ≠ [] := by intro h; rw [h] at h4; simp at h4
  obtain ⟨w1, w2⟩ := cum_val (m := m) (p := name) hna hnb
  rw [hg] at k3
  have w2 := w2 k3
  rw [hg, w1] at hz
  obtain ⟨V, hV⟩ : ∃ V : Str → Str → Bool, V = fun x y => valM m (holdsM name x y) [] := ⟨_, rfl⟩
  have hone : ∀ x ∈ a, ∀ y ∈ b, holdsP m (predM name [x, y]) = (V x y, ⟨0, 0⟩) := fun x hx y hy => by
    rw [hV]
    exact holds_ok k1 (by rw [show predM name [x, y] = holdsM name x y from rfl, holds_valid h1 (h3 x hx) (h5 y hy)]) (w2 x hx y hy)
  have hz : z = ((a.all fun x => b.any fun y => V x y) && (b.all fun y => a.any fun x => V x y)) := by rw [hV]; exact hz
  clear w1 w2 k3 hg hV k1 k2
  obtain ⟨IA, hIA⟩ : ∃ IA : Str → Nat → Bool, IA = fun x j => (b.take j).any fun y => V x y := ⟨_, rfl⟩
  have IA0 : ∀ x, IA x 0 = false := fun x => by rw [hIA]; simp
  have IAs : ∀ x j (h : j < b.length), IA x (j + 1) = (IA x j || V x b[j]) := fun x j h => by rw [hIA]; exact any_take_succ' h
  obtain ⟨IB, hIB⟩ : ∃ IB : Str → Nat → Bool, IB = fun x j => (a.take j).any fun y => V y x := ⟨_, rfl⟩
  have IB0 : ∀ x, IB x 0 = false := fun x => by rw [hIB]; simp
  have IBs : ∀ x j (h : j < a.length), IB x (j + 1) = (IB x j || V a[j] x) := fun x j h => by rw [hIB]; exact any_take_succ' h
  obtain ⟨MA, hMA⟩ : ∃ MA : Nat → Bool, MA = fun i => (a.take i).all fun x => IA x b.length := ⟨_, rfl⟩
  have mA0 : MA 0 = true := by rw [hMA]; simp
  have mAs : ∀ i (h : i < a.length), MA (i + 1) = (MA i && IA a[i] b.length) := fun i h => by rw [hMA]; exact all_take_succ' h
  obtain ⟨MB, hMB⟩ : ∃ MB : Nat → Bool, MB = fun i => MA a.length && (b.take i).all fun x => IB x a.length := ⟨_, rfl⟩
  have mB0 : MB 0 = MA a.length := by rw [hMB]; simp
  have mBs : ∀ i (h : i < b.length), MB (i + 1) = (MB i && IB b[i] a.length) := fun i h => by rw [hMB]; simp only; rw [all_take_succ' h, Bool.and_assoc]
  have hz : z = MB b.length := by rw [hz, hMB, hMA, hIA, hIB]; simp only [List.take_length]
  obtain ⟨PA, hPA⟩ : ∃ PA : Nat → List Str, PA = fun k => if k = 1 then b else a := ⟨_, rfl⟩
  obtain ⟨PB, hPB⟩ : ∃ PB : Nat → List Str, PB = fun k => if k = 1 then a else b := ⟨_, rfl⟩
  obtain ⟨PW, hPW⟩ : ∃ PW : Nat → Bool, PW = fun k => if k = 0 then true else if k = 1 then MA a.length else MB b.length := ⟨_, rfl⟩
  have p0A : PA 0 = a := by rw [hPA]; rfl
  have p1A : PA 1 = b := by rw [hPA]; rfl
  have p2A : PA 2 = a := by rw [hPA]; rfl
  have p0B : PB 0 = b := by rw [hPB]; rfl
  have p1B : PB 1 = a := by rw [hPB]; rfl
  have p2B : PB 2 = b := by rw [hPB]; rfl
  have p0W : PW 0 = true := by rw [hPW]; rfl
  have p1W : PW 1 = MA a.length := by rw [hPW]; rfl
  have p2W : PW 2 = MB b.length := by rw [hPW]; rfl
  clear hPA hPB hPW hMA hMB hIA hIB
  repeat' (first | refine ReqK.i (by omega) fun _ => ?_ | refine ReqK.i (by unfold maxL; omega) fun _ => ?_ | refine ReqK.i rfl fun _ => ?_ | refine ReqK.i ⟨rfl, rfl⟩ fun _ => ?_ | refine ReqK.i ⟨rfl, rfl, rfl⟩ fun _ => ?_ | refine ReqK.i ⟨rfl, rfl, rfl, rfl⟩ fun _ => ?_ | refine ReqK.i ⟨rfl, rfl, rfl, trivial⟩ fun _ => ?_ | refine ReqK.i ⟨rfl, rfl, rfl, rfl, trivial⟩ fun _ => ?_ | simp only [go_sem, dS, dK, dL, hgx, hgk, GA, str_eta, form_eta, model_eta, dec_sl_cons, dec_sl_nil, hge, hbc, Tryd.f14, C2, C1, R25, R24, R23, R22, R21, R20, R19, R18, R17, R16, R15, R14, R13, R12, R11, R10, R9, R8, R7, R6, R5, R4, R3, R2, R1, Q20, Q19, Q18, Q17, Q16, Q15, Q14, Q13, Q12, Q11, Q10, Q9, Q8, Q7, Q6, Q5, Q4, Q3, Q2, Q1, Tbl0, R28, R27, A21, A20, A19, A18, A17, A16, A15, A14, A13, A12, A11, A10, A9, A8, A7, A6, A5, A4, A3, A2, A1, Q20, Q19, Q18, Q17, Q16, Q15, Q14, Q13, Q12, Q11, Q10, Q9, Q8, Q7, Q6, Q5, Q4, Q3, Q2, Q1, Tbl0])
  refine WK_loop hm hT 14000 (lst []) (ι := LoopM 2 6 fun _ => True)
    ⟨fun q => ⟨frL [(1, .fz (.s name.l)), (2, .fz (.sl ((PA q.i).map enc))), (3, .fz (.sl ((PB q.i).map enc))), (4, .ptr (14004, 0) 0), (13, .fz (.b z)), (16, .fz (.i .i64 q.i)), (15, .fz (.b (PW q.i)))], hpL [((14004, 0), some ⟨[.fz (.i .i64 m.size), .fz (.sl (m.consts.map enc)), .fz (.sl (m.rels.map enc))], true, false⟩)], q.m⟩, fun q => 2 - q.i⟩
    ⟨0, 20, by omega, by omega, trivial⟩ (by kernel_rfl) ?_ ?_
  · refine Weak_to ?_ ?_ ?_ <;> simp only [go_sem, p0A, p0B, p0W]
    all_goals first | done | rfl | omega | trace_state
  rintro ⟨k, n, hk, hn, _⟩
  try simp only at hk hn
  obtain rfl | rfl | rfl : k = 0 ∨ k = 1 ∨ k = 2 := by omega
  · repeat' (first | refine ReqK.i (by omega) fun _ => ?_ | refine ReqK.i (by unfold maxL; omega) fun _ => ?_ | refine ReqK.i rfl fun _ => ?_ | refine ReqK.i ⟨rfl, rfl⟩ fun _ => ?_ | refine ReqK.i ⟨rfl, rfl, rfl⟩ fun _ => ?_ | refine ReqK.i ⟨rfl, rfl, rfl, rfl⟩ fun _ => ?_ | refine ReqK.i ⟨rfl, rfl, rfl, trivial⟩ fun _ => ?_ | refine ReqK.i ⟨rfl, rfl, rfl, rfl, trivial⟩ fun _ => ?_ | simp only [go_sem, dS, dK, dL, hgx, hgk, GA, str_eta, form_eta, model_eta, dec_sl_cons, dec_sl_nil, p0A, p0B, p0W, Tryd.f14, C2, C1, R25, R24, R23, R22, R21, R20, R19, R18, R17, R16, R15, R14, R13, R12, R11, R10, R9, R8, R7, R6, R5, R4, R3, R2, R1, Q20, Q19, Q18, Q17, Q16, Q15, Q14, Q13, Q12, Q11, Q10, Q9, Q8, Q7, Q6, Q5, Q4, Q3, Q2, Q1, Tbl0, R28, R27, A21, A20, A19, A18, A17, A16, A15, A14, A13, A12, A11, A10, A9, A8, A7, A6, A5, A4, A3, A2, A1, Q20, Q19, Q18, Q17, Q16, Q15, Q14, Q13, Q12, Q11, Q10, Q9, Q8, Q7, Q6, Q5, Q4, Q3, Q2, Q1, Tbl0])
    refine WK_loop hm hT 14000 (lst []) (ι := LoopM a.length 6 fun _ => True)
      ⟨fun q => ⟨frL [(1, .fz (.s name.l)), (2, .fz (.sl (a.map enc))), (3, .fz (.sl (b.map enc))), (4, .ptr (14004, 0) 0), (13, .fz (.b z)), (16, .fz (.i .i64 0)), (15, .fz (.b (MA q.i))), (62, .fz (.sl (a.map enc))), (63, .fz (.i .i64 a.length)), (64, .fz (.i .i64 q.i))], hpL [((14004, 0), some ⟨[.fz (.i .i64 m.size), .fz (.sl (m.consts.map enc)), .fz (.sl (m.rels.map enc))], true, false⟩)], q.m⟩, fun q => a.length - q.i⟩
      ⟨0, n, by omega, hn, trivial⟩ (by kernel_rfl) ?_ ?_
    · refine Weak_to ?_ ?_ ?_ <;> simp only [go_sem, mA0, p0A, p0B, p0W]
      all_goals first | done | rfl | omega | trace_state
    rintro ⟨i, n2, hi, hn2, _⟩
    try simp only at hi hn2
    rcases Nat.lt_or_ge i a.length with h6 | h6
    · obtain ⟨x, hx⟩ : ∃ x, a[i] = x := ⟨_, rfl⟩
      have hxm : x ∈ a := hx ▸ List.getElem_mem h6
      have hms := mAs i h6
      rw [hx] at hms
      have hgd : ((a.map enc).getD i FD.nilf) = FD.s x.l := by rw [getD_map_lt h6, hx]; rfl
      repeat' (first | refine ReqK.i (by rw [hgd]; rfl) fun _ => ?_ | refine ReqK.i (by omega) fun _ => ?_ | refine ReqK.i (by unfold maxL; omega) fun _ => ?_ | refine ReqK.i rfl fun _ => ?_ | refine ReqK.i ⟨rfl, rfl⟩ fun _ => ?_ | refine ReqK.i ⟨rfl, rfl, rfl⟩ fun _ => ?_ | refine ReqK.i ⟨rfl, rfl, rfl, rfl⟩ fun _ => ?_ | refine ReqK.i ⟨rfl, rfl, rfl, trivial⟩ fun _ => ?_ | refine ReqK.i ⟨rfl, rfl, rfl, rfl, trivial⟩ fun _ => ?_ | simp only [go_sem, dS, dK, dL, hgx, hgk, GA, str_eta, form_eta, model_eta, dec_sl_cons, dec_sl_nil, h6, hgd, str_eta, Tryd.f14, C2, C1, R25, R24, R23, R22, R21, R20, R19, R18, R17, R16, R15, R14, R13, R12, R11, R10, R9, R8, R7, R6, R5, R4, R3, R2, R1, Q20, Q19, Q18, Q17, Q16, Q15, Q14, Q13, Q12, Q11, Q10, Q9, Q8, Q7, Q6, Q5, Q4, Q3, Q2, Q1, Tbl0, R28, R27, A21, A20, A19, A18, A17, A16, A15, A14, A13, A12, A11, A10, A9, A8, A7, A6, A5, A4, A3, A2, A1, Q20, Q19, Q18, Q17, Q16, Q15, Q14, Q13, Q12, Q11, Q10, Q9, Q8, Q7, Q6, Q5, Q4, Q3, Q2, Q1, Tbl0])
      refine WK_loop hm hT 14000 (lst []) (ι := LoopM b.length 6 fun _ => True)
        ⟨fun q => ⟨frL [(1, .fz (.s name.l)), (2, .fz (.sl (a.map enc))), (3, .fz (.sl (b.map enc))), (4, .ptr (14004, 0) 0), (13, .fz (.b z)), (16, .fz (.i .i64 0)), (15, .fz (.b (MA i))), (62, .fz (.sl (a.map enc))), (63, .fz (.i .i64 a.length)), (64, .fz (.i .i64 i)), (18, .fz (.s x.l)), (19, .fz (.b (IA x q.i))), (68, .fz (.sl (b.map enc))), (69, .fz (.i .i64 b.length)), (70, .fz (.i .i64 q.i))], hpL [((14004, 0), some ⟨[.fz (.i .i64 m.size), .fz (.sl (m.consts.map enc)), .fz (.sl (m.rels.map enc))], true, false⟩)], q.m⟩, fun q => b.length - q.i⟩
        ⟨0, n2, by omega, hn2, trivial⟩ (by kernel_rfl) ?_ ?_
      · refine Weak_to ?_ ?_ ?_ <;> simp only [go_sem, IA0 x]
        all_goals first | done | rfl | omega | trace_state
      rintro ⟨j, n3, hj, hn3, _⟩
      try simp only at hj hn3
      rcases Nat.lt_or_ge j b.length with h7 | h7
      · obtain ⟨y, hy⟩ : ∃ y, b[j] = y := ⟨_, rfl⟩
        have hym : y ∈ b := hy ▸ List.getElem_mem h7
        have his := IAs x j h7
        rw [hy] at his
        have hgd2 : ((b.map enc).getD j FD.nilf) = FD.s y.l := by rw [getD_map_lt h7, hy]; rfl
        have u := hone x hxm y hym
        obtain ⟨g, hg⟩ : ∃ g, predM name [x, y] = g := ⟨_, rfl⟩
        obtain ⟨g', hg'⟩ : ∃ g', predM name [y, x] = g' := ⟨_, rfl⟩
        obtain ⟨v, hv⟩ : ∃ v, V x y = v := ⟨_, rfl⟩
        rw [hg, hv] at u
        rw [hv] at his
        obtain ⟨R, hR⟩ : ∃ R, IA x j = R := ⟨_, rfl⟩
        rw [hR] at his
        cases R <;> cases v
        all_goals
          repeat' (first | refine ReqK.i (by rw [hgd2]; rfl) fun _ => ?_ | refine ReqK.i (by omega) fun _ => ?_ | refine ReqK.i (by unfold maxL; omega) fun _ => ?_ | refine ReqK.i rfl fun _ => ?_ | refine ReqK.i ⟨rfl, rfl⟩ fun _ => ?_ | refine ReqK.i ⟨rfl, rfl, rfl⟩ fun _ => ?_ | refine ReqK.i ⟨rfl, rfl, rfl, rfl⟩ fun _ => ?_ | refine ReqK.i ⟨rfl, rfl, rfl, trivial⟩ fun _ => ?_ | refine ReqK.i ⟨rfl, rfl, rfl, rfl, trivial⟩ fun _ => ?_ | simp only [go_sem, dS, dK, dL, hgx, hgk, GA, str_eta, form_eta, model_eta, dec_sl_cons, dec_sl_nil, h7, hgd2, hR, hg, hg', u, Tryd.f14, C2, C1, R25, R24, R23, R22, R21, R20, R19, R18, R17, R16, R15, R14, R13, R12, R11, R10, R9, R8, R7, R6, R5, R4, R3, R2, R1, Q20, Q19, Q18, Q17, Q16, Q15, Q14, Q13, Q12, Q11, Q10, Q9, Q8, Q7, Q6, Q5, Q4, Q3, Q2, Q1, Tbl0, R28, R27, A21, A20, A19, A18, A17, A16, A15, A14, A13, A12, A11, A10, A9, A8, A7, A6, A5, A4, A3, A2, A1, Q20, Q19, Q18, Q17, Q16, Q15, Q14, Q13, Q12, Q11, Q10, Q9, Q8, Q7, Q6, Q5, Q4, Q3, Q2, Q1, Tbl0])
          refine ⟨⟨j + 1, n3 + 12, by omega, by omega, trivial⟩, by simp only; omega, ?_⟩
          refine Weak_to ?_ ?_ ?_ <;> simp only [go_sem, his, hR, Bool.or_true, Bool.or_false, Bool.true_or, Bool.false_or]
          all_goals first | done | rfl | omega | trace_state
      obtain rfl : j = b.length := by omega
      obtain ⟨R, hR⟩ : ∃ R, IA x b.length = R := ⟨_, rfl⟩
      obtain ⟨R2, hR2⟩ : ∃ R2, MA i = R2 := ⟨_, rfl⟩
      rw [hR, hR2] at hms
      cases R <;> cases R2
      all_goals
        repeat' (first | refine ReqK.i (by omega) fun _ => ?_ | refine ReqK.i (by unfold maxL; omega) fun _ => ?_ | refine ReqK.i rfl fun _ => ?_ | refine ReqK.i ⟨rfl, rfl⟩ fun _ => ?_ | refine ReqK.i ⟨rfl, rfl, rfl⟩ fun _ => ?_ | refine ReqK.i ⟨rfl, rfl, rfl, rfl⟩ fun _ => ?_ | refine ReqK.i ⟨rfl, rfl, rfl, trivial⟩ fun _ => ?_ | refine ReqK.i ⟨rfl, rfl, rfl, rfl, trivial⟩ fun _ => ?_ | simp only [go_sem, dS, dK, dL, hgx, hgk, GA, str_eta, form_eta, model_eta, dec_sl_cons, dec_sl_nil, Nat.lt_irrefl, hR, hR2, Tryd.f14, C2, C1, R25, R24, R23, R22, R21, R20, R19, R18, R17, R16, R15, R14, R13, R12, R11, R10, R9, R8, R7, R6, R5, R4, R3, R2, R1, Q20, Q19, Q18, Q17, Q16, Q15, Q14, Q13, Q12, Q11, Q10, Q9, Q8, Q7, Q6, Q5, Q4, Q3, Q2, Q1, Tbl0, R28, R27, A21, A20, A19, A18, A17, A16, A15, A14, A13, A12, A11, A10, A9, A8, A7, A6, A5, A4, A3, A2, A1, Q20, Q19, Q18, Q17, Q16, Q15, Q14, Q13, Q12, Q11, Q10, Q9, Q8, Q7, Q6, Q5, Q4, Q3, Q2, Q1, Tbl0])
        refine ⟨⟨i + 1, n3, by omega, hn3, trivial⟩, by simp only; omega, ?_⟩
        refine Weak_to ?_ ?_ ?_ <;> simp only [go_sem, hms, hR, hR2, Bool.and_true, Bool.and_false, Bool.true_and, Bool.false_and]
        all_goals first | done | rfl | omega | trace_state
    obtain rfl : i = a.length := by omega
    repeat' (first | refine ReqK.i (by omega) fun _ => ?_ | refine ReqK.i (by unfold maxL; omega) fun _ => ?_ | refine ReqK.i rfl fun _ => ?_ | refine ReqK.i ⟨rfl, rfl⟩ fun _ => ?_ | refine ReqK.i ⟨rfl, rfl, rfl⟩ fun _ => ?_ | refine ReqK.i ⟨rfl, rfl, rfl, rfl⟩ fun _ => ?_ | refine ReqK.i ⟨rfl, rfl, rfl, trivial⟩ fun _ => ?_ | refine ReqK.i ⟨rfl, rfl, rfl, rfl, trivial⟩ fun _ => ?_ | simp only [go_sem, dS, dK, dL, hgx, hgk, GA, str_eta, form_eta, model_eta, dec_sl_cons, dec_sl_nil, Nat.lt_irrefl, Tryd.f14, C2, C1, R25, R24, R23, R22, R21, R20, R19, R18, R17, R16, R15, R14, R13, R12, R11, R10, R9, R8, R7, R6, R5, R4, R3, R2, R1, Q20, Q19, Q18, Q17, Q16, Q15, Q14, Q13, Q12, Q11, Q10, Q9, Q8, Q7, Q6, Q5, Q4, Q3, Q2, Q1, Tbl0, R28, R27, A21, A20, A19, A18, A17, A16, A15, A14, A13, A12, A11, A10, A9, A8, A7, A6, A5, A4, A3, A2, A1, Q20, Q19, Q18, Q17, Q16, Q15, Q14, Q13, Q12, Q11, Q10, Q9, Q8, Q7, Q6, Q5, Q4, Q3, Q2, Q1, Tbl0])
    refine ⟨⟨0 + 1, n2, by omega, hn2, trivial⟩, by simp only; omega, ?_⟩
    refine Weak_to ?_ ?_ ?_ <;> simp only [go_sem, p1A, p1B, p1W]
    all_goals first | done | rfl | omega | trace_state
  · repeat' (first | refine ReqK.i (by omega) fun _ => ?_ | refine ReqK.i (by unfold maxL; omega) fun _ => ?_ | refine ReqK.i rfl fun _ => ?_ | refine ReqK.i ⟨rfl, rfl⟩ fun _ => ?_ | refine ReqK.i ⟨rfl, rfl, rfl⟩ fun _ => ?_ | refine ReqK.i ⟨rfl, rfl, rfl, rfl⟩ fun _ => ?_ | refine ReqK.i ⟨rfl, rfl, rfl, trivial⟩ fun _ => ?_ | refine ReqK.i ⟨rfl, rfl, rfl, rfl, trivial⟩ fun _ => ?_ | simp only [go_sem, dS, dK, dL, hgx, hgk, GA, str_eta, form_eta, model_eta, dec_sl_cons, dec_sl_nil, p1A, p1B, p1W, Tryd.f14, C2, C1, R25, R24, R23, R22, R21, R20, R19, R18, R17, R16, R15, R14, R13, R12, R11, R10, R9, R8, R7, R6, R5, R4, R3, R2, R1, Q20, Q19, Q18, Q17, Q16, Q15, Q14, Q13, Q12, Q11, Q10, Q9, Q8, Q7, Q6, Q5, Q4, Q3, Q2, Q1, Tbl0, R28, R27, A21, A20, A19, A18, A17, A16, A15, A14, A13, A12, A11, A10, A9, A8, A7, A6, A5, A4, A3, A2, A1, Q20, Q19, Q18, Q17, Q16, Q15, Q14, Q13, Q12, Q11, Q10, Q9, Q8, Q7, Q6, Q5, Q4, Q3, Q2, Q1, Tbl0])
    refine WK_loop hm hT 14000 (lst []) (ι := LoopM b.length 6 fun _ => True)
      ⟨fun q => ⟨frL [(1, .fz (.s name.l)), (2, .fz (.sl (b.map enc))), (3, .fz (.sl (a.map enc))), (4, .ptr (14004, 0) 0), (13, .fz (.b z)), (16, .fz (.i .i64 1)), (15, .fz (.b (MB q.i))), (62, .fz (.sl (b.map enc))), (63, .fz (.i .i64 b.length)), (64, .fz (.i .i64 q.i))], hpL [((14004, 0), some ⟨[.fz (.i .i64 m.size), .fz (.sl (m.consts.map enc)), .fz (.sl (m.rels.map enc))], true, false⟩)], q.m⟩, fun q => b.length - q.i⟩
      ⟨0, n, by omega, hn, trivial⟩ (by kernel_rfl) ?_ ?_
    · refine Weak_to ?_ ?_ ?_ <;> simp only [go_sem, mB0, p1A, p1B, p1W]
      all_goals first | done | rfl | omega | trace_state
    rintro ⟨i, n2, hi, hn2, _⟩
    try simp only at hi hn2
    rcases Nat.lt_or_ge i b.length with h6 | h6
    · obtain ⟨x, hx⟩ : ∃ x, b[i] = x := ⟨_, rfl⟩
      have hxm : x ∈ b := hx ▸ List.getElem_mem h6
      have hms := mBs i h6
      rw [hx] at hms
      have hgd : ((b.map enc).getD i FD.nilf) = FD.s x.l := by rw [getD_map_lt h6, hx]; rfl
      repeat' (first | refine ReqK.i (by rw [hgd]; rfl) fun _ => ?_ | refine ReqK.i (by omega) fun _ => ?_ | refine ReqK.i (by unfold maxL; omega) fun _ => ?_ | refine ReqK.i rfl fun _ => ?_ | refine ReqK.i ⟨rfl, rfl⟩ fun _ => ?_ | refine ReqK.i ⟨rfl, rfl, rfl⟩ fun _ => ?_ | refine ReqK.i ⟨rfl, rfl, rfl, rfl⟩ fun _ => ?_ | refine ReqK.i ⟨rfl, rfl, rfl, trivial⟩ fun _ => ?_ | refine ReqK.i ⟨rfl, rfl, rfl, rfl, trivial⟩ fun _ => ?_ | simp only [go_sem, dS, dK, dL, hgx, hgk, GA, str_eta, form_eta, model_eta, dec_sl_cons, dec_sl_nil, h6, hgd, str_eta, Tryd.f14, C2, C1, R25, R24, R23, R22, R21, R20, R19, R18, R17, R16, R15, R14, R13, R12, R11, R10, R9, R8, R7, R6, R5, R4, R3, R2, R1, Q20, Q19, Q18, Q17, Q16, Q15, Q14, Q13, Q12, Q11, Q10, Q9, Q8, Q7, Q6, Q5, Q4, Q3, Q2, Q1, Tbl0, R28, R27, A21, A20, A19, A18, A17, A16, A15, A14, A13, A12, A11, A10, A9, A8, A7, A6, A5, A4, A3, A2, A1, Q20, Q19, Q18, Q17, Q16, Q15, Q14, Q13, Q12, Q11, Q10, Q9, Q8, Q7, Q6, Q5, Q4, Q3, Q2, Q1, Tbl0])
      refine WK_loop hm hT 14000 (lst []) (ι := LoopM a.length 6 fun _ => True)
        ⟨fun q => ⟨frL [(1, .fz (.s name.l)), (2, .fz (.sl (b.map enc))), (3, .fz (.sl (a.map enc))), (4, .ptr (14004, 0) 0), (13, .fz (.b z)), (16, .fz (.i .i64 1)), (15, .fz (.b (MB i))), (62, .fz (.sl (b.map enc))), (63, .fz (.i .i64 b.length)), (64, .fz (.i .i64 i)), (18, .fz (.s x.l)), (19, .fz (.b (IB x q.i))), (68, .fz (.sl (a.map enc))), (69, .fz (.i .i64 a.length)), (70, .fz (.i .i64 q.i))], hpL [((14004, 0), some ⟨[.fz (.i .i64 m.size), .fz (.sl (m.consts.map enc)), .fz (.sl (m.rels.map enc))], true, false⟩)], q.m⟩, fun q => a.length - q.i⟩
        ⟨0, n2, by omega, hn2, trivial⟩ (by kernel_rfl) ?_ ?_
      · refine Weak_to ?_ ?_ ?_ <;> simp only [go_sem, IB0 x]
        all_goals first | done | rfl | omega | trace_state
      rintro ⟨j, n3, hj, hn3, _⟩
      try simp only at hj hn3
      rcases Nat.lt_or_ge j a.length with h7 | h7
      · obtain ⟨y, hy⟩ : ∃ y, a[j] = y := ⟨_, rfl⟩
        have hym : y ∈ a := hy ▸ List.getElem_mem h7
        have his := IBs x j h7
        rw [hy] at his
        have hgd2 : ((a.map enc).getD j FD.nilf) = FD.s y.l := by rw [getD_map_lt h7, hy]; rfl
        have u := hone y hym x hxm
        obtain ⟨g, hg⟩ : ∃ g, predM name [x, y] = g := ⟨_, rfl⟩
        obtain ⟨g', hg'⟩ : ∃ g', predM name [y, x] = g' := ⟨_, rfl⟩
        obtain ⟨v, hv⟩ : ∃ v, V y x = v := ⟨_, rfl⟩
        rw [hg', hv] at u
        rw [hv] at his
        obtain ⟨R, hR⟩ : ∃ R, IB x j = R := ⟨_, rfl⟩
        rw [hR] at his
        cases R <;> cases v
        all_goals
          repeat' (first | refine ReqK.i (by rw [hgd2]; rfl) fun _ => ?_ | refine ReqK.i (by omega) fun _ => ?_ | refine ReqK.i (by unfold maxL; omega) fun _ => ?_ | refine ReqK.i rfl fun _ => ?_ | refine ReqK.i ⟨rfl, rfl⟩ fun _ => ?_ | refine ReqK.i ⟨rfl, rfl, rfl⟩ fun _ => ?_ | refine ReqK.i ⟨rfl, rfl, rfl, rfl⟩ fun _ => ?_ | refine ReqK.i ⟨rfl, rfl, rfl, trivial⟩ fun _ => ?_ | refine ReqK.i ⟨rfl, rfl, rfl, rfl, trivial⟩ fun _ => ?_ | simp only [go_sem, dS, dK, dL, hgx, hgk, GA, str_eta, form_eta, model_eta, dec_sl_cons, dec_sl_nil, h7, hgd2, hR, hg, hg', u, Tryd.f14, C2, C1, R25, R24, R23, R22, R21, R20, R19, R18, R17, R16, R15, R14, R13, R12, R11, R10, R9, R8, R7, R6, R5, R4, R3, R2, R1, Q20, Q19, Q18, Q17, Q16, Q15, Q14, Q13, Q12, Q11, Q10, Q9, Q8, Q7, Q6, Q5, Q4, Q3, Q2, Q1, Tbl0, R28, R27, A21, A20, A19, A18, A17, A16, A15, A14, A13, A12, A11, A10, A9, A8, A7, A6, A5, A4, A3, A2, A1, Q20, Q19, Q18, Q17, Q16, Q15, Q14, Q13, Q12, Q11, Q10, Q9, Q8, Q7, Q6, Q5, Q4, Q3, Q2, Q1, Tbl0])
          refine ⟨⟨j + 1, n3 + 12, by omega, by omega, trivial⟩, by simp only; omega, ?_⟩
          refine Weak_to ?_ ?_ ?_ <;> simp only [go_sem, his, hR, Bool.or_true, Bool.or_false, Bool.true_or, Bool.false_or]
          all_goals first | done | rfl | omega | trace_state
      obtain rfl : j = a.length := by omega
      obtain ⟨R, hR⟩ : ∃ R, IB x a.length = R := ⟨_, rfl⟩
      obtain ⟨R2, hR2⟩ : ∃ R2, MB i = R2 := ⟨_, rfl⟩
      rw [hR, hR2] at hms
      cases R <;> cases R2
      all_goals
        repeat' (first | refine ReqK.i (by omega) fun _ => ?_ | refine ReqK.i (by unfold maxL; omega) fun _ => ?_ | refine ReqK.i rfl fun _ => ?_ | refine ReqK.i ⟨rfl, rfl⟩ fun _ => ?_ | refine ReqK.i ⟨rfl, rfl, rfl⟩ fun _ => ?_ | refine ReqK.i ⟨rfl, rfl, rfl, rfl⟩ fun _ => ?_ | refine ReqK.i ⟨rfl, rfl, rfl, trivial⟩ fun _ => ?_ | refine ReqK.i ⟨rfl, rfl, rfl, rfl, trivial⟩ fun _ => ?_ | simp only [go_sem, dS, dK, dL, hgx, hgk, GA, str_eta, form_eta, model_eta, dec_sl_cons, dec_sl_nil, Nat.lt_irrefl, hR, hR2, Tryd.f14, C2, C1, R25, R24, R23, R22, R21, R20, R19, R18, R17, R16, R15, R14, R13, R12, R11, R10, R9, R8, R7, R6, R5, R4, R3, R2, R1, Q20, Q19, Q18, Q17, Q16, Q15, Q14, Q13, Q12, Q11, Q10, Q9, Q8, Q7, Q6, Q5, Q4, Q3, Q2, Q1, Tbl0, R28, R27, A21, A20, A19, A18, A17, A16, A15, A14, A13, A12, A11, A10, A9, A8, A7, A6, A5, A4, A3, A2, A1, Q20, Q19, Q18, Q17, Q16, Q15, Q14, Q13, Q12, Q11, Q10, Q9, Q8, Q7, Q6, Q5, Q4, Q3, Q2, Q1, Tbl0])
        refine ⟨⟨i + 1, n3, by omega, hn3, trivial⟩, by simp only; omega, ?_⟩
        refine Weak_to ?_ ?_ ?_ <;> simp only [go_sem, hms, hR, hR2, Bool.and_true, Bool.and_false, Bool.true_and, Bool.false_and]
        all_goals first | done | rfl | omega | trace_state
    obtain rfl : i = b.length := by omega
    repeat' (first | refine ReqK.i (by omega) fun _ => ?_ | refine ReqK.i (by unfold maxL; omega) fun _ => ?_ | refine ReqK.i rfl fun _ => ?_ | refine ReqK.i ⟨rfl, rfl⟩ fun _ => ?_ | refine ReqK.i ⟨rfl, rfl, rfl⟩ fun _ => ?_ | refine ReqK.i ⟨rfl, rfl, rfl, rfl⟩ fun _ => ?_ | refine ReqK.i ⟨rfl, rfl, rfl, trivial⟩ fun _ => ?_ | refine ReqK.i ⟨rfl, rfl, rfl, rfl, trivial⟩ fun _ => ?_ | simp only [go_sem, dS, dK, dL, hgx, hgk, GA, str_eta, form_eta, model_eta, dec_sl_cons, dec_sl_nil, Nat.lt_irrefl, Tryd.f14, C2, C1, R25, R24, R23, R22, R21, R20, R19, R18, R17, R16, R15, R14, R13, R12, R11, R10, R9, R8, R7, R6, R5, R4, R3, R2, R1, Q20, Q19, Q18, Q17, Q16, Q15, Q14, Q13, Q12, Q11, Q10, Q9, Q8, Q7, Q6, Q5, Q4, Q3, Q2, Q1, Tbl0, R28, R27, A21, A20, A19, A18, A17, A16, A15, A14, A13, A12, A11, A10, A9, A8, A7, A6, A5, A4, A3, A2, A1, Q20, Q19, Q18, Q17, Q16, Q15, Q14, Q13, Q12, Q11, Q10, Q9, Q8, Q7, Q6, Q5, Q4, Q3, Q2, Q1, Tbl0])
    refine ⟨⟨1 + 1, n2, by omega, hn2, trivial⟩, by simp only; omega, ?_⟩
    refine Weak_to ?_ ?_ ?_ <;> simp only [go_sem, p2A, p2B, p2W]
    all_goals first | done | rfl | omega | trace_state
  · rw [hz]
    repeat' (first | refine ReqK.i (by omega) fun _ => ?_ | refine ReqK.i (by unfold maxL; omega) fun _ => ?_ | refine ReqK.i rfl fun _ => ?_ | refine ReqK.i ⟨rfl, rfl⟩ fun _ => ?_ | refine ReqK.i ⟨rfl, rfl, rfl⟩ fun _ => ?_ | refine ReqK.i ⟨rfl, rfl, rfl, rfl⟩ fun _ => ?_ | refine ReqK.i ⟨rfl, rfl, rfl, trivial⟩ fun _ => ?_ | refine ReqK.i ⟨rfl, rfl, rfl, rfl, trivial⟩ fun _ => ?_ | simp only [go_sem, dS, dK, dL, hgx, hgk, GA, str_eta, form_eta, model_eta, dec_sl_cons, dec_sl_nil, p2A, p2B, p2W, Tryd.f14, C2, C1, R25, R24, R23, R22, R21, R20, R19, R18, R17, R16, R15, R14, R13, R12, R11, R10, R9, R8, R7, R6, R5, R4, R3, R2, R1, Q20, Q19, Q18, Q17, Q16, Q15, Q14, Q13, Q12, Q11, Q10, Q9, Q8, Q7, Q6, Q5, Q4, Q3, Q2, Q1, Tbl0, R28, R27, A21, A20, A19, A18, A17, A16, A15, A14, A13, A12, A11, A10, A9, A8, A7, A6, A5, A4, A3, A2, A1, Q20, Q19, Q18, Q17, Q16, Q15, Q14, Q13, Q12, Q11, Q10, Q9, Q8, Q7, Q6, Q5, Q4, Q3, Q2, Q1, Tbl0])
end Go.Proofs.YtoicheicnbjfeaaDoor
