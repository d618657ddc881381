import Derived.Test.YtbbjghecpcobjaaDoorAT
import Derived.Test.YtbbjghecpcobjaaDoorY5
import Derived.Test.YtbbjghecpcobjaaDoorY3
import Derived.Test.YtbbjghecpcobjaaDoorVP
import Derived.Test.YtbbjghecpcobjaaDoorAbs46
set_option linter.unusedSimpArgs false
namespace Go.Proofs.YtbbjghecpcobjaaDoor
open Go Go.Abs Go.Proofs

/-! ## truth.Holds, beside the package plural -/
def C1 : Tbl := Tbl.or R25 (Tbl.or R28 A21)
attribute [go_sem] C1
theorem hC1 : TblOk Tryd.prog GA C1 := TblOk_or hR25 (TblOk_or hR28 hA21)
def holdsP (m : Model) (f : Abs.Form) : Bool × Fault := if (modelM m).code ≠ 0 then (false, modelM m) else if (checkM false f).code ≠ 0 then (false, checkM false f) else if (truthE m f).code ≠ 0 then (false, truthE m f) else (valM m f [], ⟨0, 0⟩)
theorem flP_ok {m : Model} {f : Abs.Form} (hm : mval m) (h : (checkM false f).code = 0) : flP m f := by
  have h1 := checkM_fit h
  have h2 := checkM_size h
  have := cst_len h1 []
  exact ⟨hm.c, hm.r, ⟨h1, by omega⟩, by omega⟩
theorem truthE_zero {m : Model} {f : Abs.Form} (h : (truthE m f).code = 0) : truthE m f = ⟨0, 0⟩ := by
  unfold truthE at h ⊢
  split at h
  · exact absurd h (by decide)
  · rename_i h1
    split at h
    · exact absurd h (by decide)
    · rename_i h2; rw [if_neg h1, if_neg h2]
theorem holds_ok {m : Model} {f : Abs.Form} (h1 : (modelM m).code = 0) (h2 : (checkM false f).code = 0) (h3 : (truthE m f).code = 0) : holdsP m f = (valM m f [], ⟨0, 0⟩) := by
  unfold holdsP
  rw [if_neg (by simp [h1]), if_neg (by simp [h2]), if_neg (by simp [h3])]
theorem holds_inv {m : Model} {f : Abs.Form} {b : Bool} {e : Fault} (h : holdsP m f = (b, e)) (he : e.code = 0) : (modelM m).code = 0 ∧ (checkM false f).code = 0 ∧ (truthE m f).code = 0 ∧ b = valM m f [] ∧ e = ⟨0, 0⟩ := by
  unfold holdsP at h
  split at h
  · rename_i h1; obtain ⟨rfl, rfl⟩ := Prod.mk.inj h; exact absurd he h1
  · rename_i h1
    split at h
    · rename_i h2; obtain ⟨rfl, rfl⟩ := Prod.mk.inj h; exact absurd he h2
    · rename_i h2
      split at h
      · rename_i h3; obtain ⟨rfl, rfl⟩ := Prod.mk.inj h; exact absurd he h3
      · rename_i h3
        obtain ⟨rfl, rfl⟩ := Prod.mk.inj h
        exact ⟨Decidable.not_not.1 h1, Decidable.not_not.1 h2, Decidable.not_not.1 h3, rfl, rfl⟩
def C2 : Tbl := C1.add 28 (sp2p holdsP fun _ _ => True)
attribute [go_sem] C2
set_option maxRecDepth 100000 in
set_option maxHeartbeats 1000000 in
set_option maxHeartbeats 4000000 in
theorem hC2 : TblOk Tryd.prog GA C2 := by
  refine sp2p_ok ok28 hC1 fun m f _ _ _ => ?_
  by_cases h1 : (modelM m).code = 0
  rotate_left
  · have e : holdsP m f = (false, modelM m) := by unfold holdsP; rw [if_pos h1]
    obtain ⟨X, hX⟩ : ∃ X, modelM m = X := ⟨_, rfl⟩
    rw [hX] at e h1
    rw [e]
    refine Wcall_K (N := 32) hm hC1 28000 (lst []) ok28 Tryd.func28 rfl rfl (by simp) (by kernel_rfl) ?_
    repeat' (first | refine rq fun _ => ?_ | simp only [go_sem, h1, hX, model_eta, form_eta, Tryd.f28])
  have hmv := (modelM_good h1).v
  have hmz := modelM_zero h1
  by_cases h2 : (checkM false f).code = 0
  rotate_left
  · have e : holdsP m f = (false, checkM false f) := by unfold holdsP; rw [if_neg (by simp [h1]), if_pos h2]
    obtain ⟨X, hX⟩ : ∃ X, checkM false f = X := ⟨_, rfl⟩
    rw [hX] at e h2
    rw [e]
    refine Wcall_K (N := 32) hm hC1 28000 (lst []) ok28 Tryd.func28 rfl rfl (by simp) (by kernel_rfl) ?_
    repeat' (first | refine rq fun _ => ?_ | simp only [go_sem, hmz, h2, hX, model_eta, form_eta, Tryd.f28])
  have hck := checkM_code h2
  have hfl := flP_ok hmv h2
  have hvp := vsP_val (vsP_ok hmv h2) [] (by simp)
  by_cases h3 : (truthE m f).code = 0
  rotate_left
  · have e : holdsP m f = (false, truthE m f) := by unfold holdsP; rw [if_neg (by simp [h1]), if_neg (by simp [h2]), if_pos h3]
    obtain ⟨X, hX⟩ : ∃ X, truthE m f = X := ⟨_, rfl⟩
    rw [hX] at e h3
    rw [e]
    refine Wcall_K (N := 32) hm hC1 28000 (lst []) ok28 Tryd.func28 rfl rfl (by simp) (by kernel_rfl) ?_
    repeat' (first | refine ReqK.i hfl fun _ => ?_ | refine rq fun _ => ?_ | simp only [go_sem, hmz, hck, h3, hX, model_eta, form_eta, Tryd.f28])
  have htz := truthE_zero h3
  rw [holds_ok h1 h2 h3]
  obtain ⟨b, hb⟩ : ∃ b, valM m f [] = b := ⟨_, rfl⟩
  rw [hb]
  refine Wcall_K (N := 32) hm hC1 28000 (lst []) ok28 Tryd.func28 rfl rfl (by simp) (by kernel_rfl) ?_
  repeat' (first | refine ReqK.i hfl fun _ => ?_ | refine ReqK.i hvp fun _ => ?_ | refine rq fun _ => ?_ | simp only [go_sem, hmz, hck, htz, hb, dec_sl_nil, model_eta, form_eta, Tryd.f28])
def sPD : Str := ⟨[100, 111, 103]⟩
def sPX : Str := ⟨[120]⟩
def sPK : Str := ⟨[107, 105, 109]⟩
def sPL : Str := ⟨[108, 101, 101]⟩
def sPS : Str := ⟨[115, 101, 101]⟩
def fPX : Abs.Form := predM sPD [sPX]
def fPK : Abs.Form := predM sPD [sPK]
/-! ## the law PluralEachIsTrueOfEach -/
def tree1314 : Tv := (.q 0 (.q 1 (.q 2 (.q 3 (.q 4 (.q 5 (.q 6 (.q 7 (.q 8 (.q 9 (.q 10 (.br [(11, (.br [(12, (.br [(13, (.br [(14, .leaf)]))]))])), (12, (.br [(11, (.br [(13, (.br [(14, .leaf)]))]))]))]))))))))))))
end Go.Proofs.YtbbjghecpcobjaaDoor
