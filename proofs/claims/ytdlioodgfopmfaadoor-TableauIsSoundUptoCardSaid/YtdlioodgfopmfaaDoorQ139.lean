import Derived.Test.YtdlioodgfopmfaaDoorAT
import Derived.Test.YtdlioodgfopmfaaDoorQ87
import Derived.Test.YtdlioodgfopmfaaDoorQ24
import Derived.Test.YtdlioodgfopmfaaDoorY14
set_option linter.unusedSimpArgs false
namespace Go.Proofs.YtdlioodgfopmfaaDoor
open Go Go.Abs Go.Proofs

def holdsP (m : Model) (f : Abs.Form) : Bool × Fault := if (modelM m).code ≠ 0 then (false, modelM m) else if (checkM false f).code ≠ 0 then (false, checkM false f) else if (truthE m f).code ≠ 0 then (false, truthE m f) else (valM m f [], ⟨0, 0⟩)
theorem flP_ok {m : Model} {f : Abs.Form} (hm : mval m) (h : (checkM false f).code = 0) : flP m f := by
  have h1 := checkM_fit h
  have h2 := checkM_size h
  have := cst_len h1 []
  exact ⟨hm.c, hm.r, ⟨h1, by omega⟩, by omega⟩
theorem truthE_zero {m : Model} {f : Abs.Form} (h : (truthE m f).code = 0) : truthE m f = ⟨0, 0⟩ := by
  unfold truthE at h ⊢
  split at h
  · exact absurd h (by decide)
  · rename_i h1
    split at h
    · exact absurd h (by decide)
    · rename_i h2; rw [if_neg h1, if_neg h2]
theorem holds_ok {m : Model} {f : Abs.Form} (h1 : (modelM m).code = 0) (h2 : (checkM false f).code = 0) (h3 : (truthE m f).code = 0) : holdsP m f = (valM m f [], ⟨0, 0⟩) := by
  unfold holdsP
  rw [if_neg (by simp [h1]), if_neg (by simp [h2]), if_neg (by simp [h3])]
theorem holds_inv {m : Model} {f : Abs.Form} {b : Bool} {e : Fault} (h : holdsP m f = (b, e)) (he : e.code = 0) : (modelM m).code = 0 ∧ (checkM false f).code = 0 ∧ (truthE m f).code = 0 ∧ b = valM m f [] ∧ e = ⟨0, 0⟩ := by
  unfold holdsP at h
  split at h
  · rename_i h1; obtain ⟨rfl, rfl⟩ := Prod.mk.inj h; exact absurd he h1
  · rename_i h1
    split at h
    · rename_i h2; obtain ⟨rfl, rfl⟩ := Prod.mk.inj h; exact absurd he h2
    · rename_i h2
      split at h
      · rename_i h3; obtain ⟨rfl, rfl⟩ := Prod.mk.inj h; exact absurd he h3
      · rename_i h3
        obtain ⟨rfl, rfl⟩ := Prod.mk.inj h
        exact ⟨Decidable.not_not.1 h1, Decidable.not_not.1 h2, Decidable.not_not.1 h3, rfl, rfl⟩
def H1 : Tbl := A21.add 15 (sp2p holdsP fun _ _ => True)
attribute [go_sem] H1
set_option maxRecDepth 100000 in
set_option maxHeartbeats 1000000 in
set_option maxHeartbeats 4000000 in
theorem hH1 : TblOk Tryd.prog GA H1 := by
  refine sp2p_ok ok15 hA21 fun m f _ _ _ => ?_
  by_cases h1 : (modelM m).code = 0
  rotate_left
  · have e : holdsP m f = (false, modelM m) := by unfold holdsP; rw [if_pos h1]
    obtain ⟨X, hX⟩ : ∃ X, modelM m = X := ⟨_, rfl⟩
    rw [hX] at e h1
    rw [e]
    refine Wcall_K (N := 32) hm hA21 15000 (lst []) ok15 Tryd.func15 rfl rfl (by simp) (by kernel_rfl) ?_
    repeat' (first | refine rq fun _ => ?_ | simp only [go_sem, h1, hX, model_eta, form_eta, Tryd.f15])
  have hmv := (modelM_good h1).v
  have hmz := modelM_zero h1
  by_cases h2 : (checkM false f).code = 0
  rotate_left
  · have e : holdsP m f = (false, checkM false f) := by unfold holdsP; rw [if_neg (by simp [h1]), if_pos h2]
    obtain ⟨X, hX⟩ : ∃ X, checkM false f = X := ⟨_, rfl⟩
    rw [hX] at e h2
    rw [e]
    refine Wcall_K (N := 32) hm hA21 15000 (lst []) ok15 Tryd.func15 rfl rfl (by simp) (by kernel_rfl) ?_
    repeat' (first | refine rq fun _ => ?_ | simp only [go_sem, hmz, h2, hX, model_eta, form_eta, Tryd.f15])
  have hck := checkM_code h2
  have hfl := flP_ok hmv h2
  have hvp := vsP_val (vsP_ok hmv h2) [] (by simp)
  by_cases h3 : (truthE m f).code = 0
  rotate_left
  · have e : holdsP m f = (false, truthE m f) := by unfold holdsP; rw [if_neg (by simp [h1]), if_neg (by simp [h2]), if_pos h3]
    obtain ⟨X, hX⟩ : ∃ X, truthE m f = X := ⟨_, rfl⟩
    rw [hX] at e h3
    rw [e]
    refine Wcall_K (N := 32) hm hA21 15000 (lst []) ok15 Tryd.func15 rfl rfl (by simp) (by kernel_rfl) ?_
    repeat' (first | refine ReqK.i hfl fun _ => ?_ | refine rq fun _ => ?_ | simp only [go_sem, hmz, hck, h3, hX, model_eta, form_eta, Tryd.f15])
  have htz := truthE_zero h3
  rw [holds_ok h1 h2 h3]
  obtain ⟨b, hb⟩ : ∃ b, valM m f [] = b := ⟨_, rfl⟩
  rw [hb]
  refine Wcall_K (N := 32) hm hA21 15000 (lst []) ok15 Tryd.func15 rfl rfl (by simp) (by kernel_rfl) ?_
  repeat' (first | refine ReqK.i hfl fun _ => ?_ | refine ReqK.i hvp fun _ => ?_ | refine rq fun _ => ?_ | simp only [go_sem, hmz, hck, htz, hb, dec_sl_nil, model_eta, form_eta, Tryd.f15])
end Go.Proofs.YtdlioodgfopmfaaDoor
