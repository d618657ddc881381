import Derived.Test.YtoicheicnbjfeaaDoorAT
import Derived.Test.YtoicheicnbjfeaaDoorFacts
import Derived.Test.YtoicheicnbjfeaaDoorBX
set_option linter.unusedSimpArgs false
namespace Go.Proofs.YtoicheicnbjfeaaDoor
open Go Go.Abs Go.Proofs

def G0 : Nat → List FD := fun _ => []

def Q1 : Tbl := Tbl0.add 76 (sp2 (fun a b : List Str => decide (a = b)) fun _ _ => True)
set_option maxRecDepth 100000 in
set_option maxHeartbeats 1000000 in
theorem hQ1 : TblOk Tryd.prog G0 Q1 := by
  refine sp2_ok ok76 TblOk_0 fun a b _ ha hb => ?_
  have la := Wf_sl ha
  have lb := Wf_sl hb
  simp only [List.length_map, maxL] at la lb
  refine Wcall_K (N := 26) hm TblOk_0 76000 (lst []) ok76 Tryd.func76 rfl rfl (by simp) (by kernel_rfl) ?_
  simp only [go_sem]
  refine CondK.d (fun h => ?_) (fun h => ?_)
  · simp only [go_sem]
    refine WK_loop hm TblOk_0 76000 (lst []) (ι := LoopI a.length fun i => a.take i = b.take i) ⟨fun i => ⟨frL [(0, .fz (enc a)), (1, .fz (enc b)), (12, .fz (.i .i64 a.length)), (13, .fz (.i .i64 i.i))], hpL [], 0⟩, fun i => a.length - i.i⟩ ⟨0, by simp, by simp⟩ (by kernel_rfl) ?_ ?_
    · refine Weak_to ?_ ?_ ?_ <;> simp only [go_sem]
    · intro i
      have hi := i.hi
      simp only [go_sem]
      refine CondK.d (fun h2 => ?_) (fun h2 => ?_)
      · have h3 : i.i < b.length := by omega
        simp only [go_sem, h2, h3, getD_map_lt]
        refine CondK.d (fun h4 => ?_) (fun h4 => ?_)
        · simp only [go_sem]
          refine ReqK.i (by omega) fun _ => ?_
          simp only [go_sem]
          refine ⟨⟨i.i + 1, by omega, take_eq_succ h2 h3 i.hp h4⟩, by simp only; omega, ?_⟩
          refine Weak_to ?_ ?_ ?_ <;> simp only [go_sem]
        · simp only [go_sem, Tryd.f76, take_ne' h2 h3 h4]
      · simp only [go_sem, Tryd.f76, take_eq_all' h h2 i.hp]
  · have hne : a ≠ b := fun e => h (e ▸ rfl)
    simp only [go_sem, Tryd.f76, hne]

def Q2 : Tbl := Q1.add 67 (sp2 (fun (l : List Str) (s : Str) => decide (s ∈ l)) fun _ _ => True)
set_option maxRecDepth 100000 in
set_option maxHeartbeats 1000000 in
theorem hQ2 : TblOk Tryd.prog G0 Q2 := by
  refine sp2_ok ok67 hQ1 fun l s _ ha hb => ?_
  have la := Wf_sl ha
  simp only [List.length_map, maxL] at la
  refine Wcall_K (N := 17) hm hQ1 67000 (lst []) ok67 Tryd.func67 rfl rfl (by simp) (by kernel_rfl) ?_
  simp only [go_sem]
  refine WK_loop hm hQ1 67000 (lst []) (ι := LoopI l.length fun i => s ∉ l.take i) ⟨fun i => ⟨frL [(0, .fz (enc l)), (1, .fz (enc s)), (7, .fz (enc l)), (8, .fz (.i .i64 l.length)), (9, .fz (.i .i64 i.i))], hpL [], 0⟩, fun i => l.length - i.i⟩ ⟨0, by simp, by simp⟩ (by kernel_rfl) ?_ ?_
  · refine Weak_to ?_ ?_ ?_ <;> simp only [go_sem]
  · intro i
    have hi := i.hi
    simp only [go_sem]
    refine CondK.d (fun h2 => ?_) (fun h2 => ?_)
    · simp only [go_sem, h2, getD_map_lt]
      refine CondK.d (fun h4 => ?_) (fun h4 => ?_)
      · have hin : s ∈ l := h4 ▸ List.getElem_mem h2
        simp only [go_sem, Tryd.f67, hin]
      · simp only [go_sem]
        refine ReqK.i (by omega) fun _ => ?_
        simp only [go_sem]
        refine ⟨⟨i.i + 1, by omega, notin_succ h2 i.hp h4⟩, by simp only; omega, ?_⟩
        refine Weak_to ?_ ?_ ?_ <;> simp only [go_sem]
    · simp only [go_sem, Tryd.f67, notin_all h2 i.hp]

def Q3 : Tbl := Q2.add 154 (sp2 idx fun _ _ => True)
set_option maxRecDepth 100000 in
set_option maxHeartbeats 1000000 in
theorem hQ3 : TblOk Tryd.prog G0 Q3 := by
  refine sp2_ok ok154 hQ2 fun l s _ ha hb => ?_
  have la := Wf_sl ha
  simp only [List.length_map, maxL] at la
  refine Wcall_K (N := 19) hm hQ2 154000 (lst []) ok154 Tryd.func154 rfl rfl (by simp) (by kernel_rfl) ?_
  simp only [go_sem]
  refine WK_loop hm hQ2 154000 (lst []) (ι := LoopI l.length fun i => s ∉ l.take i) ⟨fun i => ⟨frL [(0, .fz (enc l)), (1, .fz (enc s)), (7, .fz (.i .i64 l.length)), (8, .fz (.i .i64 i.i))], hpL [], 0⟩, fun i => l.length - i.i⟩ ⟨0, by simp, by simp⟩ (by kernel_rfl) ?_ ?_
  · refine Weak_to ?_ ?_ ?_ <;> simp only [go_sem]
  · intro i
    have hi := i.hi
    simp only [go_sem]
    refine CondK.d (fun h2 => ?_) (fun h2 => ?_)
    · simp only [go_sem, h2, getD_map_lt]
      refine CondK.d (fun h4 => ?_) (fun h4 => ?_)
      · have hin : s ∈ l := h4 ▸ List.getElem_mem h2
        have e : idx l s = i.i := by
          unfold idx
          rw [if_pos hin, idx_at (l := l) h2 i.hp h4.symm]
        simp only [go_sem, Tryd.f154, e]
      · simp only [go_sem]
        refine ReqK.i (by omega) fun _ => ?_
        simp only [go_sem]
        refine ⟨⟨i.i + 1, by omega, notin_succ h2 i.hp fun e => h4 e.symm⟩, by simp only; omega, ?_⟩
        refine Weak_to ?_ ?_ ?_ <;> simp only [go_sem]
    · have e : idx l s = -1 := by
        unfold idx
        rw [if_neg (notin_all h2 i.hp)]
      simp only [go_sem, Tryd.f154, e]

def Q4 : Tbl := Q3.add 72 (sp2 (fun (l : List Str) (s : Str) => decide (s ∈ l)) fun _ _ => True)
set_option maxRecDepth 100000 in
set_option maxHeartbeats 1000000 in
theorem hQ4 : TblOk Tryd.prog G0 Q4 := by
  refine sp2_ok ok72 hQ3 fun l s _ ha hb => ?_
  refine Wcall_K (N := 9) hm hQ3 72000 (lst []) ok72 Tryd.func72 rfl rfl (by simp) (by kernel_rfl) ?_
  have e : decide (0 ≤ idx l s) = decide (s ∈ l) := by
    unfold idx
    split <;> rename_i h <;> simp [h]
  simp only [go_sem, Q3, Tryd.f72, e]

def Q5 : Tbl := Q4.add 71 (sp1 isName fun _ => True)
set_option maxRecDepth 100000 in
set_option maxHeartbeats 1000000 in
theorem hQ5 : TblOk Tryd.prog G0 Q5 := by
  refine sp1_ok ok71 hQ4 fun s _ hs => ?_
  have ls := Wf_s hs
  simp only [maxL] at ls
  refine Wcall_K (N := 55) hm hQ4 71000 (lst []) ok71 Tryd.func71 rfl rfl (by simp) (by kernel_rfl) ?_
  simp only [go_sem]
  repeat' (first | refine CondK.d (fun _ => ?_) (fun _ => ?_) | refine ReqK.i (by omega) fun _ => ?_ | simp only [go_sem, Tryd.f71, *])
  · rw [name_false (by unfold lowc; omega)]
  · rw [name_false (by unfold lowc; omega)]
  · rw [name_false (by unfold lowc; omega)]
  · rw [name_false (by unfold lowc; omega)]
  · refine WK_loop hm hQ4 71000 (lst []) (ι := LoopI s.l.length fun i => ∀ j, j < i → okc (s.l.getD j 0)) ⟨fun i => ⟨frL [(0, .fz (enc s)), (24, .fz (.i .i64 s.l.length)), (25, .fz (.i .i64 i.i))], hpL [], 0⟩, fun i => s.l.length - i.i⟩ ⟨0, by simp, by simp⟩ (by kernel_rfl) ?_ ?_
    · refine Weak_to ?_ ?_ ?_ <;> simp only [go_sem]
    · intro i
      have hi := i.hi
      have hp := i.hp
      simp only [go_sem]
      refine CondK.d (fun h2 => ?_) (fun h2 => ?_)
      · repeat' (first | refine CondK.d (fun _ => ?_) (fun _ => ?_) | refine ReqK.i (by omega) fun _ => ?_ | simp only [go_sem, Tryd.f71, *])
        all_goals first
          | rw [name_bad h2 (by unfold okc lowc; omega)]
          | (refine ⟨⟨i.i + 1, by omega, all_succ' hp (by unfold okc lowc; omega)⟩, by simp only; omega, ?_⟩
             refine Weak_to ?_ ?_ ?_ <;> simp only [go_sem])
      · simp only [go_sem, Tryd.f71]
        rw [name_good (by omega) (by omega) (by unfold lowc; omega) fun j hj => hp j (by omega)]

def Q6 : Tbl := Q5.add 48 (sp1 isName fun _ => True)
set_option maxRecDepth 100000 in
set_option maxHeartbeats 1000000 in
theorem hQ6 : TblOk Tryd.prog G0 Q6 := by
  refine sp1_ok ok48 hQ5 fun s _ hs => ?_
  have ls := Wf_s hs
  simp only [maxL] at ls
  refine Wcall_K (N := 62) hm hQ5 48000 (lst []) ok48 Tryd.func48 rfl rfl (by simp) (by kernel_rfl) ?_
  simp only [go_sem]
  repeat' (first | refine CondK.d (fun _ => ?_) (fun _ => ?_) | refine ReqK.i (by omega) fun _ => ?_ | simp only [go_sem, Tryd.f48, *])
  · rw [name_false (by unfold lowc; omega)]
  · rw [name_false (by unfold lowc; omega)]
  · refine WK_loop hm hQ5 48000 (lst []) (ι := LoopI s.l.length fun i => (∀ j, j < i → okc (s.l.getD j 0)) ∧ (0 < i → lowc (s.l.getD 0 0))) ⟨fun i => ⟨frL [(0, .fz (enc s)), (3, .fz (.i .i64 i.i))], hpL [], 0⟩, fun i => s.l.length - i.i⟩ ⟨0, by simp, by simp⟩ (by kernel_rfl) ?_ ?_
    · refine Weak_to ?_ ?_ ?_ <;> simp only [go_sem]
    · intro i
      have hi := i.hi
      have hp := i.hp.1
      have hz := i.hp.2
      simp only [go_sem]
      refine CondK.d (fun h2 => ?_) (fun h2 => ?_)
      · repeat' (first | refine CondK.d (fun _ => ?_) (fun _ => ?_) | refine ReqK.i (by omega) fun _ => ?_ | simp only [go_sem, Tryd.f48, *])
        all_goals first
          | rw [name_zero (s := s) (j := i.i) (by omega) (by unfold lowc; omega)]
          | rw [name_bad h2 (by unfold okc lowc; omega)]
          | (refine ⟨⟨i.i + 1, by omega, all_succ' hp (by unfold okc lowc; omega), low_next hz (by unfold lowc; omega)⟩, by simp only; omega, ?_⟩
             refine Weak_to ?_ ?_ ?_ <;> simp only [go_sem])
      · simp only [go_sem, Tryd.f48]
        rw [name_good (by omega) (by omega) (hz (by omega)) fun j hj => hp j (by omega)]
def Q7 : Tbl := Q6.add 142 (sp1 (fun l : List Str => l) fun l => l.length ≤ 4194304)
set_option maxRecDepth 100000 in
set_option maxHeartbeats 1000000 in
theorem hQ7 : TblOk Tryd.prog G0 Q7 := by
  refine sp1_ok ok142 hQ6 fun l hl hw => ?_
  refine Wcall_K (N := 8) hm hQ6 142000 (lst []) ok142 Tryd.func142 rfl rfl (by simp) (by kernel_rfl) ?_
  simp only [go_sem]
  refine AllN.i fun b hb => ?_
  cases b
  · simp only [go_sem]
    refine ReqK.i (fits_of (by omega) (by decide)) fun _ => ?_
    simp only [go_sem, Tryd.f142]
  · have : l = [] := List.eq_nil_of_length_eq_zero (hb rfl)
    subst this
    simp only [go_sem, Tryd.f142]

end Go.Proofs.YtoicheicnbjfeaaDoor
