import Derived.Test.YtbbjghecpcobjaaDoorAT
import Derived.Test.YtbbjghecpcobjaaDoorFacts
import Derived.Test.YtbbjghecpcobjaaDoorBX
set_option linter.unusedSimpArgs false
namespace Go.Proofs.YtbbjghecpcobjaaDoor
open Go Go.Abs Go.Proofs

def G0 : Nat → List FD := fun _ => []

def Q1 : Tbl := Tbl0
attribute [go_sem] Q1
theorem hQ1 : TblOk Tryd.prog G0 Q1 := TblOk_0
def Q2 : Tbl := Q1.add 34 (sp2 (fun (l : List Str) (s : Str) => decide (s ∈ l)) fun _ _ => True)
attribute [go_sem] Q2
set_option maxRecDepth 100000 in
set_option maxHeartbeats 1000000 in
theorem hQ2 : TblOk Tryd.prog G0 Q2 := by
  refine sp2_ok ok34 hQ1 fun l s _ ha hb => ?_
  have la := Wf_sl ha
  simp only [List.length_map, maxL] at la
  refine Wcall_K (N := 17) hm hQ1 34000 (lst []) ok34 Tryd.func34 rfl rfl (by simp) (by kernel_rfl) ?_
  simp only [go_sem]
  refine WK_loop hm hQ1 34000 (lst []) (ι := LoopI l.length fun i => s ∉ l.take i) ⟨fun i => ⟨frL [(0, .fz (enc l)), (1, .fz (enc s)), (7, .fz (enc l)), (8, .fz (.i .i64 l.length)), (9, .fz (.i .i64 i.i))], hpL [], 0⟩, fun i => l.length - i.i⟩ ⟨0, by simp, by simp⟩ (by kernel_rfl) ?_ ?_
  · refine Weak_to ?_ ?_ ?_ <;> simp only [go_sem]
  · intro i
    have hi := i.hi
    simp only [go_sem]
    refine CondK.d (fun h2 => ?_) (fun h2 => ?_)
    · simp only [go_sem, h2, getD_map_lt]
      refine CondK.d (fun h4 => ?_) (fun h4 => ?_)
      · have hin : s ∈ l := h4 ▸ List.getElem_mem h2
        simp only [go_sem, Tryd.f34, hin]
      · simp only [go_sem]
        refine ReqK.i (by omega) fun _ => ?_
        simp only [go_sem]
        refine ⟨⟨i.i + 1, by omega, notin_succ h2 i.hp h4⟩, by simp only; omega, ?_⟩
        refine Weak_to ?_ ?_ ?_ <;> simp only [go_sem]
    · simp only [go_sem, Tryd.f34, notin_all h2 i.hp]

def Q3 : Tbl := Q2.add 141 (sp2 idx fun _ _ => True)
attribute [go_sem] Q3
set_option maxRecDepth 100000 in
set_option maxHeartbeats 1000000 in
theorem hQ3 : TblOk Tryd.prog G0 Q3 := by
  refine sp2_ok ok141 hQ2 fun l s _ ha hb => ?_
  have la := Wf_sl ha
  simp only [List.length_map, maxL] at la
  refine Wcall_K (N := 19) hm hQ2 141000 (lst []) ok141 Tryd.func141 rfl rfl (by simp) (by kernel_rfl) ?_
  simp only [go_sem]
  refine WK_loop hm hQ2 141000 (lst []) (ι := LoopI l.length fun i => s ∉ l.take i) ⟨fun i => ⟨frL [(0, .fz (enc l)), (1, .fz (enc s)), (7, .fz (.i .i64 l.length)), (8, .fz (.i .i64 i.i))], hpL [], 0⟩, fun i => l.length - i.i⟩ ⟨0, by simp, by simp⟩ (by kernel_rfl) ?_ ?_
  · refine Weak_to ?_ ?_ ?_ <;> simp only [go_sem]
  · intro i
    have hi := i.hi
    simp only [go_sem]
    refine CondK.d (fun h2 => ?_) (fun h2 => ?_)
    · simp only [go_sem, h2, getD_map_lt]
      refine CondK.d (fun h4 => ?_) (fun h4 => ?_)
      · have hin : s ∈ l := h4 ▸ List.getElem_mem h2
        have e : idx l s = i.i := by
          unfold idx
          rw [if_pos hin, idx_at (l := l) h2 i.hp h4.symm]
        simp only [go_sem, Tryd.f141, e]
      · simp only [go_sem]
        refine ReqK.i (by omega) fun _ => ?_
        simp only [go_sem]
        refine ⟨⟨i.i + 1, by omega, notin_succ h2 i.hp fun e => h4 e.symm⟩, by simp only; omega, ?_⟩
        refine Weak_to ?_ ?_ ?_ <;> simp only [go_sem]
    · have e : idx l s = -1 := by
        unfold idx
        rw [if_neg (notin_all h2 i.hp)]
      simp only [go_sem, Tryd.f141, e]

def Q4 : Tbl := Q3.add 98 (sp2 (fun (l : List Str) (s : Str) => decide (s ∈ l)) fun _ _ => True)
attribute [go_sem] Q4
set_option maxRecDepth 100000 in
set_option maxHeartbeats 1000000 in
theorem hQ4 : TblOk Tryd.prog G0 Q4 := by
  refine sp2_ok ok98 hQ3 fun l s _ ha hb => ?_
  refine Wcall_K (N := 9) hm hQ3 98000 (lst []) ok98 Tryd.func98 rfl rfl (by simp) (by kernel_rfl) ?_
  have e : decide (0 ≤ idx l s) = decide (s ∈ l) := by
    unfold idx
    split <;> rename_i h <;> simp [h]
  simp only [go_sem, Q3, Tryd.f98, e]

def Q5 : Tbl := Q4.add 36 (sp1 isName fun _ => True)
attribute [go_sem] Q5
set_option maxRecDepth 100000 in
set_option maxHeartbeats 1000000 in
theorem hQ5 : TblOk Tryd.prog G0 Q5 := by
  refine sp1_ok ok36 hQ4 fun s _ hs => ?_
  have ls := Wf_s hs
  simp only [maxL] at ls
  refine Wcall_K (N := 55) hm hQ4 36000 (lst []) ok36 Tryd.func36 rfl rfl (by simp) (by kernel_rfl) ?_
  simp only [go_sem]
  repeat' (first | refine CondK.d (fun _ => ?_) (fun _ => ?_) | refine rq fun _ => ?_ | simp only [go_sem, Tryd.f36, *])
  · rw [name_false (by unfold lowc; omega)]
  · rw [name_false (by unfold lowc; omega)]
  · rw [name_false (by unfold lowc; omega)]
  · rw [name_false (by unfold lowc; omega)]
  · refine WK_loop hm hQ4 36000 (lst []) (ι := LoopI s.l.length fun i => ∀ j, j < i → okc (s.l.getD j 0)) ⟨fun i => ⟨frL [(0, .fz (enc s)), (24, .fz (.i .i64 s.l.length)), (25, .fz (.i .i64 i.i))], hpL [], 0⟩, fun i => s.l.length - i.i⟩ ⟨0, by simp, by simp⟩ (by kernel_rfl) ?_ ?_
    · refine Weak_to ?_ ?_ ?_ <;> simp only [go_sem]
    · intro i
      have hi := i.hi
      have hp := i.hp
      simp only [go_sem]
      refine CondK.d (fun h2 => ?_) (fun h2 => ?_)
      · repeat' (first | refine CondK.d (fun _ => ?_) (fun _ => ?_) | refine rq fun _ => ?_ | simp only [go_sem, Tryd.f36, *])
        all_goals first
          | rw [name_bad h2 (by unfold okc lowc; omega)]
          | (refine ⟨⟨i.i + 1, by omega, all_succ' hp (by unfold okc lowc; omega)⟩, by simp only; omega, ?_⟩
             refine Weak_to ?_ ?_ ?_ <;> simp only [go_sem])
      · simp only [go_sem, Tryd.f36]
        rw [name_good (by omega) (by omega) (by unfold lowc; omega) fun j hj => hp j (by omega)]

def Q6 : Tbl := Q5.add 30 (sp1 isName fun _ => True)
attribute [go_sem] Q6
set_option maxRecDepth 100000 in
set_option maxHeartbeats 1000000 in
theorem hQ6 : TblOk Tryd.prog G0 Q6 := by
  refine sp1_ok ok30 hQ5 fun s _ hs => ?_
  have ls := Wf_s hs
  simp only [maxL] at ls
  refine Wcall_K (N := 62) hm hQ5 30000 (lst []) ok30 Tryd.func30 rfl rfl (by simp) (by kernel_rfl) ?_
  simp only [go_sem]
  repeat' (first | refine CondK.d (fun _ => ?_) (fun _ => ?_) | refine rq fun _ => ?_ | simp only [go_sem, Tryd.f30, *])
  · rw [name_false (by unfold lowc; omega)]
  · rw [name_false (by unfold lowc; omega)]
  · refine WK_loop hm hQ5 30000 (lst []) (ι := LoopI s.l.length fun i => (∀ j, j < i → okc (s.l.getD j 0)) ∧ (0 < i → lowc (s.l.getD 0 0))) ⟨fun i => ⟨frL [(0, .fz (enc s)), (3, .fz (.i .i64 i.i))], hpL [], 0⟩, fun i => s.l.length - i.i⟩ ⟨0, by simp, by simp⟩ (by kernel_rfl) ?_ ?_
    · refine Weak_to ?_ ?_ ?_ <;> simp only [go_sem]
    · intro i
      have hi := i.hi
      have hp := i.hp.1
      have hz := i.hp.2
      simp only [go_sem]
      refine CondK.d (fun h2 => ?_) (fun h2 => ?_)
      · repeat' (first | refine CondK.d (fun _ => ?_) (fun _ => ?_) | refine rq fun _ => ?_ | simp only [go_sem, Tryd.f30, *])
        all_goals first
          | rw [name_zero (s := s) (j := i.i) (by omega) (by unfold lowc; omega)]
          | rw [name_bad h2 (by unfold okc lowc; omega)]
          | (refine ⟨⟨i.i + 1, by omega, all_succ' hp (by unfold okc lowc; omega), low_next hz (by unfold lowc; omega)⟩, by simp only; omega, ?_⟩
             refine Weak_to ?_ ?_ ?_ <;> simp only [go_sem])
      · simp only [go_sem, Tryd.f30]
        rw [name_good (by omega) (by omega) (hz (by omega)) fun j hj => hp j (by omega)]
def Q7 : Tbl := Q6.add 126 (sp1 (fun l : List Str => l) fun l => l.length ≤ 4194304)
attribute [go_sem] Q7
set_option maxRecDepth 100000 in
set_option maxHeartbeats 1000000 in
theorem hQ7 : TblOk Tryd.prog G0 Q7 := by
  refine sp1_ok ok126 hQ6 fun l hl hw => ?_
  refine Wcall_K (N := 8) hm hQ6 126000 (lst []) ok126 Tryd.func126 rfl rfl (by simp) (by kernel_rfl) ?_
  simp only [go_sem]
  refine AllN.i fun b hb => ?_
  cases b
  · simp only [go_sem]
    refine ReqK.i (fits_of (by omega) (by decide)) fun _ => ?_
    simp only [go_sem, Tryd.f126]
  · have : l = [] := List.eq_nil_of_length_eq_zero (hb rfl)
    subst this
    simp only [go_sem, Tryd.f126]

end Go.Proofs.YtbbjghecpcobjaaDoor
