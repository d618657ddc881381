import Derived.Test.YtbbcinpmomjbgaaDoorFacts
set_option linter.unusedSimpArgs false
namespace Go.Proofs.YtbbcinpmomjbgaaDoor
open Go Go.Abs Go.Proofs

def G0 : Nat → List FD := fun _ => []

structure LoopI (n : Nat) (p : Nat → Prop) where
  i : Nat
  hi : i ≤ n
  hp : p i

theorem take_ne {α : Type} {a b : List α} {i : Nat} (h1 : i < a.length) (h2 : i < b.length) (h : a[i] ≠ b[i]) : a ≠ b := by
  rintro rfl; exact h rfl
theorem take_eq_succ {α : Type} {a b : List α} {i : Nat} (h1 : i < a.length) (h2 : i < b.length) (he : a.take i = b.take i) (h : a[i] = b[i]) : a.take (i + 1) = b.take (i + 1) := by
  rw [List.take_succ_eq_append_getElem h1, List.take_succ_eq_append_getElem h2, he, h]
theorem take_eq_all {α : Type} {a b : List α} {i : Nat} (hl : a.length = b.length) (h : ¬ i < a.length) (he : a.take i = b.take i) : a = b := by
  rwa [List.take_of_length_le (by omega), List.take_of_length_le (by omega)] at he
theorem notin_succ {α : Type} {l : List α} {s : α} {i : Nat} (h : i < l.length) (h1 : s ∉ l.take i) (h2 : l[i] ≠ s) : s ∉ l.take (i + 1) := by
  rw [List.take_succ_eq_append_getElem h]
  simp only [List.mem_append, List.mem_singleton, not_or]
  exact ⟨h1, fun e => h2 e.symm⟩
theorem notin_all {α : Type} {l : List α} {s : α} {i : Nat} (h : ¬ i < l.length) (h1 : s ∉ l.take i) : s ∉ l := by
  rwa [List.take_of_length_le (by omega)] at h1
theorem idx_at {s : Str} : ∀ {l : List Str} {i : Nat} (h : i < l.length), s ∉ l.take i → l[i] = s → l.idxOf s = i
  | [], i, h, _, _ => by simp at h
  | x :: l, 0, h, _, e => by simp at e; simp [e]
  | x :: l, i + 1, h, h1, e => by
    simp only [List.take_succ_cons, List.mem_cons, not_or] at h1
    have := idx_at (s := s) (l := l) (i := i) (by simpa using h) h1.2 (by simpa using e)
    rw [List.idxOf_cons]
    have hne : (x == s) = false := by simpa using fun e => h1.1 e.symm
    simp [hne, this]

def T1 : Tbl := Tbl0.add 29 (sp2 (fun a b : List Str => decide (a = b)) fun _ _ => True)
set_option maxRecDepth 100000 in
set_option maxHeartbeats 1000000 in
theorem hT1 : TblOk Tryd.prog G0 T1 := by
  refine sp2_ok ok29 TblOk_0 fun a b _ ha hb => ?_
  have la := Wf_sl ha
  have lb := Wf_sl hb
  simp only [List.length_map, maxL] at la lb
  refine Wcall_K (N := 26) hm TblOk_0 29000 (lst []) ok29 Tryd.func29 rfl rfl (by simp) (by kernel_rfl) ?_
  simp only [go_sem, reduceIte, reduceCtorEq, Nat.reduceEqDiff, Nat.reduceAdd, Nat.reduceSub, Nat.reduceMul, Nat.reduceDiv, Nat.reduceMod, Nat.reduceLT, Nat.reduceLeDiff, Nat.reduceBEq, Nat.reducePow, Int.reduceLE, Int.reduceLT, Int.reduceEq, Int.reduceNeg, Int.reduceAdd, Int.reduceToNat]
  refine CondK.d (fun h => ?_) (fun h => ?_)
  · simp only [go_sem, reduceIte, reduceCtorEq, Nat.reduceEqDiff, Nat.reduceAdd, Nat.reduceSub, Nat.reduceMul, Nat.reduceDiv, Nat.reduceMod, Nat.reduceLT, Nat.reduceLeDiff, Nat.reduceBEq, Nat.reducePow, Int.reduceLE, Int.reduceLT, Int.reduceEq, Int.reduceNeg, Int.reduceAdd, Int.reduceToNat]
    refine WK_loop hm TblOk_0 29000 (lst []) (ι := LoopI a.length fun i => a.take i = b.take i) ⟨fun i => ⟨frL [(0, .fz (enc a)), (1, .fz (enc b)), (12, .fz (.i .i64 a.length)), (13, .fz (.i .i64 i.i))], hpL [], 0⟩, fun i => a.length - i.i⟩ ⟨0, by simp, by simp⟩ (by kernel_rfl) ?_ ?_
    · refine Weak_to ?_ ?_ ?_ <;> simp only [go_sem, reduceIte, reduceCtorEq, Nat.reduceEqDiff, Nat.reduceAdd, Nat.reduceSub, Nat.reduceMul, Nat.reduceDiv, Nat.reduceMod, Nat.reduceLT, Nat.reduceLeDiff, Nat.reduceBEq, Nat.reducePow, Int.reduceLE, Int.reduceLT, Int.reduceEq, Int.reduceNeg, Int.reduceAdd, Int.reduceToNat]
    · intro i
      have hi := i.hi
      simp only [go_sem, reduceIte, reduceCtorEq, Nat.reduceEqDiff, Nat.reduceAdd, Nat.reduceSub, Nat.reduceMul, Nat.reduceDiv, Nat.reduceMod, Nat.reduceLT, Nat.reduceLeDiff, Nat.reduceBEq, Nat.reducePow, Int.reduceLE, Int.reduceLT, Int.reduceEq, Int.reduceNeg, Int.reduceAdd, Int.reduceToNat]
      refine CondK.d (fun h2 => ?_) (fun h2 => ?_)
      · have h3 : i.i < b.length := by omega
        simp only [go_sem, reduceIte, reduceCtorEq, Nat.reduceEqDiff, Nat.reduceAdd, Nat.reduceSub, Nat.reduceMul, Nat.reduceDiv, Nat.reduceMod, Nat.reduceLT, Nat.reduceLeDiff, Nat.reduceBEq, Nat.reducePow, Int.reduceLE, Int.reduceLT, Int.reduceEq, Int.reduceNeg, Int.reduceAdd, Int.reduceToNat, h2, h3, getD_map_lt]
        refine CondK.d (fun h4 => ?_) (fun h4 => ?_)
        · simp only [go_sem, reduceIte, reduceCtorEq, Nat.reduceEqDiff, Nat.reduceAdd, Nat.reduceSub, Nat.reduceMul, Nat.reduceDiv, Nat.reduceMod, Nat.reduceLT, Nat.reduceLeDiff, Nat.reduceBEq, Nat.reducePow, Int.reduceLE, Int.reduceLT, Int.reduceEq, Int.reduceNeg, Int.reduceAdd, Int.reduceToNat]
          refine ReqK.i (by omega) fun _ => ?_
          simp only [go_sem, reduceIte, reduceCtorEq, Nat.reduceEqDiff, Nat.reduceAdd, Nat.reduceSub, Nat.reduceMul, Nat.reduceDiv, Nat.reduceMod, Nat.reduceLT, Nat.reduceLeDiff, Nat.reduceBEq, Nat.reducePow, Int.reduceLE, Int.reduceLT, Int.reduceEq, Int.reduceNeg, Int.reduceAdd, Int.reduceToNat]
          refine ⟨⟨i.i + 1, by omega, take_eq_succ h2 h3 i.hp h4⟩, by simp only; omega, ?_⟩
          refine Weak_to ?_ ?_ ?_ <;> simp only [go_sem, reduceIte, reduceCtorEq, Nat.reduceEqDiff, Nat.reduceAdd, Nat.reduceSub, Nat.reduceMul, Nat.reduceDiv, Nat.reduceMod, Nat.reduceLT, Nat.reduceLeDiff, Nat.reduceBEq, Nat.reducePow, Int.reduceLE, Int.reduceLT, Int.reduceEq, Int.reduceNeg, Int.reduceAdd, Int.reduceToNat]
        · simp only [go_sem, reduceIte, reduceCtorEq, Nat.reduceEqDiff, Nat.reduceAdd, Nat.reduceSub, Nat.reduceMul, Nat.reduceDiv, Nat.reduceMod, Nat.reduceLT, Nat.reduceLeDiff, Nat.reduceBEq, Nat.reducePow, Int.reduceLE, Int.reduceLT, Int.reduceEq, Int.reduceNeg, Int.reduceAdd, Int.reduceToNat, Tryd.f29, take_ne h2 h3 h4]
      · simp only [go_sem, reduceIte, reduceCtorEq, Nat.reduceEqDiff, Nat.reduceAdd, Nat.reduceSub, Nat.reduceMul, Nat.reduceDiv, Nat.reduceMod, Nat.reduceLT, Nat.reduceLeDiff, Nat.reduceBEq, Nat.reducePow, Int.reduceLE, Int.reduceLT, Int.reduceEq, Int.reduceNeg, Int.reduceAdd, Int.reduceToNat, Tryd.f29, take_eq_all h h2 i.hp]
  · have hne : a ≠ b := fun e => h (e ▸ rfl)
    simp only [go_sem, reduceIte, reduceCtorEq, Nat.reduceEqDiff, Nat.reduceAdd, Nat.reduceSub, Nat.reduceMul, Nat.reduceDiv, Nat.reduceMod, Nat.reduceLT, Nat.reduceLeDiff, Nat.reduceBEq, Nat.reducePow, Int.reduceLE, Int.reduceLT, Int.reduceEq, Int.reduceNeg, Int.reduceAdd, Int.reduceToNat, Tryd.f29, hne]

def T2 : Tbl := T1.add 12 (sp2 (fun a b : List (List Str) => decide (a = b)) fun _ _ => True)
set_option maxRecDepth 100000 in
set_option maxHeartbeats 1000000 in
theorem hT2 : TblOk Tryd.prog G0 T2 := by
  refine sp2_ok ok12 hT1 fun a b _ ha hb => ?_
  have la := Wf_sl ha
  have lb := Wf_sl hb
  simp only [List.length_map, maxL] at la lb
  refine Wcall_K (N := 27) hm hT1 12000 (lst []) ok12 Tryd.func12 rfl rfl (by simp) (by kernel_rfl) ?_
  simp only [go_sem, reduceIte, reduceCtorEq, Nat.reduceEqDiff, Nat.reduceAdd, Nat.reduceSub, Nat.reduceMul, Nat.reduceDiv, Nat.reduceMod, Nat.reduceLT, Nat.reduceLeDiff, Nat.reduceBEq, Nat.reducePow, Int.reduceLE, Int.reduceLT, Int.reduceEq, Int.reduceNeg, Int.reduceAdd, Int.reduceToNat]
  refine CondK.d (fun h => ?_) (fun h => ?_)
  · simp only [go_sem, reduceIte, reduceCtorEq, Nat.reduceEqDiff, Nat.reduceAdd, Nat.reduceSub, Nat.reduceMul, Nat.reduceDiv, Nat.reduceMod, Nat.reduceLT, Nat.reduceLeDiff, Nat.reduceBEq, Nat.reducePow, Int.reduceLE, Int.reduceLT, Int.reduceEq, Int.reduceNeg, Int.reduceAdd, Int.reduceToNat]
    refine WK_loop hm hT1 12000 (lst []) (ι := LoopI a.length fun i => a.take i = b.take i) ⟨fun i => ⟨frL [(0, .fz (enc a)), (1, .fz (enc b)), (12, .fz (.i .i64 a.length)), (13, .fz (.i .i64 i.i))], hpL [], 0⟩, fun i => a.length - i.i⟩ ⟨0, by simp, by simp⟩ (by kernel_rfl) ?_ ?_
    · refine Weak_to ?_ ?_ ?_ <;> simp only [go_sem, reduceIte, reduceCtorEq, Nat.reduceEqDiff, Nat.reduceAdd, Nat.reduceSub, Nat.reduceMul, Nat.reduceDiv, Nat.reduceMod, Nat.reduceLT, Nat.reduceLeDiff, Nat.reduceBEq, Nat.reducePow, Int.reduceLE, Int.reduceLT, Int.reduceEq, Int.reduceNeg, Int.reduceAdd, Int.reduceToNat]
    · intro i
      have hi := i.hi
      simp only [go_sem, reduceIte, reduceCtorEq, Nat.reduceEqDiff, Nat.reduceAdd, Nat.reduceSub, Nat.reduceMul, Nat.reduceDiv, Nat.reduceMod, Nat.reduceLT, Nat.reduceLeDiff, Nat.reduceBEq, Nat.reducePow, Int.reduceLE, Int.reduceLT, Int.reduceEq, Int.reduceNeg, Int.reduceAdd, Int.reduceToNat]
      refine CondK.d (fun h2 => ?_) (fun h2 => ?_)
      · have h3 : i.i < b.length := by omega
        simp only [go_sem, reduceIte, reduceCtorEq, Nat.reduceEqDiff, Nat.reduceAdd, Nat.reduceSub, Nat.reduceMul, Nat.reduceDiv, Nat.reduceMod, Nat.reduceLT, Nat.reduceLeDiff, Nat.reduceBEq, Nat.reducePow, Int.reduceLE, Int.reduceLT, Int.reduceEq, Int.reduceNeg, Int.reduceAdd, Int.reduceToNat, h2, h3, getD_map_lt, T1]
        refine CondK.d (fun h4 => ?_) (fun h4 => ?_)
        · simp only [go_sem, reduceIte, reduceCtorEq, Nat.reduceEqDiff, Nat.reduceAdd, Nat.reduceSub, Nat.reduceMul, Nat.reduceDiv, Nat.reduceMod, Nat.reduceLT, Nat.reduceLeDiff, Nat.reduceBEq, Nat.reducePow, Int.reduceLE, Int.reduceLT, Int.reduceEq, Int.reduceNeg, Int.reduceAdd, Int.reduceToNat]
          refine ReqK.i (by omega) fun _ => ?_
          simp only [go_sem, reduceIte, reduceCtorEq, Nat.reduceEqDiff, Nat.reduceAdd, Nat.reduceSub, Nat.reduceMul, Nat.reduceDiv, Nat.reduceMod, Nat.reduceLT, Nat.reduceLeDiff, Nat.reduceBEq, Nat.reducePow, Int.reduceLE, Int.reduceLT, Int.reduceEq, Int.reduceNeg, Int.reduceAdd, Int.reduceToNat]
          refine ⟨⟨i.i + 1, by omega, take_eq_succ h2 h3 i.hp h4⟩, by simp only; omega, ?_⟩
          refine Weak_to ?_ ?_ ?_ <;> simp only [go_sem, reduceIte, reduceCtorEq, Nat.reduceEqDiff, Nat.reduceAdd, Nat.reduceSub, Nat.reduceMul, Nat.reduceDiv, Nat.reduceMod, Nat.reduceLT, Nat.reduceLeDiff, Nat.reduceBEq, Nat.reducePow, Int.reduceLE, Int.reduceLT, Int.reduceEq, Int.reduceNeg, Int.reduceAdd, Int.reduceToNat]
        · simp only [go_sem, reduceIte, reduceCtorEq, Nat.reduceEqDiff, Nat.reduceAdd, Nat.reduceSub, Nat.reduceMul, Nat.reduceDiv, Nat.reduceMod, Nat.reduceLT, Nat.reduceLeDiff, Nat.reduceBEq, Nat.reducePow, Int.reduceLE, Int.reduceLT, Int.reduceEq, Int.reduceNeg, Int.reduceAdd, Int.reduceToNat, Tryd.f12, take_ne h2 h3 h4]
      · simp only [go_sem, reduceIte, reduceCtorEq, Nat.reduceEqDiff, Nat.reduceAdd, Nat.reduceSub, Nat.reduceMul, Nat.reduceDiv, Nat.reduceMod, Nat.reduceLT, Nat.reduceLeDiff, Nat.reduceBEq, Nat.reducePow, Int.reduceLE, Int.reduceLT, Int.reduceEq, Int.reduceNeg, Int.reduceAdd, Int.reduceToNat, Tryd.f12, take_eq_all h h2 i.hp]
  · have hne : a ≠ b := fun e => h (e ▸ rfl)
    simp only [go_sem, reduceIte, reduceCtorEq, Nat.reduceEqDiff, Nat.reduceAdd, Nat.reduceSub, Nat.reduceMul, Nat.reduceDiv, Nat.reduceMod, Nat.reduceLT, Nat.reduceLeDiff, Nat.reduceBEq, Nat.reducePow, Int.reduceLE, Int.reduceLT, Int.reduceEq, Int.reduceNeg, Int.reduceAdd, Int.reduceToNat, Tryd.f12, hne]

def T3 : Tbl := T2.add 28 (sp2 (fun (l : List Str) (s : Str) => decide (s ∈ l)) fun _ _ => True)
set_option maxRecDepth 100000 in
set_option maxHeartbeats 1000000 in
theorem hT3 : TblOk Tryd.prog G0 T3 := by
  refine sp2_ok ok28 hT2 fun l s _ ha hb => ?_
  have la := Wf_sl ha
  simp only [List.length_map, maxL] at la
  refine Wcall_K (N := 17) hm hT2 28000 (lst []) ok28 Tryd.func28 rfl rfl (by simp) (by kernel_rfl) ?_
  simp only [go_sem, reduceIte, reduceCtorEq, Nat.reduceEqDiff, Nat.reduceAdd, Nat.reduceSub, Nat.reduceMul, Nat.reduceDiv, Nat.reduceMod, Nat.reduceLT, Nat.reduceLeDiff, Nat.reduceBEq, Nat.reducePow, Int.reduceLE, Int.reduceLT, Int.reduceEq, Int.reduceNeg, Int.reduceAdd, Int.reduceToNat]
  refine WK_loop hm hT2 28000 (lst []) (ι := LoopI l.length fun i => s ∉ l.take i) ⟨fun i => ⟨frL [(0, .fz (enc l)), (1, .fz (enc s)), (7, .fz (enc l)), (8, .fz (.i .i64 l.length)), (9, .fz (.i .i64 i.i))], hpL [], 0⟩, fun i => l.length - i.i⟩ ⟨0, by simp, by simp⟩ (by kernel_rfl) ?_ ?_
  · refine Weak_to ?_ ?_ ?_ <;> simp only [go_sem, reduceIte, reduceCtorEq, Nat.reduceEqDiff, Nat.reduceAdd, Nat.reduceSub, Nat.reduceMul, Nat.reduceDiv, Nat.reduceMod, Nat.reduceLT, Nat.reduceLeDiff, Nat.reduceBEq, Nat.reducePow, Int.reduceLE, Int.reduceLT, Int.reduceEq, Int.reduceNeg, Int.reduceAdd, Int.reduceToNat]
  · intro i
    have hi := i.hi
    simp only [go_sem, reduceIte, reduceCtorEq, Nat.reduceEqDiff, Nat.reduceAdd, Nat.reduceSub, Nat.reduceMul, Nat.reduceDiv, Nat.reduceMod, Nat.reduceLT, Nat.reduceLeDiff, Nat.reduceBEq, Nat.reducePow, Int.reduceLE, Int.reduceLT, Int.reduceEq, Int.reduceNeg, Int.reduceAdd, Int.reduceToNat]
    refine CondK.d (fun h2 => ?_) (fun h2 => ?_)
    · simp only [go_sem, reduceIte, reduceCtorEq, Nat.reduceEqDiff, Nat.reduceAdd, Nat.reduceSub, Nat.reduceMul, Nat.reduceDiv, Nat.reduceMod, Nat.reduceLT, Nat.reduceLeDiff, Nat.reduceBEq, Nat.reducePow, Int.reduceLE, Int.reduceLT, Int.reduceEq, Int.reduceNeg, Int.reduceAdd, Int.reduceToNat, h2, getD_map_lt]
      refine CondK.d (fun h4 => ?_) (fun h4 => ?_)
      · have hin : s ∈ l := h4 ▸ List.getElem_mem h2
        simp only [go_sem, reduceIte, reduceCtorEq, Nat.reduceEqDiff, Nat.reduceAdd, Nat.reduceSub, Nat.reduceMul, Nat.reduceDiv, Nat.reduceMod, Nat.reduceLT, Nat.reduceLeDiff, Nat.reduceBEq, Nat.reducePow, Int.reduceLE, Int.reduceLT, Int.reduceEq, Int.reduceNeg, Int.reduceAdd, Int.reduceToNat, Tryd.f28, hin]
      · simp only [go_sem, reduceIte, reduceCtorEq, Nat.reduceEqDiff, Nat.reduceAdd, Nat.reduceSub, Nat.reduceMul, Nat.reduceDiv, Nat.reduceMod, Nat.reduceLT, Nat.reduceLeDiff, Nat.reduceBEq, Nat.reducePow, Int.reduceLE, Int.reduceLT, Int.reduceEq, Int.reduceNeg, Int.reduceAdd, Int.reduceToNat]
        refine ReqK.i (by omega) fun _ => ?_
        simp only [go_sem, reduceIte, reduceCtorEq, Nat.reduceEqDiff, Nat.reduceAdd, Nat.reduceSub, Nat.reduceMul, Nat.reduceDiv, Nat.reduceMod, Nat.reduceLT, Nat.reduceLeDiff, Nat.reduceBEq, Nat.reducePow, Int.reduceLE, Int.reduceLT, Int.reduceEq, Int.reduceNeg, Int.reduceAdd, Int.reduceToNat]
        refine ⟨⟨i.i + 1, by omega, notin_succ h2 i.hp h4⟩, by simp only; omega, ?_⟩
        refine Weak_to ?_ ?_ ?_ <;> simp only [go_sem, reduceIte, reduceCtorEq, Nat.reduceEqDiff, Nat.reduceAdd, Nat.reduceSub, Nat.reduceMul, Nat.reduceDiv, Nat.reduceMod, Nat.reduceLT, Nat.reduceLeDiff, Nat.reduceBEq, Nat.reducePow, Int.reduceLE, Int.reduceLT, Int.reduceEq, Int.reduceNeg, Int.reduceAdd, Int.reduceToNat]
    · simp only [go_sem, reduceIte, reduceCtorEq, Nat.reduceEqDiff, Nat.reduceAdd, Nat.reduceSub, Nat.reduceMul, Nat.reduceDiv, Nat.reduceMod, Nat.reduceLT, Nat.reduceLeDiff, Nat.reduceBEq, Nat.reducePow, Int.reduceLE, Int.reduceLT, Int.reduceEq, Int.reduceNeg, Int.reduceAdd, Int.reduceToNat, Tryd.f28, notin_all h2 i.hp]

def idx (l : List Str) (s : Str) : Int := if s ∈ l then (l.idxOf s : Int) else -1
def T4 : Tbl := T3.add 41 (sp2 idx fun _ _ => True)
set_option maxRecDepth 100000 in
set_option maxHeartbeats 1000000 in
theorem hT4 : TblOk Tryd.prog G0 T4 := by
  refine sp2_ok ok41 hT3 fun l s _ ha hb => ?_
  have la := Wf_sl ha
  simp only [List.length_map, maxL] at la
  refine Wcall_K (N := 19) hm hT3 41000 (lst []) ok41 Tryd.func41 rfl rfl (by simp) (by kernel_rfl) ?_
  simp only [go_sem, reduceIte, reduceCtorEq, Nat.reduceEqDiff, Nat.reduceAdd, Nat.reduceSub, Nat.reduceMul, Nat.reduceDiv, Nat.reduceMod, Nat.reduceLT, Nat.reduceLeDiff, Nat.reduceBEq, Nat.reducePow, Int.reduceLE, Int.reduceLT, Int.reduceEq, Int.reduceNeg, Int.reduceAdd, Int.reduceToNat]
  refine WK_loop hm hT3 41000 (lst []) (ι := LoopI l.length fun i => s ∉ l.take i) ⟨fun i => ⟨frL [(0, .fz (enc l)), (1, .fz (enc s)), (7, .fz (.i .i64 l.length)), (8, .fz (.i .i64 i.i))], hpL [], 0⟩, fun i => l.length - i.i⟩ ⟨0, by simp, by simp⟩ (by kernel_rfl) ?_ ?_
  · refine Weak_to ?_ ?_ ?_ <;> simp only [go_sem, reduceIte, reduceCtorEq, Nat.reduceEqDiff, Nat.reduceAdd, Nat.reduceSub, Nat.reduceMul, Nat.reduceDiv, Nat.reduceMod, Nat.reduceLT, Nat.reduceLeDiff, Nat.reduceBEq, Nat.reducePow, Int.reduceLE, Int.reduceLT, Int.reduceEq, Int.reduceNeg, Int.reduceAdd, Int.reduceToNat]
  · intro i
    have hi := i.hi
    simp only [go_sem, reduceIte, reduceCtorEq, Nat.reduceEqDiff, Nat.reduceAdd, Nat.reduceSub, Nat.reduceMul, Nat.reduceDiv, Nat.reduceMod, Nat.reduceLT, Nat.reduceLeDiff, Nat.reduceBEq, Nat.reducePow, Int.reduceLE, Int.reduceLT, Int.reduceEq, Int.reduceNeg, Int.reduceAdd, Int.reduceToNat]
    refine CondK.d (fun h2 => ?_) (fun h2 => ?_)
    · simp only [go_sem, reduceIte, reduceCtorEq, Nat.reduceEqDiff, Nat.reduceAdd, Nat.reduceSub, Nat.reduceMul, Nat.reduceDiv, Nat.reduceMod, Nat.reduceLT, Nat.reduceLeDiff, Nat.reduceBEq, Nat.reducePow, Int.reduceLE, Int.reduceLT, Int.reduceEq, Int.reduceNeg, Int.reduceAdd, Int.reduceToNat, h2, getD_map_lt]
      refine CondK.d (fun h4 => ?_) (fun h4 => ?_)
      · have hin : s ∈ l := h4 ▸ List.getElem_mem h2
        have e : idx l s = i.i := by
          unfold idx
          rw [if_pos hin, idx_at (l := l) h2 i.hp h4.symm]
        simp only [go_sem, reduceIte, reduceCtorEq, Nat.reduceEqDiff, Nat.reduceAdd, Nat.reduceSub, Nat.reduceMul, Nat.reduceDiv, Nat.reduceMod, Nat.reduceLT, Nat.reduceLeDiff, Nat.reduceBEq, Nat.reducePow, Int.reduceLE, Int.reduceLT, Int.reduceEq, Int.reduceNeg, Int.reduceAdd, Int.reduceToNat, Tryd.f41, e]
      · simp only [go_sem, reduceIte, reduceCtorEq, Nat.reduceEqDiff, Nat.reduceAdd, Nat.reduceSub, Nat.reduceMul, Nat.reduceDiv, Nat.reduceMod, Nat.reduceLT, Nat.reduceLeDiff, Nat.reduceBEq, Nat.reducePow, Int.reduceLE, Int.reduceLT, Int.reduceEq, Int.reduceNeg, Int.reduceAdd, Int.reduceToNat]
        refine ReqK.i (by omega) fun _ => ?_
        simp only [go_sem, reduceIte, reduceCtorEq, Nat.reduceEqDiff, Nat.reduceAdd, Nat.reduceSub, Nat.reduceMul, Nat.reduceDiv, Nat.reduceMod, Nat.reduceLT, Nat.reduceLeDiff, Nat.reduceBEq, Nat.reducePow, Int.reduceLE, Int.reduceLT, Int.reduceEq, Int.reduceNeg, Int.reduceAdd, Int.reduceToNat]
        refine ⟨⟨i.i + 1, by omega, notin_succ h2 i.hp fun e => h4 e.symm⟩, by simp only; omega, ?_⟩
        refine Weak_to ?_ ?_ ?_ <;> simp only [go_sem, reduceIte, reduceCtorEq, Nat.reduceEqDiff, Nat.reduceAdd, Nat.reduceSub, Nat.reduceMul, Nat.reduceDiv, Nat.reduceMod, Nat.reduceLT, Nat.reduceLeDiff, Nat.reduceBEq, Nat.reducePow, Int.reduceLE, Int.reduceLT, Int.reduceEq, Int.reduceNeg, Int.reduceAdd, Int.reduceToNat]
    · have e : idx l s = -1 := by
        unfold idx
        rw [if_neg (notin_all h2 i.hp)]
      simp only [go_sem, reduceIte, reduceCtorEq, Nat.reduceEqDiff, Nat.reduceAdd, Nat.reduceSub, Nat.reduceMul, Nat.reduceDiv, Nat.reduceMod, Nat.reduceLT, Nat.reduceLeDiff, Nat.reduceBEq, Nat.reducePow, Int.reduceLE, Int.reduceLT, Int.reduceEq, Int.reduceNeg, Int.reduceAdd, Int.reduceToNat, Tryd.f41, e]

def T5 : Tbl := T4.add 38 (sp2 (fun (l : List Str) (s : Str) => decide (s ∈ l)) fun _ _ => True)
set_option maxRecDepth 100000 in
set_option maxHeartbeats 1000000 in
theorem hT5 : TblOk Tryd.prog G0 T5 := by
  refine sp2_ok ok38 hT4 fun l s _ ha hb => ?_
  refine Wcall_K (N := 9) hm hT4 38000 (lst []) ok38 Tryd.func38 rfl rfl (by simp) (by kernel_rfl) ?_
  have e : decide (0 ≤ idx l s) = decide (s ∈ l) := by
    unfold idx
    split <;> rename_i h <;> simp [h]
  simp only [go_sem, reduceIte, reduceCtorEq, Nat.reduceEqDiff, Nat.reduceAdd, Nat.reduceSub, Nat.reduceMul, Nat.reduceDiv, Nat.reduceMod, Nat.reduceLT, Nat.reduceLeDiff, Nat.reduceBEq, Nat.reducePow, Int.reduceLE, Int.reduceLT, Int.reduceEq, Int.reduceNeg, Int.reduceAdd, Int.reduceToNat, T4, Tryd.f38, e]

end Go.Proofs.YtbbcinpmomjbgaaDoor
