import Derived.Test.YtbbcinpmomjbgaaDoorP1
set_option linter.unusedSimpArgs false
namespace Go.Proofs.YtbbcinpmomjbgaaDoor
open Go Go.Abs Go.Proofs

def lowc (c : UInt8) : Prop := 97 ≤ (c.toNat : Int) ∧ (c.toNat : Int) ≤ 122
def okc (c : UInt8) : Prop := lowc c ∨ (48 ≤ (c.toNat : Int) ∧ (c.toNat : Int) ≤ 57) ∨ (c.toNat : Int) = 95 ∨ (c.toNat : Int) = 45
instance (c : UInt8) : Decidable (lowc c) := inferInstanceAs (Decidable (_ ∧ _))
instance (c : UInt8) : Decidable (okc c) := inferInstanceAs (Decidable (_ ∨ _))
def isName (s : Str) : Bool := decide (1 ≤ s.l.length ∧ s.l.length ≤ 30 ∧ lowc (s.l.getD 0 0) ∧ ∀ j, j < s.l.length → okc (s.l.getD j 0))

theorem all_succ {p : Nat → Prop} {i : Nat} (h : ∀ j, j < i → p j) (hi : p i) : ∀ j, j < i + 1 → p j := fun j hj => by
  rcases Nat.lt_or_ge j i with h' | h'
  · exact h j h'
  · obtain rfl : j = i := by omega
    exact hi

theorem name_false {s : Str} (h : ¬(1 ≤ s.l.length ∧ s.l.length ≤ 30 ∧ lowc (s.l.getD 0 0))) : isName s = false := by
  unfold isName
  exact decide_eq_false fun hh => h ⟨hh.1, hh.2.1, hh.2.2.1⟩
theorem name_bad {s : Str} {j : Nat} (hj : j < s.l.length) (h : ¬ okc (s.l.getD j 0)) : isName s = false := by
  unfold isName
  exact decide_eq_false fun hh => h (hh.2.2.2 j hj)
theorem name_good {s : Str} (h1 : 1 ≤ s.l.length) (h2 : s.l.length ≤ 30) (h3 : lowc (s.l.getD 0 0)) (h4 : ∀ j, j < s.l.length → okc (s.l.getD j 0)) : isName s = true := by
  unfold isName
  exact decide_eq_true ⟨h1, h2, h3, h4⟩

def T6 : Tbl := T5.add 37 (sp1 isName fun _ => True)
set_option maxRecDepth 100000 in
set_option maxHeartbeats 1000000 in
theorem hT6 : TblOk Tryd.prog G0 T6 := by
  refine sp1_ok ok37 hT5 fun s _ hs => ?_
  have ls := Wf_s hs
  simp only [maxL] at ls
  refine Wcall_K (N := 55) hm hT5 37000 (lst []) ok37 Tryd.func37 rfl rfl (by simp) (by kernel_rfl) ?_
  simp only [go_sem, reduceIte, reduceCtorEq, Nat.reduceEqDiff, Nat.reduceAdd, Nat.reduceSub, Nat.reduceMul, Nat.reduceDiv, Nat.reduceMod, Nat.reduceLT, Nat.reduceLeDiff, Nat.reduceBEq, Nat.reducePow, Int.reduceLE, Int.reduceLT, Int.reduceEq, Int.reduceNeg, Int.reduceAdd, Int.reduceToNat]
  repeat' (first | refine CondK.d (fun _ => ?_) (fun _ => ?_) | refine ReqK.i (by omega) fun _ => ?_ | simp only [go_sem, reduceIte, reduceCtorEq, Nat.reduceEqDiff, Nat.reduceAdd, Nat.reduceSub, Nat.reduceMul, Nat.reduceDiv, Nat.reduceMod, Nat.reduceLT, Nat.reduceLeDiff, Nat.reduceBEq, Nat.reducePow, Int.reduceLE, Int.reduceLT, Int.reduceEq, Int.reduceNeg, Int.reduceAdd, Int.reduceToNat, Tryd.f37, *])
  · rw [name_false (by unfold lowc; omega)]
  · rw [name_false (by unfold lowc; omega)]
  · rw [name_false (by unfold lowc; omega)]
  · rw [name_false (by unfold lowc; omega)]
  · refine WK_loop hm hT5 37000 (lst []) (ι := LoopI s.l.length fun i => ∀ j, j < i → okc (s.l.getD j 0)) ⟨fun i => ⟨frL [(0, .fz (enc s)), (24, .fz (.i .i64 s.l.length)), (25, .fz (.i .i64 i.i))], hpL [], 0⟩, fun i => s.l.length - i.i⟩ ⟨0, by simp, by simp⟩ (by kernel_rfl) ?_ ?_
    · refine Weak_to ?_ ?_ ?_ <;> simp only [go_sem, reduceIte, reduceCtorEq, Nat.reduceEqDiff, Nat.reduceAdd, Nat.reduceSub, Nat.reduceMul, Nat.reduceDiv, Nat.reduceMod, Nat.reduceLT, Nat.reduceLeDiff, Nat.reduceBEq, Nat.reducePow, Int.reduceLE, Int.reduceLT, Int.reduceEq, Int.reduceNeg, Int.reduceAdd, Int.reduceToNat]
    · intro i
      have hi := i.hi
      have hp := i.hp
      simp only [go_sem, reduceIte, reduceCtorEq, Nat.reduceEqDiff, Nat.reduceAdd, Nat.reduceSub, Nat.reduceMul, Nat.reduceDiv, Nat.reduceMod, Nat.reduceLT, Nat.reduceLeDiff, Nat.reduceBEq, Nat.reducePow, Int.reduceLE, Int.reduceLT, Int.reduceEq, Int.reduceNeg, Int.reduceAdd, Int.reduceToNat]
      refine CondK.d (fun h2 => ?_) (fun h2 => ?_)
      · repeat' (first | refine CondK.d (fun _ => ?_) (fun _ => ?_) | refine ReqK.i (by omega) fun _ => ?_ | simp only [go_sem, reduceIte, reduceCtorEq, Nat.reduceEqDiff, Nat.reduceAdd, Nat.reduceSub, Nat.reduceMul, Nat.reduceDiv, Nat.reduceMod, Nat.reduceLT, Nat.reduceLeDiff, Nat.reduceBEq, Nat.reducePow, Int.reduceLE, Int.reduceLT, Int.reduceEq, Int.reduceNeg, Int.reduceAdd, Int.reduceToNat, Tryd.f37, *])
        all_goals first
          | rw [name_bad h2 (by unfold okc lowc; omega)]
          | (refine ⟨⟨i.i + 1, by omega, all_succ hp (by unfold okc lowc; omega)⟩, by simp only; omega, ?_⟩
             refine Weak_to ?_ ?_ ?_ <;> simp only [go_sem, reduceIte, reduceCtorEq, Nat.reduceEqDiff, Nat.reduceAdd, Nat.reduceSub, Nat.reduceMul, Nat.reduceDiv, Nat.reduceMod, Nat.reduceLT, Nat.reduceLeDiff, Nat.reduceBEq, Nat.reducePow, Int.reduceLE, Int.reduceLT, Int.reduceEq, Int.reduceNeg, Int.reduceAdd, Int.reduceToNat])
      · simp only [go_sem, reduceIte, reduceCtorEq, Nat.reduceEqDiff, Nat.reduceAdd, Nat.reduceSub, Nat.reduceMul, Nat.reduceDiv, Nat.reduceMod, Nat.reduceLT, Nat.reduceLeDiff, Nat.reduceBEq, Nat.reducePow, Int.reduceLE, Int.reduceLT, Int.reduceEq, Int.reduceNeg, Int.reduceAdd, Int.reduceToNat, Tryd.f37]
        rw [name_good (by omega) (by omega) (by unfold lowc; omega) fun j hj => hp j (by omega)]

theorem name_zero {s : Str} {j : Nat} (e : j = 0) (h : ¬ lowc (s.l.getD j 0)) : isName s = false := by
  subst e; exact name_false fun hh => h hh.2.2
theorem low_next {s : Str} {i : Nat} (hz : 0 < i → lowc (s.l.getD 0 0)) (h : i = 0 → lowc (s.l.getD i 0)) : 0 < i + 1 → lowc (s.l.getD 0 0) := fun _ => by
  rcases Nat.eq_zero_or_pos i with e | e
  · have := h e; rwa [e] at this
  · exact hz e

def T7 : Tbl := T6.add 27 (sp1 isName fun _ => True)
set_option maxRecDepth 100000 in
set_option maxHeartbeats 1000000 in
theorem hT7 : TblOk Tryd.prog G0 T7 := by
  refine sp1_ok ok27 hT6 fun s _ hs => ?_
  have ls := Wf_s hs
  simp only [maxL] at ls
  refine Wcall_K (N := 62) hm hT6 27000 (lst []) ok27 Tryd.func27 rfl rfl (by simp) (by kernel_rfl) ?_
  simp only [go_sem, reduceIte, reduceCtorEq, Nat.reduceEqDiff, Nat.reduceAdd, Nat.reduceSub, Nat.reduceMul, Nat.reduceDiv, Nat.reduceMod, Nat.reduceLT, Nat.reduceLeDiff, Nat.reduceBEq, Nat.reducePow, Int.reduceLE, Int.reduceLT, Int.reduceEq, Int.reduceNeg, Int.reduceAdd, Int.reduceToNat]
  repeat' (first | refine CondK.d (fun _ => ?_) (fun _ => ?_) | refine ReqK.i (by omega) fun _ => ?_ | simp only [go_sem, reduceIte, reduceCtorEq, Nat.reduceEqDiff, Nat.reduceAdd, Nat.reduceSub, Nat.reduceMul, Nat.reduceDiv, Nat.reduceMod, Nat.reduceLT, Nat.reduceLeDiff, Nat.reduceBEq, Nat.reducePow, Int.reduceLE, Int.reduceLT, Int.reduceEq, Int.reduceNeg, Int.reduceAdd, Int.reduceToNat, Tryd.f27, *])
  · rw [name_false (by unfold lowc; omega)]
  · rw [name_false (by unfold lowc; omega)]
  · refine WK_loop hm hT6 27000 (lst []) (ι := LoopI s.l.length fun i => (∀ j, j < i → okc (s.l.getD j 0)) ∧ (0 < i → lowc (s.l.getD 0 0))) ⟨fun i => ⟨frL [(0, .fz (enc s)), (3, .fz (.i .i64 i.i))], hpL [], 0⟩, fun i => s.l.length - i.i⟩ ⟨0, by simp, by simp⟩ (by kernel_rfl) ?_ ?_
    · refine Weak_to ?_ ?_ ?_ <;> simp only [go_sem, reduceIte, reduceCtorEq, Nat.reduceEqDiff, Nat.reduceAdd, Nat.reduceSub, Nat.reduceMul, Nat.reduceDiv, Nat.reduceMod, Nat.reduceLT, Nat.reduceLeDiff, Nat.reduceBEq, Nat.reducePow, Int.reduceLE, Int.reduceLT, Int.reduceEq, Int.reduceNeg, Int.reduceAdd, Int.reduceToNat]
    · intro i
      have hi := i.hi
      have hp := i.hp.1
      have hz := i.hp.2
      simp only [go_sem, reduceIte, reduceCtorEq, Nat.reduceEqDiff, Nat.reduceAdd, Nat.reduceSub, Nat.reduceMul, Nat.reduceDiv, Nat.reduceMod, Nat.reduceLT, Nat.reduceLeDiff, Nat.reduceBEq, Nat.reducePow, Int.reduceLE, Int.reduceLT, Int.reduceEq, Int.reduceNeg, Int.reduceAdd, Int.reduceToNat]
      refine CondK.d (fun h2 => ?_) (fun h2 => ?_)
      · repeat' (first | refine CondK.d (fun _ => ?_) (fun _ => ?_) | refine ReqK.i (by omega) fun _ => ?_ | simp only [go_sem, reduceIte, reduceCtorEq, Nat.reduceEqDiff, Nat.reduceAdd, Nat.reduceSub, Nat.reduceMul, Nat.reduceDiv, Nat.reduceMod, Nat.reduceLT, Nat.reduceLeDiff, Nat.reduceBEq, Nat.reducePow, Int.reduceLE, Int.reduceLT, Int.reduceEq, Int.reduceNeg, Int.reduceAdd, Int.reduceToNat, Tryd.f27, *])
        all_goals first
          | rw [name_zero (s := s) (j := i.i) (by omega) (by unfold lowc; omega)]
          | rw [name_bad h2 (by unfold okc lowc; omega)]
          | (refine ⟨⟨i.i + 1, by omega, all_succ hp (by unfold okc lowc; omega), low_next hz (by unfold lowc; omega)⟩, by simp only; omega, ?_⟩
             refine Weak_to ?_ ?_ ?_ <;> simp only [go_sem, reduceIte, reduceCtorEq, Nat.reduceEqDiff, Nat.reduceAdd, Nat.reduceSub, Nat.reduceMul, Nat.reduceDiv, Nat.reduceMod, Nat.reduceLT, Nat.reduceLeDiff, Nat.reduceBEq, Nat.reducePow, Int.reduceLE, Int.reduceLT, Int.reduceEq, Int.reduceNeg, Int.reduceAdd, Int.reduceToNat])
      · simp only [go_sem, reduceIte, reduceCtorEq, Nat.reduceEqDiff, Nat.reduceAdd, Nat.reduceSub, Nat.reduceMul, Nat.reduceDiv, Nat.reduceMod, Nat.reduceLT, Nat.reduceLeDiff, Nat.reduceBEq, Nat.reducePow, Int.reduceLE, Int.reduceLT, Int.reduceEq, Int.reduceNeg, Int.reduceAdd, Int.reduceToNat, Tryd.f27]
        rw [name_good (by omega) (by omega) (hz (by omega)) fun j hj => hp j (by omega)]
end Go.Proofs.YtbbcinpmomjbgaaDoor
