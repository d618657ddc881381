import Derived.Test.YtbbcinpmomjbgaaDoorP5
import Derived.Test.YtbbcinpmomjbgaaDoorA3
set_option linter.unusedSimpArgs false
namespace Go.Proofs.YtbbcinpmomjbgaaDoor
open Go Go.Abs Go.Proofs

def G1 : Nat → List FD := fun g => if g = 0 then [.i .i64 0, .i .i64 0] else []
def T12 : Tbl := T11.add 11 (sp1 (fun g : List Str => walkM g []) fun g => 1 ≤ g.length ∧ g.length ≤ 5)

theorem chkGo_zero (at' : Int) : ∀ (xs pre : List Str), (chkGo at' pre xs).code = 0 → chkGo at' pre xs = ⟨0, 0⟩
  | [], _, _ => rfl
  | x :: xs, pre, h => by
    unfold chkGo at h ⊢
    split at h
    · simp at h
    · rename_i h1
      rw [if_neg h1]
      split at h
      · simp at h
      · rename_i h2
        rw [if_neg h2]
        exact chkGo_zero at' xs _ h
theorem chk_zero {l : List Str} {at' : Int} (h : (chk l at').code = 0) : chk l at' = ⟨0, 0⟩ ∧ 1 ≤ l.length ∧ l.length ≤ 5 := by
  unfold chk at h ⊢
  split at h
  · simp at h
  · rename_i h1
    rw [if_neg h1]
    exact ⟨chkGo_zero _ _ _ h, by omega, by omega⟩

set_option maxRecDepth 100000 in
set_option maxHeartbeats 1000000 in
theorem lawF3 (hT : TblOk Tryd.prog G1 T12) (l : List Str) (hl : (enc l).Wf) : Wcall Tryd.prog G1 3 [.fz (enc l)] (hpL []) 0 (fun d _ _ => d = .fz (.b true)) := by
  have la := Wf_sl hl
  simp only [List.length_map, maxL] at la
  have ea : partM [⟨[97]⟩, ⟨[98]⟩] = (walkM [⟨[97]⟩, ⟨[98]⟩] [], ⟨0, 0⟩) := by decide
  have eb : (walkM [⟨[97]⟩, ⟨[98]⟩] []).length = 2 := by decide
  have dl : dec (α := List Str) (.sl [.s [97], .s [98]]) = [⟨[97]⟩, ⟨[98]⟩] := rfl
  refine Wcall_K (N := 69) hm hT 3000 (lst []) ok3 Tryd.func3 rfl rfl (by simp) (by kernel_rfl) ?_
  by_cases hc : (chk l (-1)).code = 0
  · obtain ⟨e1, e2, e3⟩ := chk_zero hc
    have e4 : partM l = (walkM l [], ⟨0, 0⟩) := by unfold partM; rw [if_pos hc]
    have e5 : (1 ≤ l.length ∧ l.length ≤ 5) = True := eq_true ⟨e2, e3⟩
    have hW := walkM_len5 e3
    repeat (first | refine ReqK.i (by unfold maxL; omega) fun _ => ?_ | simp only [go_sem, reduceIte, reduceCtorEq, Nat.reduceEqDiff, Nat.reduceAdd, Nat.reduceSub, Nat.reduceMul, Nat.reduceDiv, Nat.reduceMod, Nat.reduceLT, Nat.reduceLeDiff, Nat.reduceBEq, Nat.reducePow, Int.reduceLE, Int.reduceLT, Int.reduceEq, Int.reduceNeg, Int.reduceAdd, Int.reduceToNat, T12, T11, T10, T9, ea, eb, G1, dl, Tryd.f3, e1, e4, e5, e2, e3])
    refine WK_loop hm hT 3000 (lst []) (ι := LoopI (walkM l []).length fun _ => True)
      ⟨fun i => ⟨frL [(5, .fz (enc (walkM l []))), (8, .fz (enc (walkM l []))), (54, .fz (.i .i64 (walkM l []).length)), (55, .fz (.i .i64 i.i))], hpL [], 4⟩, fun i => (walkM l []).length - i.i⟩ ⟨0, by omega, trivial⟩ (by kernel_rfl) ?_ ?_
    · refine Weak_to ?_ ?_ ?_ <;> simp only [go_sem, reduceIte, reduceCtorEq, Nat.reduceEqDiff, Nat.reduceAdd, Nat.reduceSub, Nat.reduceMul, Nat.reduceDiv, Nat.reduceMod, Nat.reduceLT, Nat.reduceLeDiff, Nat.reduceBEq, Nat.reducePow, Int.reduceLE, Int.reduceLT, Int.reduceEq, Int.reduceNeg, Int.reduceAdd, Int.reduceToNat]
    · intro i
      have hi := i.hi
      simp only [go_sem, reduceIte, reduceCtorEq, Nat.reduceEqDiff, Nat.reduceAdd, Nat.reduceSub, Nat.reduceMul, Nat.reduceDiv, Nat.reduceMod, Nat.reduceLT, Nat.reduceLeDiff, Nat.reduceBEq, Nat.reducePow, Int.reduceLE, Int.reduceLT, Int.reduceEq, Int.reduceNeg, Int.reduceAdd, Int.reduceToNat]
      refine CondK.d (fun h2 => ?_) (fun h2 => ?_)
      · simp only [go_sem, reduceIte, reduceCtorEq, Nat.reduceEqDiff, Nat.reduceAdd, Nat.reduceSub, Nat.reduceMul, Nat.reduceDiv, Nat.reduceMod, Nat.reduceLT, Nat.reduceLeDiff, Nat.reduceBEq, Nat.reducePow, Int.reduceLE, Int.reduceLT, Int.reduceEq, Int.reduceNeg, Int.reduceAdd, Int.reduceToNat, h2, getD_map_lt, T12, T11, T10, T9, T8, T7, T6, T5, T4, T3, T2]
        refine ReqK.i (by omega) fun _ => ?_
        simp only [go_sem, reduceIte, reduceCtorEq, Nat.reduceEqDiff, Nat.reduceAdd, Nat.reduceSub, Nat.reduceMul, Nat.reduceDiv, Nat.reduceMod, Nat.reduceLT, Nat.reduceLeDiff, Nat.reduceBEq, Nat.reducePow, Int.reduceLE, Int.reduceLT, Int.reduceEq, Int.reduceNeg, Int.reduceAdd, Int.reduceToNat]
        refine ⟨⟨i.i + 1, by omega, trivial⟩, by simp only; omega, ?_⟩
        refine Weak_to ?_ ?_ ?_ <;> simp only [go_sem, reduceIte, reduceCtorEq, Nat.reduceEqDiff, Nat.reduceAdd, Nat.reduceSub, Nat.reduceMul, Nat.reduceDiv, Nat.reduceMod, Nat.reduceLT, Nat.reduceLeDiff, Nat.reduceBEq, Nat.reducePow, Int.reduceLE, Int.reduceLT, Int.reduceEq, Int.reduceNeg, Int.reduceAdd, Int.reduceToNat]
      · simp only [go_sem, reduceIte, reduceCtorEq, Nat.reduceEqDiff, Nat.reduceAdd, Nat.reduceSub, Nat.reduceMul, Nat.reduceDiv, Nat.reduceMod, Nat.reduceLT, Nat.reduceLeDiff, Nat.reduceBEq, Nat.reducePow, Int.reduceLE, Int.reduceLT, Int.reduceEq, Int.reduceNeg, Int.reduceAdd, Int.reduceToNat, Tryd.f3]
  · have e4 : partM l = ([], chk l (-1)) := by unfold partM; rw [if_neg hc]
    repeat (first | refine ReqK.i (by unfold maxL; omega) fun _ => ?_ | simp only [go_sem, reduceIte, reduceCtorEq, Nat.reduceEqDiff, Nat.reduceAdd, Nat.reduceSub, Nat.reduceMul, Nat.reduceDiv, Nat.reduceMod, Nat.reduceLT, Nat.reduceLeDiff, Nat.reduceBEq, Nat.reducePow, Int.reduceLE, Int.reduceLT, Int.reduceEq, Int.reduceNeg, Int.reduceAdd, Int.reduceToNat, T12, T11, T10, T9, ea, eb, G1, dl, Tryd.f3, e4, eq_false hc])
end Go.Proofs.YtbbcinpmomjbgaaDoor
