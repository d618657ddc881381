import Derived.Test.YtbbcinpmomjbgaaDoorP4
import Derived.Test.YtbbcinpmomjbgaaDoorA3
set_option linter.unusedSimpArgs false
namespace Go.Proofs.YtbbcinpmomjbgaaDoor
open Go Go.Abs Go.Proofs

def cntB : Nat → Nat → Nat
  | 0, _ => 1
  | r + 1, p => (p + 1) * cntB r (p + 1)
theorem cntB_mono : ∀ (r : Nat) {p q : Nat}, p ≤ q → cntB r p ≤ cntB r q
  | 0, _, _, _ => Nat.le_refl _
  | r + 1, _, _, h => Nat.mul_le_mul (by omega) (cntB_mono r (by omega))
theorem flat_bound {α : Type} {f : Nat → List α} {b : Nat} (h : ∀ k, (f k).length ≤ b) : ∀ m, ((List.range m).flatMap f).length ≤ m * b
  | 0 => by simp
  | m + 1 => by
    rw [List.range_succ, List.flatMap_append, List.length_append, Nat.succ_mul]
    have := flat_bound h m
    have h2 := h m
    simp only [List.flatMap_cons, List.flatMap_nil, List.append_nil]
    omega
theorem addAt_len {k : Nat} {x : Str} {parts : List (List Str)} : (addAt k x parts).length ≤ parts.length + 1 := by
  unfold addAt
  split
  · rw [List.length_set]; omega
  · rw [List.length_append]; simp
theorem walkM_len : ∀ (xs : List Str) (parts : List (List Str)), (walkM xs parts).length ≤ cntB xs.length parts.length
  | [], _ => Nat.le_refl _
  | x :: xs, parts => by
    simp only [walkM, List.length_cons, cntB]
    exact flat_bound (fun k => Nat.le_trans (walkM_len xs _) (cntB_mono _ addAt_len)) _
theorem walkM_len5 {g : List Str} (h : g.length ≤ 5) : (walkM g []).length ≤ 1000000 := by
  refine Nat.le_trans (walkM_len g []) ?_
  have : g.length = 0 ∨ g.length = 1 ∨ g.length = 2 ∨ g.length = 3 ∨ g.length = 4 ∨ g.length = 5 := by omega
  rcases this with e | e | e | e | e | e <;> rw [e] <;> decide

def partM (g : List Str) : List (List (List Str)) × Fault := if (chk g (-1)).code = 0 then (walkM g [], ⟨0, 0⟩) else ([], chk g (-1))
theorem chk_len {g : List Str} (h : (chk g (-1)).code = 0) : g.length ≤ 5 := by
  unfold chk at h
  split at h
  · cases h
  · omega

def T11 : Tbl := T10.add 9 (sp1p partM fun _ => True)
set_option maxRecDepth 100000 in
set_option maxHeartbeats 1000000 in
theorem hT11 : TblOk Tryd.prog G0 T11 := by
  refine sp1p_ok ok9 hT10 fun l _ hl => ?_
  refine Wcall_K (N := 18) hm hT10 9000 (lst []) ok9 Tryd.func9 rfl rfl (by simp) (by kernel_rfl) ?_
  simp only [go_sem, reduceIte, reduceCtorEq, Nat.reduceEqDiff, Nat.reduceAdd, Nat.reduceSub, Nat.reduceMul, Nat.reduceDiv, Nat.reduceMod, Nat.reduceLT, Nat.reduceLeDiff, Nat.reduceBEq, Nat.reducePow, Int.reduceLE, Int.reduceLT, Int.reduceEq, Int.reduceNeg, Int.reduceAdd, Int.reduceToNat, T10, T9]
  refine CondK.d (fun h => ?_) (fun h => ?_)
  · simp only [go_sem, reduceIte, reduceCtorEq, Nat.reduceEqDiff, Nat.reduceAdd, Nat.reduceSub, Nat.reduceMul, Nat.reduceDiv, Nat.reduceMod, Nat.reduceLT, Nat.reduceLeDiff, Nat.reduceBEq, Nat.reducePow, Int.reduceLE, Int.reduceLT, Int.reduceEq, Int.reduceNeg, Int.reduceAdd, Int.reduceToNat, T8, T7, T6, T5, T4, T3, T2, T1]
    have e : partM l = (walkM l [], ⟨0, 0⟩) := by unfold partM; rw [if_pos h]
    have hg5 := chk_len h
    refine WcallK.i (Wcall_post (Wcall_g (args' := [.fz (.i .i64 ((0 : Nat) : Int)), .fz (enc ([] : List (List Str))), .ptr (9001, 0) 0, .ptr (9005, 3) 0, .ptr (9006, 4) 0])
      (hl := HHl l 5 []) (n' := 6) [] [(25018, 5)] [] rfl ?_ ?_ ?_ ?_ ?_ (f25 l hg5 l 0 [] [] 5 6 rfl (by omega) (by omega) (by omega) ⟨by simp, by simp, by simp⟩ (by simpa using walkM_len5 hg5))) ?_)
    · decide
    · simp only [go_sem, reduceIte, reduceCtorEq, Nat.reduceEqDiff, Nat.reduceAdd, Nat.reduceSub, Nat.reduceMul, Nat.reduceDiv, Nat.reduceMod, Nat.reduceLT, Nat.reduceLeDiff, Nat.reduceBEq, Nat.reducePow, Int.reduceLE, Int.reduceLT, Int.reduceEq, Int.reduceNeg, Int.reduceAdd, Int.reduceToNat]
    · simp only [go_sem, reduceIte, reduceCtorEq, Nat.reduceEqDiff, Nat.reduceAdd, Nat.reduceSub, Nat.reduceMul, Nat.reduceDiv, Nat.reduceMod, Nat.reduceLT, Nat.reduceLeDiff, Nat.reduceBEq, Nat.reducePow, Int.reduceLE, Int.reduceLT, Int.reduceEq, Int.reduceNeg, Int.reduceAdd, Int.reduceToNat, HHl]
    · simp only [go_sem, reduceIte, reduceCtorEq, Nat.reduceEqDiff, Nat.reduceAdd, Nat.reduceSub, Nat.reduceMul, Nat.reduceDiv, Nat.reduceMod, Nat.reduceLT, Nat.reduceLeDiff, Nat.reduceBEq, Nat.reducePow, Int.reduceLE, Int.reduceLT, Int.reduceEq, Int.reduceNeg, Int.reduceAdd, Int.reduceToNat, HHl]
    · simp only [go_sem, reduceIte, reduceCtorEq, Nat.reduceEqDiff, Nat.reduceAdd, Nat.reduceSub, Nat.reduceMul, Nat.reduceDiv, Nat.reduceMod, Nat.reduceLT, Nat.reduceLeDiff, Nat.reduceBEq, Nat.reducePow, Int.reduceLE, Int.reduceLT, Int.reduceEq, Int.reduceNeg, Int.reduceAdd, Int.reduceToNat]
    rintro d H' n' ⟨rfl, g', e1, e2, e3⟩
    simp only [go_sem, reduceIte, reduceCtorEq, Nat.reduceEqDiff, Nat.reduceAdd, Nat.reduceSub, Nat.reduceMul, Nat.reduceDiv, Nat.reduceMod, Nat.reduceLT, Nat.reduceLeDiff, Nat.reduceBEq, Nat.reducePow, Int.reduceLE, Int.reduceLT, Int.reduceEq, Int.reduceNeg, Int.reduceAdd, Int.reduceToNat, HHl] at e3
    obtain ⟨a1, a2, a3, a4, a5⟩ := e3
    refine ⟨.tup [], hpL [((9005, 3), some ⟨[.fz (enc (walkM l []))], true, false⟩), ((9003, 1), some ⟨[.fz (.i .i64 0), .fz (.i .i64 0)], true, false⟩)], n', ?_, ?_⟩
    · refine Weak_g [] [] [((25018, g'), (walkM l []).map enc)] ?_ ?_ ?_ ?_ ?_ <;> simp only [go_sem, reduceIte, reduceCtorEq, Nat.reduceEqDiff, Nat.reduceAdd, Nat.reduceSub, Nat.reduceMul, Nat.reduceDiv, Nat.reduceMod, Nat.reduceLT, Nat.reduceLeDiff, Nat.reduceBEq, Nat.reducePow, Int.reduceLE, Int.reduceLT, Int.reduceEq, Int.reduceNeg, Int.reduceAdd, Int.reduceToNat, a1, a2, a3, a4, a5]
      · intro hh; rw [List.isEmpty_iff.1 hh]; rfl
      · omega
    · simp only [go_sem, reduceIte, reduceCtorEq, Nat.reduceEqDiff, Nat.reduceAdd, Nat.reduceSub, Nat.reduceMul, Nat.reduceDiv, Nat.reduceMod, Nat.reduceLT, Nat.reduceLeDiff, Nat.reduceBEq, Nat.reducePow, Int.reduceLE, Int.reduceLT, Int.reduceEq, Int.reduceNeg, Int.reduceAdd, Int.reduceToNat, Tryd.f9, e]
  · have e : partM l = ([], chk l (-1)) := by unfold partM; rw [if_neg h]
    simp only [go_sem, reduceIte, reduceCtorEq, Nat.reduceEqDiff, Nat.reduceAdd, Nat.reduceSub, Nat.reduceMul, Nat.reduceDiv, Nat.reduceMod, Nat.reduceLT, Nat.reduceLeDiff, Nat.reduceBEq, Nat.reducePow, Int.reduceLE, Int.reduceLT, Int.reduceEq, Int.reduceNeg, Int.reduceAdd, Int.reduceToNat, Tryd.f9, e]
end Go.Proofs.YtbbcinpmomjbgaaDoor
