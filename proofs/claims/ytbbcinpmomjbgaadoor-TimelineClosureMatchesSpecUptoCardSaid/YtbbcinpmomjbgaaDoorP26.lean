import Derived.Test.YtbbcinpmomjbgaaDoorP24
import Derived.Test.YtbbcinpmomjbgaaDoorAbs38
set_option linter.unusedSimpArgs false
namespace Go.Proofs.YtbbcinpmomjbgaaDoor
open Go Go.Abs Go.Proofs

/-- the other way of a relation -/
def otherT (x : Time) : Time := if 2 < x.kind then ⟨x.kind, x.b, x.a⟩ else ⟨2, x.a, x.b⟩
theorem relCode_other {p : Int} {x : Time} (h : relCode p x = 0) : relCode p (otherT x) = 0 := by
  unfold relCode at h
  unfold otherT relCode
  split at h
  · simp at h
  · split at h
    · simp at h
    · (repeat' split) <;> first | rfl | (simp only at *; omega)
theorem ent_of {p : Nat} {l : List Time} {y : Time} (h : (timesM p l).code = 0) (hy : relCode p y = 0) (hun : ∀ f : Nat → Nat, (∀ x ∈ l, HoldsF f x) → ¬ HoldsF f (negT y)) : entM p l y = (true, ⟨0, 0⟩) := by
  unfold entM
  rw [if_pos h, if_pos hy]
  have hpre : consPre p (l ++ [negT y]) := consPre_add h (relCode_neg hy)
  have h4 := hpre.2.2.2
  simp only [Int.toNat_natCast] at h4
  have : consM p (l ++ [negT y]) = false := by
    rw [Bool.eq_false_iff]
    intro hh
    obtain ⟨f, hf⟩ := (cons_sat h4).1 hh
    exact hun f (fun x hx => hf x (List.mem_append_left _ hx)) (hf _ (List.mem_append_right _ List.mem_cons_self))
  show (!consM p (l ++ [negT y]), (⟨0, 0⟩ : Fault)) = _
  rw [this]; rfl
theorem ent_self {p : Nat} {l : List Time} {x : Time} (h : (timesM p l).code = 0) (hx : x ∈ l) : entM p l x = (true, ⟨0, 0⟩) ∧ entM p l (otherT x) = (true, ⟨0, 0⟩) := by
  have hr := (times_zero h).2.2.2.2 x hx
  have hk : 1 ≤ x.kind ∧ x.kind ≤ 4 := (rel_ok (by omega) hr).1
  have hks : x.kind = 1 ∨ x.kind = 2 ∨ x.kind = 3 ∨ x.kind = 4 := by omega
  refine ⟨ent_of h hr fun f hf hn => ?_, ent_of h (relCode_other hr) fun f hf hn => ?_⟩
  · have h1 := hf x hx
    unfold negT at hn
    unfold HoldsF at h1 hn
    rcases hks with e | e | e | e <;> simp [e] at h1 hn <;> omega
  · have h1 := hf x hx
    unfold otherT negT at hn
    unfold HoldsF at h1 hn
    rcases hks with e | e | e | e <;> simp [e] at h1 hn <;> omega
theorem ent2 : entM 2 earlyM ⟨2, 0, 1⟩ = (true, ⟨0, 0⟩) := by decide

def tree4 : Tr := (.node (.cons 0 (.node (.cons 1 (.node (.cons 2 (.node (.cons 3 (.node (.cons 4 (.node (.cons 5 (.node (.cons 6 (.node (.cons 7 .leaf .nil)) .nil)) .nil)) .nil)) (.cons 4 (.node (.cons 3 (.node (.cons 5 (.node (.cons 6 (.node (.cons 7 .leaf .nil)) .nil)) .nil)) (.cons 5 (.node (.cons 3 (.node (.cons 6 (.node (.cons 7 .leaf .nil)) .nil)) .nil)) .nil))) .nil))) (.cons 4 (.node (.cons 2 (.node (.cons 3 (.node (.cons 5 (.node (.cons 6 (.node (.cons 7 .leaf .nil)) .nil)) .nil)) (.cons 5 (.node (.cons 3 (.node (.cons 6 (.node (.cons 7 .leaf .nil)) .nil)) .nil)) .nil))) (.cons 5 (.node (.cons 2 (.node (.cons 3 (.node (.cons 6 (.node (.cons 7 .leaf .nil)) .nil)) .nil)) .nil)) .nil))) .nil))) (.cons 2 (.node (.cons 1 (.node (.cons 3 (.node (.cons 4 (.node (.cons 5 (.node (.cons 6 (.node (.cons 7 .leaf .nil)) .nil)) .nil)) .nil)) (.cons 4 (.node (.cons 3 (.node (.cons 5 (.node (.cons 6 (.node (.cons 7 .leaf .nil)) .nil)) .nil)) (.cons 5 (.node (.cons 3 (.node (.cons 6 (.node (.cons 7 .leaf .nil)) .nil)) .nil)) .nil))) .nil))) (.cons 3 (.node (.cons 1 (.node (.cons 4 (.node (.cons 5 (.node (.cons 6 (.node (.cons 7 .leaf .nil)) .nil)) .nil)) .nil)) .nil)) .nil))) .nil))) (.cons 2 (.node (.cons 0 (.node (.cons 1 (.node (.cons 3 (.node (.cons 4 (.node (.cons 5 (.node (.cons 6 (.node (.cons 7 .leaf .nil)) .nil)) .nil)) .nil)) (.cons 4 (.node (.cons 3 (.node (.cons 5 (.node (.cons 6 (.node (.cons 7 .leaf .nil)) .nil)) .nil)) (.cons 5 (.node (.cons 3 (.node (.cons 6 (.node (.cons 7 .leaf .nil)) .nil)) .nil)) .nil))) .nil))) (.cons 3 (.node (.cons 1 (.node (.cons 4 (.node (.cons 5 (.node (.cons 6 (.node (.cons 7 .leaf .nil)) .nil)) .nil)) .nil)) .nil)) .nil))) (.cons 3 (.node (.cons 0 (.node (.cons 1 (.node (.cons 4 (.node (.cons 5 (.node (.cons 6 (.node (.cons 7 .leaf .nil)) .nil)) .nil)) .nil)) .nil)) .nil)) .nil))) .nil)))

set_option maxRecDepth 100000 in
set_option maxHeartbeats 1000000 in
theorem lawF4 (hT : TblOk Tryd.prog G1 U12) (p : Int) (l : List Time) (hp : (enc p).Wf) (hl : (enc l).Wf) : Wcall Tryd.prog G1 4 [.fz (enc p), .fz (enc l)] (hpL []) 0 (fun d _ _ => d = .fz (.b true)) := by
  have la := Wf_sl hl
  simp only [List.length_map, maxL] at la
  refine Wcall_K (N := 78) hm hT 4000 (lst [1000014]) ok4 Tryd.func4 rfl rfl (by simp) (by kernel_rfl) ?_
  by_cases h1 : (timesM p l).code = 0
  · obtain ⟨hz, hp0, hp12, hll, _⟩ := times_zero h1
    obtain ⟨p, rfl⟩ := Int.eq_ofNat_of_zero_le hp0
    repeat' (first | refine ReqK.i (by unfold maxL; decide) fun _ => ?_ | simp only [go_sem, reduceIte, reduceCtorEq, Nat.reduceEqDiff, Nat.reduceAdd, Nat.reduceSub, Nat.reduceMul, Nat.reduceDiv, Nat.reduceMod, Nat.reduceLT, Nat.reduceLeDiff, Nat.reduceBEq, Nat.reducePow, Int.reduceLE, Int.reduceLT, Int.reduceEq, Int.reduceNeg, Int.reduceAdd, Int.reduceToNat, U12, U11, U10, U9, U8, U7, U6, U5, U4, U3, U2, U1, ent2, G1, Tryd.f4, hz])
    refine WK_loop hm hT 4000 (lst [1000014]) (ι := LoopN l.length fun _ => True)
      ⟨fun q => ⟨frL [(0, .fz (.i .i64 p)), (1, .fz (enc l)), (32, .fz (enc l)), (33, .fz (.i .i64 l.length)), (34, .fz (.i .i64 q.i))], hpL [], q.m⟩, fun q => l.length - q.i⟩ ⟨0, 1, by omega, trivial⟩ (by kernel_rfl) ?_ ?_
    · refine Weak_to ?_ ?_ ?_ <;> simp only [go_sem, reduceIte, reduceCtorEq, Nat.reduceEqDiff, Nat.reduceAdd, Nat.reduceSub, Nat.reduceMul, Nat.reduceDiv, Nat.reduceMod, Nat.reduceLT, Nat.reduceLeDiff, Nat.reduceBEq, Nat.reducePow, Int.reduceLE, Int.reduceLT, Int.reduceEq, Int.reduceNeg, Int.reduceAdd, Int.reduceToNat]
    rintro ⟨i, m, hi, _⟩
    by_cases h2 : i < l.length
    · obtain ⟨e1, e2⟩ := ent_self h1 (List.getElem_mem h2)
      by_cases hk : 2 < l[i].kind
      · have ho : otherT l[i] = ⟨l[i].kind, l[i].b, l[i].a⟩ := by unfold otherT; rw [if_pos hk]
        rw [ho] at e2
        repeat' (first | refine ReqK.i (by omega) fun _ => ?_ | simp only [go_sem, reduceIte, reduceCtorEq, Nat.reduceEqDiff, Nat.reduceAdd, Nat.reduceSub, Nat.reduceMul, Nat.reduceDiv, Nat.reduceMod, Nat.reduceLT, Nat.reduceLeDiff, Nat.reduceBEq, Nat.reducePow, Int.reduceLE, Int.reduceLT, Int.reduceEq, Int.reduceNeg, Int.reduceAdd, Int.reduceToNat, h2, getD_map_lt, U12, U11, U10, U9, U8, e1, e2, hk, G1, Tryd.f4])
        refine WK_tree hm hT 4000 (lst [1000014]) tree4 (by kernel_rfl) (by kernel_rfl) ?_
        repeat' (first | refine And.intro ?_ ?_ | refine ReqK.i (by omega) fun _ => ?_ | simp only [go_sem, reduceIte, reduceCtorEq, Nat.reduceEqDiff, Nat.reduceAdd, Nat.reduceSub, Nat.reduceMul, Nat.reduceDiv, Nat.reduceMod, Nat.reduceLT, Nat.reduceLeDiff, Nat.reduceBEq, Nat.reducePow, Int.reduceLE, Int.reduceLT, Int.reduceEq, Int.reduceNeg, Int.reduceAdd, Int.reduceToNat, tree4, h2, getD_map_lt, U12, U11, U10, U9, U8, e1, e2, hk, G1, Tryd.f4])
        all_goals
          refine ⟨⟨i + 1, m + 4, by omega, trivial⟩, by simp only; omega, ?_⟩
          refine Weak_to ?_ ?_ ?_ <;> simp only [go_sem, reduceIte, reduceCtorEq, Nat.reduceEqDiff, Nat.reduceAdd, Nat.reduceSub, Nat.reduceMul, Nat.reduceDiv, Nat.reduceMod, Nat.reduceLT, Nat.reduceLeDiff, Nat.reduceBEq, Nat.reducePow, Int.reduceLE, Int.reduceLT, Int.reduceEq, Int.reduceNeg, Int.reduceAdd, Int.reduceToNat]
      · have ho : otherT l[i] = ⟨2, l[i].a, l[i].b⟩ := by unfold otherT; rw [if_neg hk]
        rw [ho] at e2
        repeat' (first | refine ReqK.i (by omega) fun _ => ?_ | simp only [go_sem, reduceIte, reduceCtorEq, Nat.reduceEqDiff, Nat.reduceAdd, Nat.reduceSub, Nat.reduceMul, Nat.reduceDiv, Nat.reduceMod, Nat.reduceLT, Nat.reduceLeDiff, Nat.reduceBEq, Nat.reducePow, Int.reduceLE, Int.reduceLT, Int.reduceEq, Int.reduceNeg, Int.reduceAdd, Int.reduceToNat, h2, getD_map_lt, U12, U11, U10, U9, U8, e1, e2, hk, G1, Tryd.f4])
        refine ⟨⟨i + 1, m + 4, by omega, trivial⟩, by simp only; omega, ?_⟩
        refine Weak_to ?_ ?_ ?_ <;> simp only [go_sem, reduceIte, reduceCtorEq, Nat.reduceEqDiff, Nat.reduceAdd, Nat.reduceSub, Nat.reduceMul, Nat.reduceDiv, Nat.reduceMod, Nat.reduceLT, Nat.reduceLeDiff, Nat.reduceBEq, Nat.reducePow, Int.reduceLE, Int.reduceLT, Int.reduceEq, Int.reduceNeg, Int.reduceAdd, Int.reduceToNat]
    · repeat' (first | refine ReqK.i (by omega) fun _ => ?_ | simp only [go_sem, reduceIte, reduceCtorEq, Nat.reduceEqDiff, Nat.reduceAdd, Nat.reduceSub, Nat.reduceMul, Nat.reduceDiv, Nat.reduceMod, Nat.reduceLT, Nat.reduceLeDiff, Nat.reduceBEq, Nat.reducePow, Int.reduceLE, Int.reduceLT, Int.reduceEq, Int.reduceNeg, Int.reduceAdd, Int.reduceToNat, h2, Tryd.f4])
  · have hz : ¬ timesM p l = ⟨0, 0⟩ := fun e => h1 (by rw [e])
    repeat' (first | refine ReqK.i (by unfold maxL; decide) fun _ => ?_ | simp only [go_sem, reduceIte, reduceCtorEq, Nat.reduceEqDiff, Nat.reduceAdd, Nat.reduceSub, Nat.reduceMul, Nat.reduceDiv, Nat.reduceMod, Nat.reduceLT, Nat.reduceLeDiff, Nat.reduceBEq, Nat.reducePow, Int.reduceLE, Int.reduceLT, Int.reduceEq, Int.reduceNeg, Int.reduceAdd, Int.reduceToNat, U12, U11, U10, U9, U8, U7, U6, U5, U4, U3, U2, U1, ent2, G1, Tryd.f4, h1])
end Go.Proofs.YtbbcinpmomjbgaaDoor
