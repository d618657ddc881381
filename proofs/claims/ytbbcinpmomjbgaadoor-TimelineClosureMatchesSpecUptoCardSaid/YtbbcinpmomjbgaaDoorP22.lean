import Derived.Test.YtbbcinpmomjbgaaDoorP21
set_option linter.unusedSimpArgs false
namespace Go.Proofs.YtbbcinpmomjbgaaDoor
open Go Go.Abs Go.Proofs

set_option maxRecDepth 100000 in
set_option maxHeartbeats 1000000 in
theorem clone39 {l : List Time} (hl : l.length ≤ 1000000) {H : Heap} {n : Nat} {R : D → Heap → Nat → Prop} (hF : l = [] → R (.full []) H n)
    (hA : R (.arr (39007, n) 3 0 l.length) (updH H (39007, n) (some ⟨flatFz (l.map enc), false, l.isEmpty⟩)) (n + 1)) : Wcall Tryd.prog G0 39 [.fz (enc l)] H n R := by
  refine Wcall_K (N := 8) hm hU6 39000 (lst [7]) ok39 Tryd.func39 rfl rfl (by simp) (by kernel_rfl) ?_
  simp only [go_sem, reduceIte, reduceCtorEq, Nat.reduceEqDiff, Nat.reduceAdd, Nat.reduceSub, Nat.reduceMul, Nat.reduceDiv, Nat.reduceMod, Nat.reduceLT, Nat.reduceLeDiff, Nat.reduceBEq, Nat.reducePow, Int.reduceLE, Int.reduceLT, Int.reduceEq, Int.reduceNeg, Int.reduceAdd, Int.reduceToNat]
  refine AllN.i fun b hb => ?_
  cases b
  · have hfe : (flatFz (l.map enc)).isEmpty = l.isEmpty := by cases l <;> rfl
    repeat' (first | refine ReqK.i (fits_of (by omega) (by decide)) fun _ => ?_ | simp only [go_sem, reduceIte, reduceCtorEq, Nat.reduceEqDiff, Nat.reduceAdd, Nat.reduceSub, Nat.reduceMul, Nat.reduceDiv, Nat.reduceMod, Nat.reduceLT, Nat.reduceLeDiff, Nat.reduceBEq, Nat.reducePow, Int.reduceLE, Int.reduceLT, Int.reduceEq, Int.reduceNeg, Int.reduceAdd, Int.reduceToNat, Tryd.f39, hfe])
    exact hA
  · have h0 : l = [] := List.eq_nil_of_length_eq_zero (hb rfl)
    simp only [go_sem, reduceIte, reduceCtorEq, Nat.reduceEqDiff, Nat.reduceAdd, Nat.reduceSub, Nat.reduceMul, Nat.reduceDiv, Nat.reduceMod, Nat.reduceLT, Nat.reduceLeDiff, Nat.reduceBEq, Nat.reducePow, Int.reduceLE, Int.reduceLT, Int.reduceEq, Int.reduceNeg, Int.reduceAdd, Int.reduceToNat, Tryd.f39]
    exact hF h0

def withM (l : List Time) (k a b : Int) : List Time := l ++ [⟨k, a, b⟩]
def U7 : Tbl := U6.add 32 (sp4 withM fun l _ _ _ => l.length ≤ 1000000)
set_option maxRecDepth 100000 in
set_option maxHeartbeats 1000000 in
theorem hU7 : TblOk Tryd.prog G0 U7 := by
  refine sp4_ok ok32 hU6 fun l k a b hl _ _ _ _ => ?_
  refine Wcall_post (Q := fun d H n => ∃ g, d = .arr (32016, g) 3 0 (l ++ [(⟨k, a, b⟩ : Time)]).length ∧ g < n ∧ H (32016, g) = some ⟨flatFz ((l ++ [(⟨k, a, b⟩ : Time)]).map enc), false, false⟩) ?_ ?_
  · refine Wcall_K (N := 17) hm hU6 32000 (lst [16]) ok32 Tryd.func32 rfl rfl (by simp) (by kernel_rfl) ?_
    simp only [go_sem, reduceIte, reduceCtorEq, Nat.reduceEqDiff, Nat.reduceAdd, Nat.reduceSub, Nat.reduceMul, Nat.reduceDiv, Nat.reduceMod, Nat.reduceLT, Nat.reduceLeDiff, Nat.reduceBEq, Nat.reducePow, Int.reduceLE, Int.reduceLT, Int.reduceEq, Int.reduceNeg, Int.reduceAdd, Int.reduceToNat, U6, U5, U4, U3, U2, U1]
    refine WcallK.i (clone39 (by omega) (fun h0 => ?_) ?_)
    · subst h0
      repeat' (first | refine ReqK.i (by unfold maxL; omega) fun _ => ?_ | refine ReqK.i (fits_of (by omega) (by decide)) fun _ => ?_ | simp only [go_sem, reduceIte, reduceCtorEq, Nat.reduceEqDiff, Nat.reduceAdd, Nat.reduceSub, Nat.reduceMul, Nat.reduceDiv, Nat.reduceMod, Nat.reduceLT, Nat.reduceLeDiff, Nat.reduceBEq, Nat.reducePow, Int.reduceLE, Int.reduceLT, Int.reduceEq, Int.reduceNeg, Int.reduceAdd, Int.reduceToNat, Tryd.f32])
      exact ⟨0, rfl, by omega, by rw [if_pos rfl]; rfl⟩
    · have hln := flat_len_kc l
      have htk := flat_take_kc l
      repeat' (first | refine ReqK.i (by unfold maxL; omega) fun _ => ?_ | refine ReqK.i (fits_of (by omega) (by decide)) fun _ => ?_ | simp only [go_sem, reduceIte, reduceCtorEq, Nat.reduceEqDiff, Nat.reduceAdd, Nat.reduceSub, Nat.reduceMul, Nat.reduceDiv, Nat.reduceMod, Nat.reduceLT, Nat.reduceLeDiff, Nat.reduceBEq, Nat.reducePow, Int.reduceLE, Int.reduceLT, Int.reduceEq, Int.reduceNeg, Int.reduceAdd, Int.reduceToNat, Tryd.f32, hln, htk])
      try (refine ReqK.i ⟨rfl, fits_of (by omega) (by decide)⟩ fun _ => ?_)
      have hfa : ∀ x, (flatFz (l.map enc) ++ [x]).isEmpty = false := fun x => by cases (flatFz (l.map enc)) <;> rfl
      have hfe : (flatFz (l.map enc ++ [FD.agg [FD.i .i64 k, FD.i .i64 a, FD.i .i64 b]])).isEmpty = false := by
        rw [← flat_app]; cases flatFz (l.map enc) <;> rfl
      simp only [go_sem, reduceIte, reduceCtorEq, Nat.reduceEqDiff, Nat.reduceAdd, Nat.reduceSub, Nat.reduceMul, Nat.reduceDiv, Nat.reduceMod, Nat.reduceLT, Nat.reduceLeDiff, Nat.reduceBEq, Nat.reducePow, Int.reduceLE, Int.reduceLT, Int.reduceEq, Int.reduceNeg, Int.reduceAdd, Int.reduceToNat, Tryd.f32, hln, htk, hfe]
      exact ⟨1, rfl, by omega, by rw [if_pos rfl]⟩
  · rintro d H n ⟨g, rfl, hg, hH⟩
    refine ⟨.fz (enc (l ++ [(⟨k, a, b⟩ : Time)])), hpL [], n, ?_, rfl⟩
    refine Weak_g [] [] [((32016, g), (l ++ [(⟨k, a, b⟩ : Time)]).map enc)] ?_ ?_ ?_ ?_ ?_ <;> simp only [go_sem, reduceIte, reduceCtorEq, Nat.reduceEqDiff, Nat.reduceAdd, Nat.reduceSub, Nat.reduceMul, Nat.reduceDiv, Nat.reduceMod, Nat.reduceLT, Nat.reduceLeDiff, Nat.reduceBEq, Nat.reducePow, Int.reduceLE, Int.reduceLT, Int.reduceEq, Int.reduceNeg, Int.reduceAdd, Int.reduceToNat, hH]

theorem timesGo_zero {p : Int} : ∀ {l : List Time} {i : Int}, (timesGo p l i).code = 0 → timesGo p l i = ⟨0, 0⟩ ∧ ∀ x ∈ l, relCode p x = 0
  | [], _, _ => ⟨rfl, by simp⟩
  | x :: xs, i, h => by
    unfold timesGo at h ⊢
    split at h
    · rename_i h0
      rw [if_pos h0]
      have ⟨h1, h2⟩ := timesGo_zero h
      exact ⟨h1, fun y hy => by
        rcases List.mem_cons.1 hy with rfl | hy
        · exact h0
        · exact h2 y hy⟩
    · rename_i h0
      exact absurd h h0
theorem times_zero {p : Int} {l : List Time} (h : (timesM p l).code = 0) : timesM p l = ⟨0, 0⟩ ∧ 0 ≤ p ∧ p ≤ 12 ∧ l.length ≤ 300 ∧ ∀ x ∈ l, relCode p x = 0 := by
  unfold timesM at h ⊢
  split at h
  · simp at h
  · rename_i h1
    rw [if_neg h1]
    split at h
    · simp at h
    · rename_i h2
      rw [if_neg h2]
      have ⟨h3, h4⟩ := timesGo_zero h
      exact ⟨h3, by omega, by omega, by omega, h4⟩
theorem rel_ok {p : Int} (hp : 0 ≤ p) {x : Time} (h : relCode p x = 0) : OkT p.toNat x := by
  unfold relCode at h
  split at h
  · simp at h
  · split at h
    · simp at h
    · refine ⟨by omega, ?_⟩
      unfold InR
      omega
theorem consPre_of {p : Int} {l : List Time} (h : (timesM p l).code = 0) : consPre p l := by
  have ⟨_, h1, h2, h3, h4⟩ := times_zero h
  exact ⟨h1, h2, by omega, fun x hx => rel_ok h1 (h4 x hx)⟩
theorem consPre_add {p : Int} {l : List Time} {x : Time} (h : (timesM p l).code = 0) (hx : relCode p x = 0) : consPre p (l ++ [x]) := by
  have ⟨_, h1, h2, h3, h4⟩ := times_zero h
  refine ⟨h1, h2, by rw [List.length_append, List.length_singleton]; omega, fun y hy => ?_⟩
  rcases List.mem_append.1 hy with hy | hy
  · exact rel_ok h1 (h4 y hy)
  · obtain rfl := List.mem_singleton.1 hy
    exact rel_ok h1 hx

def negT (x : Time) : Time := if x.kind = 1 then ⟨2, x.b, x.a⟩ else if x.kind = 2 then ⟨1, x.b, x.a⟩ else if x.kind = 3 then ⟨4, x.a, x.b⟩ else ⟨3, x.a, x.b⟩
theorem relCode_neg {p : Int} {x : Time} (h : relCode p x = 0) : relCode p (negT x) = 0 := by
  unfold relCode at h
  unfold negT relCode
  split at h
  · simp at h
  · split at h
    · simp at h
    · (repeat' split) <;> first | rfl | (simp only at *; omega)
def entM (p : Int) (l : List Time) (x : Time) : Bool × Fault := if (timesM p l).code = 0 then (if relCode p x = 0 then (!consM p.toNat (withM l (negT x).kind (negT x).a (negT x).b), ⟨0, 0⟩) else (false, ⟨relCode p x, -3⟩)) else (false, timesM p l)
def U8 : Tbl := U7.add 13 (sp3p entM fun _ _ _ => True)
set_option maxRecDepth 100000 in
set_option maxHeartbeats 1000000 in
theorem hU8 : TblOk Tryd.prog G0 U8 := by
  refine sp3p_ok ok13 hU7 fun p l x _ _ _ _ => ?_
  refine Wcall_K (N := 56) hm hU7 13000 (lst []) ok13 Tryd.func13 rfl rfl (by simp) (by kernel_rfl) ?_
  by_cases h1 : (timesM p l).code = 0
  · by_cases h2 : relCode p x = 0
    · have e : entM p l x = (!consM p.toNat (withM l (negT x).kind (negT x).a (negT x).b), ⟨0, 0⟩) := by unfold entM; rw [if_pos h1, if_pos h2]
      have hpre : consPre p (withM l (negT x).kind (negT x).a (negT x).b) := consPre_add h1 (relCode_neg h2)
      have hll : l.length ≤ 1000000 := by have := (times_zero h1).2.2.2.1; omega
      by_cases k1 : x.kind = 1
      · have h2' : relCode p ⟨1, x.a, x.b⟩ = 0 := by rw [← k1]; exact h2
        have hn : negT x = ⟨2, x.b, x.a⟩ := by unfold negT; rw [if_pos k1]
        rw [hn] at e hpre
        repeat' (first | refine ReqK.i hll fun _ => ?_ | refine ReqK.i hpre fun _ => ?_ | simp only [go_sem, reduceIte, reduceCtorEq, Nat.reduceEqDiff, Nat.reduceAdd, Nat.reduceSub, Nat.reduceMul, Nat.reduceDiv, Nat.reduceMod, Nat.reduceLT, Nat.reduceLeDiff, Nat.reduceBEq, Nat.reducePow, Int.reduceLE, Int.reduceLT, Int.reduceEq, Int.reduceNeg, Int.reduceAdd, Int.reduceToNat, U7, U6, U5, U4, U3, U2, h1, h2, h2', k1, e, Tryd.f13])
      by_cases k2 : x.kind = 2
      · have h2' : relCode p ⟨2, x.a, x.b⟩ = 0 := by rw [← k2]; exact h2
        have hn : negT x = ⟨1, x.b, x.a⟩ := by unfold negT; rw [if_neg k1, if_pos k2]
        rw [hn] at e hpre
        repeat' (first | refine ReqK.i hll fun _ => ?_ | refine ReqK.i hpre fun _ => ?_ | simp only [go_sem, reduceIte, reduceCtorEq, Nat.reduceEqDiff, Nat.reduceAdd, Nat.reduceSub, Nat.reduceMul, Nat.reduceDiv, Nat.reduceMod, Nat.reduceLT, Nat.reduceLeDiff, Nat.reduceBEq, Nat.reducePow, Int.reduceLE, Int.reduceLT, Int.reduceEq, Int.reduceNeg, Int.reduceAdd, Int.reduceToNat, U7, U6, U5, U4, U3, U2, h1, h2, h2', k2, e, Tryd.f13])
      by_cases k3 : x.kind = 3
      · have h2' : relCode p ⟨3, x.a, x.b⟩ = 0 := by rw [← k3]; exact h2
        have hn : negT x = ⟨4, x.a, x.b⟩ := by unfold negT; rw [if_neg k1, if_neg k2, if_pos k3]
        rw [hn] at e hpre
        repeat' (first | refine ReqK.i hll fun _ => ?_ | refine ReqK.i hpre fun _ => ?_ | simp only [go_sem, reduceIte, reduceCtorEq, Nat.reduceEqDiff, Nat.reduceAdd, Nat.reduceSub, Nat.reduceMul, Nat.reduceDiv, Nat.reduceMod, Nat.reduceLT, Nat.reduceLeDiff, Nat.reduceBEq, Nat.reducePow, Int.reduceLE, Int.reduceLT, Int.reduceEq, Int.reduceNeg, Int.reduceAdd, Int.reduceToNat, U7, U6, U5, U4, U3, U2, h1, h2, h2', k3, e, Tryd.f13])
      · have hn : negT x = ⟨3, x.a, x.b⟩ := by unfold negT; rw [if_neg k1, if_neg k2, if_neg k3]
        rw [hn] at e hpre
        repeat' (first | refine ReqK.i hll fun _ => ?_ | refine ReqK.i hpre fun _ => ?_ | simp only [go_sem, reduceIte, reduceCtorEq, Nat.reduceEqDiff, Nat.reduceAdd, Nat.reduceSub, Nat.reduceMul, Nat.reduceDiv, Nat.reduceMod, Nat.reduceLT, Nat.reduceLeDiff, Nat.reduceBEq, Nat.reducePow, Int.reduceLE, Int.reduceLT, Int.reduceEq, Int.reduceNeg, Int.reduceAdd, Int.reduceToNat, U7, U6, U5, U4, U3, U2, h1, h2, k1, k2, k3, e, Tryd.f13])
    · have e : entM p l x = (false, ⟨relCode p x, -3⟩) := by unfold entM; rw [if_pos h1, if_neg h2]
      simp only [go_sem, reduceIte, reduceCtorEq, Nat.reduceEqDiff, Nat.reduceAdd, Nat.reduceSub, Nat.reduceMul, Nat.reduceDiv, Nat.reduceMod, Nat.reduceLT, Nat.reduceLeDiff, Nat.reduceBEq, Nat.reducePow, Int.reduceLE, Int.reduceLT, Int.reduceEq, Int.reduceNeg, Int.reduceAdd, Int.reduceToNat, U7, U6, U5, U4, U3, U2, h1, h2, e, Tryd.f13]
  · have e : entM p l x = (false, timesM p l) := by unfold entM; rw [if_neg h1]
    simp only [go_sem, reduceIte, reduceCtorEq, Nat.reduceEqDiff, Nat.reduceAdd, Nat.reduceSub, Nat.reduceMul, Nat.reduceDiv, Nat.reduceMod, Nat.reduceLT, Nat.reduceLeDiff, Nat.reduceBEq, Nat.reducePow, Int.reduceLE, Int.reduceLT, Int.reduceEq, Int.reduceNeg, Int.reduceAdd, Int.reduceToNat, U7, U6, U5, U4, h1, e, Tryd.f13]
def conM (p : Int) (l : List Time) : Bool × Fault := if (timesM p l).code = 0 then (consM p.toNat l, ⟨0, 0⟩) else (false, timesM p l)
def U9 : Tbl := U8.add 18 (sp2p conM fun _ _ => True)
set_option maxRecDepth 100000 in
set_option maxHeartbeats 1000000 in
theorem hU9 : TblOk Tryd.prog G0 U9 := by
  refine sp2p_ok ok18 hU8 fun p l _ _ _ => ?_
  refine Wcall_K (N := 18) hm hU8 18000 (lst []) ok18 Tryd.func18 rfl rfl (by simp) (by kernel_rfl) ?_
  by_cases h1 : (timesM p l).code = 0
  · have e : conM p l = (consM p.toNat l, ⟨0, 0⟩) := by unfold conM; rw [if_pos h1]
    have hpre := consPre_of h1
    repeat' (first | refine ReqK.i hpre fun _ => ?_ | simp only [go_sem, reduceIte, reduceCtorEq, Nat.reduceEqDiff, Nat.reduceAdd, Nat.reduceSub, Nat.reduceMul, Nat.reduceDiv, Nat.reduceMod, Nat.reduceLT, Nat.reduceLeDiff, Nat.reduceBEq, Nat.reducePow, Int.reduceLE, Int.reduceLT, Int.reduceEq, Int.reduceNeg, Int.reduceAdd, Int.reduceToNat, U8, U7, U6, U5, U4, h1, e, Tryd.f18])
  · have e : conM p l = (false, timesM p l) := by unfold conM; rw [if_neg h1]
    simp only [go_sem, reduceIte, reduceCtorEq, Nat.reduceEqDiff, Nat.reduceAdd, Nat.reduceSub, Nat.reduceMul, Nat.reduceDiv, Nat.reduceMod, Nat.reduceLT, Nat.reduceLeDiff, Nat.reduceBEq, Nat.reducePow, Int.reduceLE, Int.reduceLT, Int.reduceEq, Int.reduceNeg, Int.reduceAdd, Int.reduceToNat, U8, U7, U6, U5, U4, h1, e, Tryd.f18]
end Go.Proofs.YtbbcinpmomjbgaaDoor
