import Derived.Test.YtbbcinpmomjbgaaDoorP1
import Derived.Test.YtbbcinpmomjbgaaDoorAbs37
import Derived.Test.YtbbcinpmomjbgaaDoorTM
set_option linter.unusedSimpArgs false
namespace Go.Proofs.YtbbcinpmomjbgaaDoor
open Go Go.Abs Go.Proofs

instance : Enc Time := ⟨fun x => .agg [.i .i64 x.kind, .i .i64 x.a, .i .i64 x.b], fun | .agg [.i _ k, .i _ a, .i _ b] => ⟨k, a, b⟩ | _ => ⟨0, 0, 0⟩, fun _ => rfl⟩
@[go_sem] theorem enc_time {x : Time} : enc x = .agg [.i .i64 x.kind, .i .i64 x.a, .i .i64 x.b] := rfl
@[go_sem] theorem dec_time {k a b : Int} {k1 k2 k3 : IntKind} : dec (α := Time) (.agg [.i k1 k, .i k2 a, .i k3 b]) = ⟨k, a, b⟩ := rfl
@[go_sem] theorem eta_time {x : Time} : (⟨x.kind, x.a, x.b⟩ : Time) = x := rfl
instance : Kc Time 3 := ⟨fun _ => rfl⟩
@[go_sem] theorem lens_times {l : List Time} : lens (l.map enc) 3 = True := eq_true (lens_kc l)

def earlyM : List Time := [⟨1, 0, 1⟩]
def U1 : Tbl := Tbl0.add 14 (sp0 earlyM)
set_option maxRecDepth 100000 in
set_option maxHeartbeats 1000000 in
theorem hU1 : TblOk Tryd.prog G0 U1 := by
  refine sp0_ok TblOk_0 ?_
  refine Wcall_K (N := 3) hm TblOk_0 14000 (lst []) ok14 Tryd.func14 rfl rfl (by simp) (by kernel_rfl) ?_
  simp only [go_sem, reduceIte, reduceCtorEq, Nat.reduceEqDiff, Nat.reduceAdd, Nat.reduceSub, Nat.reduceMul, Nat.reduceDiv, Nat.reduceMod, Nat.reduceLT, Nat.reduceLeDiff, Nat.reduceBEq, Nat.reducePow, Int.reduceLE, Int.reduceLT, Int.reduceEq, Int.reduceNeg, Int.reduceAdd, Int.reduceToNat]
  refine ReqK.i (by unfold maxL; decide) fun _ => ?_
  simp only [go_sem, reduceIte, reduceCtorEq, Nat.reduceEqDiff, Nat.reduceAdd, Nat.reduceSub, Nat.reduceMul, Nat.reduceDiv, Nat.reduceMod, Nat.reduceLT, Nat.reduceLeDiff, Nat.reduceBEq, Nat.reducePow, Int.reduceLE, Int.reduceLT, Int.reduceEq, Int.reduceNeg, Int.reduceAdd, Int.reduceToNat, Tryd.f14, earlyM]

def relCode (p : Int) (x : Time) : Int := if x.kind < 1 ∨ 4 < x.kind then 4 else if x.a < 0 ∨ p ≤ x.a ∨ x.b < 0 ∨ p ≤ x.b then 3 else 0
def U2 : Tbl := U1.add 30 (sp2 relCode fun _ _ => True)
set_option maxRecDepth 100000 in
set_option maxHeartbeats 1000000 in
theorem hU2 : TblOk Tryd.prog G0 U2 := by
  refine sp2_ok ok30 hU1 fun p x _ hp hx => ?_
  refine Wcall_K (N := 33) hm hU1 30000 (lst []) ok30 Tryd.func30 rfl rfl (by simp) (by kernel_rfl) ?_
  simp only [go_sem, reduceIte, reduceCtorEq, Nat.reduceEqDiff, Nat.reduceAdd, Nat.reduceSub, Nat.reduceMul, Nat.reduceDiv, Nat.reduceMod, Nat.reduceLT, Nat.reduceLeDiff, Nat.reduceBEq, Nat.reducePow, Int.reduceLE, Int.reduceLT, Int.reduceEq, Int.reduceNeg, Int.reduceAdd, Int.reduceToNat]
  repeat' (first | refine CondK.d (fun _ => ?_) (fun _ => ?_) | refine ReqK.i (by omega) fun _ => ?_ | simp only [go_sem, reduceIte, reduceCtorEq, Nat.reduceEqDiff, Nat.reduceAdd, Nat.reduceSub, Nat.reduceMul, Nat.reduceDiv, Nat.reduceMod, Nat.reduceLT, Nat.reduceLeDiff, Nat.reduceBEq, Nat.reducePow, Int.reduceLE, Int.reduceLT, Int.reduceEq, Int.reduceNeg, Int.reduceAdd, Int.reduceToNat, Tryd.f30, *])
  all_goals (congr 3; unfold relCode; (repeat' split) <;> omega)
def U3 : Tbl := U2.add 20 (sp2 relCode fun _ _ => True)
set_option maxRecDepth 100000 in
set_option maxHeartbeats 1000000 in
theorem hU3 : TblOk Tryd.prog G0 U3 := by
  refine sp2_ok ok20 hU2 fun p x _ hp hx => ?_
  refine Wcall_K (N := 33) hm hU2 20000 (lst []) ok20 Tryd.func20 rfl rfl (by simp) (by kernel_rfl) ?_
  simp only [go_sem, reduceIte, reduceCtorEq, Nat.reduceEqDiff, Nat.reduceAdd, Nat.reduceSub, Nat.reduceMul, Nat.reduceDiv, Nat.reduceMod, Nat.reduceLT, Nat.reduceLeDiff, Nat.reduceBEq, Nat.reducePow, Int.reduceLE, Int.reduceLT, Int.reduceEq, Int.reduceNeg, Int.reduceAdd, Int.reduceToNat]
  repeat' (first | refine CondK.d (fun _ => ?_) (fun _ => ?_) | refine ReqK.i (by omega) fun _ => ?_ | simp only [go_sem, reduceIte, reduceCtorEq, Nat.reduceEqDiff, Nat.reduceAdd, Nat.reduceSub, Nat.reduceMul, Nat.reduceDiv, Nat.reduceMod, Nat.reduceLT, Nat.reduceLeDiff, Nat.reduceBEq, Nat.reducePow, Int.reduceLE, Int.reduceLT, Int.reduceEq, Int.reduceNeg, Int.reduceAdd, Int.reduceToNat, Tryd.f20, *])
  all_goals (congr 3; unfold relCode; (repeat' split) <;> omega)

def timesGo (p : Int) : List Time → Int → Fault
  | [], _ => ⟨0, 0⟩
  | x :: xs, i => if relCode p x = 0 then timesGo p xs (i + 1) else ⟨relCode p x, i⟩
def timesM (p : Int) (l : List Time) : Fault := if p < 0 ∨ 12 < p then ⟨3, -1⟩ else if 300 < l.length then ⟨2, -2⟩ else timesGo p l 0
theorem timesGo_step {p : Int} {l : List Time} {i : Nat} (h : i < l.length) : timesGo p (l.drop i) i = if relCode p l[i] = 0 then timesGo p (l.drop (i + 1)) ((i + 1 : Nat) : Int) else ⟨relCode p l[i], i⟩ := by
  rw [List.drop_eq_getElem_cons h, timesGo]; rfl
structure LoopN (n : Nat) (p : Nat → Prop) where
  i : Nat
  m : Nat
  hi : i ≤ n
  hp : p i

def U4 : Tbl := U3.add 15 (sp2 timesM fun _ _ => True)
set_option maxRecDepth 100000 in
set_option maxHeartbeats 1000000 in
theorem hU4 : TblOk Tryd.prog G0 U4 := by
  refine sp2_ok ok15 hU3 fun p l _ hp hl => ?_
  have la := Wf_sl hl
  simp only [List.length_map, maxL] at la
  refine Wcall_K (N := 36) hm hU3 15000 (lst []) ok15 Tryd.func15 rfl rfl (by simp) (by kernel_rfl) ?_
  simp only [go_sem, reduceIte, reduceCtorEq, Nat.reduceEqDiff, Nat.reduceAdd, Nat.reduceSub, Nat.reduceMul, Nat.reduceDiv, Nat.reduceMod, Nat.reduceLT, Nat.reduceLeDiff, Nat.reduceBEq, Nat.reducePow, Int.reduceLE, Int.reduceLT, Int.reduceEq, Int.reduceNeg, Int.reduceAdd, Int.reduceToNat]
  by_cases h1 : p < 0
  · have e : timesM p l = ⟨3, -1⟩ := by unfold timesM; rw [if_pos (by omega)]
    simp only [go_sem, reduceIte, reduceCtorEq, Nat.reduceEqDiff, Nat.reduceAdd, Nat.reduceSub, Nat.reduceMul, Nat.reduceDiv, Nat.reduceMod, Nat.reduceLT, Nat.reduceLeDiff, Nat.reduceBEq, Nat.reducePow, Int.reduceLE, Int.reduceLT, Int.reduceEq, Int.reduceNeg, Int.reduceAdd, Int.reduceToNat, h1, e, Tryd.f15]
  by_cases h2 : 12 < p
  · have e : timesM p l = ⟨3, -1⟩ := by unfold timesM; rw [if_pos (by omega)]
    simp only [go_sem, reduceIte, reduceCtorEq, Nat.reduceEqDiff, Nat.reduceAdd, Nat.reduceSub, Nat.reduceMul, Nat.reduceDiv, Nat.reduceMod, Nat.reduceLT, Nat.reduceLeDiff, Nat.reduceBEq, Nat.reducePow, Int.reduceLE, Int.reduceLT, Int.reduceEq, Int.reduceNeg, Int.reduceAdd, Int.reduceToNat, h1, h2, e, Tryd.f15]
  by_cases h3 : 300 < l.length
  · have e : timesM p l = ⟨2, -2⟩ := by unfold timesM; rw [if_neg (by omega), if_pos h3]
    have h3' : (300 < (l.length : Int)) = True := eq_true (by omega)
    simp only [go_sem, reduceIte, reduceCtorEq, Nat.reduceEqDiff, Nat.reduceAdd, Nat.reduceSub, Nat.reduceMul, Nat.reduceDiv, Nat.reduceMod, Nat.reduceLT, Nat.reduceLeDiff, Nat.reduceBEq, Nat.reducePow, Int.reduceLE, Int.reduceLT, Int.reduceEq, Int.reduceNeg, Int.reduceAdd, Int.reduceToNat, h1, h2, h3', e, Tryd.f15]
  have e : timesM p l = timesGo p (l.drop 0) (0 : Nat) := by unfold timesM; rw [if_neg (by omega), if_neg h3]; rfl
  have h3' : (300 < (l.length : Int)) = False := eq_false (by omega)
  simp only [go_sem, reduceIte, reduceCtorEq, Nat.reduceEqDiff, Nat.reduceAdd, Nat.reduceSub, Nat.reduceMul, Nat.reduceDiv, Nat.reduceMod, Nat.reduceLT, Nat.reduceLeDiff, Nat.reduceBEq, Nat.reducePow, Int.reduceLE, Int.reduceLT, Int.reduceEq, Int.reduceNeg, Int.reduceAdd, Int.reduceToNat, h1, h2, h3', Tryd.f15]
  refine WK_loop hm hU3 15000 (lst []) (ι := LoopN l.length fun i => timesM p l = timesGo p (l.drop i) i)
    ⟨fun q => ⟨frL [(0, .fz (enc p)), (4, .ptr (15004, 0) 0), (19, .fz (enc l)), (20, .fz (.i .i64 l.length)), (21, .fz (.i .i64 q.i))],
      hpL [((15004, 0), some ⟨[.fz (.i .i64 0), .fz (.i .i64 0)], true, false⟩)], q.m⟩, fun q => l.length - q.i⟩ ⟨0, 1, by omega, e⟩ (by kernel_rfl) ?_ ?_
  · refine Weak_to ?_ ?_ ?_ <;> simp only [go_sem, reduceIte, reduceCtorEq, Nat.reduceEqDiff, Nat.reduceAdd, Nat.reduceSub, Nat.reduceMul, Nat.reduceDiv, Nat.reduceMod, Nat.reduceLT, Nat.reduceLeDiff, Nat.reduceBEq, Nat.reducePow, Int.reduceLE, Int.reduceLT, Int.reduceEq, Int.reduceNeg, Int.reduceAdd, Int.reduceToNat]
  · rintro ⟨i, m, hi, hq⟩
    by_cases h4 : i < l.length
    · rw [timesGo_step h4] at hq
      by_cases h5 : relCode p l[i] = 0
      · rw [if_pos h5] at hq
        repeat' (first | refine ReqK.i (by omega) fun _ => ?_ | simp only [go_sem, reduceIte, reduceCtorEq, Nat.reduceEqDiff, Nat.reduceAdd, Nat.reduceSub, Nat.reduceMul, Nat.reduceDiv, Nat.reduceMod, Nat.reduceLT, Nat.reduceLeDiff, Nat.reduceBEq, Nat.reducePow, Int.reduceLE, Int.reduceLT, Int.reduceEq, Int.reduceNeg, Int.reduceAdd, Int.reduceToNat, h4, h5, getD_map_lt, U3, U2, Tryd.f15])
        refine ⟨⟨i + 1, m + 1, by omega, hq⟩, by simp only; omega, ?_⟩
        refine Weak_to ?_ ?_ ?_ <;> simp only [go_sem, reduceIte, reduceCtorEq, Nat.reduceEqDiff, Nat.reduceAdd, Nat.reduceSub, Nat.reduceMul, Nat.reduceDiv, Nat.reduceMod, Nat.reduceLT, Nat.reduceLeDiff, Nat.reduceBEq, Nat.reducePow, Int.reduceLE, Int.reduceLT, Int.reduceEq, Int.reduceNeg, Int.reduceAdd, Int.reduceToNat]
      · rw [if_neg h5] at hq
        repeat' (first | refine ReqK.i (by omega) fun _ => ?_ | simp only [go_sem, reduceIte, reduceCtorEq, Nat.reduceEqDiff, Nat.reduceAdd, Nat.reduceSub, Nat.reduceMul, Nat.reduceDiv, Nat.reduceMod, Nat.reduceLT, Nat.reduceLeDiff, Nat.reduceBEq, Nat.reducePow, Int.reduceLE, Int.reduceLT, Int.reduceEq, Int.reduceNeg, Int.reduceAdd, Int.reduceToNat, h4, h5, getD_map_lt, U3, U2, Tryd.f15, hq])
    · have e2 : timesM p l = ⟨0, 0⟩ := by rw [hq, List.drop_of_length_le (by omega), timesGo]
      repeat' (first | refine ReqK.i (by omega) fun _ => ?_ | simp only [go_sem, reduceIte, reduceCtorEq, Nat.reduceEqDiff, Nat.reduceAdd, Nat.reduceSub, Nat.reduceMul, Nat.reduceDiv, Nat.reduceMod, Nat.reduceLT, Nat.reduceLeDiff, Nat.reduceBEq, Nat.reducePow, Int.reduceLE, Int.reduceLT, Int.reduceEq, Int.reduceNeg, Int.reduceAdd, Int.reduceToNat, h4, e2, Tryd.f15])
def U5 : Tbl := U4.add 19 (sp2 timesM fun _ _ => True)
set_option maxRecDepth 100000 in
set_option maxHeartbeats 1000000 in
theorem hU5 : TblOk Tryd.prog G0 U5 := by
  refine sp2_ok ok19 hU4 fun p l _ hp hl => ?_
  have la := Wf_sl hl
  simp only [List.length_map, maxL] at la
  refine Wcall_K (N := 36) hm hU4 19000 (lst []) ok19 Tryd.func19 rfl rfl (by simp) (by kernel_rfl) ?_
  simp only [go_sem, reduceIte, reduceCtorEq, Nat.reduceEqDiff, Nat.reduceAdd, Nat.reduceSub, Nat.reduceMul, Nat.reduceDiv, Nat.reduceMod, Nat.reduceLT, Nat.reduceLeDiff, Nat.reduceBEq, Nat.reducePow, Int.reduceLE, Int.reduceLT, Int.reduceEq, Int.reduceNeg, Int.reduceAdd, Int.reduceToNat]
  by_cases h1 : p < 0
  · have e : timesM p l = ⟨3, -1⟩ := by unfold timesM; rw [if_pos (by omega)]
    simp only [go_sem, reduceIte, reduceCtorEq, Nat.reduceEqDiff, Nat.reduceAdd, Nat.reduceSub, Nat.reduceMul, Nat.reduceDiv, Nat.reduceMod, Nat.reduceLT, Nat.reduceLeDiff, Nat.reduceBEq, Nat.reducePow, Int.reduceLE, Int.reduceLT, Int.reduceEq, Int.reduceNeg, Int.reduceAdd, Int.reduceToNat, h1, e, Tryd.f19]
  by_cases h2 : 12 < p
  · have e : timesM p l = ⟨3, -1⟩ := by unfold timesM; rw [if_pos (by omega)]
    simp only [go_sem, reduceIte, reduceCtorEq, Nat.reduceEqDiff, Nat.reduceAdd, Nat.reduceSub, Nat.reduceMul, Nat.reduceDiv, Nat.reduceMod, Nat.reduceLT, Nat.reduceLeDiff, Nat.reduceBEq, Nat.reducePow, Int.reduceLE, Int.reduceLT, Int.reduceEq, Int.reduceNeg, Int.reduceAdd, Int.reduceToNat, h1, h2, e, Tryd.f19]
  by_cases h3 : 300 < l.length
  · have e : timesM p l = ⟨2, -2⟩ := by unfold timesM; rw [if_neg (by omega), if_pos h3]
    have h3' : (300 < (l.length : Int)) = True := eq_true (by omega)
    simp only [go_sem, reduceIte, reduceCtorEq, Nat.reduceEqDiff, Nat.reduceAdd, Nat.reduceSub, Nat.reduceMul, Nat.reduceDiv, Nat.reduceMod, Nat.reduceLT, Nat.reduceLeDiff, Nat.reduceBEq, Nat.reducePow, Int.reduceLE, Int.reduceLT, Int.reduceEq, Int.reduceNeg, Int.reduceAdd, Int.reduceToNat, h1, h2, h3', e, Tryd.f19]
  have e : timesM p l = timesGo p (l.drop 0) (0 : Nat) := by unfold timesM; rw [if_neg (by omega), if_neg h3]; rfl
  have h3' : (300 < (l.length : Int)) = False := eq_false (by omega)
  simp only [go_sem, reduceIte, reduceCtorEq, Nat.reduceEqDiff, Nat.reduceAdd, Nat.reduceSub, Nat.reduceMul, Nat.reduceDiv, Nat.reduceMod, Nat.reduceLT, Nat.reduceLeDiff, Nat.reduceBEq, Nat.reducePow, Int.reduceLE, Int.reduceLT, Int.reduceEq, Int.reduceNeg, Int.reduceAdd, Int.reduceToNat, h1, h2, h3', Tryd.f19]
  refine WK_loop hm hU4 19000 (lst []) (ι := LoopN l.length fun i => timesM p l = timesGo p (l.drop i) i)
    ⟨fun q => ⟨frL [(0, .fz (enc p)), (1, .fz (enc l)), (4, .ptr (19004, 0) 0), (19, .fz (.i .i64 l.length)), (20, .fz (.i .i64 q.i))],
      hpL [((19004, 0), some ⟨[.fz (.i .i64 0), .fz (.i .i64 0)], true, false⟩)], q.m⟩, fun q => l.length - q.i⟩ ⟨0, 1, by omega, e⟩ (by kernel_rfl) ?_ ?_
  · refine Weak_to ?_ ?_ ?_ <;> simp only [go_sem, reduceIte, reduceCtorEq, Nat.reduceEqDiff, Nat.reduceAdd, Nat.reduceSub, Nat.reduceMul, Nat.reduceDiv, Nat.reduceMod, Nat.reduceLT, Nat.reduceLeDiff, Nat.reduceBEq, Nat.reducePow, Int.reduceLE, Int.reduceLT, Int.reduceEq, Int.reduceNeg, Int.reduceAdd, Int.reduceToNat]
  · rintro ⟨i, m, hi, hq⟩
    by_cases h4 : i < l.length
    · rw [timesGo_step h4] at hq
      by_cases h5 : relCode p l[i] = 0
      · rw [if_pos h5] at hq
        repeat' (first | refine ReqK.i (by omega) fun _ => ?_ | simp only [go_sem, reduceIte, reduceCtorEq, Nat.reduceEqDiff, Nat.reduceAdd, Nat.reduceSub, Nat.reduceMul, Nat.reduceDiv, Nat.reduceMod, Nat.reduceLT, Nat.reduceLeDiff, Nat.reduceBEq, Nat.reducePow, Int.reduceLE, Int.reduceLT, Int.reduceEq, Int.reduceNeg, Int.reduceAdd, Int.reduceToNat, h4, h5, getD_map_lt, U4, U3, U2, Tryd.f19])
        refine ⟨⟨i + 1, m, by omega, hq⟩, by simp only; omega, ?_⟩
        refine Weak_to ?_ ?_ ?_ <;> simp only [go_sem, reduceIte, reduceCtorEq, Nat.reduceEqDiff, Nat.reduceAdd, Nat.reduceSub, Nat.reduceMul, Nat.reduceDiv, Nat.reduceMod, Nat.reduceLT, Nat.reduceLeDiff, Nat.reduceBEq, Nat.reducePow, Int.reduceLE, Int.reduceLT, Int.reduceEq, Int.reduceNeg, Int.reduceAdd, Int.reduceToNat]
      · rw [if_neg h5] at hq
        repeat' (first | refine ReqK.i (by omega) fun _ => ?_ | simp only [go_sem, reduceIte, reduceCtorEq, Nat.reduceEqDiff, Nat.reduceAdd, Nat.reduceSub, Nat.reduceMul, Nat.reduceDiv, Nat.reduceMod, Nat.reduceLT, Nat.reduceLeDiff, Nat.reduceBEq, Nat.reducePow, Int.reduceLE, Int.reduceLT, Int.reduceEq, Int.reduceNeg, Int.reduceAdd, Int.reduceToNat, h4, h5, getD_map_lt, U4, U3, U2, Tryd.f19, hq])
    · have e2 : timesM p l = ⟨0, 0⟩ := by rw [hq, List.drop_of_length_le (by omega), timesGo]
      repeat' (first | refine ReqK.i (by omega) fun _ => ?_ | simp only [go_sem, reduceIte, reduceCtorEq, Nat.reduceEqDiff, Nat.reduceAdd, Nat.reduceSub, Nat.reduceMul, Nat.reduceDiv, Nat.reduceMod, Nat.reduceLT, Nat.reduceLeDiff, Nat.reduceBEq, Nat.reducePow, Int.reduceLE, Int.reduceLT, Int.reduceEq, Int.reduceNeg, Int.reduceAdd, Int.reduceToNat, h4, e2, Tryd.f19])
end Go.Proofs.YtbbcinpmomjbgaaDoor
