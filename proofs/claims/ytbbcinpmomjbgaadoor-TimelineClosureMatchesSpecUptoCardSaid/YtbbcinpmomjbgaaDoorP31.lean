import Derived.Test.YtbbcinpmomjbgaaDoorP24
import Derived.Test.YtbbcinpmomjbgaaDoorAbs38
set_option linter.unusedSimpArgs false
namespace Go.Proofs.YtbbcinpmomjbgaaDoor
open Go Go.Abs Go.Proofs

/-! ## Fit, holds, Contains, Orders -/

def ints (l : List Nat) : List Int := l.map fun c : Nat => (c : Int)
@[go_sem] theorem ints_len {l : List Nat} : (ints l).length = l.length := by simp [ints]

def rk (r : List Int) (a : Int) : Int := r.getD a.toNat 0
def holdI (r : List Int) (x : Time) : Bool :=
  if x.kind = 1 then decide (rk r x.a < rk r x.b) else if x.kind = 2 then decide (rk r x.a ≤ rk r x.b) else if x.kind = 3 then decide (rk r x.a = rk r x.b) else !decide (rk r x.a = rk r x.b)
def fitI (r : List Int) (x : Time) : Bool :=
  decide (x.kind = 1) && decide (0 < rk r x.b - rk r x.a) || decide (x.kind = 2) && decide (0 ≤ rk r x.b - rk r x.a) || decide (x.kind = 3) && decide (rk r x.b - rk r x.a = 0) || decide (x.kind = 4) && !decide (rk r x.b - rk r x.a = 0)
theorem rk_get {r : List Int} {a : Nat} (h : a < r.length) : rk r (a : Int) = r[a] := by
  unfold rk; rw [Int.toNat_natCast, List.getD_eq_getElem?_getD, List.getElem?_eq_getElem h]; rfl

def V1 : Tbl := U12.add 35 (sp2 holdI fun r x => InR r.length x ∧ ∀ v ∈ r, 0 ≤ v ∧ v ≤ 100)
set_option maxRecDepth 100000 in
set_option maxHeartbeats 1000000 in
theorem hV1 : TblOk Tryd.prog G0 V1 := by
  refine sp2_ok ok35 hU12 fun r x hr _ _ => ?_
  obtain ⟨⟨h1, h2, h3, h4⟩, hv⟩ := hr
  obtain ⟨k, xa, xb⟩ := x
  simp only at h1 h2 h3 h4
  obtain ⟨a, rfl⟩ := Int.eq_ofNat_of_zero_le h1
  obtain ⟨b, rfl⟩ := Int.eq_ofNat_of_zero_le h3
  have ha : a < r.length := by omega
  have hb : b < r.length := by omega
  have ga := rk_get ha
  have gb := rk_get hb
  have e : holdI r ⟨k, a, b⟩ = if k = 1 then decide (r[a] < r[b]) else if k = 2 then decide (r[a] ≤ r[b]) else if k = 3 then decide (r[a] = r[b]) else !decide (r[a] = r[b]) := by
    unfold holdI; simp only [ga, gb]
  rw [e]
  refine Wcall_K (N := 37) hm hU12 35000 (lsw [] []) ok35 Tryd.func35 rfl rfl (by simp) (by kernel_rfl) ?_
  by_cases k1 : k = 1
  · repeat' (first | refine ReqK.i (by omega) fun _ => ?_ | simp only [go_sem, reduceIte, reduceCtorEq, Nat.reduceEqDiff, Nat.reduceAdd, Nat.reduceSub, Nat.reduceMul, Nat.reduceDiv, Nat.reduceMod, Nat.reduceLT, Nat.reduceLeDiff, Nat.reduceBEq, Nat.reducePow, Int.reduceLE, Int.reduceLT, Int.reduceEq, Int.reduceNeg, Int.reduceAdd, Int.reduceToNat, ha, hb, getD_map_lt, k1, Tryd.f35])
  by_cases k2 : k = 2
  · repeat' (first | refine ReqK.i (by omega) fun _ => ?_ | simp only [go_sem, reduceIte, reduceCtorEq, Nat.reduceEqDiff, Nat.reduceAdd, Nat.reduceSub, Nat.reduceMul, Nat.reduceDiv, Nat.reduceMod, Nat.reduceLT, Nat.reduceLeDiff, Nat.reduceBEq, Nat.reducePow, Int.reduceLE, Int.reduceLT, Int.reduceEq, Int.reduceNeg, Int.reduceAdd, Int.reduceToNat, ha, hb, getD_map_lt, k2, Tryd.f35])
  by_cases k3 : k = 3
  · repeat' (first | refine ReqK.i (by omega) fun _ => ?_ | simp only [go_sem, reduceIte, reduceCtorEq, Nat.reduceEqDiff, Nat.reduceAdd, Nat.reduceSub, Nat.reduceMul, Nat.reduceDiv, Nat.reduceMod, Nat.reduceLT, Nat.reduceLeDiff, Nat.reduceBEq, Nat.reducePow, Int.reduceLE, Int.reduceLT, Int.reduceEq, Int.reduceNeg, Int.reduceAdd, Int.reduceToNat, ha, hb, getD_map_lt, k3, Tryd.f35])
  · repeat' (first | refine ReqK.i (by omega) fun _ => ?_ | simp only [go_sem, reduceIte, reduceCtorEq, Nat.reduceEqDiff, Nat.reduceAdd, Nat.reduceSub, Nat.reduceMul, Nat.reduceDiv, Nat.reduceMod, Nat.reduceLT, Nat.reduceLeDiff, Nat.reduceBEq, Nat.reducePow, Int.reduceLE, Int.reduceLT, Int.reduceEq, Int.reduceNeg, Int.reduceAdd, Int.reduceToNat, ha, hb, getD_map_lt, k1, k2, k3, Tryd.f35])

def V2 : Tbl := V1.add 22 (sp2 fitI fun r x => InR r.length x ∧ ∀ v ∈ r, 0 ≤ v ∧ v ≤ 100)
set_option maxRecDepth 100000 in
set_option maxHeartbeats 1000000 in
theorem hV2 : TblOk Tryd.prog G0 V2 := by
  refine sp2_ok ok22 hV1 fun r x hr _ _ => ?_
  obtain ⟨⟨h1, h2, h3, h4⟩, hv⟩ := hr
  obtain ⟨k, xa, xb⟩ := x
  simp only at h1 h2 h3 h4
  obtain ⟨a, rfl⟩ := Int.eq_ofNat_of_zero_le h1
  obtain ⟨b, rfl⟩ := Int.eq_ofNat_of_zero_le h3
  have ha : a < r.length := by omega
  have hb : b < r.length := by omega
  have ga := rk_get ha
  have gb := rk_get hb
  have va := hv _ (List.getElem_mem ha)
  have vb := hv _ (List.getElem_mem hb)
  have hk : inK .i64 (r[b] - r[a]) := by constructor <;> simp only [go_sem, reduceIte, reduceCtorEq, Nat.reduceEqDiff, Nat.reduceAdd, Nat.reduceSub, Nat.reduceMul, Nat.reduceDiv, Nat.reduceMod, Nat.reduceLT, Nat.reduceLeDiff, Nat.reduceBEq, Nat.reducePow, Int.reduceLE, Int.reduceLT, Int.reduceEq, Int.reduceNeg, Int.reduceAdd, Int.reduceToNat] <;> omega
  have e : fitI r ⟨k, a, b⟩ = (decide (k = 1) && decide (0 < r[b] - r[a]) || decide (k = 2) && decide (0 ≤ r[b] - r[a]) || decide (k = 3) && decide (r[b] - r[a] = 0) || decide (k = 4) && !decide (r[b] - r[a] = 0)) := by
    unfold fitI; simp only [ga, gb]
  rw [e]
  obtain ⟨d, hd⟩ : ∃ d, d = r[b] - r[a] := ⟨_, rfl⟩
  rw [← hd] at hk ⊢
  refine Wcall_K (N := 51) hm hV1 22000 (lsw [] []) ok22 Tryd.func22 rfl rfl (by simp) (by kernel_rfl) ?_
  have key : ∀ {c1 c2 c3 : Bool}, decide (0 < d) = c1 → decide (0 ≤ d) = c2 → decide (d = 0) = c3 → (c1 = true ∨ c1 = false) ∧ (c2 = true ∨ c2 = false) ∧ (c3 = true ∨ c3 = false) := by
    intro c1 c2 c3 _ _ _; cases c1 <;> cases c2 <;> cases c3 <;> simp
  obtain ⟨c1, g1⟩ : ∃ c, decide (0 < d) = c := ⟨_, rfl⟩
  obtain ⟨c2, g2⟩ : ∃ c, decide (0 ≤ d) = c := ⟨_, rfl⟩
  obtain ⟨c3, g3⟩ : ∃ c, decide (d = 0) = c := ⟨_, rfl⟩
  clear key e ga gb va vb hv
  have hk' := hk
  simp only [go_sem, reduceIte, reduceCtorEq, Nat.reduceEqDiff, Nat.reduceAdd, Nat.reduceSub, Nat.reduceMul, Nat.reduceDiv, Nat.reduceMod, Nat.reduceLT, Nat.reduceLeDiff, Nat.reduceBEq, Nat.reducePow, Int.reduceLE, Int.reduceLT, Int.reduceEq, Int.reduceNeg, Int.reduceAdd, Int.reduceToNat] at hk'
  by_cases k1 : k = 1
  · cases c1 <;> (repeat' (first | refine ReqK.i (by omega) fun _ => ?_ | simp only [go_sem, reduceIte, reduceCtorEq, Nat.reduceEqDiff, Nat.reduceAdd, Nat.reduceSub, Nat.reduceMul, Nat.reduceDiv, Nat.reduceMod, Nat.reduceLT, Nat.reduceLeDiff, Nat.reduceBEq, Nat.reducePow, Int.reduceLE, Int.reduceLT, Int.reduceEq, Int.reduceNeg, Int.reduceAdd, Int.reduceToNat, ha, hb, getD_map_lt, k1, ← hd, hk', g1, g2, g3, Tryd.f22]))
  by_cases k2 : k = 2
  · cases c2 <;> (repeat' (first | refine ReqK.i (by omega) fun _ => ?_ | simp only [go_sem, reduceIte, reduceCtorEq, Nat.reduceEqDiff, Nat.reduceAdd, Nat.reduceSub, Nat.reduceMul, Nat.reduceDiv, Nat.reduceMod, Nat.reduceLT, Nat.reduceLeDiff, Nat.reduceBEq, Nat.reducePow, Int.reduceLE, Int.reduceLT, Int.reduceEq, Int.reduceNeg, Int.reduceAdd, Int.reduceToNat, ha, hb, getD_map_lt, k2, ← hd, hk', g1, g2, g3, Tryd.f22]))
  by_cases k3 : k = 3
  · cases c3 <;> (repeat' (first | refine ReqK.i (by omega) fun _ => ?_ | simp only [go_sem, reduceIte, reduceCtorEq, Nat.reduceEqDiff, Nat.reduceAdd, Nat.reduceSub, Nat.reduceMul, Nat.reduceDiv, Nat.reduceMod, Nat.reduceLT, Nat.reduceLeDiff, Nat.reduceBEq, Nat.reducePow, Int.reduceLE, Int.reduceLT, Int.reduceEq, Int.reduceNeg, Int.reduceAdd, Int.reduceToNat, ha, hb, getD_map_lt, k3, ← hd, hk', g1, g2, g3, Tryd.f22]))
  by_cases k4 : k = 4
  · cases c3 <;> (repeat' (first | refine ReqK.i (by omega) fun _ => ?_ | simp only [go_sem, reduceIte, reduceCtorEq, Nat.reduceEqDiff, Nat.reduceAdd, Nat.reduceSub, Nat.reduceMul, Nat.reduceDiv, Nat.reduceMod, Nat.reduceLT, Nat.reduceLeDiff, Nat.reduceBEq, Nat.reducePow, Int.reduceLE, Int.reduceLT, Int.reduceEq, Int.reduceNeg, Int.reduceAdd, Int.reduceToNat, ha, hb, getD_map_lt, k4, ← hd, hk', g1, g2, g3, Tryd.f22]))
  · repeat' (first | refine ReqK.i (by omega) fun _ => ?_ | simp only [go_sem, reduceIte, reduceCtorEq, Nat.reduceEqDiff, Nat.reduceAdd, Nat.reduceSub, Nat.reduceMul, Nat.reduceDiv, Nat.reduceMod, Nat.reduceLT, Nat.reduceLeDiff, Nat.reduceBEq, Nat.reducePow, Int.reduceLE, Int.reduceLT, Int.reduceEq, Int.reduceNeg, Int.reduceAdd, Int.reduceToNat, ha, hb, getD_map_lt, k1, k2, k3, k4, ← hd, hk', Tryd.f22])

def idxI (l : List Int) (s : Int) : Int := if s ∈ l then (l.idxOf s : Int) else -1
theorem idxI_at {l : List Int} {i : Nat} {s : Int} (h : i < l.length) (h1 : s ∉ l.take i) (h2 : l[i] = s) : l.idxOf s = i := by
  induction l generalizing i with
  | nil => simp at h
  | cons a l ih =>
    cases i with
    | zero => simp only [List.getElem_cons_zero] at h2; subst h2; simp
    | succ i =>
      simp only [List.take_succ_cons, List.mem_cons, not_or] at h1
      have hne : (a == s) = false := by simpa using fun e : a = s => h1.1 e.symm
      rw [List.idxOf_cons, hne]
      simp only [cond_false]
      rw [ih (by simpa using h) h1.2 (by simpa using h2)]
theorem notin_succI {l : List Int} {i : Nat} {s : Int} (h : i < l.length) (h1 : s ∉ l.take i) (h2 : ¬ l[i] = s) : s ∉ l.take (i + 1) := by
  rw [List.take_succ_eq_append_getElem h, List.mem_append, List.mem_singleton]
  rintro (h' | h')
  · exact h1 h'
  · exact h2 h'.symm

structure LoopI2 (n : Nat) (p : Nat → Prop) where
  i : Nat
  hi : i ≤ n
  hp : p i
def V3 : Tbl := V2.add 40 (sp2 idxI fun _ _ => True)
set_option maxRecDepth 100000 in
set_option maxHeartbeats 1000000 in
theorem hV3 : TblOk Tryd.prog G0 V3 := by
  refine sp2_ok ok40 hV2 fun l s _ ha _ => ?_
  have la := Wf_sl ha
  simp only [List.length_map, maxL] at la
  refine Wcall_K (N := 19) hm hV2 40000 (lst []) ok40 Tryd.func40 rfl rfl (by simp) (by kernel_rfl) ?_
  simp only [go_sem, reduceIte, reduceCtorEq, Nat.reduceEqDiff, Nat.reduceAdd, Nat.reduceSub, Nat.reduceMul, Nat.reduceDiv, Nat.reduceMod, Nat.reduceLT, Nat.reduceLeDiff, Nat.reduceBEq, Nat.reducePow, Int.reduceLE, Int.reduceLT, Int.reduceEq, Int.reduceNeg, Int.reduceAdd, Int.reduceToNat]
  refine WK_loop hm hV2 40000 (lst []) (ι := LoopI2 l.length fun i => s ∉ l.take i) ⟨fun i => ⟨frL [(0, .fz (enc l)), (1, .fz (enc s)), (7, .fz (.i .i64 l.length)), (8, .fz (.i .i64 i.i))], hpL [], 0⟩, fun i => l.length - i.i⟩ ⟨0, by simp, by simp⟩ (by kernel_rfl) ?_ ?_
  · refine Weak_to ?_ ?_ ?_ <;> simp only [go_sem, reduceIte, reduceCtorEq, Nat.reduceEqDiff, Nat.reduceAdd, Nat.reduceSub, Nat.reduceMul, Nat.reduceDiv, Nat.reduceMod, Nat.reduceLT, Nat.reduceLeDiff, Nat.reduceBEq, Nat.reducePow, Int.reduceLE, Int.reduceLT, Int.reduceEq, Int.reduceNeg, Int.reduceAdd, Int.reduceToNat]
  · intro i
    have hi := i.hi
    by_cases h2 : i.i < l.length
    · by_cases h4 : s = l[i.i]
      · have hin : s ∈ l := h4 ▸ List.getElem_mem h2
        have e : idxI l s = i.i := by
          unfold idxI
          rw [if_pos hin, idxI_at (l := l) h2 i.hp h4.symm]
        have h5 := eq_true h4
        repeat' (first | refine ReqK.i (by omega) fun _ => ?_ | simp only [go_sem, reduceIte, reduceCtorEq, Nat.reduceEqDiff, Nat.reduceAdd, Nat.reduceSub, Nat.reduceMul, Nat.reduceDiv, Nat.reduceMod, Nat.reduceLT, Nat.reduceLeDiff, Nat.reduceBEq, Nat.reducePow, Int.reduceLE, Int.reduceLT, Int.reduceEq, Int.reduceNeg, Int.reduceAdd, Int.reduceToNat, h2, getD_map_lt, h5, Tryd.f40, e])
      · have h5 := eq_false h4
        repeat' (first | refine ReqK.i (by omega) fun _ => ?_ | simp only [go_sem, reduceIte, reduceCtorEq, Nat.reduceEqDiff, Nat.reduceAdd, Nat.reduceSub, Nat.reduceMul, Nat.reduceDiv, Nat.reduceMod, Nat.reduceLT, Nat.reduceLeDiff, Nat.reduceBEq, Nat.reducePow, Int.reduceLE, Int.reduceLT, Int.reduceEq, Int.reduceNeg, Int.reduceAdd, Int.reduceToNat, h2, getD_map_lt, h5, Tryd.f40])
        refine ⟨⟨i.i + 1, by omega, notin_succI h2 i.hp fun e => h4 e.symm⟩, by simp only; omega, ?_⟩
        refine Weak_to ?_ ?_ ?_ <;> simp only [go_sem, reduceIte, reduceCtorEq, Nat.reduceEqDiff, Nat.reduceAdd, Nat.reduceSub, Nat.reduceMul, Nat.reduceDiv, Nat.reduceMod, Nat.reduceLT, Nat.reduceLeDiff, Nat.reduceBEq, Nat.reducePow, Int.reduceLE, Int.reduceLT, Int.reduceEq, Int.reduceNeg, Int.reduceAdd, Int.reduceToNat]
    · have hn : s ∉ l := by have := i.hp; rwa [List.take_of_length_le (by omega)] at this
      have e : idxI l s = -1 := by unfold idxI; rw [if_neg hn]
      repeat' (first | refine ReqK.i (by omega) fun _ => ?_ | simp only [go_sem, reduceIte, reduceCtorEq, Nat.reduceEqDiff, Nat.reduceAdd, Nat.reduceSub, Nat.reduceMul, Nat.reduceDiv, Nat.reduceMod, Nat.reduceLT, Nat.reduceLeDiff, Nat.reduceBEq, Nat.reducePow, Int.reduceLE, Int.reduceLT, Int.reduceEq, Int.reduceNeg, Int.reduceAdd, Int.reduceToNat, h2, Tryd.f40, e])

def V4 : Tbl := V3.add 36 (sp2 (fun (l : List Int) (s : Int) => decide (s ∈ l)) fun _ _ => True)
set_option maxRecDepth 100000 in
set_option maxHeartbeats 1000000 in
theorem hV4 : TblOk Tryd.prog G0 V4 := by
  refine sp2_ok ok36 hV3 fun l s _ _ _ => ?_
  refine Wcall_K (N := 9) hm hV3 36000 (lst []) ok36 Tryd.func36 rfl rfl (by simp) (by kernel_rfl) ?_
  have e : decide (0 ≤ idxI l s) = decide (s ∈ l) := by
    unfold idxI
    split <;> rename_i h <;> simp [h]
  simp only [go_sem, reduceIte, reduceCtorEq, Nat.reduceEqDiff, Nat.reduceAdd, Nat.reduceSub, Nat.reduceMul, Nat.reduceDiv, Nat.reduceMod, Nat.reduceLT, Nat.reduceLeDiff, Nat.reduceBEq, Nat.reducePow, Int.reduceLE, Int.reduceLT, Int.reduceEq, Int.reduceNeg, Int.reduceAdd, Int.reduceToNat, V3, Tryd.f36, e]
end Go.Proofs.YtbbcinpmomjbgaaDoor
