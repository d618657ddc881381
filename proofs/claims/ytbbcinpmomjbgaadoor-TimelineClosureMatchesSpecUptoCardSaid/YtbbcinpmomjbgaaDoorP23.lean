import Derived.Test.YtbbcinpmomjbgaaDoorP22
set_option linter.unusedSimpArgs false
namespace Go.Proofs.YtbbcinpmomjbgaaDoor
open Go Go.Abs Go.Proofs

@[go_sem] theorem or01 : orI 0 1 = 1 := by decide
@[go_sem] theorem or02 : orI 0 2 = 2 := by decide
@[go_sem] theorem or12 : orI 1 2 = 3 := by decide
@[go_sem] theorem or04 : orI 0 4 = 4 := by decide
@[go_sem] theorem or14 : orI 1 4 = 5 := by decide
@[go_sem] theorem or24 : orI 2 4 = 6 := by decide
@[go_sem] theorem or34 : orI 3 4 = 7 := by decide

def U10 : Tbl := U9.add 33 (sp2 (fun a b : List Int => decide (a = b)) fun _ _ => True)
set_option maxRecDepth 100000 in
set_option maxHeartbeats 1000000 in
theorem hU10 : TblOk Tryd.prog G0 U10 := by
  refine sp2_ok ok33 hU9 fun a b _ ha hb => ?_
  have la := Wf_sl ha
  have lb := Wf_sl hb
  simp only [List.length_map, maxL] at la lb
  refine Wcall_K (N := 26) hm hU9 33000 (lst []) ok33 Tryd.func33 rfl rfl (by simp) (by kernel_rfl) ?_
  simp only [go_sem, reduceIte, reduceCtorEq, Nat.reduceEqDiff, Nat.reduceAdd, Nat.reduceSub, Nat.reduceMul, Nat.reduceDiv, Nat.reduceMod, Nat.reduceLT, Nat.reduceLeDiff, Nat.reduceBEq, Nat.reducePow, Int.reduceLE, Int.reduceLT, Int.reduceEq, Int.reduceNeg, Int.reduceAdd, Int.reduceToNat]
  refine CondK.d (fun h => ?_) (fun h => ?_)
  · simp only [go_sem, reduceIte, reduceCtorEq, Nat.reduceEqDiff, Nat.reduceAdd, Nat.reduceSub, Nat.reduceMul, Nat.reduceDiv, Nat.reduceMod, Nat.reduceLT, Nat.reduceLeDiff, Nat.reduceBEq, Nat.reducePow, Int.reduceLE, Int.reduceLT, Int.reduceEq, Int.reduceNeg, Int.reduceAdd, Int.reduceToNat]
    refine WK_loop hm hU9 33000 (lst []) (ι := LoopI a.length fun i => a.take i = b.take i) ⟨fun i => ⟨frL [(0, .fz (enc a)), (1, .fz (enc b)), (12, .fz (.i .i64 a.length)), (13, .fz (.i .i64 i.i))], hpL [], 0⟩, fun i => a.length - i.i⟩ ⟨0, by simp, by simp⟩ (by kernel_rfl) ?_ ?_
    · refine Weak_to ?_ ?_ ?_ <;> simp only [go_sem, reduceIte, reduceCtorEq, Nat.reduceEqDiff, Nat.reduceAdd, Nat.reduceSub, Nat.reduceMul, Nat.reduceDiv, Nat.reduceMod, Nat.reduceLT, Nat.reduceLeDiff, Nat.reduceBEq, Nat.reducePow, Int.reduceLE, Int.reduceLT, Int.reduceEq, Int.reduceNeg, Int.reduceAdd, Int.reduceToNat]
    · intro i
      have hi := i.hi
      simp only [go_sem, reduceIte, reduceCtorEq, Nat.reduceEqDiff, Nat.reduceAdd, Nat.reduceSub, Nat.reduceMul, Nat.reduceDiv, Nat.reduceMod, Nat.reduceLT, Nat.reduceLeDiff, Nat.reduceBEq, Nat.reducePow, Int.reduceLE, Int.reduceLT, Int.reduceEq, Int.reduceNeg, Int.reduceAdd, Int.reduceToNat]
      refine CondK.d (fun h2 => ?_) (fun h2 => ?_)
      · have h3 : i.i < b.length := by omega
        simp only [go_sem, reduceIte, reduceCtorEq, Nat.reduceEqDiff, Nat.reduceAdd, Nat.reduceSub, Nat.reduceMul, Nat.reduceDiv, Nat.reduceMod, Nat.reduceLT, Nat.reduceLeDiff, Nat.reduceBEq, Nat.reducePow, Int.reduceLE, Int.reduceLT, Int.reduceEq, Int.reduceNeg, Int.reduceAdd, Int.reduceToNat, h2, h3, getD_map_lt]
        refine CondK.d (fun h4 => ?_) (fun h4 => ?_)
        · simp only [go_sem, reduceIte, reduceCtorEq, Nat.reduceEqDiff, Nat.reduceAdd, Nat.reduceSub, Nat.reduceMul, Nat.reduceDiv, Nat.reduceMod, Nat.reduceLT, Nat.reduceLeDiff, Nat.reduceBEq, Nat.reducePow, Int.reduceLE, Int.reduceLT, Int.reduceEq, Int.reduceNeg, Int.reduceAdd, Int.reduceToNat]
          refine ReqK.i (by omega) fun _ => ?_
          simp only [go_sem, reduceIte, reduceCtorEq, Nat.reduceEqDiff, Nat.reduceAdd, Nat.reduceSub, Nat.reduceMul, Nat.reduceDiv, Nat.reduceMod, Nat.reduceLT, Nat.reduceLeDiff, Nat.reduceBEq, Nat.reducePow, Int.reduceLE, Int.reduceLT, Int.reduceEq, Int.reduceNeg, Int.reduceAdd, Int.reduceToNat]
          refine ⟨⟨i.i + 1, by omega, take_eq_succ h2 h3 i.hp h4⟩, by simp only; omega, ?_⟩
          refine Weak_to ?_ ?_ ?_ <;> simp only [go_sem, reduceIte, reduceCtorEq, Nat.reduceEqDiff, Nat.reduceAdd, Nat.reduceSub, Nat.reduceMul, Nat.reduceDiv, Nat.reduceMod, Nat.reduceLT, Nat.reduceLeDiff, Nat.reduceBEq, Nat.reducePow, Int.reduceLE, Int.reduceLT, Int.reduceEq, Int.reduceNeg, Int.reduceAdd, Int.reduceToNat]
        · simp only [go_sem, reduceIte, reduceCtorEq, Nat.reduceEqDiff, Nat.reduceAdd, Nat.reduceSub, Nat.reduceMul, Nat.reduceDiv, Nat.reduceMod, Nat.reduceLT, Nat.reduceLeDiff, Nat.reduceBEq, Nat.reducePow, Int.reduceLE, Int.reduceLT, Int.reduceEq, Int.reduceNeg, Int.reduceAdd, Int.reduceToNat, Tryd.f33, take_ne h2 h3 h4]
      · simp only [go_sem, reduceIte, reduceCtorEq, Nat.reduceEqDiff, Nat.reduceAdd, Nat.reduceSub, Nat.reduceMul, Nat.reduceDiv, Nat.reduceMod, Nat.reduceLT, Nat.reduceLeDiff, Nat.reduceBEq, Nat.reducePow, Int.reduceLE, Int.reduceLT, Int.reduceEq, Int.reduceNeg, Int.reduceAdd, Int.reduceToNat, Tryd.f33, take_eq_all h h2 i.hp]
  · have hne : a ≠ b := fun e => h (e ▸ rfl)
    simp only [go_sem, reduceIte, reduceCtorEq, Nat.reduceEqDiff, Nat.reduceAdd, Nat.reduceSub, Nat.reduceMul, Nat.reduceDiv, Nat.reduceMod, Nat.reduceLT, Nat.reduceLeDiff, Nat.reduceBEq, Nat.reducePow, Int.reduceLE, Int.reduceLT, Int.reduceEq, Int.reduceNeg, Int.reduceAdd, Int.reduceToNat, Tryd.f33, hne]

def U11 : Tbl := U10.add 17 (sp2 (fun a b : List (List Int) => decide (a = b)) fun _ _ => True)
set_option maxRecDepth 100000 in
set_option maxHeartbeats 1000000 in
theorem hU11 : TblOk Tryd.prog G0 U11 := by
  refine sp2_ok ok17 hU10 fun a b _ ha hb => ?_
  have la := Wf_sl ha
  have lb := Wf_sl hb
  simp only [List.length_map, maxL] at la lb
  refine Wcall_K (N := 27) hm hU10 17000 (lst []) ok17 Tryd.func17 rfl rfl (by simp) (by kernel_rfl) ?_
  simp only [go_sem, reduceIte, reduceCtorEq, Nat.reduceEqDiff, Nat.reduceAdd, Nat.reduceSub, Nat.reduceMul, Nat.reduceDiv, Nat.reduceMod, Nat.reduceLT, Nat.reduceLeDiff, Nat.reduceBEq, Nat.reducePow, Int.reduceLE, Int.reduceLT, Int.reduceEq, Int.reduceNeg, Int.reduceAdd, Int.reduceToNat]
  refine CondK.d (fun h => ?_) (fun h => ?_)
  · simp only [go_sem, reduceIte, reduceCtorEq, Nat.reduceEqDiff, Nat.reduceAdd, Nat.reduceSub, Nat.reduceMul, Nat.reduceDiv, Nat.reduceMod, Nat.reduceLT, Nat.reduceLeDiff, Nat.reduceBEq, Nat.reducePow, Int.reduceLE, Int.reduceLT, Int.reduceEq, Int.reduceNeg, Int.reduceAdd, Int.reduceToNat]
    refine WK_loop hm hU10 17000 (lst []) (ι := LoopI a.length fun i => a.take i = b.take i) ⟨fun i => ⟨frL [(0, .fz (enc a)), (1, .fz (enc b)), (12, .fz (.i .i64 a.length)), (13, .fz (.i .i64 i.i))], hpL [], 0⟩, fun i => a.length - i.i⟩ ⟨0, by simp, by simp⟩ (by kernel_rfl) ?_ ?_
    · refine Weak_to ?_ ?_ ?_ <;> simp only [go_sem, reduceIte, reduceCtorEq, Nat.reduceEqDiff, Nat.reduceAdd, Nat.reduceSub, Nat.reduceMul, Nat.reduceDiv, Nat.reduceMod, Nat.reduceLT, Nat.reduceLeDiff, Nat.reduceBEq, Nat.reducePow, Int.reduceLE, Int.reduceLT, Int.reduceEq, Int.reduceNeg, Int.reduceAdd, Int.reduceToNat]
    · intro i
      have hi := i.hi
      simp only [go_sem, reduceIte, reduceCtorEq, Nat.reduceEqDiff, Nat.reduceAdd, Nat.reduceSub, Nat.reduceMul, Nat.reduceDiv, Nat.reduceMod, Nat.reduceLT, Nat.reduceLeDiff, Nat.reduceBEq, Nat.reducePow, Int.reduceLE, Int.reduceLT, Int.reduceEq, Int.reduceNeg, Int.reduceAdd, Int.reduceToNat]
      refine CondK.d (fun h2 => ?_) (fun h2 => ?_)
      · have h3 : i.i < b.length := by omega
        simp only [go_sem, reduceIte, reduceCtorEq, Nat.reduceEqDiff, Nat.reduceAdd, Nat.reduceSub, Nat.reduceMul, Nat.reduceDiv, Nat.reduceMod, Nat.reduceLT, Nat.reduceLeDiff, Nat.reduceBEq, Nat.reducePow, Int.reduceLE, Int.reduceLT, Int.reduceEq, Int.reduceNeg, Int.reduceAdd, Int.reduceToNat, h2, h3, getD_map_lt, U10]
        refine CondK.d (fun h4 => ?_) (fun h4 => ?_)
        · simp only [go_sem, reduceIte, reduceCtorEq, Nat.reduceEqDiff, Nat.reduceAdd, Nat.reduceSub, Nat.reduceMul, Nat.reduceDiv, Nat.reduceMod, Nat.reduceLT, Nat.reduceLeDiff, Nat.reduceBEq, Nat.reducePow, Int.reduceLE, Int.reduceLT, Int.reduceEq, Int.reduceNeg, Int.reduceAdd, Int.reduceToNat]
          refine ReqK.i (by omega) fun _ => ?_
          simp only [go_sem, reduceIte, reduceCtorEq, Nat.reduceEqDiff, Nat.reduceAdd, Nat.reduceSub, Nat.reduceMul, Nat.reduceDiv, Nat.reduceMod, Nat.reduceLT, Nat.reduceLeDiff, Nat.reduceBEq, Nat.reducePow, Int.reduceLE, Int.reduceLT, Int.reduceEq, Int.reduceNeg, Int.reduceAdd, Int.reduceToNat]
          refine ⟨⟨i.i + 1, by omega, take_eq_succ h2 h3 i.hp h4⟩, by simp only; omega, ?_⟩
          refine Weak_to ?_ ?_ ?_ <;> simp only [go_sem, reduceIte, reduceCtorEq, Nat.reduceEqDiff, Nat.reduceAdd, Nat.reduceSub, Nat.reduceMul, Nat.reduceDiv, Nat.reduceMod, Nat.reduceLT, Nat.reduceLeDiff, Nat.reduceBEq, Nat.reducePow, Int.reduceLE, Int.reduceLT, Int.reduceEq, Int.reduceNeg, Int.reduceAdd, Int.reduceToNat]
        · simp only [go_sem, reduceIte, reduceCtorEq, Nat.reduceEqDiff, Nat.reduceAdd, Nat.reduceSub, Nat.reduceMul, Nat.reduceDiv, Nat.reduceMod, Nat.reduceLT, Nat.reduceLeDiff, Nat.reduceBEq, Nat.reducePow, Int.reduceLE, Int.reduceLT, Int.reduceEq, Int.reduceNeg, Int.reduceAdd, Int.reduceToNat, Tryd.f17, take_ne h2 h3 h4]
      · simp only [go_sem, reduceIte, reduceCtorEq, Nat.reduceEqDiff, Nat.reduceAdd, Nat.reduceSub, Nat.reduceMul, Nat.reduceDiv, Nat.reduceMod, Nat.reduceLT, Nat.reduceLeDiff, Nat.reduceBEq, Nat.reducePow, Int.reduceLE, Int.reduceLT, Int.reduceEq, Int.reduceNeg, Int.reduceAdd, Int.reduceToNat, Tryd.f17, take_eq_all h h2 i.hp]
  · have hne : a ≠ b := fun e => h (e ▸ rfl)
    simp only [go_sem, reduceIte, reduceCtorEq, Nat.reduceEqDiff, Nat.reduceAdd, Nat.reduceSub, Nat.reduceMul, Nat.reduceDiv, Nat.reduceMod, Nat.reduceLT, Nat.reduceLeDiff, Nat.reduceBEq, Nat.reducePow, Int.reduceLE, Int.reduceLT, Int.reduceEq, Int.reduceNeg, Int.reduceAdd, Int.reduceToNat, Tryd.f17, hne]

def bitsM (p : Nat) (l : List Time) (i k : Nat) : Int :=
  (if consM p (withM l 1 i k) = true then 1 else 0) + (if consM p (withM l 3 i k) = true then 2 else 0) + (if consM p (withM l 1 k i) = true then 4 else 0)
def rowB (p : Nat) (l : List Time) (i n : Nat) : List Int := (List.range n).map (bitsM p l i)
def gridB (p : Nat) (l : List Time) (n : Nat) : List (List Int) := (List.range n).map fun i => rowB p l i p
def cloM (p : Int) (l : List Time) : List (List Int) × Fault := if (timesM p l).code = 0 then (gridB p.toNat l p.toNat, ⟨0, 0⟩) else ([], timesM p l)
structure GI (n : Nat) where
  i : Nat
  g : Nat
  m : Nat
  hi : i ≤ n
  hg : g < m
theorem consPre_w {p : Nat} {l : List Time} (h : (timesM p l).code = 0) {k : Int} (hk : 1 ≤ k ∧ k ≤ 4) {i j : Nat} (hi : i < p) (hj : j < p) : consPre p (withM l k i j) := by
  refine consPre_add h ?_
  unfold relCode
  rw [if_neg (by simp only; omega), if_neg (by simp only; omega)]
theorem rowB_succ {p : Nat} {l : List Time} {i n : Nat} : rowB p l i n ++ [bitsM p l i n] = rowB p l i (n + 1) := by
  unfold rowB; rw [List.range_succ, List.map_append]; rfl
theorem gridB_succ {p : Nat} {l : List Time} {n : Nat} : gridB p l n ++ [rowB p l n p] = gridB p l (n + 1) := by
  unfold gridB; rw [List.range_succ, List.map_append]; rfl
theorem rowB_len {p : Nat} {l : List Time} {i n : Nat} : (rowB p l i n).length = n := by simp [rowB]
theorem gridB_len {p : Nat} {l : List Time} {n : Nat} : (gridB p l n).length = n := by simp [gridB]

def U12 : Tbl := U11.add 16 (sp2p cloM fun _ _ => True)
set_option maxRecDepth 100000 in
set_option maxHeartbeats 1000000 in
theorem hU12 : TblOk Tryd.prog G0 U12 := by
  refine sp2p_ok ok16 hU11 fun p l _ _ _ => ?_
  by_cases h1 : (timesM p l).code = 0
  · have e : cloM p l = (gridB p.toNat l p.toNat, ⟨0, 0⟩) := by unfold cloM; rw [if_pos h1]
    obtain ⟨_, hp0, hp12, hll, _⟩ := times_zero h1
    obtain ⟨p, rfl⟩ := Int.eq_ofNat_of_zero_le hp0
    rw [e]
    simp only [Int.toNat_natCast]
    clear e
    refine Wcall_post (Q := fun d H n => ∃ g, d = .tup [.arr (16059, g) 1 0 p, .agg [.fz (.i .i64 0), .fz (.i .i64 0)]] ∧ g < n ∧ H (16059, g) = some ⟨flatFz ((gridB p l p).map enc), false, decide (p = 0)⟩) ?_ ?_
    rotate_left
    · rintro d H n ⟨g, rfl, hg, hH⟩
      refine ⟨.tup [.fz (enc (gridB p l p)), .agg [.fz (.i .i64 0), .fz (.i .i64 0)]], hpL [], n, ?_, rfl⟩
      refine Weak_g [] [] [((16059, g), (gridB p l p).map enc)] ?_ ?_ ?_ ?_ ?_ <;> simp only [go_sem, reduceIte, reduceCtorEq, Nat.reduceEqDiff, Nat.reduceAdd, Nat.reduceSub, Nat.reduceMul, Nat.reduceDiv, Nat.reduceMod, Nat.reduceLT, Nat.reduceLeDiff, Nat.reduceBEq, Nat.reducePow, Int.reduceLE, Int.reduceLT, Int.reduceEq, Int.reduceNeg, Int.reduceAdd, Int.reduceToNat, hH, gridB_len, decide_eq_true_eq]
      intro h0; subst h0; rfl
    refine Wcall_K (N := 63) hm hU11 16000 (lst [54, 58, 59]) ok16 Tryd.func16 rfl rfl (by simp) (by kernel_rfl) ?_
    repeat' (first | refine ReqK.i (by omega) fun _ => ?_ | simp only [go_sem, reduceIte, reduceCtorEq, Nat.reduceEqDiff, Nat.reduceAdd, Nat.reduceSub, Nat.reduceMul, Nat.reduceDiv, Nat.reduceMod, Nat.reduceLT, Nat.reduceLeDiff, Nat.reduceBEq, Nat.reducePow, Int.reduceLE, Int.reduceLT, Int.reduceEq, Int.reduceNeg, Int.reduceAdd, Int.reduceToNat, U11, U10, U9, U8, U7, U6, U5, U4, h1])
    refine WK_loop hm hU11 16000 (lst [54, 58, 59]) (ι := GI p)
      ⟨fun q => ⟨frL [(0, .fz (.i .i64 p)), (1, .fz (enc l)), (5, .ptr (16005, 0) 0), (7, .arr (16059, q.g) 1 0 q.i), (19, .fz (.i .i64 p)), (20, .fz (.i .i64 q.i))],
        hpL [((16005, 0), some ⟨[.fz (.i .i64 0), .fz (.i .i64 0)], true, false⟩), ((16059, q.g), some ⟨flatFz ((gridB p l q.i).map enc), false, decide (q.i = 0)⟩)], q.m⟩, fun q => p - q.i⟩ ⟨0, 2, 3, by omega, by omega⟩ (by kernel_rfl) ?_ ?_
    · refine Weak_g [] [(16059, 2)] [] ?_ ?_ ?_ ?_ ?_ <;> simp only [go_sem, reduceIte, reduceCtorEq, Nat.reduceEqDiff, Nat.reduceAdd, Nat.reduceSub, Nat.reduceMul, Nat.reduceDiv, Nat.reduceMod, Nat.reduceLT, Nat.reduceLeDiff, Nat.reduceBEq, Nat.reducePow, Int.reduceLE, Int.reduceLT, Int.reduceEq, Int.reduceNeg, Int.reduceAdd, Int.reduceToNat, List.getD_nil]
      all_goals rfl
    rintro ⟨i, g, m, hi, hg⟩
    rcases Nat.lt_or_ge i p with h2 | h2x
    · simp only [go_sem, reduceIte, reduceCtorEq, Nat.reduceEqDiff, Nat.reduceAdd, Nat.reduceSub, Nat.reduceMul, Nat.reduceDiv, Nat.reduceMod, Nat.reduceLT, Nat.reduceLeDiff, Nat.reduceBEq, Nat.reducePow, Int.reduceLE, Int.reduceLT, Int.reduceEq, Int.reduceNeg, Int.reduceAdd, Int.reduceToNat, h2]
      refine WK_loop hm hU11 16000 (lst [54, 58, 59]) (ι := GI p)
        ⟨fun q => ⟨frL [(0, .fz (.i .i64 p)), (1, .fz (enc l)), (5, .ptr (16005, 0) 0), (7, .arr (16059, g) 1 0 i), (8, .fz (.i .i64 i)), (19, .fz (.i .i64 p)), (20, .fz (.i .i64 i)), (9, .arr (16054, q.g) 1 0 q.i), (23, .fz (.i .i64 p)), (24, .fz (.i .i64 q.i))],
          hpL [((16005, 0), some ⟨[.fz (.i .i64 0), .fz (.i .i64 0)], true, false⟩), ((16059, g), some ⟨flatFz ((gridB p l i).map enc), false, decide (i = 0)⟩), ((16054, q.g), some ⟨flatFz ((rowB p l i q.i).map enc), false, decide (q.i = 0)⟩)], q.m⟩, fun q => p - q.i⟩ ⟨0, m, m + 1, by omega, by omega⟩ (by kernel_rfl) ?_ ?_
      · refine Weak_g [] [(16054, m)] [] ?_ ?_ ?_ ?_ ?_ <;> simp only [go_sem, reduceIte, reduceCtorEq, Nat.reduceEqDiff, Nat.reduceAdd, Nat.reduceSub, Nat.reduceMul, Nat.reduceDiv, Nat.reduceMod, Nat.reduceLT, Nat.reduceLeDiff, Nat.reduceBEq, Nat.reducePow, Int.reduceLE, Int.reduceLT, Int.reduceEq, Int.reduceNeg, Int.reduceAdd, Int.reduceToNat, List.getD_nil]
        all_goals first | omega | exact ⟨by omega, by omega, by omega, rfl⟩
      rintro ⟨k, g2, m2, hk, hg2⟩
      rcases Nat.lt_or_ge k p with h3 | h3x
      · have hll2 : l.length ≤ 1000000 := by omega
        have c1 := consPre_w h1 (k := 1) (by decide) h2 h3
        have c2 := consPre_w h1 (k := 3) (by decide) h2 h3
        have c3 := consPre_w h1 (k := 1) (by decide) h3 h2
        obtain ⟨b1, hb1⟩ : ∃ b, b = consM p (withM l 1 i k) := ⟨_, rfl⟩
        obtain ⟨b2, hb2⟩ : ∃ b, b = consM p (withM l 3 i k) := ⟨_, rfl⟩
        obtain ⟨b3, hb3⟩ : ∃ b, b = consM p (withM l 1 k i) := ⟨_, rfl⟩
        have hbit : bitsM p l i k = (if b1 = true then 1 else 0) + (if b2 = true then 2 else 0) + (if b3 = true then 4 else 0) := by unfold bitsM; rw [hb1, hb2, hb3]
        have hrl := rowB_len (p := p) (l := l) (i := i) (n := k)
        cases b1 <;> cases b2 <;> cases b3
        all_goals
          repeat' (first | refine ReqK.i hll2 fun _ => ?_ | refine ReqK.i c1 fun _ => ?_ | refine ReqK.i c2 fun _ => ?_ | refine ReqK.i c3 fun _ => ?_ | refine ReqK.i (by omega) fun _ => ?_ | refine ReqK.i (by unfold maxL; omega) fun _ => ?_ | refine ReqK.i (fits_of (by omega) (by decide)) fun _ => ?_ | simp only [go_sem, reduceIte, reduceCtorEq, Nat.reduceEqDiff, Nat.reduceAdd, Nat.reduceSub, Nat.reduceMul, Nat.reduceDiv, Nat.reduceMod, Nat.reduceLT, Nat.reduceLeDiff, Nat.reduceBEq, Nat.reducePow, Int.reduceLE, Int.reduceLT, Int.reduceEq, Int.reduceNeg, Int.reduceAdd, Int.reduceToNat, h3, U11, U10, U9, U8, U7, U6, ← hb1, ← hb2, ← hb3, hrl])
        all_goals
          simp only [Bool.false_eq_true, if_true, if_false, Int.reduceAdd, Int.zero_add, Int.add_zero] at hbit
          have htk : (rowB p l i k).take k = rowB p l i k := List.take_of_length_le (by omega)
          have hcell : ∀ v, bitsM p l i k = v → flatFz ((rowB p l i k).map enc) ++ [D.fz (.i .i64 v)] = flatFz ((rowB p l i (k + 1)).map enc) := fun v hv => by
            rw [← hv, ← rowB_succ, ← flat_snoc]; rfl
          have hk1 : decide (k + 1 = 0) = false := decide_eq_false (by omega)
          refine ⟨⟨k + 1, m2, m2 + 1, by omega, by omega⟩, by simp only; omega, ?_⟩
          refine Weak_to ?_ ?_ ?_ <;> simp only [go_sem, reduceIte, reduceCtorEq, Nat.reduceEqDiff, Nat.reduceAdd, Nat.reduceSub, Nat.reduceMul, Nat.reduceDiv, Nat.reduceMod, Nat.reduceLT, Nat.reduceLeDiff, Nat.reduceBEq, Nat.reducePow, Int.reduceLE, Int.reduceLT, Int.reduceEq, Int.reduceNeg, Int.reduceAdd, Int.reduceToNat, htk, hcell _ hbit, hk1]
      · obtain rfl : k = p := by omega
        have hgl := gridB_len (p := k) (l := l) (n := i)
        have hk0 : decide (k = 0) = false := decide_eq_false (by omega)
        have hi0 : decide (i + 1 = 0) = false := decide_eq_false (by omega)
        have hrl := rowB_len (p := k) (l := l) (i := i) (n := k)
        have hcell : flatFz ((gridB k l (i + 1)).map enc) = flatFz ((gridB k l i).map enc) ++ [.fz (enc (rowB k l i k))] := by rw [← gridB_succ, ← flat_snoc]
        have htk : (gridB k l i).take i = gridB k l i := List.take_of_length_le (by omega)
        repeat' (first | refine ReqK.i (by omega) fun _ => ?_ | refine ReqK.i (by unfold maxL; omega) fun _ => ?_ | refine ReqK.i (fits_of (by omega) (by decide)) fun _ => ?_ | simp only [go_sem, reduceIte, reduceCtorEq, Nat.reduceEqDiff, Nat.reduceAdd, Nat.reduceSub, Nat.reduceMul, Nat.reduceDiv, Nat.reduceMod, Nat.reduceLT, Nat.reduceLeDiff, Nat.reduceBEq, Nat.reducePow, Int.reduceLE, Int.reduceLT, Int.reduceEq, Int.reduceNeg, Int.reduceAdd, Int.reduceToNat, Nat.lt_irrefl, hgl, hk0])
        refine ⟨⟨i + 1, m2 + 1, m2 + 2, by omega, by omega⟩, by simp only; omega, ?_⟩
        refine Weak_g [] [] [((16054, g2), (rowB k l i k).map enc)] ?_ ?_ ?_ ?_ ?_ <;> simp only [go_sem, reduceIte, reduceCtorEq, Nat.reduceEqDiff, Nat.reduceAdd, Nat.reduceSub, Nat.reduceMul, Nat.reduceDiv, Nat.reduceMod, Nat.reduceLT, Nat.reduceLeDiff, Nat.reduceBEq, Nat.reducePow, Int.reduceLE, Int.reduceLT, Int.reduceEq, Int.reduceNeg, Int.reduceAdd, Int.reduceToNat, hcell, hk0, hi0, htk, hrl]
        all_goals omega
    · obtain rfl : i = p := by omega
      repeat' (first | refine ReqK.i (by omega) fun _ => ?_ | simp only [go_sem, reduceIte, reduceCtorEq, Nat.reduceEqDiff, Nat.reduceAdd, Nat.reduceSub, Nat.reduceMul, Nat.reduceDiv, Nat.reduceMod, Nat.reduceLT, Nat.reduceLeDiff, Nat.reduceBEq, Nat.reducePow, Int.reduceLE, Int.reduceLT, Int.reduceEq, Int.reduceNeg, Int.reduceAdd, Int.reduceToNat, Nat.lt_irrefl, Tryd.f16])
      exact ⟨g, rfl, hg, by rw [if_pos rfl]⟩
  · have e : cloM p l = ([], timesM p l) := by unfold cloM; rw [if_neg h1]
    refine Wcall_K (N := 63) hm hU11 16000 (lst [54, 58, 59]) ok16 Tryd.func16 rfl rfl (by simp) (by kernel_rfl) ?_
    simp only [go_sem, reduceIte, reduceCtorEq, Nat.reduceEqDiff, Nat.reduceAdd, Nat.reduceSub, Nat.reduceMul, Nat.reduceDiv, Nat.reduceMod, Nat.reduceLT, Nat.reduceLeDiff, Nat.reduceBEq, Nat.reducePow, Int.reduceLE, Int.reduceLT, Int.reduceEq, Int.reduceNeg, Int.reduceAdd, Int.reduceToNat, U11, U10, U9, U8, U7, U6, U5, U4, h1, e, Tryd.f16]
end Go.Proofs.YtbbcinpmomjbgaaDoor
