import Derived.Test.YtomhobohcejocaaDoorQ12
set_option linter.unusedSimpArgs false
namespace Go.Proofs.YtomhobohcejocaaDoor
open Go Go.Abs Go.Proofs

def Q23 : Tbl := Q22.add 18 (sp1 boxM fun _ => True)
set_option maxRecDepth 100000 in
set_option maxHeartbeats 1000000 in
theorem hQ23 : TblOk Tryd.prog G0 Q23 := by
  refine sp1_ok ok18 hQ22 fun b _ hb => ?_
  refine Wcall_K (N := 7) hm hQ22 18000 (lst []) ok18 Tryd.func18 rfl rfl (by simp) (by kernel_rfl) ?_
  have h := f67 b.size b 1 200 0 4 5 [] (hpL [((18002, 1), some ⟨[.fz (.i .i64 0), .fz (.i .i64 0)], true, false⟩)]) (Nat.le_refl _) hb (by omega) (by omega) (by omega) (by simp) (by omega) (by omega) (fun id o ho => by
    simp only [hpL] at ho
    split at ho
    · rename_i e; subst e; simp
    · cases ho)
  rw [enc_box] at h
  repeat' (first | refine ReqK.i (by omega) fun _ => ?_ | simp only [go_sem, reduceIte, reduceCtorEq, Nat.reduceEqDiff, Nat.reduceAdd, Nat.reduceSub, Nat.reduceMul, Nat.reduceDiv, Nat.reduceMod, Nat.reduceLT, Nat.reduceLeDiff, Nat.reduceBEq, Nat.reducePow, Int.reduceLE, Int.reduceLT, Int.reduceEq, Int.reduceNeg, Int.reduceAdd, Int.reduceToNat, Tryd.f18, Q22, Q21, Q20, Q19, Q18, Q17, Q16, Q15, Q14, Q13, Q12, Q11, Q10, Q9, Q8, Q7, Q6, Q5, Q4, Q3, Q2, Q1, Tbl0])
  refine WcallK.i (Wcall_hd rfl (Wcall_g (args' := [.fz (.agg [.sl (b.refs.map enc), .sl (b.conds.map enc)]), .fz (.i .i64 1), .fz (.i .i64 200), .ptr (18003, 2) 0, .ptr (18004, 3) 0])
    (hl := HHs 0 [] 4 ++ [((18002, 1), some ⟨[.fz (.i .i64 0), .fz (.i .i64 0)], true, false⟩)]) (n' := 5) [] [(67079, 4)] [] rfl ?_ ?_ ?_ ?_ ?_ ?_))
  case _ => omega
  case _ => simp only [go_sem, reduceIte, reduceCtorEq, Nat.reduceEqDiff, Nat.reduceAdd, Nat.reduceSub, Nat.reduceMul, Nat.reduceDiv, Nat.reduceMod, Nat.reduceLT, Nat.reduceLeDiff, Nat.reduceBEq, Nat.reducePow, Int.reduceLE, Int.reduceLT, Int.reduceEq, Int.reduceNeg, Int.reduceAdd, Int.reduceToNat]
  case _ => simp only [go_sem, reduceIte, reduceCtorEq, Nat.reduceEqDiff, Nat.reduceAdd, Nat.reduceSub, Nat.reduceMul, Nat.reduceDiv, Nat.reduceMod, Nat.reduceLT, Nat.reduceLeDiff, Nat.reduceBEq, Nat.reducePow, Int.reduceLE, Int.reduceLT, Int.reduceEq, Int.reduceNeg, Int.reduceAdd, Int.reduceToNat, HHs]; first | done | rfl | trace_state
  case _ => simp only [go_sem, reduceIte, reduceCtorEq, Nat.reduceEqDiff, Nat.reduceAdd, Nat.reduceSub, Nat.reduceMul, Nat.reduceDiv, Nat.reduceMod, Nat.reduceLT, Nat.reduceLeDiff, Nat.reduceBEq, Nat.reducePow, Int.reduceLE, Int.reduceLT, Int.reduceEq, Int.reduceNeg, Int.reduceAdd, Int.reduceToNat, HHs]; first | done | rfl | trace_state
  case _ => simp only [go_sem, reduceIte, reduceCtorEq, Nat.reduceEqDiff, Nat.reduceAdd, Nat.reduceSub, Nat.reduceMul, Nat.reduceDiv, Nat.reduceMod, Nat.reduceLT, Nat.reduceLeDiff, Nat.reduceBEq, Nat.reducePow, Int.reduceLE, Int.reduceLT, Int.reduceEq, Int.reduceNeg, Int.reduceAdd, Int.reduceToNat]; first | done | rfl | trace_state
  rw [hpL_app]
  refine Wcall_mono h ?_
  rintro d' H' n' ⟨rfl, e1, e2, e3⟩
  have b2 := e3 (18002, 1) ⟨[.fz (.i .i64 0), .fz (.i .i64 0)], true, false⟩ (by simp only [go_sem, reduceIte, reduceCtorEq, Nat.reduceEqDiff, Nat.reduceAdd, Nat.reduceSub, Nat.reduceMul, Nat.reduceDiv, Nat.reduceMod, Nat.reduceLT, Nat.reduceLeDiff, Nat.reduceBEq, Nat.reducePow, Int.reduceLE, Int.reduceLT, Int.reduceEq, Int.reduceNeg, Int.reduceAdd, Int.reduceToNat])
  rw [show H' = hpX [] H' from rfl]
  repeat' (first | refine ReqK.i (by omega) fun _ => ?_ | simp only [go_sem, reduceIte, reduceCtorEq, Nat.reduceEqDiff, Nat.reduceAdd, Nat.reduceSub, Nat.reduceMul, Nat.reduceDiv, Nat.reduceMod, Nat.reduceLT, Nat.reduceLeDiff, Nat.reduceBEq, Nat.reducePow, Int.reduceLE, Int.reduceLT, Int.reduceEq, Int.reduceNeg, Int.reduceAdd, Int.reduceToNat, agg2, b2, boxM, Tryd.f18])

/-! ## what is accessible; a view is a box of referents and conditions -/
def withM (v b : Abs.Box) : Abs.Box := .mk (v.refs ++ b.refs) (v.conds ++ b.conds)
@[go_sem] theorem withM_refs {v b : Abs.Box} : (withM v b).refs = v.refs ++ b.refs := rfl
@[go_sem] theorem withM_conds {v b : Abs.Box} : (withM v b).conds = v.conds ++ b.conds := rfl
def innerM (v : Abs.Box) (c : Abs.Cond) (k : Int) : Abs.Box := if c.kind = 3 ∧ k = 1 then withM v (c.boxes.getD 0 noB) else v
def Q24 : Tbl := Q23.add 64 (sp2 withM fun v b => v.refs.length + b.refs.length ≤ 1000000 ∧ v.conds.length + b.conds.length ≤ 1000000)
set_option maxRecDepth 100000 in
set_option maxHeartbeats 1000000 in
theorem hQ24 : TblOk Tryd.prog G0 Q24 := by
  refine sp2_ok ok64 hQ23 fun v b hl hv hb => ?_
  refine Wcall_K (N := 30) hm hQ23 64000 (lst []) ok64 Tryd.func64 rfl rfl (by simp) (by kernel_rfl) ?_
  repeat' (first | refine ReqK.i (by omega) fun _ => ?_ | refine ReqK.i (fits_of2 (by omega) (by decide)) fun _ => ?_ | simp only [go_sem, reduceIte, reduceCtorEq, Nat.reduceEqDiff, Nat.reduceAdd, Nat.reduceSub, Nat.reduceMul, Nat.reduceDiv, Nat.reduceMod, Nat.reduceLT, Nat.reduceLeDiff, Nat.reduceBEq, Nat.reducePow, Int.reduceLE, Int.reduceLT, Int.reduceEq, Int.reduceNeg, Int.reduceAdd, Int.reduceToNat, Tryd.f64])
/-! part 2 -/
def Q25 : Tbl := Q24.add 65 (sp3 innerM fun v c k => c.kind = 3 → k = 1 → 0 < c.boxes.length ∧ v.refs.length + (c.boxes.getD 0 noB).refs.length ≤ 1000000 ∧ v.conds.length + (c.boxes.getD 0 noB).conds.length ≤ 1000000)
set_option maxRecDepth 100000 in
set_option maxHeartbeats 1000000 in
theorem hQ25 : TblOk Tryd.prog G0 Q25 := by
  refine sp3_ok ok65 hQ24 fun v c k hp _ _ _ => ?_
  obtain ⟨Q, hQ⟩ : ∃ Q : D → Heap → Nat → Prop, Q = (fun d _ _ => D.val d = some (.fz (enc (innerM v c k)))) := ⟨_, rfl⟩
  rw [← hQ]
  have h1 : ¬ (c.kind = 3 ∧ k = 1) → ∀ {H' n'}, Q (.agg [.fz (.sl (v.refs.map enc)), .fz (.sl (v.conds.map enc))]) H' n' := fun h H' n' => by rw [hQ]; unfold innerM; rw [if_neg h, enc_box]; rfl
  have h2 : c.kind = 3 → k = 1 → ∀ {H' n'}, Q (.agg [.fz (.sl (v.refs.map enc ++ (c.boxes.getD 0 noB).refs.map enc)), .fz (.sl (v.conds.map enc ++ (c.boxes.getD 0 noB).conds.map enc))]) H' n' := fun h h' H' n' => by rw [hQ]; unfold innerM; rw [if_pos ⟨h, h'⟩, enc_box, ← List.map_append, ← List.map_append]; rfl
  have hd : 0 < c.boxes.length → c.boxes.getD 0 noB = c.boxes.getD 0 noB := fun _ => rfl
  have k1 := Kp.mk @h1
  have k2 := Kp.mk @h2
  clear h1 h2 hQ hd
  by_cases hk : c.kind = 3 ∧ k = 1
  · obtain ⟨hk, hk1⟩ := hk
    obtain ⟨p1, p2, p3⟩ := hp hk hk1
    obtain ⟨x, hx⟩ : ∃ x, c.boxes[0] = x := ⟨_, rfl⟩
    have hx2 : c.boxes.getD 0 noB = x := by rw [List.getD_eq_getElem?_getD, List.getElem?_eq_getElem p1]; exact hx
    rw [hx2] at p2 p3 k2
    have hkb := eq_true hk
    have hkc := eq_true hk1
    refine Wcall_K (N := 21) hm hQ24 65000 (lst []) ok65 Tryd.func65 rfl rfl (by simp) (by kernel_rfl) ?_
    repeat' (first | refine ReqK.i (by omega) fun _ => ?_ | simp only [go_sem, reduceIte, reduceCtorEq, Nat.reduceEqDiff, Nat.reduceAdd, Nat.reduceSub, Nat.reduceMul, Nat.reduceDiv, Nat.reduceMod, Nat.reduceLT, Nat.reduceLeDiff, Nat.reduceBEq, Nat.reducePow, Int.reduceLE, Int.reduceLT, Int.reduceEq, Int.reduceNeg, Int.reduceAdd, Int.reduceToNat, hkb, hkc, p1, hx, p2, p3, getD_map_lt, Int.toNat_zero, Tryd.f65, Q24, Q23, Q22, Q21, Q20, Q19, Q18, Q17, Q16, Q15, Q14, Q13, Q12, Q11, Q10, Q9, Q8, Q7, Q6, Q5, Q4, Q3, Q2, Q1, Tbl0])
    exact k2.out hk hk1
  · have kk := Kp.mk hk
    have kz := Kp.mk hp
    clear hk hp
    refine Wcall_K (N := 21) hm hQ24 65000 (lst []) ok65 Tryd.func65 rfl rfl (by simp) (by kernel_rfl) ?_
    repeat' (first | refine CondK.d (fun _ => ?_) (fun _ => ?_) | refine ReqK.i (by omega) fun _ => ?_ | simp only [go_sem, reduceIte, reduceCtorEq, Nat.reduceEqDiff, Nat.reduceAdd, Nat.reduceSub, Nat.reduceMul, Nat.reduceDiv, Nat.reduceMod, Nat.reduceLT, Nat.reduceLeDiff, Nat.reduceBEq, Nat.reducePow, Int.reduceLE, Int.reduceLT, Int.reduceEq, Int.reduceNeg, Int.reduceAdd, Int.reduceToNat, Tryd.f65, Q24, Q23, Q22, Q21, Q20, Q19, Q18, Q17, Q16, Q15, Q14, Q13, Q12, Q11, Q10, Q9, Q8, Q7, Q6, Q5, Q4, Q3, Q2, Q1, Tbl0, *])
    all_goals first | exact k1.out kk.out | exact absurd ⟨by assumption, by assumption⟩ kk.out
end Go.Proofs.YtomhobohcejocaaDoor
