import Derived.Test.YtomhobohcejocaaDoorQ11
set_option linter.unusedSimpArgs false
namespace Go.Proofs.YtomhobohcejocaaDoor
open Go Go.Abs Go.Proofs
attribute [local irreducible] isName condC

/-- the objects of the document's walk through a box -/
def HHs (n : Nat) (refs : List Str) (g : Nat) : List (Abs.Id × Option O) :=
  [((18003, 2), some ⟨[.fz (.i .i64 n)], true, false⟩), ((18004, 3), some ⟨[.ow (67079, g) 1 (refs.map enc)], true, false⟩), ((67079, g), some tok)]

set_option maxRecDepth 100000 in
set_option maxHeartbeats 1000000 in
theorem f67 : ∀ (k : Nat) (b : Abs.Box) (d most : Int) (n g m : Nat) (refs : List Str) (X : Heap), b.size ≤ k → (enc b).Wf → 0 ≤ d → d ≤ 11 → n ≤ 200 → refs.length ≤ 200 → g < m → 3 < m →
    (∀ id o, X id = some o → id.2 < m ∧ id.1 ≠ 18003 ∧ id.1 ≠ 18004 ∧ id.1 ≠ 67079) →
    Wcall Tryd.prog G0 67 [.fz (enc b), .fz (.i .i64 d), .fz (.i .i64 most), .ptr (18003, 2) 0, .ptr (18004, 3) 0] (hpX (HHs n refs g) X) m
      (fun d' H' n' => d' = agg2 (boxW b d most n refs).e ∧ m ≤ n' ∧ ((boxW b d most n refs).e.code = 0 → ∃ g', g' < n' ∧ HpOk H' (HHs (boxW b d most n refs).n (boxW b d most n refs).refs g')) ∧ ∀ id o, X id = some o → H' id = some o) := by
  intro k
  induction k with
  | zero => intro b d most n g m refs X hs; have := box_size_pos b; omega
  | succ k ih =>
    intro b d most n g m refs X hs hw hd0 hd hn hrl hg hm' hX
    obtain ⟨Q, hQ⟩ : ∃ Q : D → Heap → Nat → Prop, Q = (fun d' H' n' => d' = agg2 (boxW b d most n refs).e ∧ m ≤ n' ∧ ((boxW b d most n refs).e.code = 0 → ∃ g', g' < n' ∧ HpOk H' (HHs (boxW b d most n refs).n (boxW b d most n refs).refs g')) ∧ ∀ id o, X id = some o → H' id = some o) := ⟨_, rfl⟩
    rw [← hQ]
    have hbad : ∀ {c i : Int} {d' : D} {H' : Heap} {n' : Nat}, (boxW b d most n refs).e = ⟨c, i⟩ → c ≠ 0 → d' = agg2 ⟨c, i⟩ → m ≤ n' → (∀ id o, X id = some o → H' id = some o) → Q d' H' n' := fun h1 h2 h3 h4 h6 => by
      rw [hQ, h1]
      exact ⟨h3, h4, fun h => absurd h h2, h6⟩
    have hX' : ∀ {l : List (Abs.Id × Option O)} (id o), X id = some o → (id.2 < m ∧ id.1 ≠ 18003 ∧ id.1 ≠ 18004 ∧ id.1 ≠ 67079 → apartL id l) → hpX l X id = some o := fun id o h1 h2 => (hpX_pass (h2 (hX id o h1))).trans h1
    have hw2 := hw
    rw [enc_box] at hw2
    have hrl2 : b.refs.length ≤ maxL := by
      have := Wf_sl (Wf_agg hw2 (FD.sl (b.refs.map enc)) (by simp))
      simpa using this
    have hcl : b.conds.length ≤ maxL := by
      have := Wf_sl (Wf_agg hw2 (FD.sl (b.conds.map enc)) (by simp))
      simpa using this
    have hcw : ∀ c ∈ b.conds, (enc c).Wf := fun c hc => Wf_mem (Wf_agg hw2 (FD.sl (b.conds.map enc)) (by simp)) _ (List.mem_map_of_mem hc)
    have hcs : ∀ c ∈ b.conds, c.size ≤ k := fun c hc => by have := Box.size_sub hc; omega
    unfold maxL at hrl2 hcl
    have kX := Kp.mk @hX'
    have kQ := Kp.mk hQ
    have kI := Kp.mk ih
    have kS := Kp.mk hcw
    have kZ := Kp.mk hcs
    have kb := Kp.mk @hbad
    have kx := Kp.mk hX
    have kB := Kp.mk (@boxW_eq b d most n refs)
    clear hX' hQ ih hcw hcs hX hbad hw hw2
    refine Wcall_K (N := 141) hm hQ22 67000 (lsw [79] []) ok67 Tryd.func67 rfl rfl (by simp) (by kernel_rfl) ?_
    repeat' (first | refine CondK.d (fun _ => ?_) (fun _ => ?_) | refine CondK.i (fun _ => ?_) (fun _ => ?_) | refine ReqK.i (by omega) fun _ => ?_ | simp only [go_sem, reduceIte, reduceCtorEq, Nat.reduceEqDiff, Nat.reduceAdd, Nat.reduceSub, Nat.reduceMul, Nat.reduceDiv, Nat.reduceMod, Nat.reduceLT, Nat.reduceLeDiff, Nat.reduceBEq, Nat.reducePow, Int.reduceLE, Int.reduceLT, Int.reduceEq, Int.reduceNeg, Int.reduceAdd, Int.reduceToNat, HHs, Tryd.f67, Q22, Q21, Q20, Q19, Q18, Q17, Q16, Q15, Q14, Q13, Q12, Q11, Q10, Q9, Q8, Q7, Q6, Q5, Q4, Q3, Q2, Q1, Tbl0, *])
    all_goals try
      refine kb.out (by first | rw [kB.out, if_pos (by omega)] | rw [kB.out, if_neg (by omega), if_pos (by omega)]) (by decide) rfl (by omega) fun id o ho => ?_
      refine kX.out id o ho fun h1 => ?_
      ((repeat' (first | exact trivial | apply And.intro)) <;> (rintro rfl; simp only at h1; omega))
    have hB2 : boxW b d most n refs = if (refsGo refs b.refs).1 ≠ 0 then ⟨⟨(refsGo refs b.refs).1, n⟩, n + 1, (refsGo refs b.refs).2⟩ else condsW b.refs b.conds d (n + 1) (refsGo refs b.refs).2 := by
      rw [kB.out, if_neg (by omega), if_neg (by omega)]
    have hsum : refs.length + b.refs.length ≤ 200 := by omega
    have kB2 := Kp.mk hB2
    clear hB2
    refine WK_loop hm hQ22 67000 (lsw [79] []) (ι := LoopG b.refs.length (m + 1 + 1) fun i => refsGo refs b.refs = refsGo (refs ++ b.refs.take i) (b.refs.drop i))
      ⟨fun q => ⟨frL [(1, .fz (.i .i64 d)), (3, .ptr (18003, 2) 0), (4, .ptr (18004, 3) 0), (5, .ptr (67005, m) 0), (10, .ptr (67010, m + 1) 0), (11, .fz (.i .i64 n)), (55, .fz (.sl (b.refs.map enc))), (56, .fz (.i .i64 b.refs.length)), (57, .fz (.i .i64 q.i))],
        hpX ([((67005, m), some ⟨[.fz (.sl (b.refs.map enc)), .fz (.sl (b.conds.map enc))], true, false⟩), ((67010, m + 1), some ⟨[.fz (.i .i64 0), .fz (.i .i64 0)], true, false⟩)] ++ HHs (n + 1) (refs ++ b.refs.take q.i) q.g) X, q.m⟩, fun q => b.refs.length - q.i⟩
      ⟨0, g, m + 1 + 1, by omega, by omega, by omega, by simp⟩ (by kernel_rfl) ?_ ?_
    · refine Weak_toX ?_ ?_ (fun id o ho => ?_) ?_
      · simp only [go_sem, reduceIte, reduceCtorEq, Nat.reduceEqDiff, Nat.reduceAdd, Nat.reduceSub, Nat.reduceMul, Nat.reduceDiv, Nat.reduceMod, Nat.reduceLT, Nat.reduceLeDiff, Nat.reduceBEq, Nat.reducePow, Int.reduceLE, Int.reduceLT, Int.reduceEq, Int.reduceNeg, Int.reduceAdd, Int.reduceToNat, *]
      · simp only [go_sem, reduceIte, reduceCtorEq, Nat.reduceEqDiff, Nat.reduceAdd, Nat.reduceSub, Nat.reduceMul, Nat.reduceDiv, Nat.reduceMod, Nat.reduceLT, Nat.reduceLeDiff, Nat.reduceBEq, Nat.reducePow, Int.reduceLE, Int.reduceLT, Int.reduceEq, Int.reduceNeg, Int.reduceAdd, Int.reduceToNat, HHs, *]
      · refine kX.out id o ho fun h1 => ?_
        ((repeat' (first | exact trivial | apply And.intro)) <;> (rintro rfl; simp only at h1; omega))
      · simp only [go_sem, reduceIte, reduceCtorEq, Nat.reduceEqDiff, Nat.reduceAdd, Nat.reduceSub, Nat.reduceMul, Nat.reduceDiv, Nat.reduceMod, Nat.reduceLT, Nat.reduceLeDiff, Nat.reduceBEq, Nat.reducePow, Int.reduceLE, Int.reduceLT, Int.reduceEq, Int.reduceNeg, Int.reduceAdd, Int.reduceToNat]
    rintro ⟨i, g1, m1, hi, hg1, hm1, hpi⟩
    try simp only at hi hg1 hm1 hpi
    rcases Nat.lt_or_ge i b.refs.length with h1 | h1
    · have hrl3 : (refs ++ b.refs.take i).length = refs.length + i := by rw [List.length_append, List.length_take]; omega
      rw [List.drop_eq_getElem_cons h1, refsGo] at hpi
      cases hnm : isName b.refs[i] with
      | false =>
        rw [if_pos hnm] at hpi
        repeat' (first | refine ReqK.i (by omega) fun _ => ?_ | simp only [go_sem, reduceIte, reduceCtorEq, Nat.reduceEqDiff, Nat.reduceAdd, Nat.reduceSub, Nat.reduceMul, Nat.reduceDiv, Nat.reduceMod, Nat.reduceLT, Nat.reduceLeDiff, Nat.reduceBEq, Nat.reducePow, Int.reduceLE, Int.reduceLT, Int.reduceEq, Int.reduceNeg, Int.reduceAdd, Int.reduceToNat, HHs, h1, hnm, str_eta, getD_map_lt, Tryd.f67, Q22, Q21, Q20, Q19, Q18, Q17, Q16, Q15, Q14, Q13, Q12, Q11, Q10, Q9, Q8, Q7, Q6, Q5, Q4, Q3, Q2, Q1, Tbl0])
        refine kb.out (by rw [kB2.out, hpi, if_pos (by simp)]) (by decide) rfl (by omega) fun id o ho => ?_
        refine kX.out id o ho fun h1 => ?_
        ((repeat' (first | exact trivial | apply And.intro)) <;> (rintro rfl; simp only at h1; omega))
      | true =>
        rw [if_neg (by rw [hnm]; simp)] at hpi
        by_cases hin : b.refs[i] ∈ refs ++ b.refs.take i
        · rw [if_pos hin] at hpi
          repeat' (first | refine ReqK.i (by omega) fun _ => ?_ | simp only [go_sem, reduceIte, reduceCtorEq, Nat.reduceEqDiff, Nat.reduceAdd, Nat.reduceSub, Nat.reduceMul, Nat.reduceDiv, Nat.reduceMod, Nat.reduceLT, Nat.reduceLeDiff, Nat.reduceBEq, Nat.reducePow, Int.reduceLE, Int.reduceLT, Int.reduceEq, Int.reduceNeg, Int.reduceAdd, Int.reduceToNat, HHs, h1, hnm, hin, str_eta, getD_map_lt, Tryd.f67, Q22, Q21, Q20, Q19, Q18, Q17, Q16, Q15, Q14, Q13, Q12, Q11, Q10, Q9, Q8, Q7, Q6, Q5, Q4, Q3, Q2, Q1, Tbl0])
          refine kb.out (by rw [kB2.out, hpi, if_pos (by simp)]) (by decide) rfl (by omega) fun id o ho => ?_
          refine kX.out id o ho fun h1 => ?_
          ((repeat' (first | exact trivial | apply And.intro)) <;> (rintro rfl; simp only at h1; omega))
        · rw [if_neg hin, List.append_assoc, ← List.take_succ_eq_append_getElem h1] at hpi
          have e3 := List.take_succ_eq_append_getElem h1
          repeat' (first | refine ReqK.i (by omega) fun _ => ?_ | refine ReqK.i (by unfold maxL; omega) fun _ => ?_ | refine ReqK.i (fits_of2 (by have h5 := hrl3; rw [List.length_append] at h5; omega) (by decide)) fun _ => ?_ | simp only [go_sem, reduceIte, reduceCtorEq, Nat.reduceEqDiff, Nat.reduceAdd, Nat.reduceSub, Nat.reduceMul, Nat.reduceDiv, Nat.reduceMod, Nat.reduceLT, Nat.reduceLeDiff, Nat.reduceBEq, Nat.reducePow, Int.reduceLE, Int.reduceLT, Int.reduceEq, Int.reduceNeg, Int.reduceAdd, Int.reduceToNat, HHs, h1, hnm, hin, str_eta, getD_map_lt, Tryd.f67, Q22, Q21, Q20, Q19, Q18, Q17, Q16, Q15, Q14, Q13, Q12, Q11, Q10, Q9, Q8, Q7, Q6, Q5, Q4, Q3, Q2, Q1, Tbl0])
          refine ⟨⟨i + 1, m1, m1 + 1, by omega, by omega, by omega, hpi⟩, by simp only; omega, ?_⟩
          refine Weak_toX ?_ ?_ (fun id o ho => ?_) ?_
          · simp only [go_sem, reduceIte, reduceCtorEq, Nat.reduceEqDiff, Nat.reduceAdd, Nat.reduceSub, Nat.reduceMul, Nat.reduceDiv, Nat.reduceMod, Nat.reduceLT, Nat.reduceLeDiff, Nat.reduceBEq, Nat.reducePow, Int.reduceLE, Int.reduceLT, Int.reduceEq, Int.reduceNeg, Int.reduceAdd, Int.reduceToNat, e3, List.map_append, List.append_assoc]
          · simp only [go_sem, reduceIte, reduceCtorEq, Nat.reduceEqDiff, Nat.reduceAdd, Nat.reduceSub, Nat.reduceMul, Nat.reduceDiv, Nat.reduceMod, Nat.reduceLT, Nat.reduceLeDiff, Nat.reduceBEq, Nat.reducePow, Int.reduceLE, Int.reduceLT, Int.reduceEq, Int.reduceNeg, Int.reduceAdd, Int.reduceToNat, HHs, e3, List.map_append, List.append_assoc]
          · refine kX.out id o ho fun h1 => ?_
            ((repeat' (first | exact trivial | apply And.intro)) <;> (rintro rfl; simp only at h1; omega))
          · simp only [go_sem, reduceIte, reduceCtorEq, Nat.reduceEqDiff, Nat.reduceAdd, Nat.reduceSub, Nat.reduceMul, Nat.reduceDiv, Nat.reduceMod, Nat.reduceLT, Nat.reduceLeDiff, Nat.reduceBEq, Nat.reducePow, Int.reduceLE, Int.reduceLT, Int.reduceEq, Int.reduceNeg, Int.reduceAdd, Int.reduceToNat]
    have h1' : ¬ i < b.refs.length := by omega
    rw [List.take_of_length_le h1, List.drop_of_length_le h1, refsGo] at hpi
    have hB3 : boxW b d most n refs = condsW b.refs b.conds d (n + 1) (refs ++ b.refs) := by
      rw [kB2.out, hpi, if_neg (by simp)]
    have kB3 := Kp.mk hB3
    clear hB3 hpi
    repeat' (first | refine ReqK.i (by omega) fun _ => ?_ | simp only [go_sem, reduceIte, reduceCtorEq, Nat.reduceEqDiff, Nat.reduceAdd, Nat.reduceSub, Nat.reduceMul, Nat.reduceDiv, Nat.reduceMod, Nat.reduceLT, Nat.reduceLeDiff, Nat.reduceBEq, Nat.reducePow, Int.reduceLE, Int.reduceLT, Int.reduceEq, Int.reduceNeg, Int.reduceAdd, Int.reduceToNat, h1', Tryd.f67, Q22, Q21, Q20, Q19, Q18, Q17, Q16, Q15, Q14, Q13, Q12, Q11, Q10, Q9, Q8, Q7, Q6, Q5, Q4, Q3, Q2, Q1, Tbl0])
    refine WK_loop hm hQ22 67000 (lsw [79] []) (ι := LoopV (m + 1 + 1) b.conds.length fun j n2 rs => n2 ≤ 200 ∧ rs.length ≤ 200 ∧ condsW b.refs b.conds d (n + 1) (refs ++ b.refs) = condsW b.refs (b.conds.drop j) d n2 rs)
      ⟨fun q => ⟨frL [(1, .fz (.i .i64 d)), (3, .ptr (18003, 2) 0), (4, .ptr (18004, 3) 0), (5, .ptr (67005, m) 0), (10, .ptr (67010, m + 1) 0), (84, .fz (.i .i64 b.conds.length)), (85, .fz (.i .i64 q.j))],
        hpX ([((67005, m), some ⟨[.fz (.sl (b.refs.map enc)), .fz (.sl (b.conds.map enc))], true, false⟩), ((67010, m + 1), some ⟨[.fz (.i .i64 0), .fz (.i .i64 0)], true, false⟩)] ++ HHs q.n q.rs q.g) X, q.m⟩, fun q => b.conds.length - q.j⟩
      ⟨0, n + 1, refs ++ b.refs, g1, n, m1, by omega, by omega, by omega, by omega, by rw [List.length_append]; omega, rfl⟩ (by kernel_rfl) ?_ ?_
    · refine Weak_toX ?_ ?_ (fun id o ho => ?_) ?_
      · simp only [go_sem, reduceIte, reduceCtorEq, Nat.reduceEqDiff, Nat.reduceAdd, Nat.reduceSub, Nat.reduceMul, Nat.reduceDiv, Nat.reduceMod, Nat.reduceLT, Nat.reduceLeDiff, Nat.reduceBEq, Nat.reducePow, Int.reduceLE, Int.reduceLT, Int.reduceEq, Int.reduceNeg, Int.reduceAdd, Int.reduceToNat]
      · simp only [go_sem, reduceIte, reduceCtorEq, Nat.reduceEqDiff, Nat.reduceAdd, Nat.reduceSub, Nat.reduceMul, Nat.reduceDiv, Nat.reduceMod, Nat.reduceLT, Nat.reduceLeDiff, Nat.reduceBEq, Nat.reducePow, Int.reduceLE, Int.reduceLT, Int.reduceEq, Int.reduceNeg, Int.reduceAdd, Int.reduceToNat, HHs, List.take_of_length_le h1]
      · refine kX.out id o ho fun h1 => ?_
        ((repeat' (first | exact trivial | apply And.intro)) <;> (rintro rfl; simp only at h1; omega))
      · simp only [go_sem, reduceIte, reduceCtorEq, Nat.reduceEqDiff, Nat.reduceAdd, Nat.reduceSub, Nat.reduceMul, Nat.reduceDiv, Nat.reduceMod, Nat.reduceLT, Nat.reduceLeDiff, Nat.reduceBEq, Nat.reducePow, Int.reduceLE, Int.reduceLT, Int.reduceEq, Int.reduceNeg, Int.reduceAdd, Int.reduceToNat]
    rintro ⟨j, n2, rs, g2, a2, m2, hj, hg2, hm2, hn2, hrs, hch⟩
    try simp only at hj hg2 hm2 hn2 hrs hch
    rcases Nat.lt_or_ge j b.conds.length with h2 | h2
    · have hmem := List.getElem_mem h2
      rw [List.drop_eq_getElem_cons h2, condsW] at hch
      obtain ⟨c, hcj⟩ : ∃ c, b.conds[j] = c := ⟨_, rfl⟩
      rw [hcj] at hch hmem
      have hw2 := kS.out _ hmem
      have hs2 := kZ.out _ hmem
      have hwc := hw2
      rw [enc_cond] at hw2
      have hbl : c.boxes.length ≤ maxL := by
        have := Wf_sl (Wf_agg hw2 (FD.sl (c.boxes.map enc)) (by simp))
        simpa using this
      have hbw : ∀ x ∈ c.boxes, (enc x).Wf := fun x hx => Wf_mem (Wf_agg hw2 (FD.sl (c.boxes.map enc)) (by simp)) _ (List.mem_map_of_mem hx)
      have hbs : ∀ x ∈ c.boxes, x.size ≤ k := fun x hx => by have := Cond.size_sub hx; omega
      unfold maxL at hbl
      have hb0 : ∀ {c' i' : Int}, (condW b.refs c d n2 rs).e = ⟨c', i'⟩ → c' ≠ 0 → (boxW b d most n refs).e = ⟨c', i'⟩ := fun g1 g2 => by rw [kB3.out, hch, if_pos (by rw [g1]; exact g2), g1]
      have kw := Kp.mk hbw
      have kz := Kp.mk hbs
      have k0 := Kp.mk @hb0
      have kh := Kp.mk hch
      clear hbw hbs hb0 hch hmem hw2 hs2 hwc
      repeat' (first | refine CondK.d (fun _ => ?_) (fun _ => ?_) | refine CondK.i (fun _ => ?_) (fun _ => ?_) | refine ReqK.i (by omega) fun _ => ?_ | simp only [go_sem, reduceIte, reduceCtorEq, Nat.reduceEqDiff, Nat.reduceAdd, Nat.reduceSub, Nat.reduceMul, Nat.reduceDiv, Nat.reduceMod, Nat.reduceLT, Nat.reduceLeDiff, Nat.reduceBEq, Nat.reducePow, Int.reduceLE, Int.reduceLT, Int.reduceEq, Int.reduceNeg, Int.reduceAdd, Int.reduceToNat, HHs, h2, getD_map_lt, Tryd.f67, Q22, Q21, Q20, Q19, Q18, Q17, Q16, Q15, Q14, Q13, Q12, Q11, Q10, Q9, Q8, Q7, Q6, Q5, Q4, Q3, Q2, Q1, Tbl0, *])
      --R3
      all_goals try
        first
        | refine kb.out ?_ ?_ (show _ = agg2 ⟨condC c b.refs, n2⟩ from rfl) (by omega) fun id o ho => ?_
        | refine kb.out ?_ ?_ rfl (by omega) fun id o ho => ?_
        · first
          | exact k0.out (by rw [condW_eq, if_pos (by omega)]) (by decide)
          | exact k0.out (by rw [condW_eq, if_neg (by omega), if_pos (by assumption)]) (by assumption)
        · first | assumption | decide
        · refine kX.out id o ho fun h1 => ?_
          ((repeat' (first | exact trivial | apply And.intro)) <;> (rintro rfl; simp only at h1; omega))
      have hC : condC c b.refs = 0 := by assumption
      obtain ⟨mst, hmst⟩ : ∃ mst : Int, mst = if c.kind = 6 then 2 else 200 := ⟨_, rfl⟩
      have hcw : condW b.refs c d n2 rs = boxsW c.boxes (d + 1) mst (n2 + 1) rs := by
        rw [condW_eq, if_neg (by omega), if_neg (by rw [hC]; simp), hmst]
      have kcw := Kp.mk hcw
      refine WK_loop hm hQ22 67000 (lsw [79] []) (ι := LoopV (m2 + 1) c.boxes.length fun k' n3 rs3 => n3 ≤ 200 ∧ rs3.length ≤ 200 ∧ boxsW c.boxes (d + 1) mst (n2 + 1) rs = boxsW (c.boxes.drop k') (d + 1) mst n3 rs3)
        ⟨fun q => ⟨frL [(1, .fz (.i .i64 d)), (3, .ptr (18003, 2) 0), (4, .ptr (18004, 3) 0), (5, .ptr (67005, m) 0), (10, .ptr (67010, m + 1) 0), (15, .ptr (67015, m2) 0), (84, .fz (.i .i64 b.conds.length)), (85, .fz (.i .i64 j)), (116, .fz (.i .i64 c.boxes.length)), (117, .fz (.i .i64 q.j))],
          hpX ([((67015, m2), some ⟨[.fz (.i .i64 c.kind), .fz (.s c.name.l), .fz (.i .i64 c.form.kind), .fz (.s c.form.name.l), .fz (.sl (c.form.words.map enc)), .fz (.sl (c.form.subs.map enc)), .fz (.sl (c.boxes.map enc))], true, false⟩), ((67005, m), some ⟨[.fz (.sl (b.refs.map enc)), .fz (.sl (b.conds.map enc))], true, false⟩), ((67010, m + 1), some ⟨[.fz (.i .i64 0), .fz (.i .i64 0)], true, false⟩)] ++ HHs q.n q.rs q.g) X, q.m⟩, fun q => c.boxes.length - q.j⟩
        ⟨0, n2 + 1, rs, g2, 0, m2 + 1, by omega, by omega, by omega, by omega, hrs, rfl⟩ (by kernel_rfl) ?_ ?_
      · refine Weak_toX ?_ ?_ (fun id o ho => ?_) ?_
        · simp only [go_sem, reduceIte, reduceCtorEq, Nat.reduceEqDiff, Nat.reduceAdd, Nat.reduceSub, Nat.reduceMul, Nat.reduceDiv, Nat.reduceMod, Nat.reduceLT, Nat.reduceLeDiff, Nat.reduceBEq, Nat.reducePow, Int.reduceLE, Int.reduceLT, Int.reduceEq, Int.reduceNeg, Int.reduceAdd, Int.reduceToNat]
        · simp only [go_sem, reduceIte, reduceCtorEq, Nat.reduceEqDiff, Nat.reduceAdd, Nat.reduceSub, Nat.reduceMul, Nat.reduceDiv, Nat.reduceMod, Nat.reduceLT, Nat.reduceLeDiff, Nat.reduceBEq, Nat.reducePow, Int.reduceLE, Int.reduceLT, Int.reduceEq, Int.reduceNeg, Int.reduceAdd, Int.reduceToNat, HHs]
        · refine kX.out id o ho fun h1 => ?_
          ((repeat' (first | exact trivial | apply And.intro)) <;> (rintro rfl; simp only at h1; omega))
        · simp only; omega
      clear hcw
      rintro ⟨kk, n3, rs3, g3, _, m3, hj3, hg3, hm3, hn3, hrs3, hch3⟩
      try simp only at hj3 hg3 hm3 hn3 hrs3 hch3
      rcases Nat.lt_or_ge kk c.boxes.length with h4 | h4
      · have hmem := List.getElem_mem h4
        rw [List.drop_eq_getElem_cons h4, boxsW] at hch3
        have ih2 := kI.out c.boxes[kk] (d + 1) mst n3 g3 m3 rs3 (hpX [((67015, m2), some ⟨[.fz (.i .i64 c.kind), .fz (.s c.name.l), .fz (.i .i64 c.form.kind), .fz (.s c.form.name.l), .fz (.sl (c.form.words.map enc)), .fz (.sl (c.form.subs.map enc)), .fz (.sl (c.boxes.map enc))], true, false⟩), ((67005, m), some ⟨[.fz (.sl (b.refs.map enc)), .fz (.sl (b.conds.map enc))], true, false⟩), ((67010, m + 1), some ⟨[.fz (.i .i64 0), .fz (.i .i64 0)], true, false⟩)] X) (kz.out _ hmem) (kw.out _ hmem) (by omega) (by omega) hn3 hrs3 (by omega) (by omega) (by
          intro id o ho
          simp only [hpX] at ho
          split at ho
          · rename_i e; subst e; simp only; omega
          split at ho
          · rename_i e; subst e; simp only; omega
          split at ho
          · rename_i e; subst e; simp only; omega
          · have := kx.out id o ho; omega)
        rw [enc_box] at ih2
        by_cases hk6 : c.kind = 6
        all_goals
          have hm2 := hmst
          first | rw [if_pos hk6] at hm2 | rw [if_neg hk6] at hm2
          rw [hm2] at ih2
          have hkb : (c.kind = 6) = (mst = 2) := propext ⟨fun e => by rw [hmst, if_pos e], fun e => by rw [hmst] at e; split at e <;> first | assumption | omega⟩
          rw [hm2] at hkb
          repeat' (first | refine ReqK.i (by omega) fun _ => ?_ | simp only [go_sem, reduceIte, reduceCtorEq, Nat.reduceEqDiff, Nat.reduceAdd, Nat.reduceSub, Nat.reduceMul, Nat.reduceDiv, Nat.reduceMod, Nat.reduceLT, Nat.reduceLeDiff, Nat.reduceBEq, Nat.reducePow, Int.reduceLE, Int.reduceLT, Int.reduceEq, Int.reduceNeg, Int.reduceAdd, Int.reduceToNat, HHs, h4, hkb, getD_map_lt, Tryd.f67, Q22, Q21, Q20, Q19, Q18, Q17, Q16, Q15, Q14, Q13, Q12, Q11, Q10, Q9, Q8, Q7, Q6, Q5, Q4, Q3, Q2, Q1, Tbl0])
          refine WcallK.i (Wcall_hd rfl (Wcall_toX (by simp only [go_sem, reduceIte, reduceCtorEq, Nat.reduceEqDiff, Nat.reduceAdd, Nat.reduceSub, Nat.reduceMul, Nat.reduceDiv, Nat.reduceMod, Nat.reduceLT, Nat.reduceLeDiff, Nat.reduceBEq, Nat.reducePow, Int.reduceLE, Int.reduceLT, Int.reduceEq, Int.reduceNeg, Int.reduceAdd, Int.reduceToNat, argL]) (by simp only [go_sem, reduceIte, reduceCtorEq, Nat.reduceEqDiff, Nat.reduceAdd, Nat.reduceSub, Nat.reduceMul, Nat.reduceDiv, Nat.reduceMod, Nat.reduceLT, Nat.reduceLeDiff, Nat.reduceBEq, Nat.reducePow, Int.reduceLE, Int.reduceLT, Int.reduceEq, Int.reduceNeg, Int.reduceAdd, Int.reduceToNat, HHs]) (fun id o ho => ?_) (Nat.le_refl _) (Wcall_mono ih2 ?_)))
          · simp only [hpX] at ho
            split at ho
            · rename_i e; subst e; simp only [go_sem, reduceIte, reduceCtorEq, Nat.reduceEqDiff, Nat.reduceAdd, Nat.reduceSub, Nat.reduceMul, Nat.reduceDiv, Nat.reduceMod, Nat.reduceLT, Nat.reduceLeDiff, Nat.reduceBEq, Nat.reducePow, Int.reduceLE, Int.reduceLT, Int.reduceEq, Int.reduceNeg, Int.reduceAdd, Int.reduceToNat]; exact Option.some.inj ho
            split at ho
            · rename_i e; subst e; simp only [go_sem, reduceIte, reduceCtorEq, Nat.reduceEqDiff, Nat.reduceAdd, Nat.reduceSub, Nat.reduceMul, Nat.reduceDiv, Nat.reduceMod, Nat.reduceLT, Nat.reduceLeDiff, Nat.reduceBEq, Nat.reducePow, Int.reduceLE, Int.reduceLT, Int.reduceEq, Int.reduceNeg, Int.reduceAdd, Int.reduceToNat]; exact Option.some.inj ho
            split at ho
            · rename_i e; subst e; simp only [go_sem, reduceIte, reduceCtorEq, Nat.reduceEqDiff, Nat.reduceAdd, Nat.reduceSub, Nat.reduceMul, Nat.reduceDiv, Nat.reduceMod, Nat.reduceLT, Nat.reduceLeDiff, Nat.reduceBEq, Nat.reducePow, Int.reduceLE, Int.reduceLT, Int.reduceEq, Int.reduceNeg, Int.reduceAdd, Int.reduceToNat]; exact Option.some.inj ho
            · refine kX.out id o ho fun h1 => ?_
              ((repeat' (first | exact trivial | apply And.intro)) <;> (rintro rfl; simp only at h1; omega))
          rintro d' H' n' ⟨hdd, e1, e2, e3⟩
          rw [← hm2] at hdd e2
          subst hdd
          have b15 := e3 (67015, m2) ⟨[.fz (.i .i64 c.kind), .fz (.s c.name.l), .fz (.i .i64 c.form.kind), .fz (.s c.form.name.l), .fz (.sl (c.form.words.map enc)), .fz (.sl (c.form.subs.map enc)), .fz (.sl (c.boxes.map enc))], true, false⟩ (by simp only [go_sem, reduceIte, reduceCtorEq, Nat.reduceEqDiff, Nat.reduceAdd, Nat.reduceSub, Nat.reduceMul, Nat.reduceDiv, Nat.reduceMod, Nat.reduceLT, Nat.reduceLeDiff, Nat.reduceBEq, Nat.reducePow, Int.reduceLE, Int.reduceLT, Int.reduceEq, Int.reduceNeg, Int.reduceAdd, Int.reduceToNat])
          have b5 := e3 (67005, m) ⟨[.fz (.sl (b.refs.map enc)), .fz (.sl (b.conds.map enc))], true, false⟩ (by simp only [go_sem, reduceIte, reduceCtorEq, Nat.reduceEqDiff, Nat.reduceAdd, Nat.reduceSub, Nat.reduceMul, Nat.reduceDiv, Nat.reduceMod, Nat.reduceLT, Nat.reduceLeDiff, Nat.reduceBEq, Nat.reducePow, Int.reduceLE, Int.reduceLT, Int.reduceEq, Int.reduceNeg, Int.reduceAdd, Int.reduceToNat])
          have b10 := e3 (67010, m + 1) ⟨[.fz (.i .i64 0), .fz (.i .i64 0)], true, false⟩ (by simp only [go_sem, reduceIte, reduceCtorEq, Nat.reduceEqDiff, Nat.reduceAdd, Nat.reduceSub, Nat.reduceMul, Nat.reduceDiv, Nat.reduceMod, Nat.reduceLT, Nat.reduceLeDiff, Nat.reduceBEq, Nat.reducePow, Int.reduceLE, Int.reduceLT, Int.reduceEq, Int.reduceNeg, Int.reduceAdd, Int.reduceToNat])
          have hX2 : ∀ id o, X id = some o → H' id = some o := fun id o ho => e3 id o (kX.out id o ho fun h1 => ⟨by rintro rfl; simp only at h1; omega, by rintro rfl; simp only at h1; omega, by rintro rfl; simp only at h1; omega, trivial⟩)
          rw [show H' = hpX [] H' from rfl]
          by_cases hc : (boxW c.boxes[kk] (d + 1) mst n3 rs3).e.code = 0
          · obtain ⟨g', hg', e4⟩ := e2 hc
            simp only [go_sem, reduceIte, reduceCtorEq, Nat.reduceEqDiff, Nat.reduceAdd, Nat.reduceSub, Nat.reduceMul, Nat.reduceDiv, Nat.reduceMod, Nat.reduceLT, Nat.reduceLeDiff, Nat.reduceBEq, Nat.reducePow, Int.reduceLE, Int.reduceLT, Int.reduceEq, Int.reduceNeg, Int.reduceAdd, Int.reduceToNat, HHs] at e4
            obtain ⟨b1, b2, b3⟩ := e4
            rw [if_neg (by rw [hc]; simp)] at hch3
            obtain ⟨c1, c2, c3, c4⟩ := boxW_tot _ _ _ _ _ hc
            repeat' (first | refine ReqK.i (by omega) fun _ => ?_ | simp only [go_sem, reduceIte, reduceCtorEq, Nat.reduceEqDiff, Nat.reduceAdd, Nat.reduceSub, Nat.reduceMul, Nat.reduceDiv, Nat.reduceMod, Nat.reduceLT, Nat.reduceLeDiff, Nat.reduceBEq, Nat.reducePow, Int.reduceLE, Int.reduceLT, Int.reduceEq, Int.reduceNeg, Int.reduceAdd, Int.reduceToNat, HHs, h4, hc, agg2, b10, Tryd.f67, Q22, Q21, Q20, Q19, Q18, Q17, Q16, Q15, Q14, Q13, Q12, Q11, Q10, Q9, Q8, Q7, Q6, Q5, Q4, Q3, Q2, Q1, Tbl0])
            refine ⟨⟨kk + 1, _, _, g', 0, n' + 1, by omega, by omega, by omega, c3, c4, hch3⟩, by simp only; omega, ?_⟩
            refine Weak_toX ?_ ?_ (fun id o ho => ?_) ?_
            · simp only [go_sem, reduceIte, reduceCtorEq, Nat.reduceEqDiff, Nat.reduceAdd, Nat.reduceSub, Nat.reduceMul, Nat.reduceDiv, Nat.reduceMod, Nat.reduceLT, Nat.reduceLeDiff, Nat.reduceBEq, Nat.reducePow, Int.reduceLE, Int.reduceLT, Int.reduceEq, Int.reduceNeg, Int.reduceAdd, Int.reduceToNat]
            · simp only [go_sem, reduceIte, reduceCtorEq, Nat.reduceEqDiff, Nat.reduceAdd, Nat.reduceSub, Nat.reduceMul, Nat.reduceDiv, Nat.reduceMod, Nat.reduceLT, Nat.reduceLeDiff, Nat.reduceBEq, Nat.reducePow, Int.reduceLE, Int.reduceLT, Int.reduceEq, Int.reduceNeg, Int.reduceAdd, Int.reduceToNat, HHs, b1, b2, b3, b5, b10, b15]
            · have h1 := kx.out id o ho
              refine (hpX_pass ?_).trans (hX2 id o ho)
              ((repeat' (first | exact trivial | apply And.intro)) <;> (rintro rfl; simp only at h1; omega))
            · simp only [go_sem, reduceIte, reduceCtorEq, Nat.reduceEqDiff, Nat.reduceAdd, Nat.reduceSub, Nat.reduceMul, Nat.reduceDiv, Nat.reduceMod, Nat.reduceLT, Nat.reduceLeDiff, Nat.reduceBEq, Nat.reducePow, Int.reduceLE, Int.reduceLT, Int.reduceEq, Int.reduceNeg, Int.reduceAdd, Int.reduceToNat]
          · rw [if_pos hc] at hch3
            repeat' (first | refine ReqK.i (by omega) fun _ => ?_ | simp only [go_sem, reduceIte, reduceCtorEq, Nat.reduceEqDiff, Nat.reduceAdd, Nat.reduceSub, Nat.reduceMul, Nat.reduceDiv, Nat.reduceMod, Nat.reduceLT, Nat.reduceLeDiff, Nat.reduceBEq, Nat.reducePow, Int.reduceLE, Int.reduceLT, Int.reduceEq, Int.reduceNeg, Int.reduceAdd, Int.reduceToNat, HHs, h4, hc, agg2, b10, Tryd.f67, Q22, Q21, Q20, Q19, Q18, Q17, Q16, Q15, Q14, Q13, Q12, Q11, Q10, Q9, Q8, Q7, Q6, Q5, Q4, Q3, Q2, Q1, Tbl0])
            refine kb.out (k0.out (by rw [kcw.out, hch3]) hc) hc rfl (by omega) fun id o ho => ?_
            have h1 := kx.out id o ho
            refine (hpX_pass ?_).trans (hX2 id o ho)
            ((repeat' (first | exact trivial | apply And.intro)) <;> (rintro rfl; simp only at h1; omega))
      · have h4' : ¬ kk < c.boxes.length := by omega
        rw [List.drop_of_length_le h4, boxsW] at hch3
        have hch := kh.out
        rw [kcw.out, hch3, if_neg (by simp)] at hch
        repeat' (first | refine ReqK.i (by omega) fun _ => ?_ | simp only [go_sem, reduceIte, reduceCtorEq, Nat.reduceEqDiff, Nat.reduceAdd, Nat.reduceSub, Nat.reduceMul, Nat.reduceDiv, Nat.reduceMod, Nat.reduceLT, Nat.reduceLeDiff, Nat.reduceBEq, Nat.reducePow, Int.reduceLE, Int.reduceLT, Int.reduceEq, Int.reduceNeg, Int.reduceAdd, Int.reduceToNat, HHs, h4', Tryd.f67, Q22, Q21, Q20, Q19, Q18, Q17, Q16, Q15, Q14, Q13, Q12, Q11, Q10, Q9, Q8, Q7, Q6, Q5, Q4, Q3, Q2, Q1, Tbl0])
        refine ⟨⟨j + 1, n3, rs3, g3, n2, m3, by omega, by omega, by omega, hn3, hrs3, hch⟩, by simp only; omega, ?_⟩
        refine Weak_toX ?_ ?_ (fun id o ho => ?_) ?_
        · simp only [go_sem, reduceIte, reduceCtorEq, Nat.reduceEqDiff, Nat.reduceAdd, Nat.reduceSub, Nat.reduceMul, Nat.reduceDiv, Nat.reduceMod, Nat.reduceLT, Nat.reduceLeDiff, Nat.reduceBEq, Nat.reducePow, Int.reduceLE, Int.reduceLT, Int.reduceEq, Int.reduceNeg, Int.reduceAdd, Int.reduceToNat]
        · simp only [go_sem, reduceIte, reduceCtorEq, Nat.reduceEqDiff, Nat.reduceAdd, Nat.reduceSub, Nat.reduceMul, Nat.reduceDiv, Nat.reduceMod, Nat.reduceLT, Nat.reduceLeDiff, Nat.reduceBEq, Nat.reducePow, Int.reduceLE, Int.reduceLT, Int.reduceEq, Int.reduceNeg, Int.reduceAdd, Int.reduceToNat, HHs]
        · refine kX.out id o ho fun h1 => ?_
          ((repeat' (first | exact trivial | apply And.intro)) <;> (rintro rfl; simp only at h1; omega))
        · simp only [go_sem, reduceIte, reduceCtorEq, Nat.reduceEqDiff, Nat.reduceAdd, Nat.reduceSub, Nat.reduceMul, Nat.reduceDiv, Nat.reduceMod, Nat.reduceLT, Nat.reduceLeDiff, Nat.reduceBEq, Nat.reducePow, Int.reduceLE, Int.reduceLT, Int.reduceEq, Int.reduceNeg, Int.reduceAdd, Int.reduceToNat]
    · have h2' : ¬ j < b.conds.length := by omega
      rw [List.drop_of_length_le h2, condsW] at hch
      repeat' (first | refine ReqK.i (by omega) fun _ => ?_ | simp only [go_sem, reduceIte, reduceCtorEq, Nat.reduceEqDiff, Nat.reduceAdd, Nat.reduceSub, Nat.reduceMul, Nat.reduceDiv, Nat.reduceMod, Nat.reduceLT, Nat.reduceLeDiff, Nat.reduceBEq, Nat.reducePow, Int.reduceLE, Int.reduceLT, Int.reduceEq, Int.reduceNeg, Int.reduceAdd, Int.reduceToNat, HHs, h2', agg2, Tryd.f67, Q22, Q21, Q20, Q19, Q18, Q17, Q16, Q15, Q14, Q13, Q12, Q11, Q10, Q9, Q8, Q7, Q6, Q5, Q4, Q3, Q2, Q1, Tbl0])
      rw [kQ.out, kB3.out, hch]
      refine ⟨rfl, by omega, fun _ => ⟨g2, by omega, by simp only [go_sem, reduceIte, reduceCtorEq, Nat.reduceEqDiff, Nat.reduceAdd, Nat.reduceSub, Nat.reduceMul, Nat.reduceDiv, Nat.reduceMod, Nat.reduceLT, Nat.reduceLeDiff, Nat.reduceBEq, Nat.reducePow, Int.reduceLE, Int.reduceLT, Int.reduceEq, Int.reduceNeg, Int.reduceAdd, Int.reduceToNat, HHs]⟩, fun id o ho => kX.out id o ho fun h1 => ?_⟩
      ((repeat' (first | exact trivial | apply And.intro)) <;> (rintro rfl; simp only at h1; omega))
end Go.Proofs.YtomhobohcejocaaDoor
