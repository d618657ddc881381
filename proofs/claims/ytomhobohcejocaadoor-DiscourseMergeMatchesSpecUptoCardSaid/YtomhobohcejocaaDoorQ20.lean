import Derived.Test.YtomhobohcejocaaDoorQ19
set_option linter.unusedSimpArgs false
namespace Go.Proofs.YtomhobohcejocaaDoor
open Go Go.Abs Go.Proofs

def T68 (n : Nat) : Tbl := (Tbl0.add 139 (sp1 (fun f : Abs.Form => f) fun f => f.fit = true)).add 68 (sp1 (fun b : Abs.Box => b) fun b => b.size < n ∧ b.fit = true)
theorem T68_of {n : Nat} (hT : TblOk Tryd.prog G0 (Q30.add 68 (sp1 (fun b : Abs.Box => b) fun b => b.size < n ∧ b.fit = true))) : TblOk Tryd.prog G0 (T68 n) := by
  refine TblOk_mono hT fun f t' ht => ?_
  by_cases h1 : f = 68
  · subst h1
    simp only [T68, Tbl.add, if_true, Option.some.injEq] at ht
    subst ht
    exact ⟨_, by simp [Tbl.add], fun xs r c h => ⟨c, h, fun h => h⟩⟩
  by_cases h2 : f = 139
  · subst h2
    simp only [T68, Tbl.add, if_true, if_neg h1, Option.some.injEq] at ht
    subst ht
    exact ⟨_, by simp [Tbl.add, Q30], fun xs r c h => ⟨c, h, fun h => h⟩⟩
  · simp only [T68, Tbl.add, if_neg h1, if_neg h2, Tbl0] at ht
    cases ht

set_option maxRecDepth 100000 in
set_option maxHeartbeats 1000000 in
theorem cloneOwn {n : Nat} (hT : TblOk Tryd.prog G0 (T68 n)) (b : Abs.Box) (hn : b.size = n) (hfit : b.fit = true) (hw : (enc b).Wf) :
    Wcall Tryd.prog G0 68 [.fz (enc b)] (hpL []) 0 (fun d H n' => ∃ g g2, g < n' ∧ g2 < n' ∧ d = .agg [.ow (66007, g) 1 (b.refs.map enc), .ow (68047, g2) 7 (b.conds.map enc)] ∧ H (66007, g) = some tok ∧ H (68047, g2) = some tok) := by
  obtain ⟨Q, hQ⟩ : ∃ Q : D → Heap → Nat → Prop, Q = (fun d H n' => ∃ g g2, g < n' ∧ g2 < n' ∧ d = .agg [.ow (66007, g) 1 (b.refs.map enc), .ow (68047, g2) 7 (b.conds.map enc)] ∧ H (66007, g) = some tok ∧ H (68047, g2) = some tok) := ⟨_, rfl⟩
  rw [← hQ]
  obtain ⟨hrl, hcl, hcf⟩ := Box.fit_eq hfit
  have hsz : ∀ c ∈ b.conds, c.size < n ∧ c.fit = true := fun c hc => ⟨by have := Box.size_sub hc; omega, Cond.fits_mem hcf hc⟩
  have hwr : (enc b.refs).Wf := by
    have h := hw
    rw [enc_box] at h
    exact Wf_agg h (FD.sl (b.refs.map enc)) (by simp)
  have kq := Kp.mk hQ
  have kz := Kp.mk hsz
  have kT := Kp.mk hT
  have kw := Kp.mk hwr
  clear hsz hT hcf hfit hn hw hwr hQ
  refine Wcall_K (N := 51) hm kT.out 68000 (lsw [40, 47] [1000005]) ok68 Tryd.func68 rfl rfl (by simp) (by kernel_rfl) ?_
  repeat' (first | refine ReqK.i (by omega) fun _ => ?_ | simp only [go_sem, reduceIte, reduceCtorEq, Nat.reduceEqDiff, Nat.reduceAdd, Nat.reduceSub, Nat.reduceMul, Nat.reduceDiv, Nat.reduceMod, Nat.reduceLT, Nat.reduceLeDiff, Nat.reduceBEq, Nat.reducePow, Int.reduceLE, Int.reduceLT, Int.reduceEq, Int.reduceNeg, Int.reduceAdd, Int.reduceToNat, Tryd.f68, T68, Tbl0])
  refine WcallK.i (Wcall_own1 rfl (cloneStrs (by omega) kw.out) fun g n1 hg1 hg2 => ?_)
  repeat' (first | refine ReqK.i (by omega) fun _ => ?_ | simp only [go_sem, reduceIte, reduceCtorEq, Nat.reduceEqDiff, Nat.reduceAdd, Nat.reduceSub, Nat.reduceMul, Nat.reduceDiv, Nat.reduceMod, Nat.reduceLT, Nat.reduceLeDiff, Nat.reduceBEq, Nat.reducePow, Int.reduceLE, Int.reduceLT, Int.reduceEq, Int.reduceNeg, Int.reduceAdd, Int.reduceToNat, Tryd.f68, T68, Tbl0])
  refine WK_loop hm kT.out 68000 (lsw [40, 47] [1000005]) (ι := LoopG b.conds.length (n1 + 2) fun _ => True)
    ⟨fun q => ⟨frL [(2, .ptr (68002, 1) 0), (3, .ptr (68003, n1) 0), (14, .fz (.sl (b.conds.map enc))), (15, .fz (.i .i64 b.conds.length)), (16, .fz (.i .i64 q.i))],
      hpL [((68002, 1), some ⟨[.full [], .full []], true, false⟩), ((68003, n1), some ⟨[.ow (66007, g) 1 (b.refs.map enc), .ow (68047, q.g) 7 ((b.conds.take q.i).map enc)], true, false⟩),
        ((66007, g), some tok), ((68047, q.g), some tok)], q.m⟩, fun q => b.conds.length - q.i⟩
    ⟨0, n1 + 1, n1 + 2, by omega, by omega, by omega, trivial⟩ (by kernel_rfl) ?_ ?_
  · refine Weak_g [] [(68047, n1 + 1)] [] ?_ ?_ ?_ ?_ ?_ <;> simp only [go_sem, reduceIte, reduceCtorEq, Nat.reduceEqDiff, Nat.reduceAdd, Nat.reduceSub, Nat.reduceMul, Nat.reduceDiv, Nat.reduceMod, Nat.reduceLT, Nat.reduceLeDiff, Nat.reduceBEq, Nat.reducePow, Int.reduceLE, Int.reduceLT, Int.reduceEq, Int.reduceNeg, Int.reduceAdd, Int.reduceToNat]
    all_goals first | done | rfl | omega | trace_state
  rintro ⟨i, g2, m, hi, hg, hm4, _⟩
  rcases Nat.lt_or_ge i b.conds.length with h1 | h1
  · obtain ⟨c, hx⟩ : ∃ c, b.conds[i] = c := ⟨_, rfl⟩
    obtain ⟨hc1, hc2⟩ := kz.out c (by rw [← hx]; exact List.getElem_mem h1)
    obtain ⟨hcf, hbl, hbf⟩ := Cond.fit_eq hc2
    have hbs : ∀ x ∈ c.boxes, x.size < n ∧ x.fit = true := fun x hx => ⟨by have := Cond.size_sub hx; omega, Box.fits_mem hbf hx⟩
    have kb := Kp.mk hbs
    clear hbs
    have e3 := List.take_succ_eq_append_getElem h1
    rw [hx] at e3
    repeat' (first | refine ReqK.i (by omega) fun _ => ?_ | refine WK_drawF hm kT.out 68000 (lsw [40, 47] [1000005]) (by kernel_rfl) ?_ | simp only [go_sem, reduceIte, reduceCtorEq, Nat.reduceEqDiff, Nat.reduceAdd, Nat.reduceSub, Nat.reduceMul, Nat.reduceDiv, Nat.reduceMod, Nat.reduceLT, Nat.reduceLeDiff, Nat.reduceBEq, Nat.reducePow, Int.reduceLE, Int.reduceLT, Int.reduceEq, Int.reduceNeg, Int.reduceAdd, Int.reduceToNat, h1, hx, hcf, getD_map_lt, Tryd.f68, T68, Tbl0])
    refine WK_loop hm kT.out 68000 (lsw [40, 47] [1000005]) (ι := LoopG c.boxes.length (m + 3) fun _ => True)
      ⟨fun q => ⟨frL [(2, .ptr (68002, 1) 0), (3, .ptr (68003, n1) 0), (6, .ptr (68006, m + 1) 0), (14, .fz (.sl (b.conds.map enc))), (15, .fz (.i .i64 b.conds.length)), (16, .fz (.i .i64 i)), (29, .fz (.sl (c.boxes.map enc))), (30, .fz (.i .i64 c.boxes.length)), (31, .fz (.i .i64 q.i))],
        hpL [((68006, m + 1), some ⟨[.fz (.i .i64 c.kind), .fz (.s c.name.l), .fz (.i .i64 c.form.kind), .fz (.s c.form.name.l), .fz (.sl (c.form.words.map enc)), .fz (.sl (c.form.subs.map enc)), .ow (68040, q.g) 2 ((c.boxes.take q.i).map enc)], true, false⟩), ((68040, q.g), some tok),
          ((68002, 1), some ⟨[.full [], .full []], true, false⟩), ((68003, n1), some ⟨[.ow (66007, g) 1 (b.refs.map enc), .ow (68047, g2) 7 ((b.conds.take i).map enc)], true, false⟩),
          ((66007, g), some tok), ((68047, g2), some tok)], q.m⟩, fun q => c.boxes.length - q.i⟩
      ⟨0, m + 2, m + 3, by omega, by omega, by omega, trivial⟩ (by kernel_rfl) ?_ ?_
    · refine Weak_g [] [(68040, m + 2)] [] ?_ ?_ ?_ ?_ ?_ <;> simp only [go_sem, reduceIte, reduceCtorEq, Nat.reduceEqDiff, Nat.reduceAdd, Nat.reduceSub, Nat.reduceMul, Nat.reduceDiv, Nat.reduceMod, Nat.reduceLT, Nat.reduceLeDiff, Nat.reduceBEq, Nat.reducePow, Int.reduceLE, Int.reduceLT, Int.reduceEq, Int.reduceNeg, Int.reduceAdd, Int.reduceToNat]
      all_goals first | done | rfl | omega | trace_state
    rintro ⟨k, g3, m3, hk, hg3, hm3, _⟩
    rcases Nat.lt_or_ge k c.boxes.length with h2 | h2
    · obtain ⟨x, hxk⟩ : ∃ x, c.boxes[k] = x := ⟨_, rfl⟩
      obtain ⟨hx1, hx2⟩ := kb.out x (by rw [← hxk]; exact List.getElem_mem h2)
      have e4 := List.take_succ_eq_append_getElem h2
      rw [hxk] at e4
      repeat' (first | refine ReqK.i (by omega) fun _ => ?_ | refine ReqK.i (by unfold maxL; omega) fun _ => ?_ | refine ReqK.i (fits_of2 (by first | omega | (rw [List.length_take]; omega)) (by decide)) fun _ => ?_ | refine ReqK.i ⟨hx1, hx2⟩ fun _ => ?_ | simp only [go_sem, reduceIte, reduceCtorEq, Nat.reduceEqDiff, Nat.reduceAdd, Nat.reduceSub, Nat.reduceMul, Nat.reduceDiv, Nat.reduceMod, Nat.reduceLT, Nat.reduceLeDiff, Nat.reduceBEq, Nat.reducePow, Int.reduceLE, Int.reduceLT, Int.reduceEq, Int.reduceNeg, Int.reduceAdd, Int.reduceToNat, h2, hxk, hx1, hx2, getD_map_lt, Tryd.f68, T68, Tbl0])
      refine ⟨⟨k + 1, m3 + 1, m3 + 1 + 1, by omega, by omega, by omega, trivial⟩, by simp only; omega, ?_⟩
      refine Weak_to ?_ ?_ ?_ <;> simp only [go_sem, reduceIte, reduceCtorEq, Nat.reduceEqDiff, Nat.reduceAdd, Nat.reduceSub, Nat.reduceMul, Nat.reduceDiv, Nat.reduceMod, Nat.reduceLT, Nat.reduceLeDiff, Nat.reduceBEq, Nat.reducePow, Int.reduceLE, Int.reduceLT, Int.reduceEq, Int.reduceNeg, Int.reduceAdd, Int.reduceToNat, e4, List.map_append]
    · obtain rfl : k = c.boxes.length := by omega
      repeat' (first | refine ReqK.i (by omega) fun _ => ?_ | refine ReqK.i (by unfold maxL; omega) fun _ => ?_ | refine ReqK.i (fits_of2 (by first | omega | (rw [List.length_take]; omega)) (by decide)) fun _ => ?_ | simp only [go_sem, reduceIte, reduceCtorEq, Nat.reduceEqDiff, Nat.reduceAdd, Nat.reduceSub, Nat.reduceMul, Nat.reduceDiv, Nat.reduceMod, Nat.reduceLT, Nat.reduceLeDiff, Nat.reduceBEq, Nat.reducePow, Int.reduceLE, Int.reduceLT, Int.reduceEq, Int.reduceNeg, Int.reduceAdd, Int.reduceToNat, Nat.lt_irrefl, List.take_length, Tryd.f68, T68, Tbl0])
      refine ⟨⟨i + 1, m3, m3 + 1, by omega, by omega, by omega, trivial⟩, by simp only; omega, ?_⟩
      refine Weak_to ?_ ?_ ?_ <;> simp only [go_sem, reduceIte, reduceCtorEq, Nat.reduceEqDiff, Nat.reduceAdd, Nat.reduceSub, Nat.reduceMul, Nat.reduceDiv, Nat.reduceMod, Nat.reduceLT, Nat.reduceLeDiff, Nat.reduceBEq, Nat.reducePow, Int.reduceLE, Int.reduceLT, Int.reduceEq, Int.reduceNeg, Int.reduceAdd, Int.reduceToNat, e3, List.map_append]
  · obtain rfl : i = b.conds.length := by omega
    repeat' (first | refine ReqK.i (by omega) fun _ => ?_ | simp only [go_sem, reduceIte, reduceCtorEq, Nat.reduceEqDiff, Nat.reduceAdd, Nat.reduceSub, Nat.reduceMul, Nat.reduceDiv, Nat.reduceMod, Nat.reduceLT, Nat.reduceLeDiff, Nat.reduceBEq, Nat.reducePow, Int.reduceLE, Int.reduceLT, Int.reduceEq, Int.reduceNeg, Int.reduceAdd, Int.reduceToNat, Nat.lt_irrefl, List.take_length, Tryd.f68])
    rw [kq.out]
    exact ⟨g, g2, by omega, by omega, rfl, by simp only [go_sem, reduceIte, reduceCtorEq, Nat.reduceEqDiff, Nat.reduceAdd, Nat.reduceSub, Nat.reduceMul, Nat.reduceDiv, Nat.reduceMod, Nat.reduceLT, Nat.reduceLeDiff, Nat.reduceBEq, Nat.reducePow, Int.reduceLE, Int.reduceLT, Int.reduceEq, Int.reduceNeg, Int.reduceAdd, Int.reduceToNat], by simp only [go_sem, reduceIte, reduceCtorEq, Nat.reduceEqDiff, Nat.reduceAdd, Nat.reduceSub, Nat.reduceMul, Nat.reduceDiv, Nat.reduceMod, Nat.reduceLT, Nat.reduceLeDiff, Nat.reduceBEq, Nat.reducePow, Int.reduceLE, Int.reduceLT, Int.reduceEq, Int.reduceNeg, Int.reduceAdd, Int.reduceToNat]⟩

def Q31 : Tbl := Q30.add 68 (sp1 (fun b : Abs.Box => b) fun b => b.fit = true)
theorem hQ31 : TblOk Tryd.prog G0 Q31 := by
  refine sp1_rec Box.size ok68 hQ30 fun n hT b hn hfit hw => ?_
  refine Wcall_mono (cloneOwn (T68_of hT) b hn hfit hw) ?_
  rintro d H n' ⟨g, g2, _, _, rfl, _, _⟩
  rw [enc_box]
  rfl
/-- a copy of a box, as rows of its own -/
theorem cloneBox {b : Abs.Box} (hfit : b.fit = true) (hw : (enc b).Wf) : Wcall Tryd.prog G0 68 [.fz (.agg [.sl (b.refs.map enc), .sl (b.conds.map enc)])] H0 0 (fun d H n' => ∃ g g2, g < n' ∧ g2 < n' ∧ d = .agg [.ow (66007, g) 1 (b.refs.map enc), .ow (68047, g2) 7 (b.conds.map enc)] ∧ H (66007, g) = some tok ∧ H (68047, g2) = some tok) := by
  rw [H0_eq]
  have hT : TblOk Tryd.prog G0 (Q30.add 68 (sp1 (fun b : Abs.Box => b) fun a => a.size < b.size ∧ a.fit = true)) := by
    refine TblOk_mono hQ31 fun f t' ht => ?_
    by_cases h1 : f = 68
    · subst h1
      simp only [Tbl.add, if_true, Option.some.injEq] at ht
      subst ht
      refine ⟨sp1 (fun b : Abs.Box => b) fun b => b.fit = true, by simp only [Q31, Tbl.add, if_true], fun xs r c h => ?_⟩
      unfold sp1 at h ⊢
      split at h
      · simp only [Option.some.injEq, Prod.mk.injEq] at h
        obtain ⟨rfl, rfl⟩ := h
        exact ⟨_, rfl, fun h => ⟨h.1, h.2.2⟩⟩
      · cases h
    · simp only [Tbl.add, if_neg h1] at ht
      exact ⟨t', by simp only [Q31, Tbl.add, if_neg h1]; exact ht, fun xs r c h => ⟨c, h, fun h => h⟩⟩
  have h := cloneOwn (T68_of hT) b rfl hfit hw
  rw [enc_box] at h
  exact h
end Go.Proofs.YtomhobohcejocaaDoor
