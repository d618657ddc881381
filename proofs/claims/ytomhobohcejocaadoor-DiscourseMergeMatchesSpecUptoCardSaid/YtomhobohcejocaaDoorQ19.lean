import Derived.Test.YtomhobohcejocaaDoorQ18
set_option linter.unusedSimpArgs false
namespace Go.Abs
mutual
def Form.fit : Form → Bool
  | .mk _ _ w s => decide (w.length ≤ 1000) && decide (s.length ≤ 1000) && Form.fits s
def Form.fits : List Form → Bool
  | [] => true
  | f :: fs => f.fit && Form.fits fs
end
mutual
def Box.fit : Box → Bool
  | .mk r cs => decide (r.length ≤ 1000) && decide (cs.length ≤ 1000) && Cond.fits cs
def Cond.fit : Cond → Bool
  | .mk _ _ f bs => f.fit && decide (bs.length ≤ 1000) && Box.fits bs
def Box.fits : List Box → Bool
  | [] => true
  | b :: bs => b.fit && Box.fits bs
def Cond.fits : List Cond → Bool
  | [] => true
  | c :: cs => c.fit && Cond.fits cs
end
theorem Form.fits_mem : ∀ {l : List Form} {f : Form}, Form.fits l = true → f ∈ l → f.fit = true
  | g :: l, f, h, hm => by
    rw [Form.fits, Bool.and_eq_true] at h
    rcases List.mem_cons.1 hm with rfl | hm
    · exact h.1
    · exact Form.fits_mem h.2 hm
theorem Box.fits_mem : ∀ {l : List Box} {f : Box}, Box.fits l = true → f ∈ l → f.fit = true
  | g :: l, f, h, hm => by
    rw [Box.fits, Bool.and_eq_true] at h
    rcases List.mem_cons.1 hm with rfl | hm
    · exact h.1
    · exact Box.fits_mem h.2 hm
theorem Cond.fits_mem : ∀ {l : List Cond} {f : Cond}, Cond.fits l = true → f ∈ l → f.fit = true
  | g :: l, f, h, hm => by
    rw [Cond.fits, Bool.and_eq_true] at h
    rcases List.mem_cons.1 hm with rfl | hm
    · exact h.1
    · exact Cond.fits_mem h.2 hm
theorem Form.fit_eq {f : Form} (h : f.fit = true) : f.words.length ≤ 1000 ∧ f.subs.length ≤ 1000 ∧ Form.fits f.subs = true := by
  cases f; rw [Form.fit] at h
  simp only [Bool.and_eq_true, decide_eq_true_eq] at h
  exact ⟨h.1.1, h.1.2, h.2⟩
theorem Box.fit_eq {b : Box} (h : b.fit = true) : b.refs.length ≤ 1000 ∧ b.conds.length ≤ 1000 ∧ Cond.fits b.conds = true := by
  cases b; rw [Box.fit] at h
  simp only [Bool.and_eq_true, decide_eq_true_eq] at h
  exact ⟨h.1.1, h.1.2, h.2⟩
theorem Cond.fit_eq {c : Cond} (h : c.fit = true) : c.form.fit = true ∧ c.boxes.length ≤ 1000 ∧ Box.fits c.boxes = true := by
  cases c; rw [Cond.fit] at h
  simp only [Bool.and_eq_true, decide_eq_true_eq] at h
  exact ⟨h.1.1, h.1.2, h.2⟩
theorem nodeC_fit {op : Bool} {f : Form} {d : Int} {n : Nat} (h : nodeC op f d n = 0) : f.words.length ≤ 1000 ∧ f.subs.length ≤ 1000 := by
  unfold nodeC at h
  split at h
  · simp at h
  split at h
  · simp at h
  split at h
  · simp at h
  rename_i h1 h2 h3
  have h4 := Decidable.not_not.1 h3
  have h5 : partsK op f ≤ 2 := by
    unfold partsK subsK
    repeat' (split <;> try decide)
  have h6 := h4.2
  unfold wordsOk at h6
  refine ⟨?_, by omega⟩
  split at h6
  · simp only [decide_eq_true_eq] at h6; omega
  split at h6
  · simp only [decide_eq_true_eq] at h6; omega
  · simp only [decide_eq_true_eq] at h6; omega
mutual
theorem chk_fit {op : Bool} : ∀ (f : Form) (d : Int) (n : Nat), (chk op f d n).1.code = 0 → f.fit = true
  | .mk k nm w s, d, n, h => by
    rw [chk] at h
    split at h
    · rename_i h1; exact absurd h h1
    rename_i h1
    have h2 := nodeC_fit (Decidable.not_not.1 h1)
    rw [Form.fit]
    simp only [Bool.and_eq_true, decide_eq_true_eq]
    exact ⟨h2, chks_fit s _ _ h⟩
theorem chks_fit {op : Bool} : ∀ (fs : List Form) (d : Int) (n : Nat), (chks op fs d n).1.code = 0 → Form.fits fs = true
  | [], _, _, _ => by rw [Form.fits]
  | f :: fs, d, n, h => by
    rw [chks] at h
    split at h
    · rename_i h1; exact absurd h h1
    rename_i h1
    rw [Form.fits, Bool.and_eq_true]
    exact ⟨chk_fit f d n (Decidable.not_not.1 h1), chks_fit fs _ _ h⟩
end
theorem checkM_fit {op : Bool} {f : Form} (h : (checkM op f).code = 0) : f.fit = true := chk_fit f 1 0 h
theorem noForm_fit {f : Form} (h : noForm f = true) : f.fit = true := by
  unfold noForm at h
  simp only [Bool.and_eq_true, decide_eq_true_eq] at h
  obtain ⟨⟨⟨_, _⟩, h3⟩, h4⟩ := h
  obtain ⟨k, nm, w, s⟩ := f
  simp only [form_words, form_subs] at h3 h4
  obtain rfl := List.eq_nil_of_length_eq_zero h3
  obtain rfl := List.eq_nil_of_length_eq_zero h4
  rw [Form.fit, Form.fits]; rfl
theorem condC_fit {c : Cond} {refs : List Str} (h : condC c refs = 0) : c.form.fit = true ∧ c.boxes.length ≤ 1000 := by
  unfold condC at h
  split at h
  · simp at h
  split at h
  · simp at h
  split at h
  · simp at h
  rename_i h1 h2 h3
  have hb : boxesK c.kind ≤ 2 := by unfold boxesK; repeat' (split <;> try decide)
  refine ⟨?_, by omega⟩
  split at h
  · rename_i h4
    cases hf : noForm c.form with
    | true => exact noForm_fit hf
    | false => exact absurd (.inr ⟨h4, hf⟩) h3
  · split at h
    · rename_i h5; exact absurd h h5
    · rename_i h5; exact checkM_fit (Decidable.not_not.1 h5)
mutual
theorem boxW_fit : ∀ (b : Box) (d m : Int) (n : Nat) (refs : List Str), (boxW b d m n refs).e.code = 0 → b.fit = true
  | .mk r cs, d, m, n, refs, h => by
    rw [boxW] at h
    split at h
    · simp at h
    split at h
    · simp at h
    rename_i h1 h2
    split at h
    · rename_i h3; exact absurd h h3
    rename_i h3
    obtain ⟨g1, g2⟩ := condsW_fit r cs d _ _ (by omega) h
    rw [Box.fit]
    simp only [Bool.and_eq_true, decide_eq_true_eq]
    exact ⟨⟨by omega, by omega⟩, g2⟩
theorem condsW_fit : ∀ (r : List Str) (cs : List Cond) (d : Int) (n : Nat) (refs : List Str), n ≤ 200 → (condsW r cs d n refs).e.code = 0 → n + cs.length ≤ 200 ∧ Cond.fits cs = true
  | r, [], d, n, refs, hn, _ => ⟨by simpa using hn, by rw [Cond.fits]⟩
  | r, c :: cs, d, n, refs, hn, h => by
    rw [condsW] at h
    split at h
    · rename_i h3; exact absurd h h3
    rename_i h3
    obtain ⟨g1, g2, g3⟩ := condW_fit r c d n refs (Decidable.not_not.1 h3)
    obtain ⟨k1, k2⟩ := condsW_fit r cs d _ _ g3 h
    rw [Cond.fits, Bool.and_eq_true, List.length_cons]
    exact ⟨by omega, g1, k2⟩
theorem condW_fit : ∀ (r : List Str) (c : Cond) (d : Int) (n : Nat) (refs : List Str), (condW r c d n refs).e.code = 0 → c.fit = true ∧ n + 1 ≤ (condW r c d n refs).n ∧ (condW r c d n refs).n ≤ 200
  | r, .mk k nm f bs, d, n, refs, h => by
    rw [condW] at h ⊢
    split at h
    · simp at h
    rename_i h3
    rw [if_neg h3]
    split at h
    · rename_i h4; exact absurd h h4
    rename_i h4
    rw [if_neg h4]
    obtain ⟨c1, c2⟩ := condC_fit (Decidable.not_not.1 h4)
    obtain ⟨g1, g2, g3⟩ := boxsW_fit bs (d + 1) (if k = 6 then 2 else 200) (n + 1) refs (by omega) h
    refine ⟨?_, g2, g3⟩
    rw [Cond.fit]
    simp only [Bool.and_eq_true, decide_eq_true_eq]
    exact ⟨⟨c1, c2⟩, g1⟩
theorem boxsW_fit : ∀ (bs : List Box) (d m : Int) (n : Nat) (refs : List Str), n ≤ 200 → (boxsW bs d m n refs).e.code = 0 → Box.fits bs = true ∧ n ≤ (boxsW bs d m n refs).n ∧ (boxsW bs d m n refs).n ≤ 200
  | [], d, m, n, refs, hn, _ => by rw [boxsW]; exact ⟨by rw [Box.fits], Nat.le_refl _, hn⟩
  | b :: bs, d, m, n, refs, hn, h => by
    rw [boxsW] at h ⊢
    split at h
    · rename_i h3; exact absurd h h3
    rename_i h3
    rw [if_neg h3]
    have hb := Decidable.not_not.1 h3
    have g1 := boxW_fit b d m n refs hb
    have g2 := boxW_n b d m n refs hb
    obtain ⟨k1, k2, k3⟩ := boxsW_fit bs d m _ _ g2.2 h
    rw [Box.fits, Bool.and_eq_true]
    exact ⟨⟨g1, k1⟩, by omega, k3⟩
theorem boxW_n : ∀ (b : Box) (d m : Int) (n : Nat) (refs : List Str), (boxW b d m n refs).e.code = 0 → n + 1 ≤ (boxW b d m n refs).n ∧ (boxW b d m n refs).n ≤ 200
  | .mk r cs, d, m, n, refs, h => by
    rw [boxW] at h ⊢
    split at h
    · simp at h
    rename_i h1
    rw [if_neg h1]
    split at h
    · simp at h
    rename_i h2
    rw [if_neg h2]
    split at h
    · rename_i h3; exact absurd h h3
    rename_i h3
    rw [if_neg h3]
    exact condsW_n r cs d _ _ (by omega) h
theorem condsW_n : ∀ (r : List Str) (cs : List Cond) (d : Int) (n : Nat) (refs : List Str), n ≤ 200 → (condsW r cs d n refs).e.code = 0 → n ≤ (condsW r cs d n refs).n ∧ (condsW r cs d n refs).n ≤ 200
  | r, [], d, n, refs, hn, _ => by rw [condsW]; exact ⟨Nat.le_refl _, hn⟩
  | r, c :: cs, d, n, refs, hn, h => by
    rw [condsW] at h ⊢
    split at h
    · rename_i h3; exact absurd h h3
    rename_i h3
    rw [if_neg h3]
    obtain ⟨g1, g2, g3⟩ := condW_fit r c d n refs (Decidable.not_not.1 h3)
    have := condsW_n r cs d _ _ g3 h
    exact ⟨by omega, this.2⟩
end
theorem boxM_fit {b : Box} (h : (boxM b).code = 0) : b.fit = true := boxW_fit b 1 200 0 [] h
end Go.Abs
namespace Go.Proofs.YtomhobohcejocaaDoor
open Go Go.Abs Go.Proofs

/-! ## a call that makes a row of its own -/
section
variable {P : Program} {G : Nat → List FD}
theorem Wcall_own1 {f : FuncId} {args : List D} {xs ys : List FD} {H : Heap} {n t es : Nat} {R : D → Heap → Nat → Prop} (ha : D.toFDs args = some xs)
    (h : Wcall P G f (xs.map .fz) H0 0 (fun d H1 n1 => ∃ g, g < n1 ∧ d = .ow (t, g) es ys ∧ H1 (t, g) = some tok)) (hR : ∀ g n', n ≤ g → g < n' → R (.ow (t, g) es ys) (hpX [((t, g), some tok)] H) n') : Wcall P G f args H n R := by
  refine Wcall_fresh h.1 fun hfr => Wcall_post (Wcall_own ha h) ?_
  rintro d H' n' ⟨d1, H1, n1, ⟨g, hg, rfl, ho⟩, rfl, rfl, rfl⟩
  have hsh : shH n H H1 (t, g + n) = some tok := by
    unfold shH
    rw [if_pos (by simp), show (t, g + n - n) = (t, g) by rw [Nat.add_sub_cancel], ho]
    rfl
  refine ⟨.ow (t, g + n) es ys, hpX [((t, g + n), some tok)] H, n + n1, Weak_toH ?_ (fun id o hid => ?_) (Nat.le_refl _), hR (g + n) (n + n1) (by omega) (by omega)⟩
  · exact ⟨rfl, trivial⟩
  · simp only [hpX] at hid
    split at hid
    · rename_i e; subst e; rw [← hid]; exact hsh
    · have hlt : id.2 < n := by
        rcases Nat.lt_or_ge id.2 n with h3 | h3
        · exact h3
        · rw [hfr id h3] at hid; cases hid
      show shH n H H1 id = some o
      unfold shH
      rw [if_neg (by omega)]
      exact hid
/-- two rows of its own, in a struct -/
theorem Wcall_own2 {f : FuncId} {args : List D} {xs ys zs : List FD} {H : Heap} {n t es t2 es2 : Nat} {R : D → Heap → Nat → Prop} (ha : D.toFDs args = some xs)
    (h : Wcall P G f (xs.map .fz) H0 0 (fun d H1 n1 => ∃ g g2, g < n1 ∧ g2 < n1 ∧ d = .agg [.ow (t, g) es ys, .ow (t2, g2) es2 zs] ∧ H1 (t, g) = some tok ∧ H1 (t2, g2) = some tok))
    (hR : ∀ g g2 n', n ≤ g → g < n' → n ≤ g2 → g2 < n' → R (.agg [.ow (t, g) es ys, .ow (t2, g2) es2 zs]) (hpX [((t, g), some tok), ((t2, g2), some tok)] H) n') : Wcall P G f args H n R := by
  refine Wcall_fresh h.1 fun hfr => Wcall_post (Wcall_own ha h) ?_
  rintro d H' n' ⟨d1, H1, n1, ⟨g, g2, hg, hg2, rfl, ho, ho2⟩, rfl, rfl, rfl⟩
  have hsh : shH n H H1 (t, g + n) = some tok := by
    unfold shH
    rw [if_pos (by simp), show (t, g + n - n) = (t, g) by rw [Nat.add_sub_cancel], ho]
    rfl
  have hsh2 : shH n H H1 (t2, g2 + n) = some tok := by
    unfold shH
    rw [if_pos (by simp), show (t2, g2 + n - n) = (t2, g2) by rw [Nat.add_sub_cancel], ho2]
    rfl
  refine ⟨.agg [.ow (t, g + n) es ys, .ow (t2, g2 + n) es2 zs], hpX [((t, g + n), some tok), ((t2, g2 + n), some tok)] H, n + n1, Weak_toH ?_ (fun id o hid => ?_) (Nat.le_refl _), hR (g + n) (g2 + n) (n + n1) (by omega) (by omega) (by omega) (by omega)⟩
  · exact ⟨rfl, trivial⟩
  · simp only [hpX] at hid
    split at hid
    · rename_i e; subst e; rw [← hid]; exact hsh
    split at hid
    · rename_i e; subst e; rw [← hid]; exact hsh2
    · have hlt : id.2 < n := by
        rcases Nat.lt_or_ge id.2 n with h3 | h3
        · exact h3
        · rw [hfr id h3] at hid; cases hid
      show shH n H H1 id = some o
      unfold shH
      rw [if_neg (by omega)]
      exact hid
end

/-! a copy of a row of words, as a row of its own -/
set_option maxRecDepth 100000 in
set_option maxHeartbeats 1000000 in
theorem cloneStrs {l : List Str} (hl : l.length ≤ 1000000) (hw : (enc l).Wf) : Wcall Tryd.prog G0 66 [.fz (.sl (l.map enc))] H0 0 (fun d H n => ∃ g, g < n ∧ d = .ow (66007, g) 1 (l.map enc) ∧ H (66007, g) = some tok) := by
  rw [H0_eq]
  obtain ⟨Q, hQ⟩ : ∃ Q : D → Heap → Nat → Prop, Q = (fun d H n => (d = .full [] ∧ l = [] ∧ n = 0 ∧ H = hpL []) ∨ ∃ g, g < n ∧ d = .ow (66007, g) 1 (l.map enc) ∧ H (66007, g) = some tok) := ⟨_, rfl⟩
  have key : Wcall Tryd.prog G0 66 [.fz (.sl (l.map enc))] (hpL []) 0 Q := by
    refine Wcall_K (N := 8) hm hQ6 66000 (lsw [7] []) ok66 Tryd.func66 rfl rfl (by simp) (by kernel_rfl) ?_
    simp only [go_sem, reduceIte, reduceCtorEq, Nat.reduceEqDiff, Nat.reduceAdd, Nat.reduceSub, Nat.reduceMul, Nat.reduceDiv, Nat.reduceMod, Nat.reduceLT, Nat.reduceLeDiff, Nat.reduceBEq, Nat.reducePow, Int.reduceLE, Int.reduceLT, Int.reduceEq, Int.reduceNeg, Int.reduceAdd, Int.reduceToNat]
    refine AllN.i fun b hb => ?_
    cases b
    · repeat' (first | refine ReqK.i (by omega) fun _ => ?_ | refine ReqK.i (fits_of2 (by omega) (by decide)) fun _ => ?_ | refine ReqK.i (by unfold maxL; omega) fun _ => ?_ | simp only [go_sem, reduceIte, reduceCtorEq, Nat.reduceEqDiff, Nat.reduceAdd, Nat.reduceSub, Nat.reduceMul, Nat.reduceDiv, Nat.reduceMod, Nat.reduceLT, Nat.reduceLeDiff, Nat.reduceBEq, Nat.reducePow, Int.reduceLE, Int.reduceLT, Int.reduceEq, Int.reduceNeg, Int.reduceAdd, Int.reduceToNat, Tryd.f66])
      rw [hQ]
      exact .inr ⟨0, by omega, by simp only [go_sem, reduceIte, reduceCtorEq, Nat.reduceEqDiff, Nat.reduceAdd, Nat.reduceSub, Nat.reduceMul, Nat.reduceDiv, Nat.reduceMod, Nat.reduceLT, Nat.reduceLeDiff, Nat.reduceBEq, Nat.reducePow, Int.reduceLE, Int.reduceLT, Int.reduceEq, Int.reduceNeg, Int.reduceAdd, Int.reduceToNat], by simp only [go_sem, reduceIte, reduceCtorEq, Nat.reduceEqDiff, Nat.reduceAdd, Nat.reduceSub, Nat.reduceMul, Nat.reduceDiv, Nat.reduceMod, Nat.reduceLT, Nat.reduceLeDiff, Nat.reduceBEq, Nat.reducePow, Int.reduceLE, Int.reduceLT, Int.reduceEq, Int.reduceNeg, Int.reduceAdd, Int.reduceToNat]⟩
    · have : l = [] := List.eq_nil_of_length_eq_zero (hb rfl)
      subst this
      repeat' (first | refine ReqK.i (by omega) fun _ => ?_ | simp only [go_sem, reduceIte, reduceCtorEq, Nat.reduceEqDiff, Nat.reduceAdd, Nat.reduceSub, Nat.reduceMul, Nat.reduceDiv, Nat.reduceMod, Nat.reduceLT, Nat.reduceLeDiff, Nat.reduceBEq, Nat.reducePow, Int.reduceLE, Int.reduceLT, Int.reduceEq, Int.reduceNeg, Int.reduceAdd, Int.reduceToNat, Tryd.f66])
      rw [hQ]
      exact .inl ⟨rfl, rfl, rfl, rfl⟩
  refine Wcall_post key ?_
  rw [hQ]
  rintro d H n (⟨rfl, rfl, rfl, rfl⟩ | ⟨g, hg, rfl, ho⟩)
  · refine ⟨.ow (66007, 0) 1 [], hpL [((66007, 0), some tok)], 1, ?_, 0, by omega, rfl, by simp only [go_sem, reduceIte, reduceCtorEq, Nat.reduceEqDiff, Nat.reduceAdd, Nat.reduceSub, Nat.reduceMul, Nat.reduceDiv, Nat.reduceMod, Nat.reduceLT, Nat.reduceLeDiff, Nat.reduceBEq, Nat.reducePow, Int.reduceLE, Int.reduceLT, Int.reduceEq, Int.reduceNeg, Int.reduceAdd, Int.reduceToNat]⟩
    refine Weak_g [] [(66007, 0)] [] ?_ ?_ ?_ ?_ ?_ <;> simp only [go_sem, reduceIte, reduceCtorEq, Nat.reduceEqDiff, Nat.reduceAdd, Nat.reduceSub, Nat.reduceMul, Nat.reduceDiv, Nat.reduceMod, Nat.reduceLT, Nat.reduceLeDiff, Nat.reduceBEq, Nat.reducePow, Int.reduceLE, Int.reduceLT, Int.reduceEq, Int.reduceNeg, Int.reduceAdd, Int.reduceToNat]
    all_goals first | done | rfl
  · exact ⟨_, H, n, Weak_toH ⟨rfl, trivial⟩ (fun _ _ h => h) (Nat.le_refl _), g, hg, rfl, ho⟩

def Q30 : Tbl := Q28.add 139 (sp1 (fun f : Abs.Form => f) fun f => f.fit = true)
set_option maxRecDepth 100000 in
set_option maxHeartbeats 1000000 in
theorem hQ30 : TblOk Tryd.prog G0 Q30 := by
  refine sp1_rec Form.size ok139 hQ28 fun n hT f hn hfit hw => ?_
  obtain ⟨hwl, hsl, hfs⟩ := Form.fit_eq hfit
  have hsz : ∀ g ∈ f.subs, g.size < n ∧ g.fit = true := fun g hg => ⟨by have := Form.size_sub hg; omega, Form.fits_mem hfs hg⟩
  have kz := Kp.mk hsz
  have kT := Kp.mk hT
  clear hsz hT hfs hfit hn hw
  refine Wcall_K (N := 30) hm kT.out 139000 (lsw [26] [1000001]) ok139 Tryd.func139 rfl rfl (by simp) (by kernel_rfl) ?_
  repeat' (first | refine ReqK.i (by omega) fun _ => ?_ | refine WK_drawF hm kT.out 139000 (lsw [26] [1000001]) (by kernel_rfl) ?_ | simp only [go_sem, reduceIte, reduceCtorEq, Nat.reduceEqDiff, Nat.reduceAdd, Nat.reduceSub, Nat.reduceMul, Nat.reduceDiv, Nat.reduceMod, Nat.reduceLT, Nat.reduceLeDiff, Nat.reduceBEq, Nat.reducePow, Int.reduceLE, Int.reduceLT, Int.reduceEq, Int.reduceNeg, Int.reduceAdd, Int.reduceToNat, Tryd.f139, Q28, Q27, Q26, Q25, Q24, Q23, Q22, Q21, Q20, Q19, Q18, Q17, Q16, Q15, Q14, Q13, Q12, Q11, Q10, Q9, Q8, Q7, Q6, Q5, Q4, Q3, Q2, Q1, Tbl0])
  refine WK_loop hm kT.out 139000 (lsw [26] [1000001]) (ι := LoopG f.subs.length 4 fun _ => True)
    ⟨fun q => ⟨frL [(2, .ptr (139002, 1) 0), (3, .ptr (139003, 2) 0), (15, .fz (.sl (f.subs.map enc))), (16, .fz (.i .i64 f.subs.length)), (17, .fz (.i .i64 q.i))],
      hpL [((139002, 1), some ⟨[.fz (.i .i64 0), .fz (.s []), .full [], .full []], true, false⟩), ((139003, 2), some ⟨[.fz (.i .i64 f.kind), .fz (.s f.name.l), .fz (.sl (f.words.map enc)), .ow (139026, q.g) 4 ((f.subs.take q.i).map enc)], true, false⟩), ((139026, q.g), some tok)], q.m⟩, fun q => f.subs.length - q.i⟩
    ⟨0, 3, 4, by omega, by omega, by omega, trivial⟩ (by kernel_rfl) ?_ ?_
  · refine Weak_g [] [(139026, 3)] [] ?_ ?_ ?_ ?_ ?_ <;> simp only [go_sem, reduceIte, reduceCtorEq, Nat.reduceEqDiff, Nat.reduceAdd, Nat.reduceSub, Nat.reduceMul, Nat.reduceDiv, Nat.reduceMod, Nat.reduceLT, Nat.reduceLeDiff, Nat.reduceBEq, Nat.reducePow, Int.reduceLE, Int.reduceLT, Int.reduceEq, Int.reduceNeg, Int.reduceAdd, Int.reduceToNat]
    all_goals first | done | rfl | trace_state
  rintro ⟨i, g, m, hi, hg, hm4, _⟩
  rcases Nat.lt_or_ge i f.subs.length with h1 | h1
  · obtain ⟨x, hx⟩ : ∃ x, f.subs[i] = x := ⟨_, rfl⟩
    have hxs := kz.out x (by rw [← hx]; exact List.getElem_mem h1)
    obtain ⟨hx1, hx2⟩ := hxs
    have e3 := List.take_succ_eq_append_getElem h1
    rw [hx] at e3
    repeat' (first | refine ReqK.i (by omega) fun _ => ?_ | refine ReqK.i (by unfold maxL; omega) fun _ => ?_ | refine ReqK.i (fits_of2 (by first | omega | (rw [List.length_take]; omega)) (by decide)) fun _ => ?_ | refine ReqK.i ⟨hx1, hx2⟩ fun _ => ?_ | simp only [go_sem, reduceIte, reduceCtorEq, Nat.reduceEqDiff, Nat.reduceAdd, Nat.reduceSub, Nat.reduceMul, Nat.reduceDiv, Nat.reduceMod, Nat.reduceLT, Nat.reduceLeDiff, Nat.reduceBEq, Nat.reducePow, Int.reduceLE, Int.reduceLT, Int.reduceEq, Int.reduceNeg, Int.reduceAdd, Int.reduceToNat, h1, hx, hx1, hx2, getD_map_lt, Tryd.f139, Q28, Q27, Q26, Q25, Q24, Q23, Q22, Q21, Q20, Q19, Q18, Q17, Q16, Q15, Q14, Q13, Q12, Q11, Q10, Q9, Q8, Q7, Q6, Q5, Q4, Q3, Q2, Q1, Tbl0])
    refine ⟨⟨i + 1, m + 1, m + 1 + 1, by omega, by omega, by omega, trivial⟩, by simp only; omega, ?_⟩
    refine Weak_to ?_ ?_ ?_ <;> simp only [go_sem, reduceIte, reduceCtorEq, Nat.reduceEqDiff, Nat.reduceAdd, Nat.reduceSub, Nat.reduceMul, Nat.reduceDiv, Nat.reduceMod, Nat.reduceLT, Nat.reduceLeDiff, Nat.reduceBEq, Nat.reducePow, Int.reduceLE, Int.reduceLT, Int.reduceEq, Int.reduceNeg, Int.reduceAdd, Int.reduceToNat, e3, List.map_append]
  · obtain rfl : i = f.subs.length := by omega
    repeat' (first | refine ReqK.i (by omega) fun _ => ?_ | simp only [go_sem, reduceIte, reduceCtorEq, Nat.reduceEqDiff, Nat.reduceAdd, Nat.reduceSub, Nat.reduceMul, Nat.reduceDiv, Nat.reduceMod, Nat.reduceLT, Nat.reduceLeDiff, Nat.reduceBEq, Nat.reducePow, Int.reduceLE, Int.reduceLT, Int.reduceEq, Int.reduceNeg, Int.reduceAdd, Int.reduceToNat, Nat.lt_irrefl, List.take_length, Tryd.f139])
end Go.Proofs.YtomhobohcejocaaDoor
