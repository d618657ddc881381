import Derived.Test.YtomhobohcejocaaDoorQ10
set_option linter.unusedSimpArgs false
namespace Go.Proofs.YtomhobohcejocaaDoor
open Go Go.Abs Go.Proofs

theorem condC_eq2 {c : Abs.Cond} {refs : List Str} {p : Int} (hp : boxesK c.kind = p) : condC c refs = if p < 0 then 4 else if ¬ (c.boxes.length : Int) = p then 9
    else if ¬ c.kind = 5 ∧ ¬ c.name.l = [] ∨ 0 < p ∧ ¬ (c.form.kind = 0 ∧ c.form.name.l = [] ∧ (c.form.words.length : Int) = 0 ∧ (c.form.subs.length : Int) = 0) then 5
    else if 0 < p then 0 else if ¬ (checkM false c.form).code = 0 then (checkM false c.form).code
    else if c.kind = 1 ∧ ¬ c.form.kind = 2 ∧ ¬ c.form.kind = 3 ∨ c.kind = 5 ∧ (¬ c.form.kind = 2 ∨ ¬ (c.form.words.length : Int) = 0) then 5 else if c.kind = 5 ∧ c.name ∉ refs then 6 else 0 := by
  rw [condC_eq hp]
  have e : (noForm c.form = false) = ¬ (c.form.kind = 0 ∧ c.form.name.l = [] ∧ (c.form.words.length : Int) = 0 ∧ (c.form.subs.length : Int) = 0) := by
    rw [noForm_eq]; simp only [decide_eq_false_iff_not]
  simp only [e]
theorem form0 {f : Abs.Form} (h : f.kind = 0) (h2 : f.name.l = []) : Abs.Form.mk 0 ⟨[]⟩ f.words f.subs = f := by
  obtain ⟨k, ⟨nm⟩, w, s⟩ := f
  simp only [form_kind, form_name] at h h2
  subst h h2; rfl
theorem form1 {f : Abs.Form} (h : f.kind = 0) : Abs.Form.mk 0 f.name f.words f.subs = f := by
  obtain ⟨k, nm, w, s⟩ := f
  simp only [form_kind] at h
  subst h; rfl
def Q22 : Tbl := Q21.add 138 (sp2 (fun (c : Abs.Cond) (r : List Str) => condC c r) fun _ _ => True)
set_option maxRecDepth 100000 in
set_option maxHeartbeats 1000000 in
set_option maxHeartbeats 8000000 in
theorem hQ22 : TblOk Tryd.prog G0 Q22 := by
  refine sp2_ok ok138 hQ21 fun c refs _ hc _ => ?_
  obtain ⟨Q, hQ⟩ : ∃ Q : D → Heap → Nat → Prop, Q = (fun d _ _ => D.val d = some (.fz (enc (condC c refs)))) := ⟨_, rfl⟩
  rw [← hQ]
  have hb : ∀ {e : Int} {H' : Heap} {n' : Nat}, condC c refs = e → Q (.fz (.i .i64 e)) H' n' := fun e => by rw [hQ, e]; rfl
  have kb := Kp.mk @hb
  clear hb hQ hc
  refine Wcall_K (N := 105) hm hQ21 138000 (lst []) ok138 Tryd.func138 rfl rfl (by simp) (by kernel_rfl) ?_
  rcases kinds_cases c.kind with ⟨hk, hp⟩ | ⟨hk, hp⟩ | ⟨hk, hp⟩ | ⟨hk, hk5, hk6, hp⟩ | ⟨hk, hk5, hk6, hp⟩ | ⟨hk, hk5, hk6, hp⟩
  all_goals repeat' (first | refine CondK.d (fun _ => ?_) (fun _ => ?_) | refine CondK.i (fun _ => ?_) (fun _ => ?_) | refine ReqK.i (by omega) fun _ => ?_ | simp only [go_sem, reduceIte, reduceCtorEq, Nat.reduceEqDiff, Nat.reduceAdd, Nat.reduceSub, Nat.reduceMul, Nat.reduceDiv, Nat.reduceMod, Nat.reduceLT, Nat.reduceLeDiff, Nat.reduceBEq, Nat.reducePow, Int.reduceLE, Int.reduceLT, Int.reduceEq, Int.reduceNeg, Int.reduceAdd, Int.reduceToNat, bk1, bk5, bk6, Tryd.f138, Q21, Q20, Q19, Q18, Q17, Q16, Q15, Q14, Q13, Q12, Q11, Q10, Q9, Q8, Q7, Q6, Q5, Q4, Q3, Q2, Q1, Tbl0, *])
  all_goals try (exfalso; omega)
  all_goals try (have hf := form0 (f := c.form) (by assumption) (by assumption); simp only [hf] at *)
  all_goals try (have hf := form1 (f := c.form) (by assumption); simp only [hf] at *)
  all_goals try
    refine kb.out ?_
    first
    | rw [condC_eq2 hp, if_pos (by omega)]
    | rw [condC_eq2 hp, if_neg (by omega), if_pos (by omega)]
    | rw [condC_eq2 hp, if_neg (by omega), if_neg (by omega), if_pos (by first | exact .inl ⟨by omega, by assumption⟩ | exact .inr ⟨by omega, by rintro ⟨g1, g2, g3, g4⟩; first | omega | contradiction⟩)]
    | (rw [condC_eq2 hp, if_neg (by omega), if_neg (by omega), if_neg (by rintro (⟨g1, g2⟩ | ⟨g1, g2⟩) <;> first | omega | contradiction | exact g2 ⟨by omega, by assumption, by omega, by omega⟩)]
       first
       | rw [if_pos (by omega)]
       | rw [if_neg (by omega), if_pos (by omega)]
       | rw [if_neg (by omega), if_neg (by omega), if_pos (by omega)]
       | rw [if_neg (by omega), if_neg (by omega), if_neg (by omega), if_pos ⟨by omega, by assumption⟩]
       | rw [if_neg (by omega), if_neg (by omega), if_neg (by omega), if_neg (by rintro ⟨g1, g2⟩; first | omega | exact g2 (by assumption))])
end Go.Proofs.YtomhobohcejocaaDoor
