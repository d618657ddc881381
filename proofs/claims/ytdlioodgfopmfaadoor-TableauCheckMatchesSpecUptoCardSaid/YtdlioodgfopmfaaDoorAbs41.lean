import Derived.Test.YtdlioodgfopmfaaDoorAbs40
set_option linter.unusedSimpArgs false
namespace Go.Abs
open Go

/-! ## regions that draw, with a variable's birth beside loads: the order of the text is enough, because the new object is none of the old ones -/

section
variable {P : Program} {G : Nat → List FD} {T : Tbl} {N tag0 : Nat} {am : Nat → Bool} {st st2 : St} {a : Act} {w : World} {L : Loc} {F : Nat → Nat → Prop} {K : St → Prop} {ops : Array Oper}

def FreshS (st : St) : Prop := ∀ tag, st.H (tag, st.n) = none
def isAl : Op → Bool
  | .alloc _ => true
  | _ => false

theorem evalQ_fresh {o : Oper} {ev : Operand → D} {H : Heap} {id : Id} {ob' : Option O} {r : D × Prop} (hn : H id = none) (h : evalQ P T o ev H = some r) : evalQ P T o ev (updH H id ob') = some r := by
  by_cases hh : hIndep o.op = true
  · rw [← h]; exact evalQ_heap hh
  obtain ⟨dst, op, type, pos, after, guard⟩ := o
  cases op <;> simp only [hIndep, not_true_eq_false] at hh
  rename_i t x
  unfold evalQ at h ⊢
  have key : ∀ r, evalV P ⟨dst, .load t x, type, pos, after, guard⟩ ev H = some r → evalV P ⟨dst, .load t x, type, pos, after, guard⟩ ev (updH H id ob') = some r := by
    intro r h
    simp only [evalV, evLoad_eq, ob] at h ⊢
    cases hti : tiOf P t with
    | none => rw [hti] at h; exact h
    | some ti =>
      rw [hti] at h
      simp only at h ⊢
      cases hd : ev x with
      | ptr i k =>
        rw [hd] at h
        simp only [ldTI, ob] at h ⊢
        by_cases hi : i = id
        · subst hi; rw [hn] at h; cases h
        · have e : updH H id ob' i = H i := by simp [updH, hi]
          rw [e]; exact h
      | _ => rw [hd] at h; exact h
  cases hv : evalV P ⟨dst, .load t x, type, pos, after, guard⟩ ev H with
  | none => rw [hv] at h; cases h
  | some r' =>
    rw [hv] at h
    obtain rfl := Option.some.inj h
    rw [key _ hv]

theorem qv_fresh {o : Oper} {fr : Nat → D} {H : Heap} {n n' : Nat} {id : Id} {ob' : Option O} {r : D × Prop} (hn : H id = none) (h : qv P G T ops o ⟨fr, H, n⟩ = some r) : qv P G T ops o ⟨fr, updH H id ob', n'⟩ = some r := by
  have e : St.ev G ⟨fr, updH H id ob', n'⟩ = St.ev G ⟨fr, H, n⟩ := by funext x; cases x <;> rfl
  unfold qv at h ⊢
  simp only at h ⊢
  cases hg : gval ops fr o.guard with
  | none => rw [hg] at h; cases h
  | some b =>
    rw [hg] at h
    cases b with
    | true => simp only at h ⊢; rw [e]; exact evalQ_fresh hn h
    | false => exact h

/-- a variable's birth ahead of a quiet operation -/
theorem step_al {oi oj : Oper} {fr : Nat → D} {H : Heap} {n : Nat} {d : D} {c : Prop} (hap : oi.apart ops oj = true) (hal : isAl oj.op = true) (hfr : FreshS ⟨fr, H, n⟩) (hy : qv P G T ops oi ⟨fr, H, n⟩ = some (d, c))
    (h : stepS P G T N tag0 ops false oj ⟨updO fr oi.dst d, H, n⟩ K) : stepS P G T N tag0 ops false oj ⟨fr, H, n⟩ (fun s => qv P G T ops oi s = some (d, c) ∧ K ⟨updO s.fr oi.dst d, s.H, s.n⟩) := by
  obtain ⟨h1, h2, h3⟩ := Oper.apart_spec hap
  unfold stepS at h ⊢
  simp only [Bool.false_eq_true, if_false] at h ⊢
  rw [gval_updO h1] at h
  have hyj : ∀ e, qv P G T ops oi ⟨updO fr oj.dst e, H, n⟩ = some (d, c) := fun e => (qv_updO h3 (.inl rfl)).trans hy
  split
  · rename_i hg
    simp only [hg] at h
    obtain ⟨dst, op, type, pos, after, guard⟩ := oj
    cases op <;> simp only [isAl, Bool.false_eq_true] at hal
    rename_i e
    unfold symOp at h ⊢
    simp only [evalV] at h ⊢
    refine ⟨h.1, ?_⟩
    have h' := h.2
    split at h'
    · rename_i ti hti
      refine ⟨?_, ?_⟩
      · have e1 : (St.new ⟨fr, H, n⟩ (tag0 + dst.getD 0, n) ⟨ti.zero, true, false⟩ dst (.ptr (tag0 + dst.getD 0, n) 0)) = ⟨updO fr dst (.ptr (tag0 + dst.getD 0, n) 0), updH H (tag0 + dst.getD 0, n) (some ⟨ti.zero, true, false⟩), n + 1⟩ := by
          cases dst <;> rfl
        rw [e1]
        exact qv_fresh (n := n) (hfr _) (hyj _)
      · have e2 : (St.new ⟨updO fr oi.dst d, H, n⟩ (tag0 + dst.getD 0, n) ⟨ti.zero, true, false⟩ dst (.ptr (tag0 + dst.getD 0, n) 0)) = ⟨updO (updO fr dst (.ptr (tag0 + dst.getD 0, n) 0)) oi.dst d, updH H (tag0 + dst.getD 0, n) (some ⟨ti.zero, true, false⟩), n + 1⟩ := by
          have e3 : updO (updO fr oi.dst d) dst (.ptr (tag0 + dst.getD 0, n) 0) = updO (updO fr dst (.ptr (tag0 + dst.getD 0, n) 0)) oi.dst d := updO_comm h2
          rw [← e3]
          cases dst <;> rfl
        rw [e2] at h'
        have e1 : (St.new ⟨fr, H, n⟩ (tag0 + dst.getD 0, n) ⟨ti.zero, true, false⟩ dst (.ptr (tag0 + dst.getD 0, n) 0)) = ⟨updO fr dst (.ptr (tag0 + dst.getD 0, n) 0), updH H (tag0 + dst.getD 0, n) (some ⟨ti.zero, true, false⟩), n + 1⟩ := by
          cases dst <;> rfl
        rw [e1]
        exact h'
    · exact h'
  · rename_i hg
    simp only [hg] at h
    refine ⟨h.1, ?_, ?_⟩
    · rw [put_eq]; exact hyj _
    · have := h.2
      rw [put_eq] at this
      rw [put_eq]
      simp only at this ⊢
      rw [updO_comm h2] at this
      exact this
  · rename_i hg
    simp [hg] at h

theorem stepS_mono {oj : Oper} {b : Bool} {st : St} {K1 K2 : St → Prop} (hk : ∀ s, K1 s → K2 s) (hs : stepS P G T N tag0 ops b oj st K1) : stepS P G T N tag0 ops b oj st K2 := by
  unfold stepS at hs ⊢
  split
  · rename_i hq
    simp only [hq, if_true] at hs
    obtain ⟨e, c', g1, g2, g3, g4⟩ := hs
    exact ⟨e, c', g1, g2, g3, hk _ g4⟩
  · rename_i hq
    simp only [hq] at hs
    split
    · rename_i hg
      simp [hg] at hs
      refine symOp_local (fr := st.fr) (fr2 := st.fr) (fun _ _ => rfl) ?_ hs
      rintro s s2 hK ⟨e, H', n', rfl, rfl⟩
      exact hk _ hK
    · rename_i hg
      simp [hg] at hs
      exact ⟨hs.1, hk _ hs.2⟩
    · rename_i hg
      simp [hg] at hs

def HF (ops : Array Oper) (q : Nat → Bool) (i : Nat) (oi : Oper) (B : Nat → Bool) (listed : Array Bool) (st : St) : Prop :=
  ∀ j oj, ops[j]? = some oj → j ≠ i → listed.getD j true = false → B j = false → oi.apart ops oj = true ∧ (q j = true ∨ hIndep oi.op = true ∨
    (FreshS st ∧ isAl oj.op = true ∧ ∀ k ok, ops[k]? = some ok → k ≠ i → k ≠ j → listed.getD k true = false → B k = false → q k = true))

theorem anyS_first2 {q : Nat → Bool} {i : Nat} {oi : Oper} {d : D} {c : Prop} (hi : ops[i]? = some oi) (hqi : q i = true) (hc : c) (hd : dstOk N oi.dst = true) (B : Nat → Bool)
    (hB : ∀ j oj, ops[j]? = some oj → B j = true → ∃ e ∈ oj.after, Region.binds .any e = true ∧ (e.on = i ∨ B e.on = true)) :
    ∀ (fuel : Nat) (listed : Array Bool) (st : St), (∀ j, B j = true → listed.getD j false = false) → HF ops q i oi B listed st →
      i ∈ Region.ready .any ops listed → qv P G T ops oi st = some (d, c) →
      anyS P G T N tag0 ops q K fuel (listed.setIfInBounds i true) (st.put oi.dst d) → anyS P G T N tag0 ops q K (fuel + 1) listed st := by
  intro fuel
  have take : ∀ {st K}, qv P G T ops oi st = some (d, c) → K (st.put oi.dst d) → stepS P G T N tag0 ops (q i) oi st K := by
    intro st K hy hK
    unfold stepS
    rw [if_pos hqi]
    exact ⟨d, c, hy, hd, hc, hK⟩
  induction fuel with
  | zero =>
    intro listed st _ _ hr hy H
    refine ⟨fun h => (by rw [h] at hr; cases hr), fun j hj oj hoj => ?_⟩
    by_cases hji : j = i
    · subst hji; rw [hi] at hoj; obtain rfl := Option.some.inj hoj; exact take hy H
    · have := ready_mono hj hji
      rw [H.1] at this
      cases this
  | succ fuel ih =>
    intro listed st hBl hfree hr hy H
    refine ⟨fun h => (by rw [h] at hr; cases hr), fun j hj oj hoj => ?_⟩
    by_cases hji : j = i
    · subst hji; rw [hi] at hoj; obtain rfl := Option.some.inj hoj; exact take hy H
    · have h1 := H.2 j (ready_mono hj hji) oj hoj
      obtain ⟨hjun, oj', hoj', hall⟩ := mem_ready.1 hj
      rw [hoj] at hoj'
      obtain rfl := Option.some.inj hoj'
      have hnl : listed.getD i false = false := by
        have h0 := (mem_ready.1 hr).1
        rcases Nat.lt_or_ge i listed.size with h' | h'
        · simp [h'] at h0 ⊢; exact h0
        · simp [Array.getElem?_eq_none h']
      have hBj : B j = false := by
        cases hb : B j with
        | false => rfl
        | true =>
          obtain ⟨e, he, hbe, h3⟩ := hB j oj hoj hb
          have h4 := hall e he hbe
          rcases h3 with h3 | h3
          · rw [h3, hnl] at h4; cases h4
          · rw [hBl _ h3] at h4; cases h4
      obtain ⟨hap, hh⟩ := hfree j oj hoj hji hjun hBj
      have hBl' : ∀ k, B k = true → (listed.setIfInBounds j true).getD k false = false := fun k hk => by
        by_cases hjk : j = k
        · subst hjk; rw [hBj] at hk; cases hk
        · rw [getD_set_ne false hjk]; exact hBl k hk
      have hsub : ∀ k, (listed.setIfInBounds j true).getD k true = false → listed.getD k true = false ∧ k ≠ j := fun k hun => by
        by_cases hjk : j = k
        · subst hjk
          exfalso
          rcases Nat.lt_or_ge j listed.size with h' | h'
          · simp [h'] at hun
          · simp [Array.getElem?_eq_none h'] at hun
        · rw [getD_set_ne true hjk] at hun; exact ⟨hun, fun e => hjk e.symm⟩
      rw [put_eq] at h1
      cases hqj : q j with
      | true =>
        have hfree' : ∀ s : St, s.H = st.H → s.n = st.n → HF ops q i oi B (listed.setIfInBounds j true) s := fun s e1 e2 k ok hk hki hun hno => by
          obtain ⟨hun', hkj⟩ := hsub k hun
          obtain ⟨g1, g2⟩ := hfree k ok hk hki hun' hno
          refine ⟨g1, ?_⟩
          rcases g2 with g2 | g2 | ⟨g2, g3, g4⟩
          · exact .inl g2
          · exact .inr (.inl g2)
          · exact .inr (.inr ⟨fun t => by rw [e1, e2]; exact g2 t, g3, fun k' ok' hk' hki' hkk' hun2 hno' => g4 k' ok' hk' hki' hkk' (hsub k' hun2).1 hno'⟩)
        rw [hqj] at h1
        have h2 := step_put hap (.inl rfl) (fr := st.fr) (H := st.H) (n := st.n) hy h1
        unfold stepS at h2 ⊢
        simp only [if_true] at h2 ⊢
        obtain ⟨e, c', g1, g2, g3, g4, g5⟩ := h2
        refine ⟨e, c', g1, g2, g3, ?_⟩
        rw [put_eq] at g4 g5 ⊢
        refine ih (listed.setIfInBounds j true) _ hBl' (hfree' _ rfl rfl) (ready_mono hr (Ne.symm hji)) g4 ?_
        rw [Array.setIfInBounds_comm _ _ hji, put_eq]
        exact g5
      | false =>
        rw [hqj] at h1
        have h2 : stepS P G T N tag0 ops false oj st (fun s => qv P G T ops oi s = some (d, c) ∧ anyS P G T N tag0 ops q K fuel ((listed.setIfInBounds i true).setIfInBounds j true) ⟨updO s.fr oi.dst d, s.H, s.n⟩) := by
          rcases hh with hh | hh | ⟨g2, g3, _⟩
          · rw [hqj] at hh; cases hh
          · exact step_put hap (.inr hh) (fr := st.fr) (H := st.H) (n := st.n) hy h1
          · exact step_al hap g3 (fr := st.fr) (H := st.H) (n := st.n) g2 hy h1
        have hfree' : ∀ s : St, HF ops q i oi B (listed.setIfInBounds j true) s := fun s k ok hk hki hun hno => by
          obtain ⟨hun', hkj⟩ := hsub k hun
          obtain ⟨g1, g2⟩ := hfree k ok hk hki hun' hno
          refine ⟨g1, ?_⟩
          rcases hh with hh | hh | ⟨_, _, h5⟩
          · rw [hqj] at hh; cases hh
          · exact .inr (.inl hh)
          · exact .inl (h5 k ok hk hki hkj hun' hno)
        refine stepS_mono (fun s h3 => ih (listed.setIfInBounds j true) s hBl' (hfree' s) (ready_mono hr (Ne.symm hji)) h3.1 ?_) h2
        rw [Array.setIfInBounds_comm _ _ hji, put_eq]
        exact h3.2

def freeF (am : Nat → Bool) (T : Tbl) (ops : Array Oper) (listed : Array Bool) (fl : Bool) (i : Nat) : Bool :=
  match ops[i]? with
  | none => false
  | some oi =>
    ((needs ops i).all fun j => !listed.getD j false && match ops[j]? with
      | some oj => oj.after.any (fun e => Region.binds .any e && (e.on == i || (needs ops i).contains e.on))
      | none => true) &&
    (List.range ops.size).all fun j => j == i || listed.getD j true || (needs ops i).contains j || match ops[j]? with
      | some oj => oi.apart ops oj && (qKind am T oj || hIndep oi.op || (fl && isAl oj.op && (List.range ops.size).all fun k => k == i || k == j || listed.getD k true || (needs ops i).contains k || match ops[k]? with
        | some ok => qKind am T ok
        | none => true))
      | none => true

def drawF (am : Nat → Bool) (T : Tbl) (ops : Array Oper) : Nat → Nat → Array Bool → Bool → Bool
  | 0, _, listed, _ => (Region.ready .any ops listed).isEmpty
  | m + 1, k, listed, fl => match ops[k]? with
      | some o => if qKind am T o then (Region.ready .any ops listed).contains k && freeF am T ops listed fl k && drawF am T ops m (k + 1) (listed.setIfInBounds k true) fl
        else Region.ready .any ops listed == [k] && drawF am T ops m (k + 1) (listed.setIfInBounds k true) false
      | none => false

theorem freeF_spec {listed : Array Bool} {i : Nat} {oi : Oper} {fl : Bool} (hi : ops[i]? = some oi) (h : freeF am T ops listed fl i = true) (hfl : fl = true → FreshS st) :
    (∀ j oj, ops[j]? = some oj → (needs ops i).contains j = true → ∃ e ∈ oj.after, Region.binds .any e = true ∧ (e.on = i ∨ (needs ops i).contains e.on = true)) ∧
    (∀ j, (needs ops i).contains j = true → listed.getD j false = false) ∧
    HF ops (fun i => ((ops[i]?).map (qKind am T)).getD false) i oi (fun j => (needs ops i).contains j) listed st := by
  unfold freeF at h
  rw [hi] at h
  simp only [Bool.and_eq_true] at h
  generalize needs ops i = B at *
  obtain ⟨hB, h⟩ := h
  rw [List.all_eq_true] at hB h
  refine ⟨fun j oj hj hb => ?_, fun j hb => ?_, fun j oj hj hne hun hno => ?_⟩
  · have h1 := hB j (by simpa using hb)
    rw [hj] at h1
    simp only [Bool.and_eq_true] at h1
    obtain ⟨e, he, h2⟩ := Array.any_eq_true'.1 h1.2
    simp only [Bool.and_eq_true, Bool.or_eq_true, beq_iff_eq] at h2
    exact ⟨e, he, h2.1, h2.2⟩
  · have h1 := hB j (by simpa using hb)
    simp only [Bool.and_eq_true, Bool.not_eq_true'] at h1
    exact h1.1
  · have h1 := h j (by rw [List.mem_range]; exact (Array.getElem?_eq_some_iff.1 hj).1)
    simp only at hno
    rw [hj, hun, hno] at h1
    have hne' : (j == i) = false := by simpa using hne
    rw [hne'] at h1
    simp only [Bool.false_or, Bool.and_eq_true, Bool.or_eq_true] at h1
    refine ⟨h1.1, ?_⟩
    rcases h1.2 with (h2 | h2) | ⟨⟨h2, h3⟩, h4⟩
    · refine .inl ?_
      simp only [hj, Option.map_some, Option.getD_some]
      exact h2
    · exact .inr (.inl h2)
    · refine .inr (.inr ⟨hfl h2, h3, fun k ok hk hki hkj hun' hno' => ?_⟩)
      rw [List.all_eq_true] at h4
      have h5 := h4 k (by rw [List.mem_range]; exact (Array.getElem?_eq_some_iff.1 hk).1)
      have e1 : (k == i) = false := by simpa using hki
      have e2 : (k == j) = false := by simpa using hkj
      simp only at hno'
      rw [hk, hun', hno', e1, e2] at h5
      simp only [hk, Option.map_some, Option.getD_some]
      simpa using h5

theorem symX_anyF (hT : TblOk P G T) : ∀ (l : List Oper) (k : Nat) (listed : Array Bool) (fl : Bool) (st : St), (fl = true → FreshS st) → (∀ j, l[j]? = ops[k + j]?) → drawF am T ops l.length k listed fl = true → symX P G T N tag0 am ops l K st →
    anyS P G T N tag0 ops (fun i => ((ops[i]?).map (qKind am T)).getD false) K l.length listed st
  | [], k, listed, fl, st, _, _, hd, hs => by
    simp only [List.length_nil, drawF, List.isEmpty_iff] at hd
    exact ⟨hd, hs⟩
  | o :: l, k, listed, fl, st, hfl, hl, hd, hs => by
    have h0 : ops[k]? = some o := by have := hl 0; simpa using this.symm
    have hl' : ∀ j, l[j]? = ops[k + 1 + j]? := fun j => by have := hl (j + 1); simp at this; rw [this]; congr 1; omega
    simp only [List.length_cons, drawF, h0] at hd
    obtain ⟨b, hb, h1, h2⟩ := Bi_ex hs
    simp only [List.length_cons]
    by_cases hq : qKind am T o = true
    · rw [if_pos hq] at hd
      simp only [Bool.and_eq_true] at hd
      obtain ⟨⟨hd0, hd1⟩, hd2⟩ := hd
      have hqk : ((ops[k]?).map (qKind am T)).getD false = true := by rw [h0]; exact hq
      have hex : ∃ d c, qv P G T ops o st = some (d, c) ∧ dstOk N o.dst = true ∧ c ∧ symX P G T N tag0 am ops l K (st.put o.dst d) := by
        cases b with
        | true =>
          obtain ⟨d, c, g1, g2, g3, g4⟩ := XO_q o hq (h1 rfl)
          exact ⟨d, c, by simp only [qv, hb]; exact g1, g2, g3, g4⟩
        | false =>
          obtain ⟨g1, g2⟩ := h2 rfl
          exact ⟨.tup [], True, by simp only [qv, hb], g1, trivial, g2⟩
      obtain ⟨d, c, g1, g2, g3, g4⟩ := hex
      obtain ⟨f1, f2, f3⟩ := freeF_spec h0 hd1 hfl
      refine anyS_first2 h0 hqk g3 g2 (fun j => (needs ops k).contains j) f1 l.length listed st f2 f3 (by simpa using hd0) g1 (symX_anyF hT l (k + 1) _ fl _ (fun e => ?_) hl' hd2 g4)
      have := hfl e
      intro t
      rw [put_eq]
      exact this t
    · rw [if_neg hq] at hd
      simp only [Bool.and_eq_true] at hd
      obtain ⟨hd1, hd2⟩ := hd
      have hr : Region.ready .any ops listed = [k] := by simpa using hd1
      refine ⟨fun h => (by rw [hr] at h; cases h), fun i hi o' ho' => ?_⟩
      rw [hr] at hi
      obtain rfl : i = k := by simpa using hi
      rw [h0] at ho'
      obtain rfl := Option.some.inj ho'
      unfold stepS
      have : (((ops[i]?).map (qKind am T)).getD false) = false := by rw [h0]; simpa using hq
      simp only [this]
      simp only [hb]
      cases b with
      | true =>
        refine symOp_local (fr := st.fr) (fr2 := st.fr) (K := fun s => symX P G T N tag0 am ops l K s) (fun _ _ => rfl) ?_ (XO_sym hT o (h1 rfl))
        rintro s s2 hK ⟨e, H', n', rfl, rfl⟩
        exact symX_anyF hT l (i + 1) _ false _ (fun e => by cases e) hl' hd2 hK
      | false =>
        obtain ⟨g1, g2⟩ := h2 rfl
        exact ⟨g1, symX_anyF hT l (i + 1) _ false _ (fun e => by cases e) hl' hd2 g2⟩

theorem W_drawF (hm : P.follows .mixedOrders = true) (hT : TblOk P G T) {Q : Exit → St → Prop} {id : Nat} (hd : drawF am T ops ops.size 0 (Array.replicate ops.size false) true = true) (h : symX P G T N tag0 am ops ops.toList (Q .normal) st) : W P G N (.region id ops true) Q st := by
  intro a w L F hr
  refine wp_region_any hm ?_
  have hr' : Rel G N st a { w with drawn := w.drawn + 1 } L F := ⟨hr.ok.heap rfl, hr.size, fun t => (hr.fr t).ext (heap_ext (w := w) (w' := { w with drawn := w.drawn + 1 }) rfl), hr.nd⟩
  have hst : SStep st w L F st { w with drawn := w.drawn + 1 } L F := ⟨fun _ h => h, fun _ _ => rfl, fun _ _ h => h, Nat.le_refl _, fun _ _ _ => rfl, fun _ _ _ _ => rfl, fun _ cs T fr _ h => ⟨cs, T, fr, h, Nat.le_refl _⟩, fun _ _ h => .inl h, fun _ _ h => .inr h, rfl, rfl, rfl⟩
  have hd' : drawF am T ops ops.toList.length 0 (Array.replicate ops.size false) true = true := by simpa using hd
  have hfr : FreshS st := fun tag => by
    cases ho : st.H (tag, st.n) with
    | none => rfl
    | some o => exact absurd (hr.ok.live _ o ho).1 (Nat.lt_irrefl _)
  have := anyS_wp hT (Q' := fun e a' w' => Sat G N st w L F (Q e) a' w') _ _ st a _ L F hr' (symX_anyF hT ops.toList 0 _ true st (fun _ => hfr) (by simp) hd' h) (fun _ _ hs => hs.trans hst)
  simpa using this
end

theorem WK_drawF {P : Program} {G : Nat → List FD} {T : Tbl} {N : Nat} {ops : Array Oper} {st : St} (hm : P.follows .mixedOrders = true) (hT : TblOk P G T) {q : Exit → St → Prop} {id : Nat} (tag0 : Nat) (am : Nat → Bool)
    (hd : drawF am T ops ops.size 0 (Array.replicate ops.size false) true = true) (h : @symXK P G T N tag0 am ops ops.toList st ⟨q .normal⟩) : @WK P G N (.region id ops true) st ⟨q⟩ := by
  unfold WK; unfold symXK at h; exact W_drawF hm hT hd h
end Go.Abs
