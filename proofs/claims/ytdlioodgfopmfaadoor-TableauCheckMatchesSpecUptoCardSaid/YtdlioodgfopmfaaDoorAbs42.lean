import Derived.Test.YtdlioodgfopmfaaDoorAbs41
set_option linter.unusedSimpArgs false
namespace Go.Abs
open Go

/-! ## regions that draw, third form: quiet operations first, then all orders of the others; variables may be born beside loads -/

section
variable {P : Program} {G : Nat → List FD} {T : Tbl} {N tag0 : Nat} {am : Nat → Bool} {st st2 : St} {a : Act} {w : World} {L : Loc} {F : Nat → Nat → Prop} {K : St → Prop} {ops : Array Oper}

def FreshA (st : St) : Prop := ∀ id : Id, st.n ≤ id.2 → st.H id = none
theorem FreshA.s (h : FreshA st) : FreshS st := fun tag => h (tag, st.n) (Nat.le_refl _)

/-- a variable's birth ahead of a quiet operation; the heap stays fresh -/
theorem step_alA {oi oj : Oper} {fr : Nat → D} {H : Heap} {n : Nat} {d : D} {c : Prop} (hap : oi.apart ops oj = true) (hal : isAl oj.op = true) (hfr : FreshA ⟨fr, H, n⟩) (hy : qv P G T ops oi ⟨fr, H, n⟩ = some (d, c))
    (h : stepS P G T N tag0 ops false oj ⟨updO fr oi.dst d, H, n⟩ K) : stepS P G T N tag0 ops false oj ⟨fr, H, n⟩ (fun s => (qv P G T ops oi s = some (d, c) ∧ K ⟨updO s.fr oi.dst d, s.H, s.n⟩) ∧ FreshA s) := by
  have h1 := step_al hap hal hfr.s hy h
  unfold stepS at h1 ⊢
  simp only [Bool.false_eq_true, if_false] at h1 ⊢
  split
  · rename_i hg
    simp only [hg] at h1
    obtain ⟨dst, op, type, pos, after, guard⟩ := oj
    cases op <;> simp only [isAl, Bool.false_eq_true] at hal
    rename_i e
    unfold symOp at h1 ⊢
    simp only [evalV] at h1 ⊢
    refine ⟨h1.1, ?_⟩
    have h' := h1.2
    split at h'
    · refine ⟨h', fun id hid => ?_⟩
      simp only [St.new] at hid ⊢
      have hne : id ≠ (tag0 + dst.getD 0, n) := by rintro rfl; simp only at hid; omega
      simp only [updH, hne, if_false]
      exact hfr id (by simp only at hid ⊢; omega)
    · exact h'
  · rename_i hg
    simp only [hg] at h1
    refine ⟨h1.1, h1.2, fun id hid => ?_⟩
    rw [put_eq] at hid ⊢
    exact hfr id hid
  · rename_i hg
    simp [hg] at h1

def HG (ops : Array Oper) (q : Nat → Bool) (i : Nat) (oi : Oper) (B : Nat → Bool) (listed : Array Bool) (st : St) : Prop :=
  (∀ j oj, ops[j]? = some oj → j ≠ i → listed.getD j true = false → B j = false → oi.apart ops oj = true) ∧
  ((∀ j oj, ops[j]? = some oj → j ≠ i → listed.getD j true = false → B j = false → q j = true ∨ hIndep oi.op = true) ∨
    (FreshA st ∧ ∀ j oj, ops[j]? = some oj → j ≠ i → listed.getD j true = false → B j = false → q j = true ∨ isAl oj.op = true))

theorem anyS_first3 {q : Nat → Bool} {i : Nat} {oi : Oper} {d : D} {c : Prop} (hi : ops[i]? = some oi) (hqi : q i = true) (hc : c) (hd : dstOk N oi.dst = true) (B : Nat → Bool)
    (hB : ∀ j oj, ops[j]? = some oj → B j = true → ∃ e ∈ oj.after, Region.binds .any e = true ∧ (e.on = i ∨ B e.on = true)) :
    ∀ (fuel : Nat) (listed : Array Bool) (st : St), (∀ j, B j = true → listed.getD j false = false) → HG ops q i oi B listed st →
      i ∈ Region.ready .any ops listed → qv P G T ops oi st = some (d, c) →
      anyS P G T N tag0 ops q K fuel (listed.setIfInBounds i true) (st.put oi.dst d) → anyS P G T N tag0 ops q K (fuel + 1) listed st := by
  intro fuel
  have take : ∀ {st K}, qv P G T ops oi st = some (d, c) → K (st.put oi.dst d) → stepS P G T N tag0 ops (q i) oi st K := by
    intro st K hy hK
    unfold stepS
    rw [if_pos hqi]
    exact ⟨d, c, hy, hd, hc, hK⟩
  induction fuel with
  | zero =>
    intro listed st _ _ hr hy H
    refine ⟨fun h => (by rw [h] at hr; cases hr), fun j hj oj hoj => ?_⟩
    by_cases hji : j = i
    · subst hji; rw [hi] at hoj; obtain rfl := Option.some.inj hoj; exact take hy H
    · have := ready_mono hj hji
      rw [H.1] at this
      cases this
  | succ fuel ih =>
    intro listed st hBl hfree hr hy H
    refine ⟨fun h => (by rw [h] at hr; cases hr), fun j hj oj hoj => ?_⟩
    by_cases hji : j = i
    · subst hji; rw [hi] at hoj; obtain rfl := Option.some.inj hoj; exact take hy H
    · have h1 := H.2 j (ready_mono hj hji) oj hoj
      obtain ⟨hjun, oj', hoj', hall⟩ := mem_ready.1 hj
      rw [hoj] at hoj'
      obtain rfl := Option.some.inj hoj'
      have hnl : listed.getD i false = false := by
        have h0 := (mem_ready.1 hr).1
        rcases Nat.lt_or_ge i listed.size with h' | h'
        · simp [h'] at h0 ⊢; exact h0
        · simp [Array.getElem?_eq_none h']
      have hBj : B j = false := by
        cases hb : B j with
        | false => rfl
        | true =>
          obtain ⟨e, he, hbe, h3⟩ := hB j oj hoj hb
          have h4 := hall e he hbe
          rcases h3 with h3 | h3
          · rw [h3, hnl] at h4; cases h4
          · rw [hBl _ h3] at h4; cases h4
      obtain ⟨hap', hh'⟩ := hfree
      have hap := hap' j oj hoj hji hjun hBj
      have hBl' : ∀ k, B k = true → (listed.setIfInBounds j true).getD k false = false := fun k hk => by
        by_cases hjk : j = k
        · subst hjk; rw [hBj] at hk; cases hk
        · rw [getD_set_ne false hjk]; exact hBl k hk
      have hsub : ∀ k, (listed.setIfInBounds j true).getD k true = false → listed.getD k true = false := fun k hun => by
        by_cases hjk : j = k
        · subst hjk
          exfalso
          rcases Nat.lt_or_ge j listed.size with h' | h'
          · simp [h'] at hun
          · simp [Array.getElem?_eq_none h'] at hun
        · rw [getD_set_ne true hjk] at hun; exact hun
      have hapn : ∀ k ok, ops[k]? = some ok → k ≠ i → (listed.setIfInBounds j true).getD k true = false → B k = false → oi.apart ops ok = true := fun k ok hk hki hun hno => hap' k ok hk hki (hsub k hun) hno
      rw [put_eq] at h1
      cases hqj : q j with
      | true =>
        have hfree' : ∀ s : St, s.H = st.H → s.n = st.n → HG ops q i oi B (listed.setIfInBounds j true) s := fun s e1 e2 => by
          refine ⟨hapn, ?_⟩
          rcases hh' with g | ⟨g1, g2⟩
          · exact .inl fun k ok hk hki hun hno => g k ok hk hki (hsub k hun) hno
          · exact .inr ⟨fun id hid => by rw [e1]; exact g1 id (by rw [← e2]; exact hid), fun k ok hk hki hun hno => g2 k ok hk hki (hsub k hun) hno⟩
        rw [hqj] at h1
        have h2 := step_put hap (.inl rfl) (fr := st.fr) (H := st.H) (n := st.n) hy h1
        unfold stepS at h2 ⊢
        simp only [if_true] at h2 ⊢
        obtain ⟨e, c', g1, g2, g3, g4, g5⟩ := h2
        refine ⟨e, c', g1, g2, g3, ?_⟩
        rw [put_eq] at g4 g5 ⊢
        refine ih (listed.setIfInBounds j true) _ hBl' (hfree' _ rfl rfl) (ready_mono hr (Ne.symm hji)) g4 ?_
        rw [Array.setIfInBounds_comm _ _ hji, put_eq]
        exact g5
      | false =>
        rw [hqj] at h1
        rcases hh' with g | ⟨g1, g2⟩
        · have hin : hIndep oi.op = true := by
            rcases g j oj hoj hji hjun hBj with g | g
            · rw [hqj] at g; cases g
            · exact g
          have h2 := step_put hap (.inr hin) (fr := st.fr) (H := st.H) (n := st.n) hy h1
          refine stepS_mono (fun s h3 => ih (listed.setIfInBounds j true) s hBl' ⟨hapn, .inl fun _ _ _ _ _ _ => .inr hin⟩ (ready_mono hr (Ne.symm hji)) h3.1 ?_) h2
          rw [Array.setIfInBounds_comm _ _ hji, put_eq]
          exact h3.2
        · have hal : isAl oj.op = true := by
            rcases g2 j oj hoj hji hjun hBj with g | g
            · rw [hqj] at g; cases g
            · exact g
          have h2 := step_alA hap hal (fr := st.fr) (H := st.H) (n := st.n) g1 hy h1
          refine stepS_mono (fun s h3 => ih (listed.setIfInBounds j true) s hBl' ⟨hapn, .inr ⟨h3.2, fun k ok hk hki hun hno => g2 k ok hk hki (hsub k hun) hno⟩⟩ (ready_mono hr (Ne.symm hji)) h3.1.1 ?_) h2
          rw [Array.setIfInBounds_comm _ _ hji, put_eq]
          exact h3.1.2

def freeG (am : Nat → Bool) (T : Tbl) (ops : Array Oper) (listed : Array Bool) (fl : Bool) (i : Nat) : Bool :=
  match ops[i]? with
  | none => false
  | some oi =>
    qKind am T oi && ((needs ops i).all fun j => !listed.getD j false && match ops[j]? with
      | some oj => oj.after.any (fun e => Region.binds .any e && (e.on == i || (needs ops i).contains e.on))
      | none => true) &&
    ((List.range ops.size).all fun j => j == i || listed.getD j true || (needs ops i).contains j || match ops[j]? with
      | some oj => oi.apart ops oj && (qKind am T oj || hIndep oi.op || (fl && isAl oj.op))
      | none => true)

theorem freeG_spec {listed : Array Bool} {i : Nat} {oi : Oper} {fl : Bool} (hi : ops[i]? = some oi) (h : freeG am T ops listed fl i = true) (hfl : fl = true → FreshA st) :
    qKind am T oi = true ∧ (∀ j oj, ops[j]? = some oj → (needs ops i).contains j = true → ∃ e ∈ oj.after, Region.binds .any e = true ∧ (e.on = i ∨ (needs ops i).contains e.on = true)) ∧
    (∀ j, (needs ops i).contains j = true → listed.getD j false = false) ∧
    HG ops (fun i => ((ops[i]?).map (qKind am T)).getD false) i oi (fun j => (needs ops i).contains j) listed st := by
  unfold freeG at h
  rw [hi] at h
  simp only [Bool.and_eq_true] at h
  generalize needs ops i = B at *
  obtain ⟨⟨hq, hB⟩, h⟩ := h
  rw [List.all_eq_true] at hB h
  have key : ∀ j oj, ops[j]? = some oj → j ≠ i → listed.getD j true = false → B.contains j = false → oi.apart ops oj = true ∧ ((qKind am T oj = true ∨ hIndep oi.op = true) ∨ fl = true ∧ isAl oj.op = true) := fun j oj hj hne hun hno => by
    have h1 := h j (by rw [List.mem_range]; exact (Array.getElem?_eq_some_iff.1 hj).1)
    rw [hj, hun, hno] at h1
    have hne' : (j == i) = false := by simpa using hne
    rw [hne'] at h1
    simpa only [Bool.false_or, Bool.and_eq_true, Bool.or_eq_true] using h1
  refine ⟨hq, fun j oj hj hb => ?_, fun j hb => ?_, fun j oj hj hne hun hno => (key j oj hj hne hun hno).1, ?_⟩
  · have h1 := hB j (by simpa using hb)
    rw [hj] at h1
    simp only [Bool.and_eq_true] at h1
    obtain ⟨e, he, h2⟩ := Array.any_eq_true'.1 h1.2
    simp only [Bool.and_eq_true, Bool.or_eq_true, beq_iff_eq] at h2
    exact ⟨e, he, h2.1, h2.2⟩
  · have h1 := hB j (by simpa using hb)
    simp only [Bool.and_eq_true, Bool.not_eq_true'] at h1
    exact h1.1
  · by_cases hin : hIndep oi.op = true
    · exact .inl fun _ _ _ _ _ _ => .inr hin
    cases hf : fl with
    | false =>
      refine .inl fun j oj hj hne hun hno => ?_
      rcases (key j oj hj hne hun hno).2 with (g | g) | ⟨g, _⟩
      · exact .inl (by simp only [hj, Option.map_some, Option.getD_some]; exact g)
      · exact .inr g
      · rw [hf] at g; cases g
    | true =>
      refine .inr ⟨hfl hf, fun j oj hj hne hun hno => ?_⟩
      rcases (key j oj hj hne hun hno).2 with (g | g) | ⟨_, g⟩
      · exact .inl (by simp only [hj, Option.map_some, Option.getD_some]; exact g)
      · exact absurd g hin
      · exact .inr g

/-- after a step the heap is fresh still: the step was quiet, or a birth -/
def calm (am : Nat → Bool) (T : Tbl) (ops : Array Oper) (i : Nat) : Bool :=
  match ops[i]? with
  | some o => qKind am T o || isAl o.op
  | none => false
mutual
def trOkG (am : Nat → Bool) (T : Tbl) (ops : Array Oper) : Tr → Array Bool → Bool → Bool
  | .leaf, listed, _ => (Region.ready .any ops listed).isEmpty
  | .node l, listed, fl => !(Region.ready .any ops listed).isEmpty && (trsOkQ am T ops l listed fl || trsOkG am T ops l listed fl (Region.ready .any ops listed))
def trsOkQ (am : Nat → Bool) (T : Tbl) (ops : Array Oper) : Trs → Array Bool → Bool → Bool
  | .cons i t .nil, listed, fl => (Region.ready .any ops listed).contains i && freeG am T ops listed fl i && trOkG am T ops t (listed.setIfInBounds i true) fl
  | _, _, _ => false
def trsOkG (am : Nat → Bool) (T : Tbl) (ops : Array Oper) : Trs → Array Bool → Bool → List Nat → Bool
  | .nil, _, _, r => r.isEmpty
  | .cons i t l, listed, fl, r => (match r with
      | j :: r' => (i == j) && trOkG am T ops t (listed.setIfInBounds i true) (fl && calm am T ops i) && trsOkG am T ops l listed fl r'
      | [] => false)
end

theorem symTs_memG (hT : TblOk P G T) : ∀ (l : Trs) (listed : Array Bool) (fl : Bool) (r : List Nat) (st : St), trsOkG am T ops l listed fl r = true → symTs P G T N tag0 am ops l K st → ∀ i ∈ r, ∃ t, trOkG am T ops t (listed.setIfInBounds i true) (fl && calm am T ops i) = true ∧ trDeep t ≤ trsDeep l ∧ stepT P G T N tag0 am ops ops[i]? (symT P G T N tag0 am ops t K) st
  | .nil, listed, fl, r, st, h, _, i, hi => by
    simp only [trsOkG, List.isEmpty_iff] at h
    subst h; cases hi
  | .cons j t l, listed, fl, r, st, h, hs, i, hi => by
    cases r with
    | nil => simp [trsOkG] at h
    | cons a r =>
      simp only [trsOkG, Bool.and_eq_true, beq_iff_eq] at h
      obtain ⟨⟨rfl, h1⟩, h2⟩ := h
      simp only [symTs] at hs
      rcases List.mem_cons.1 hi with rfl | hi
      · exact ⟨t, h1, by simp only [trsDeep]; omega, hs.1⟩
      · obtain ⟨t', g1, g2, g3⟩ := symTs_memG hT l listed fl r st h2 hs.2 i hi
        exact ⟨t', g1, by simp only [trsDeep]; omega, g3⟩

theorem symT_anyG (hT : TblOk P G T) : ∀ (fuel : Nat) (t : Tr) (listed : Array Bool) (fl : Bool) (st : St), (fl = true → FreshA st) → trOkG am T ops t listed fl = true → trDeep t ≤ fuel → symT P G T N tag0 am ops t K st →
    anyS P G T N tag0 ops (fun i => ((ops[i]?).map (qKind am T)).getD false) K fuel listed st := by
  intro fuel
  induction fuel with
  | zero =>
    intro t listed fl st hfl h hd hs
    cases t with
    | leaf =>
      simp only [trOkG, List.isEmpty_iff] at h
      simp only [symT] at hs
      exact ⟨h, hs⟩
    | node l => simp [trDeep] at hd
  | succ fuel ih =>
    intro t listed fl st hfl h hd hs
    cases t with
    | leaf =>
      simp only [trOkG, List.isEmpty_iff] at h
      simp only [symT] at hs
      exact ⟨fun _ => hs, fun i hi => by rw [h] at hi; cases hi⟩
    | node l =>
      simp only [trOkG, Bool.and_eq_true, Bool.or_eq_true] at h
      obtain ⟨h0, h⟩ := h
      simp only [symT] at hs
      simp only [trDeep] at hd
      rcases h with h | h
      · -- a quiet operation ahead of all
        match l, h, hs, hd with
        | .cons i t .nil, h, hs, hd =>
          simp only [trsOkQ, Bool.and_eq_true] at h
          obtain ⟨⟨h1, h2⟩, h3⟩ := h
          simp only [symTs] at hs
          obtain ⟨o, ho, hs1⟩ := Bi_ex hs.1
          obtain ⟨hq, f1, f2, f3⟩ := freeG_spec ho h2 hfl
          have hqk : ((ops[i]?).map (qKind am T)).getD false = true := by rw [ho]; exact hq
          obtain ⟨b, hb, g1, g2⟩ := Bi_ex hs1
          have hex : ∃ d c, qv P G T ops o st = some (d, c) ∧ dstOk N o.dst = true ∧ c ∧ symT P G T N tag0 am ops t K (st.put o.dst d) := by
            cases b with
            | true =>
              obtain ⟨d, c, k1, k2, k3, k4⟩ := XO_q o hq (g1 rfl)
              exact ⟨d, c, by simp only [qv, hb]; exact k1, k2, k3, k4⟩
            | false =>
              obtain ⟨k1, k2⟩ := g2 rfl
              exact ⟨.tup [], True, by simp only [qv, hb], k1, trivial, k2⟩
          obtain ⟨d, c, k1, k2, k3, k4⟩ := hex
          refine anyS_first3 ho hqk k3 k2 (fun j => (needs ops i).contains j) f1 fuel listed st f2 f3 (by simpa using h1) k1 (ih t _ fl _ (fun e => ?_) h3 (by simp only [trsDeep] at hd; omega) k4)
          have := hfl e
          intro id hid
          rw [put_eq] at hid ⊢
          exact this id hid
        | .nil, h, _, _ => simp [trsOkQ] at h
        | .cons _ _ (.cons _ _ _), h, _, _ => simp [trsOkQ] at h
      · refine ⟨fun hr => ?_, fun i hi o ho => ?_⟩
        · rw [hr] at h0; simp at h0
        · obtain ⟨t', h1, h2, h3⟩ := symTs_memG hT l listed fl _ st h hs i hi
          rw [ho] at h3
          have h3' : Bi (gval ops st.fr o.guard) fun b => CondB b (XO P G T N tag0 am st (symT P G T N tag0 am ops t' K) o.dst o.op) (Chk (dstOk N o.dst) (symT P G T N tag0 am ops t' K (st.put o.dst (.tup [])))) := h3
          obtain ⟨b, hb, g1, g2⟩ := Bi_ex h3'
          have hfrn : fl = true → ∀ s : St, s.H = st.H → s.n = st.n → FreshA s := fun e s e1 e2 id hid => by rw [e1]; exact hfl e id (by rw [← e2]; exact hid)
          cases hq : qKind am T o with
          | true =>
            have hqk : ((ops[i]?).map (qKind am T)).getD false = true := by rw [ho]; exact hq
            simp only [hqk]
            unfold stepS
            simp only [if_true]
            cases b with
            | true =>
              obtain ⟨d, c, k1, k2, k3, k4⟩ := XO_q o hq (g1 rfl)
              refine ⟨d, c, by simp only [qv, hb]; exact k1, k2, k3, ih t' _ _ _ (fun e => ?_) h1 (by omega) k4⟩
              simp only [Bool.and_eq_true] at e
              exact hfrn e.1 _ (by rw [put_eq]) (by rw [put_eq])
            | false =>
              obtain ⟨k1, k2⟩ := g2 rfl
              refine ⟨.tup [], True, by simp only [qv, hb], k1, trivial, ih t' _ _ _ (fun e => ?_) h1 (by omega) k2⟩
              simp only [Bool.and_eq_true] at e
              exact hfrn e.1 _ (by rw [put_eq]) (by rw [put_eq])
          | false =>
            have hqk : ((ops[i]?).map (qKind am T)).getD false = false := by rw [ho]; exact hq
            have hcalm : calm am T ops i = isAl o.op := by unfold calm; rw [ho]; simp only [hq, Bool.false_or]
            rw [hcalm] at h1
            simp only [hqk]
            unfold stepS
            simp only [Bool.false_eq_true, if_false, hb]
            cases b with
            | true =>
              have hsym := XO_sym hT o (g1 rfl)
              cases hal : isAl o.op with
              | false =>
                rw [hal, Bool.and_false] at h1
                refine symOp_local (fr := st.fr) (fr2 := st.fr) (K := fun s => symT P G T N tag0 am ops t' K s) (fun _ _ => rfl) ?_ hsym
                rintro s s2 hK ⟨e, H', n', rfl, rfl⟩
                exact ih t' _ false _ (fun e => by cases e) h1 (by omega) hK
              | true =>
                obtain ⟨dst, op, type, pos, after, guard⟩ := o
                cases op <;> simp only [isAl, Bool.false_eq_true] at hal
                rename_i e
                unfold symOp at hsym ⊢
                simp only [evalV] at hsym ⊢
                refine ⟨hsym.1, ?_⟩
                have h' := hsym.2
                split at h'
                · refine ih t' _ _ _ (fun e => ?_) h1 (by omega) h'
                  simp only [Bool.and_eq_true] at e
                  intro id hid
                  simp only [St.new] at hid ⊢
                  have hne : id ≠ (tag0 + dst.getD 0, st.n) := by rintro rfl; simp only at hid; omega
                  simp only [updH, hne, if_false]
                  have hH : (St.put st dst (.ptr (tag0 + dst.getD 0, st.n) 0)).H = st.H := by cases dst <;> rfl
                  exact hfl e.1 id (by omega)
                · exact h'
            | false =>
              obtain ⟨e1, e2⟩ := g2 rfl
              refine ⟨e1, ih t' _ _ _ (fun e => ?_) h1 (by omega) e2⟩
              simp only [Bool.and_eq_true] at e
              exact hfrn e.1 _ (by rw [put_eq]) (by rw [put_eq])

theorem W_drawG (hm : P.follows .mixedOrders = true) (hT : TblOk P G T) {Q : Exit → St → Prop} {id : Nat} (t : Tr) (ht : trOkG am T ops t (Array.replicate ops.size false) true = true) (hd : decide (trDeep t ≤ ops.size) = true) (h : symT P G T N tag0 am ops t (Q .normal) st) : W P G N (.region id ops true) Q st := by
  intro a w L F hr
  refine wp_region_any hm ?_
  have hr' : Rel G N st a { w with drawn := w.drawn + 1 } L F := ⟨hr.ok.heap rfl, hr.size, fun t => (hr.fr t).ext (heap_ext (w := w) (w' := { w with drawn := w.drawn + 1 }) rfl), hr.nd⟩
  have hst : SStep st w L F st { w with drawn := w.drawn + 1 } L F := ⟨fun _ h => h, fun _ _ => rfl, fun _ _ h => h, Nat.le_refl _, fun _ _ _ => rfl, fun _ _ _ _ => rfl, fun _ cs T fr _ h => ⟨cs, T, fr, h, Nat.le_refl _⟩, fun _ _ h => .inl h, fun _ _ h => .inr h, rfl, rfl, rfl⟩
  have hfr : FreshA st := fun id hid => by
    cases ho : st.H id with
    | none => rfl
    | some o => exact absurd (hr.ok.live _ o ho).1 (Nat.not_lt.2 hid)
  exact anyS_wp hT (Q' := fun e a' w' => Sat G N st w L F (Q e) a' w') _ _ st a _ L F hr' (symT_anyG hT ops.size t _ true st (fun _ => hfr) ht (of_decide_eq_true hd) h) (fun _ _ hs => hs.trans hst)
end

theorem WK_drawG {P : Program} {G : Nat → List FD} {T : Tbl} {N : Nat} {ops : Array Oper} {st : St} (hm : P.follows .mixedOrders = true) (hT : TblOk P G T) {q : Exit → St → Prop} {id : Nat} (tag0 : Nat) (am : Nat → Bool) (t : Tr)
    (ht : trOkG am T ops t (Array.replicate ops.size false) true = true) (hd : decide (trDeep t ≤ ops.size) = true) (h : @symTK P G T N tag0 am ops t st ⟨q .normal⟩) : @WK P G N (.region id ops true) st ⟨q⟩ := by
  unfold WK; unfold symTK at h; exact W_drawG hm hT t ht hd h

/-- the orders of a region come together in one family of states -/
theorem WK_join {P : Program} {G : Nat → List FD} {N : Nat} {c : Code} {st : St} {q : Exit → St → Prop} {ι : Type} (I : ι → St) (h : ∀ i, q .normal (I i)) (h2 : @WK P G N c st ⟨fun e s => e = .normal ∧ ∃ i, Weak G N s (I i)⟩) : @WK P G N c st ⟨q⟩ := by
  unfold WK at h2 ⊢
  intro a w L F hr
  refine wp_mono (h2 a w L F hr) fun e a' w' hs => ?_
  obtain ⟨s, L1, F1, ⟨rfl, i, hw⟩, g2, g3⟩ := hs
  obtain ⟨L2, F2, g4, g5⟩ := hw a' w' L1 F1 g2
  exact ⟨I i, L2, F2, h i, g4, Step.trans g3 g5⟩
end Go.Abs
