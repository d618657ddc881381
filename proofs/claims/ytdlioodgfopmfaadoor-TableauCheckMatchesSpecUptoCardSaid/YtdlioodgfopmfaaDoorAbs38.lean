import Derived.Test.YtdlioodgfopmfaaDoorAbs37
namespace Go.Abs
open Go

/-! ## regions that draw, all orders walked -/

mutual
inductive Tr where
  | leaf
  | node (l : Trs)
inductive Trs where
  | nil
  | cons (i : Nat) (t : Tr) (l : Trs)
end

mutual
def trOk (ops : Array Oper) : Tr → Array Bool → Bool
  | .leaf, listed => (Region.ready .any ops listed).isEmpty
  | .node l, listed => !(Region.ready .any ops listed).isEmpty && trsOk ops l listed (Region.ready .any ops listed)
def trsOk (ops : Array Oper) : Trs → Array Bool → List Nat → Bool
  | .nil, _, r => r.isEmpty
  | .cons i t l, listed, r => (match r with
      | j :: r' => (i == j) && trOk ops t (listed.setIfInBounds i true) && trsOk ops l listed r'
      | [] => false)
end
mutual
def trDeep : Tr → Nat
  | .leaf => 0
  | .node l => trsDeep l + 1
def trsDeep : Trs → Nat
  | .nil => 0
  | .cons _ t l => max (trDeep t) (trsDeep l)
end

section
variable (P : Program) (G : Nat → List FD) (T : Tbl) (N tag0 : Nat) (am : Nat → Bool) (ops : Array Oper)
def stepT (o : Option Oper) (k : St → Prop) (st : St) : Prop := Bi o fun o => Bi (gval ops st.fr o.guard) fun b => CondB b (XO P G T N tag0 am st k o.dst o.op) (Chk (dstOk N o.dst) (k (st.put o.dst (.tup []))))
mutual
def symT : Tr → (St → Prop) → St → Prop
  | .leaf, K, st => K st
  | .node l, K, st => symTs l K st
def symTs : Trs → (St → Prop) → St → Prop
  | .nil, _, _ => True
  | .cons i t l, K, st => stepT P G T N tag0 am ops ops[i]? (symT t K) st ∧ symTs l K st
end
end

section
variable {P : Program} {G : Nat → List FD} {T : Tbl} {N tag0 : Nat} {am : Nat → Bool} {ops : Array Oper} {K : St → Prop}

theorem symTs_mem (hT : TblOk P G T) : ∀ (l : Trs) (listed : Array Bool) (r : List Nat) (st : St), trsOk ops l listed r = true → symTs P G T N tag0 am ops l K st → ∀ i ∈ r, ∃ t, trOk ops t (listed.setIfInBounds i true) = true ∧ trDeep t ≤ trsDeep l ∧ stepT P G T N tag0 am ops ops[i]? (symT P G T N tag0 am ops t K) st
  | .nil, listed, r, st, h, _, i, hi => by
    simp only [trsOk, List.isEmpty_iff] at h
    subst h; cases hi
  | .cons j t l, listed, r, st, h, hs, i, hi => by
    cases r with
    | nil => simp [trsOk] at h
    | cons a r =>
      simp only [trsOk, Bool.and_eq_true, beq_iff_eq] at h
      obtain ⟨⟨rfl, h1⟩, h2⟩ := h
      simp only [symTs] at hs
      rcases List.mem_cons.1 hi with rfl | hi
      · exact ⟨t, h1, by simp only [trsDeep]; omega, hs.1⟩
      · obtain ⟨t', g1, g2, g3⟩ := symTs_mem hT l listed r st h2 hs.2 i hi
        exact ⟨t', g1, by simp only [trsDeep]; omega, g3⟩

theorem symT_any (hT : TblOk P G T) : ∀ (fuel : Nat) (t : Tr) (listed : Array Bool) (st : St), trOk ops t listed = true → trDeep t ≤ fuel → symT P G T N tag0 am ops t K st → anyS P G T N tag0 ops (fun _ => false) K fuel listed st
  | fuel, .leaf, listed, st, h, _, hs => by
    simp only [trOk, List.isEmpty_iff] at h
    simp only [symT] at hs
    cases fuel with
    | zero => exact ⟨h, hs⟩
    | succ fuel => exact ⟨fun _ => hs, fun i hi => by rw [h] at hi; cases hi⟩
  | 0, .node l, listed, st, h, hd, hs => by simp [trDeep] at hd
  | fuel + 1, .node .nil, listed, st, h, _, hs => by
    simp only [trOk, trsOk] at h
    cases hh : (Region.ready .any ops listed).isEmpty <;> simp [hh] at h
  | fuel + 1, .node (.cons j t l), listed, st, h, hd, hs => by
    simp only [trOk, Bool.and_eq_true] at h
    replace h := h.2
    simp only [symT] at hs
    simp only [trDeep] at hd
    refine ⟨fun hr => ?_, fun i hi o ho => ?_⟩
    · rw [hr] at h; simp [trsOk] at h
    · obtain ⟨t', h1, h2, h3⟩ := symTs_mem hT (.cons j t l) listed _ st h hs i hi
      rw [ho] at h3
      have h3' : Bi (gval ops st.fr o.guard) fun b => CondB b (XO P G T N tag0 am st (symT P G T N tag0 am ops t' K) o.dst o.op) (Chk (dstOk N o.dst) (symT P G T N tag0 am ops t' K (st.put o.dst (.tup [])))) := h3
      obtain ⟨b, hb, g1, g2⟩ := Bi_ex h3'
      unfold stepS
      simp only [Bool.false_eq_true, if_false, hb]
      cases b with
      | true =>
        refine symOp_local (fr := st.fr) (fr2 := st.fr) (K := fun s => symT P G T N tag0 am ops t' K s) (fun _ _ => rfl) ?_ (XO_sym hT o (g1 rfl))
        rintro s s2 hK ⟨e, H', n', rfl, rfl⟩
        exact symT_any hT fuel t' _ _ h1 (by omega) hK
      | false =>
        obtain ⟨e1, e2⟩ := g2 rfl
        exact ⟨e1, symT_any hT fuel t' _ _ h1 (by omega) e2⟩

theorem W_drawT (hm : P.follows .mixedOrders = true) (hT : TblOk P G T) {Q : Exit → St → Prop} {id : Nat} {st : St} (t : Tr) (ht : trOk ops t (Array.replicate ops.size false) = true) (hd : decide (trDeep t ≤ ops.size) = true) (h : symT P G T N tag0 am ops t (Q .normal) st) : W P G N (.region id ops true) Q st := by
  intro a w L F hr
  refine wp_region_any hm ?_
  have hr' : Rel G N st a { w with drawn := w.drawn + 1 } L F := ⟨hr.ok.heap rfl, hr.size, fun t => (hr.fr t).ext (heap_ext (w := w) (w' := { w with drawn := w.drawn + 1 }) rfl), hr.nd⟩
  have hst : SStep st w L F st { w with drawn := w.drawn + 1 } L F := ⟨fun _ h => h, fun _ _ => rfl, fun _ _ h => h, Nat.le_refl _, fun _ _ _ => rfl, fun _ _ _ _ => rfl, fun _ cs T fr _ h => ⟨cs, T, fr, h, Nat.le_refl _⟩, fun _ _ h => .inl h, fun _ _ h => .inr h, rfl, rfl, rfl⟩
  exact anyS_wp hT (Q' := fun e a' w' => Sat G N st w L F (Q e) a' w') _ _ st a _ L F hr' (symT_any hT ops.size t _ st ht (of_decide_eq_true hd) h) (fun _ _ hs => hs.trans hst)
end

def stepTK (P : Program) (G : Nat → List FD) (T : Tbl) (N tag0 : Nat) (am : Nat → Bool) (ops : Array Oper) (o : Option Oper) (st : St) [k : Kn St] : Prop := stepT P G T N tag0 am ops o k.run st
def symTK (P : Program) (G : Nat → List FD) (T : Tbl) (N tag0 : Nat) (am : Nat → Bool) (ops : Array Oper) (t : Tr) (st : St) [k : Kn St] : Prop := symT P G T N tag0 am ops t k.run st
def symTsK (P : Program) (G : Nat → List FD) (T : Tbl) (N tag0 : Nat) (am : Nat → Bool) (ops : Array Oper) (t : Trs) (st : St) [k : Kn St] : Prop := symTs P G T N tag0 am ops t k.run st
section
variable {P : Program} {G : Nat → List FD} {T : Tbl} {N tag0 : Nat} {am : Nat → Bool} {ops : Array Oper} {st : St} {k : St → Prop} {t : Tr} {l : Trs} {i : Nat} {o : Oper}
@[go_sem] theorem k_tr_leaf : @symTK P G T N tag0 am ops .leaf st ⟨k⟩ = k st := by unfold symTK; rw [symT]; rfl
@[go_sem] theorem k_tr_node : @symTK P G T N tag0 am ops (.node l) st ⟨k⟩ = @symTsK P G T N tag0 am ops l st ⟨k⟩ := by unfold symTK symTsK; rw [symT]
@[go_sem] theorem k_trs_nil : @symTsK P G T N tag0 am ops .nil st ⟨k⟩ = True := by unfold symTsK; rw [symTs]
@[go_sem] theorem k_trs_cons : @symTsK P G T N tag0 am ops (.cons i t l) st ⟨k⟩ = (@stepTK P G T N tag0 am ops ops[i]? st ⟨fun st => @symTK P G T N tag0 am ops t st ⟨k⟩⟩ ∧ @symTsK P G T N tag0 am ops l st ⟨k⟩) := by
  unfold symTsK stepTK; rw [symTs]; rfl
@[go_sem] theorem k_stepT : @stepTK P G T N tag0 am ops (some o) st ⟨k⟩ = @BiK _ (gval ops st.fr o.guard) ⟨fun b => @CondK b ⟨@XOK P G T N tag0 am st o.dst o.op ⟨k⟩⟩ ⟨@ChkK (dstOk N o.dst) ⟨k (st.put o.dst (.tup []))⟩⟩⟩ := by
  unfold stepTK stepT BiK CondK XOK ChkK; rfl
theorem WK_tree (hm : P.follows .mixedOrders = true) (hT : TblOk P G T) {q : Exit → St → Prop} {id : Nat} (tag0 : Nat) (am : Nat → Bool) (t : Tr) (ht : trOk ops t (Array.replicate ops.size false) = true) (hd : decide (trDeep t ≤ ops.size) = true)
    (h : @symTK P G T N tag0 am ops t st ⟨q .normal⟩) : @WK P G N (.region id ops true) st ⟨q⟩ := by
  unfold WK; unfold symTK at h; exact W_drawT hm hT t ht hd h
end
attribute [irreducible] stepTK symTK symTsK
end Go.Abs
