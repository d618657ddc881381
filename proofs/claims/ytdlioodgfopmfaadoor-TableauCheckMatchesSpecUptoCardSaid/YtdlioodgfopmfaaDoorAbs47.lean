import Derived.Test.YtdlioodgfopmfaaDoorAbs46
namespace Go.Abs
open Go

/-! ## calls with immutable arguments, pointers to immutable cells and closures over these among them -/
mutual
def puD : D → Option D
  | .rp xs => some (.rp xs)
  | .fn f caps => (puDs caps).map (D.fn f)
  | .fz x => some (.fz x)
  | .full xs => some (.fz (.sl xs))
  | .ow _ _ xs => some (.fz (.sl xs))
  | .agg ds => (D.toFD (.agg ds)).map .fz
  | .junk => none
  | .ptr _ _ => none
  | .arr _ _ _ _ => none
  | .tup _ => none
def puDs : List D → Option (List D)
  | [] => some []
  | d :: ds => match puD d, puDs ds with
    | some x, some xs => some (x :: xs)
    | _, _ => none
end
section
variable {w : World} {L L' : Loc} {F : Nat → Nat → Prop} {U U' : Id → Prop}
mutual
theorem VRep.pu : ∀ (d d' : D) (v : Value), puD d = some d' → VRep w L F U d v → VRep w L' F U' d' v
  | .rp xs, d', v, e, h => by
    rw [puD] at e; cases e
    simpa only [VRep] using h
  | .fn f caps, d', v, e, h => by
    rw [puD, Option.map_eq_some_iff] at e
    obtain ⟨cs, e1, rfl⟩ := e
    simp only [VRep] at h ⊢
    obtain ⟨vs, h1, h2⟩ := h
    exact ⟨vs, h1, VReps.pu caps cs vs e1 h2⟩
  | .fz x, d', v, e, h => by
    rw [puD] at e; cases e
    simpa only [VRep] using h
  | .full xs, d', v, e, h => by
    rw [puD] at e; cases e
    simp only [VRep] at h ⊢
    obtain ⟨_, _, h⟩ := h
    exact h
  | .ow id es xs, d', v, e, h => by
    rw [puD] at e; cases e
    simp only [VRep] at h ⊢
    exact h.2.1
  | .agg ds, d', v, e, h => by
    rw [puD, Option.map_eq_some_iff] at e
    obtain ⟨x, e1, rfl⟩ := e
    simp only [VRep]
    exact VRep.toFD _ _ _ h e1
  | .junk, d', v, e, h => by rw [puD] at e; cases e
  | .ptr _ _, d', v, e, h => by rw [puD] at e; cases e
  | .arr _ _ _ _, d', v, e, h => by rw [puD] at e; cases e
  | .tup _, d', v, e, h => by rw [puD] at e; cases e
theorem VReps.pu : ∀ (ds ds' : List D) (vs : List Value), puDs ds = some ds' → VReps w L F U ds vs → VReps w L' F U' ds' vs
  | [], ds', vs, e, h => by
    rw [puDs] at e; cases e
    cases vs with
    | nil => simp only [VReps]
    | cons => simp only [VReps] at h
  | d :: ds, ds', vs, e, h => by
    rw [puDs] at e
    cases h1 : puD d with
    | none => rw [h1] at e; cases e
    | some x =>
      cases h2 : puDs ds with
      | none => rw [h1, h2] at e; cases e
      | some xs =>
        rw [h1, h2] at e
        cases e
        cases vs with
        | nil => simp only [VReps] at h
        | cons v vs =>
          simp only [VReps] at h ⊢
          exact ⟨VRep.pu d x v h1 h.1, VReps.pu ds xs vs h2 h.2⟩
end
end
section
variable {P : Program} {G : Nat → List FD}
/-- a pure function of immutable arguments -/
theorem Wcall_pu {f : FuncId} {ds ys : List D} {r : FD} {H : Heap} {n : Nat} {R : D → Heap → Nat → Prop} (ha : puDs ds = some ys)
    (h : Wcall P G f ys (hpL []) 0 (fun d _ _ => D.val d = some (.fz r))) (hR : R (.fz r) H n) : Wcall P G f ds H n R := by
  rw [← H0_eq] at h
  refine ⟨h.1, fun w L F vs hok hvs => ?_⟩
  refine (h.2 w L F vs ⟨hok.fb, (fun _ _ h => nomatch h), (fun _ _ _ _ h => nomatch h), hok.glob⟩ (VReps.pu _ _ _ ha hvs)).mono fun e w' he => ?_
  obtain ⟨v, d, H', n', L', F', rfl, hd, g1, g2, g3⟩ := he
  have nb : ∀ b, ¬ Blk H0 L b := by rintro b ⟨_, _, h, _⟩; cases h
  have no : ∀ b k, ¬ Own H0 L b k := by rintro b k ⟨_, _, h, _⟩; cases h
  have ext : Ext w L F (Ub n) w' L F' (Ub n) := ⟨fun _ h => h, fun _ _ => rfl, g3.f, fun b k hb => g3.keepc b k (hok.fb b k hb) (no b k), g3.size, g3.shape⟩
  refine ⟨v, .fz r, H, n, L, F', rfl, hR, ⟨g1.fb, ?_, hok.inj, g1.glob⟩, g2.val hd, ?_⟩
  · intro id o ho
    obtain ⟨h1, h2⟩ := hok.live id o ho
    refine ⟨h1, h2.ext ext h1 fun hv => ?_⟩
    have hlt := hok.blk_lt ho hv
    refine ⟨g3.keep _ hlt (nb _), fun k hk hF => ?_⟩
    rcases g3.fnew _ _ hF with h | h | h
    · exact (objRep_real h2 hv).1 k hk h
    · omega
    · exact no _ _ h
  · refine ⟨fun _ h => h, fun _ _ => rfl, g3.f, g3.size, fun b hb _ => g3.keep b hb (nb b), fun b k hb _ => g3.keepc b k hb (no b k), g3.shape, fun b k hb => ?_, fun b k hb => .inr hb, g3.os, g3.tape, g3.output⟩
    rcases g3.fnew b k hb with h | h | h
    · exact .inl h
    · exact .inr (.inl h)
    · exact absurd h (no b k)
end

@[go_sem] theorem r_rp {n n' : Nat} {pre : Id → Id} {vn : Id → Bool} {z : Id → Option (List FD)} {H : Heap} {xs ys : List FD} : Dr n n' pre vn z H (.rp xs) (.rp ys) = (xs = ys) := by simp [Dr]

/-! ## boxes that a closure captures become immutable -/
mutual
def rpD (id : Id) (ys : List FD) : D → D
  | .ptr i k => if i = id ∧ k = 0 then .rp ys else .ptr i k
  | .fn f caps => .fn f (rpDs id ys caps)
  | .agg ds => .agg (rpDs id ys ds)
  | .tup ds => .tup (rpDs id ys ds)
  | .junk => .junk
  | .fz x => .fz x
  | .full xs => .full xs
  | .rp xs => .rp xs
  | .arr i es s len => .arr i es s len
  | .ow i es xs => .ow i es xs
def rpDs (id : Id) (ys : List FD) : List D → List D
  | [] => []
  | d :: ds => rpD id ys d :: rpDs id ys ds
end
theorem rpDs_map (id : Id) (ys : List FD) : ∀ l : List D, rpDs id ys l = l.map (rpD id ys)
  | [] => rfl
  | d :: l => by rw [rpDs, rpDs_map id ys l]; rfl
section
variable {w : World} {L : Loc} {F F' : Nat → Nat → Prop} {U : Id → Prop} {id : Id} {ys : List FD}
mutual
theorem VRep.rpd (hF : ∀ b k, F b k → F' b k) (hp : ∀ j, j < ys.length → F' (L id).1 ((L id).2 + j) ∧ ∃ u, World.at w (L id).1 ((L id).2 + j) = some u ∧ FRep w F' u (ys.getD j .nilf)) :
    ∀ (d : D) (v : Value), VRep w L F U d v → VRep w L F' U (rpD id ys d) v
  | .ptr i k, v, h => by
    rw [rpD]
    split
    · rename_i e
      obtain ⟨rfl, rfl⟩ := e
      simp only [VRep] at h ⊢
      exact ⟨(L i).1, (L i).2 + 0, h.2.2, fun j hj => by rw [Nat.add_zero]; exact hp j hj⟩
    · simpa only [VRep] using h
  | .fn f caps, v, h => by
    rw [rpD]
    simp only [VRep] at h ⊢
    obtain ⟨vs, h1, h2⟩ := h
    exact ⟨vs, h1, VReps.rpd hF hp _ _ h2⟩
  | .agg ds, v, h => by
    rw [rpD]
    simp only [VRep] at h ⊢
    obtain ⟨vs, h1, h2⟩ := h
    exact ⟨vs, h1, VReps.rpd hF hp _ _ h2⟩
  | .tup ds, v, h => by
    rw [rpD]
    simp only [VRep] at h ⊢
    obtain ⟨vs, h1, h2⟩ := h
    exact ⟨vs, h1, VReps.rpd hF hp _ _ h2⟩
  | .junk, v, h => by rw [rpD]; simp only [VRep]
  | .fz x, v, h => VRep.ext (U' := U) ⟨fun _ h => h, fun _ _ => rfl, hF, fun _ _ _ => rfl, Nat.le_refl _, fun b cs T fr _ h => ⟨cs, T, fr, h, Nat.le_refl _⟩⟩ (.fz x) v h
  | .full xs, v, h => VRep.ext (U' := U) ⟨fun _ h => h, fun _ _ => rfl, hF, fun _ _ _ => rfl, Nat.le_refl _, fun b cs T fr _ h => ⟨cs, T, fr, h, Nat.le_refl _⟩⟩ (.full xs) v h
  | .rp xs, v, h => VRep.ext (U' := U) ⟨fun _ h => h, fun _ _ => rfl, hF, fun _ _ _ => rfl, Nat.le_refl _, fun b cs T fr _ h => ⟨cs, T, fr, h, Nat.le_refl _⟩⟩ (.rp xs) v h
  | .arr i es s len, v, h => VRep.ext (U' := U) ⟨fun _ h => h, fun _ _ => rfl, hF, fun _ _ _ => rfl, Nat.le_refl _, fun b cs T fr _ h => ⟨cs, T, fr, h, Nat.le_refl _⟩⟩ (.arr i es s len) v h
  | .ow i es xs, v, h => VRep.ext (U' := U) ⟨fun _ h => h, fun _ _ => rfl, hF, fun _ _ _ => rfl, Nat.le_refl _, fun b cs T fr _ h => ⟨cs, T, fr, h, Nat.le_refl _⟩⟩ (.ow i es xs) v h
theorem VReps.rpd (hF : ∀ b k, F b k → F' b k) (hp : ∀ j, j < ys.length → F' (L id).1 ((L id).2 + j) ∧ ∃ u, World.at w (L id).1 ((L id).2 + j) = some u ∧ FRep w F' u (ys.getD j .nilf)) :
    ∀ (ds : List D) (vs : List Value), VReps w L F U ds vs → VReps w L F' U (rpDs id ys ds) vs
  | [], [], _ => by rw [rpDs]; simp only [VReps]
  | d :: ds, v :: vs, h => by
    rw [rpDs]
    simp only [VReps] at h ⊢
    exact ⟨VRep.rpd hF hp d v h.1, VReps.rpd hF hp ds vs h.2⟩
  | [], _ :: _, h => by simp only [VReps] at h
  | _ :: _, [], h => by simp only [VReps] at h
end
end
section
variable {P : Program} {G : Nat → List FD} {N : Nat} {st : St}
theorem Weak_rpD {id : Id} {ys : List FD} {b : Bool} (ho : st.H id = some ⟨ys.map .fz, b, false⟩) : Weak G N st ⟨fun t => rpD id ys (st.fr t), updH st.H id none, st.n⟩ := by
  intro a w L F h
  obtain ⟨hu, hob⟩ := h.ok.live id _ ho
  have hv3 : (L id).3 = false := by
    cases e : (L id).3 with
    | false => rfl
    | true => unfold ObjRep at hob; rw [if_pos e] at hob; cases hob.2
  obtain ⟨hnF, cs, T, hcs, hsz, hcell⟩ := objRep_real hob hv3
  have hlt : (L id).1 < w.heap.size := by
    rcases Nat.lt_or_ge (L id).1 w.heap.size with h | h
    · exact h
    · rw [Array.getElem?_eq_none h] at hcs; cases hcs
  obtain ⟨F', hF'⟩ : ∃ F' : Nat → Nat → Prop, F' = fun b k => F b k ∨ (b = (L id).1 ∧ (L id).2 ≤ k) := ⟨_, rfl⟩
  have hsub : ∀ b k, F b k → F' b k := fun b k h => by rw [hF']; exact .inl h
  have e : Ext w L F (Ub st.n) w L F' (Ub st.n) := ⟨fun _ h => h, fun _ _ => rfl, hsub, fun _ _ _ => rfl, Nat.le_refl _, fun b cs T fr _ h => ⟨cs, T, fr, h, Nat.le_refl _⟩⟩
  have hold : ∀ id' o', updH st.H id none id' = some o' → id' ≠ id ∧ st.H id' = some o' := fun id' o' h => by
    unfold updH at h
    split at h
    · cases h
    · rename_i hne; exact ⟨hne, h⟩
  refine ⟨L, F', ⟨⟨fun b k hb => ?_, fun id' o' h1 => ?_, fun i1 i2 o1 o2 h1 h2 => h.ok.inj i1 i2 o1 o2 (hold _ _ h1).2 (hold _ _ h2).2, glob_ext hsub (fun _ _ _ => rfl) h.ok.glob⟩, h.size, fun s => ?_, h.nd⟩,
    fun _ h => h, fun _ _ => rfl, hsub, Nat.le_refl _, fun _ _ _ => rfl, fun _ _ _ _ => rfl, fun b cs T fr _ h => ⟨cs, T, fr, h, Nat.le_refl _⟩, fun b k hb => ?_, fun b k hb => ?_, rfl, rfl, rfl⟩
  · rw [hF'] at hb
    rcases hb with hb | ⟨rfl, _⟩
    · exact h.ok.fb b k hb
    · exact hlt
  · obtain ⟨hne, h2⟩ := hold _ _ h1
    obtain ⟨h3, h4⟩ := h.ok.live id' o' h2
    refine ⟨h3, h4.ext e h3 fun hv => ⟨rfl, fun k hk hb => ?_⟩⟩
    rw [hF'] at hb
    rcases hb with hb | ⟨hb, _⟩
    · exact (objRep_real h4 hv).1 k hk hb
    · exact hne (h.ok.inj id' id _ _ h2 ho hv hv3 hb)
  · refine VRep.rpd hsub (fun j hj => ⟨by rw [hF']; exact .inr ⟨rfl, by omega⟩, ?_⟩) _ _ (h.fr s)
    obtain ⟨u, hu1, hu2⟩ := hcell j (by simpa using hj)
    refine ⟨u, by rw [at_of hcs]; exact hu1, ?_⟩
    rw [getD_map_fz _ _ hj] at hu2
    simp only [VRep] at hu2
    exact hu2.mono (fun _ _ _ => rfl) hsub
  · rw [hF'] at hb
    rcases hb with hb | ⟨rfl, hk⟩
    · exact .inl hb
    · exact .inr (.inr ⟨id, _, ho, hv3, rfl, hk⟩)
  · obtain ⟨id', o', h1, h2, h3, h4⟩ := hb
    exact .inr ⟨id', o', (hold _ _ h1).2, h2, h3, h4⟩
/-- a call whose arguments capture a box that is not written any more -/
theorem Wcall_rp {f : FuncId} {args args' : List D} {H : Heap} {n : Nat} {R : D → Heap → Nat → Prop} (id : Id) (ys : List FD) {b : Bool} (ho : H id = some ⟨ys.map .fz, b, false⟩) (ha : rpDs id ys args = args')
    (h : Wcall P G f args' (updH H id none) n R) : Wcall P G f args H n R := by
  subst ha
  refine Wcall_weak (by rw [rpDs_map, List.length_map]) ?_ h
  have e : (fun t => rpD id ys (frL (argL 0 args) t)) = frL (argL 0 (rpDs id ys args)) := by
    funext t
    rw [← argFr_eq, ← argFr_eq]
    simp only [argFr]
    rw [rpDs_map, List.getD_eq_getElem?_getD, List.getD_eq_getElem?_getD, List.getElem?_map]
    cases args[t]? <;> rfl
  rw [← e]
  exact Weak_rpD (st := ⟨frL (argL 0 args), H, n⟩) ho
end
end Go.Abs
