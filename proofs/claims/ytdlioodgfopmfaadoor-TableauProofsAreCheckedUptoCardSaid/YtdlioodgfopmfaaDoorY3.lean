/- several texts of this proof in one; no conditions -/
import Derived.Test.YtdlioodgfopmfaaDoorY2
set_option linter.unusedSimpArgs false
namespace Go.Abs
open Go

/-! ## two tables in one; pure functions that are given a function -/
def Tbl.or (S T : Tbl) : Tbl := fun f => (S f).or (T f)
@[go_sem] theorem Tbl_or {S T : Tbl} {f : FuncId} : Tbl.or S T f = (S f).or (T f) := rfl
@[go_sem] theorem or_some' {α : Type} {a : α} {b : Option α} : (some a).or b = some a := rfl
@[go_sem] theorem or_none' {α : Type} {b : Option α} : (none : Option α).or b = b := by cases b <;> rfl
section
variable {P : Program} {G : Nat → List FD} {S T : Tbl}
theorem TblOk_or (hS : TblOk P G S) (hT : TblOk P G T) : TblOk P G (Tbl.or S T) := fun f t xs r c ht hx hc => by
  unfold Tbl.or at ht
  cases h : S f with
  | none => rw [h] at ht; exact hT f t xs r c (by simpa using ht) hx hc
  | some t' => rw [h] at ht; exact hS f t xs r c (by rw [h]; simpa using ht) hx hc

theorem VReps.tail {w : World} {L L' : Loc} {F : Nat → Nat → Prop} {U U' : Id → Prop} {g : FuncId} {xs : List FD} : ∀ {ds : List D} {vs : List Value}, D.toFDs ds = some xs → VReps w L F U (ds ++ [.fn g []]) vs → VReps w L' F U' (xs.map .fz ++ [.fn g []]) vs := by
  intro ds vs ha h
  rw [VReps.iff] at h ⊢
  obtain ⟨h1, h2⟩ := h
  have hl : xs.length = ds.length := by
    have := VReps.toFDs (w := w) (L := L) (F := F) (U := U) ds (vs.take ds.length) xs (by
      rw [VReps.iff]
      refine ⟨by rw [List.length_append] at h1; simp only [List.length_take]; omega, fun j hj => ?_⟩
      have := h2 j (by rw [List.length_append]; omega)
      rw [List.getD_eq_getElem?_getD, List.getElem?_append_left hj, ← List.getD_eq_getElem?_getD] at this
      rwa [List.getD_eq_getElem?_getD (l := vs.take _), List.getElem?_take, if_pos hj, ← List.getD_eq_getElem?_getD (l := vs)]) ha
    have h3 := this.1
    rw [List.length_append] at h1
    simp only [List.length_take] at h3
    omega
  refine ⟨by rw [List.length_append, List.length_map, hl, ← List.length_append]; exact h1, fun j hj => ?_⟩
  rw [List.length_append, List.length_map] at hj
  have h3 := h2 j (by rw [List.length_append]; omega)
  rcases Nat.lt_or_ge j ds.length with h4 | h4
  · have hv : VReps w L F U ds (vs.take ds.length) := by
      rw [VReps.iff]
      refine ⟨by rw [List.length_append] at h1; simp only [List.length_take]; omega, fun i hi => ?_⟩
      have := h2 i (by rw [List.length_append]; omega)
      rw [List.getD_eq_getElem?_getD, List.getElem?_append_left hi, ← List.getD_eq_getElem?_getD] at this
      rwa [List.getD_eq_getElem?_getD (l := vs.take _), List.getElem?_take, if_pos hi, ← List.getD_eq_getElem?_getD (l := vs)]
    have := ((VReps.iff _ _).1 (hv.of_toFDs (L' := L') (U' := U') ha)).2 j (by rw [List.length_map]; omega)
    rw [List.getD_eq_getElem?_getD, List.getElem?_append_left (by rw [List.length_map]; omega), ← List.getD_eq_getElem?_getD]
    rwa [List.getD_eq_getElem?_getD (l := vs.take _), List.getElem?_take, if_pos h4, ← List.getD_eq_getElem?_getD (l := vs)] at this
  · obtain rfl : j = ds.length := by simp only [List.length_singleton] at hj; omega
    rw [List.getD_eq_getElem?_getD, List.getElem?_append_right (Nat.le_refl _), Nat.sub_self] at h3
    rw [List.getD_eq_getElem?_getD, List.getElem?_append_right (by rw [List.length_map]; omega), List.length_map, hl, Nat.sub_self]
    simp only [List.getElem?_cons_zero, Option.getD_some, VRep] at h3 ⊢
    obtain ⟨us, e, h5⟩ := h3
    refine ⟨us, e, ?_⟩
    cases us with
    | nil => simp only [VReps]
    | cons u us => simp only [VReps] at h5

/-- a pure function whose last argument is a function without captured variables -/
theorem Wcall_pureF {f g : FuncId} {ds : List D} {xs : List FD} {r : D} {H : Heap} {n : Nat} (ha : D.toFDs ds = some xs)
    (h : Wcall P G f (xs.map .fz ++ [.fn g []]) H0 0 (fun d _ _ => D.val d = some r)) : Wcall P G f (ds ++ [.fn g []]) H n (fun d H' n' => d = r ∧ H' = H ∧ n' = n) := by
  refine ⟨h.1, fun w L F vs hok hvs => ?_⟩
  refine (h.2 w L F vs ⟨hok.fb, (fun _ _ h => nomatch h), (fun _ _ _ _ h => nomatch h), hok.glob⟩ (hvs.tail ha)).mono fun e w' he => ?_
  obtain ⟨v, d, H', n', L', F', rfl, hd, g1, g2, g3⟩ := he
  have nb : ∀ b, ¬ Blk H0 L b := by rintro b ⟨_, _, h, _⟩; cases h
  have no : ∀ b k, ¬ Own H0 L b k := by rintro b k ⟨_, _, h, _⟩; cases h
  have ext : Ext w L F (Ub n) w' L F' (Ub n) := ⟨fun _ h => h, fun _ _ => rfl, g3.f, fun b k hb => g3.keepc b k (hok.fb b k hb) (no b k), g3.size, g3.shape⟩
  refine ⟨v, r, H, n, L, F', rfl, ⟨rfl, rfl, rfl⟩, ⟨g1.fb, ?_, hok.inj, g1.glob⟩, g2.val hd, ?_⟩
  · intro id o ho
    obtain ⟨h1, h2⟩ := hok.live id o ho
    refine ⟨h1, h2.ext ext h1 fun hv => ?_⟩
    have hlt := hok.blk_lt ho hv
    refine ⟨g3.keep _ hlt (nb _), fun k hk hF => ?_⟩
    rcases g3.fnew _ _ hF with h | h | h
    · exact (objRep_real h2 hv).1 k hk h
    · omega
    · exact no _ _ h
  · refine ⟨fun _ h => h, fun _ _ => rfl, g3.f, g3.size, fun b hb _ => g3.keep b hb (nb b), fun b k hb _ => g3.keepc b k hb (no b k), g3.shape, fun b k hb => ?_, fun b k hb => .inr hb, g3.os, g3.tape, g3.output⟩
    rcases g3.fnew b k hb with h | h | h
    · exact .inl h
    · exact .inr (.inl h)
    · exact absurd h (no b k)
end
end Go.Abs

namespace Go.Abs
open Go

/-! ## calls with immutable arguments, pointers to immutable cells and closures over these among them -/
mutual
def puD : D → Option D
  | .rp xs => some (.rp xs)
  | .fn f caps => (puDs caps).map (D.fn f)
  | .fz x => some (.fz x)
  | .full xs => some (.fz (.sl xs))
  | .ow _ _ xs => some (.fz (.sl xs))
  | .agg ds => (D.toFD (.agg ds)).map .fz
  | .junk => none
  | .ptr _ _ => none
  | .arr _ _ _ _ => none
  | .tup _ => none
def puDs : List D → Option (List D)
  | [] => some []
  | d :: ds => match puD d, puDs ds with
    | some x, some xs => some (x :: xs)
    | _, _ => none
end
section
variable {w : World} {L L' : Loc} {F : Nat → Nat → Prop} {U U' : Id → Prop}
mutual
theorem VRep.pu : ∀ (d d' : D) (v : Value), puD d = some d' → VRep w L F U d v → VRep w L' F U' d' v
  | .rp xs, d', v, e, h => by
    rw [puD] at e; cases e
    simpa only [VRep] using h
  | .fn f caps, d', v, e, h => by
    rw [puD, Option.map_eq_some_iff] at e
    obtain ⟨cs, e1, rfl⟩ := e
    simp only [VRep] at h ⊢
    obtain ⟨vs, h1, h2⟩ := h
    exact ⟨vs, h1, VReps.pu caps cs vs e1 h2⟩
  | .fz x, d', v, e, h => by
    rw [puD] at e; cases e
    simpa only [VRep] using h
  | .full xs, d', v, e, h => by
    rw [puD] at e; cases e
    simp only [VRep] at h ⊢
    obtain ⟨_, _, h⟩ := h
    exact h
  | .ow id es xs, d', v, e, h => by
    rw [puD] at e; cases e
    simp only [VRep] at h ⊢
    exact h.2.1
  | .agg ds, d', v, e, h => by
    rw [puD, Option.map_eq_some_iff] at e
    obtain ⟨x, e1, rfl⟩ := e
    simp only [VRep]
    exact VRep.toFD _ _ _ h e1
  | .junk, d', v, e, h => by rw [puD] at e; cases e
  | .ptr _ _, d', v, e, h => by rw [puD] at e; cases e
  | .arr _ _ _ _, d', v, e, h => by rw [puD] at e; cases e
  | .tup _, d', v, e, h => by rw [puD] at e; cases e
theorem VReps.pu : ∀ (ds ds' : List D) (vs : List Value), puDs ds = some ds' → VReps w L F U ds vs → VReps w L' F U' ds' vs
  | [], ds', vs, e, h => by
    rw [puDs] at e; cases e
    cases vs with
    | nil => simp only [VReps]
    | cons => simp only [VReps] at h
  | d :: ds, ds', vs, e, h => by
    rw [puDs] at e
    cases h1 : puD d with
    | none => rw [h1] at e; cases e
    | some x =>
      cases h2 : puDs ds with
      | none => rw [h1, h2] at e; cases e
      | some xs =>
        rw [h1, h2] at e
        cases e
        cases vs with
        | nil => simp only [VReps] at h
        | cons v vs =>
          simp only [VReps] at h ⊢
          exact ⟨VRep.pu d x v h1 h.1, VReps.pu ds xs vs h2 h.2⟩
end
end
section
variable {P : Program} {G : Nat → List FD}
/-- a pure function of immutable arguments -/
theorem Wcall_pu {f : FuncId} {ds ys : List D} {r : FD} {H : Heap} {n : Nat} {R : D → Heap → Nat → Prop} (ha : puDs ds = some ys)
    (h : Wcall P G f ys (hpL []) 0 (fun d _ _ => D.val d = some (.fz r))) (hR : R (.fz r) H n) : Wcall P G f ds H n R := by
  rw [← H0_eq] at h
  refine ⟨h.1, fun w L F vs hok hvs => ?_⟩
  refine (h.2 w L F vs ⟨hok.fb, (fun _ _ h => nomatch h), (fun _ _ _ _ h => nomatch h), hok.glob⟩ (VReps.pu _ _ _ ha hvs)).mono fun e w' he => ?_
  obtain ⟨v, d, H', n', L', F', rfl, hd, g1, g2, g3⟩ := he
  have nb : ∀ b, ¬ Blk H0 L b := by rintro b ⟨_, _, h, _⟩; cases h
  have no : ∀ b k, ¬ Own H0 L b k := by rintro b k ⟨_, _, h, _⟩; cases h
  have ext : Ext w L F (Ub n) w' L F' (Ub n) := ⟨fun _ h => h, fun _ _ => rfl, g3.f, fun b k hb => g3.keepc b k (hok.fb b k hb) (no b k), g3.size, g3.shape⟩
  refine ⟨v, .fz r, H, n, L, F', rfl, hR, ⟨g1.fb, ?_, hok.inj, g1.glob⟩, g2.val hd, ?_⟩
  · intro id o ho
    obtain ⟨h1, h2⟩ := hok.live id o ho
    refine ⟨h1, h2.ext ext h1 fun hv => ?_⟩
    have hlt := hok.blk_lt ho hv
    refine ⟨g3.keep _ hlt (nb _), fun k hk hF => ?_⟩
    rcases g3.fnew _ _ hF with h | h | h
    · exact (objRep_real h2 hv).1 k hk h
    · omega
    · exact no _ _ h
  · refine ⟨fun _ h => h, fun _ _ => rfl, g3.f, g3.size, fun b hb _ => g3.keep b hb (nb b), fun b k hb _ => g3.keepc b k hb (no b k), g3.shape, fun b k hb => ?_, fun b k hb => .inr hb, g3.os, g3.tape, g3.output⟩
    rcases g3.fnew b k hb with h | h | h
    · exact .inl h
    · exact .inr (.inl h)
    · exact absurd h (no b k)
end

@[go_sem] theorem r_rp {n n' : Nat} {pre : Id → Id} {vn : Id → Bool} {z : Id → Option (List FD)} {H : Heap} {xs ys : List FD} : Dr n n' pre vn z H (.rp xs) (.rp ys) = (xs = ys) := by simp [Dr]

/-! ## boxes that a closure captures become immutable -/
mutual
def rpD (id : Id) (ys : List FD) : D → D
  | .ptr i k => if i = id ∧ k = 0 then .rp ys else .ptr i k
  | .fn f caps => .fn f (rpDs id ys caps)
  | .agg ds => .agg (rpDs id ys ds)
  | .tup ds => .tup (rpDs id ys ds)
  | .junk => .junk
  | .fz x => .fz x
  | .full xs => .full xs
  | .rp xs => .rp xs
  | .arr i es s len => .arr i es s len
  | .ow i es xs => .ow i es xs
def rpDs (id : Id) (ys : List FD) : List D → List D
  | [] => []
  | d :: ds => rpD id ys d :: rpDs id ys ds
end
theorem rpDs_map (id : Id) (ys : List FD) : ∀ l : List D, rpDs id ys l = l.map (rpD id ys)
  | [] => rfl
  | d :: l => by rw [rpDs, rpDs_map id ys l]; rfl
section
variable {w : World} {L : Loc} {F F' : Nat → Nat → Prop} {U : Id → Prop} {id : Id} {ys : List FD}
mutual
theorem VRep.rpd (hF : ∀ b k, F b k → F' b k) (hp : ∀ j, j < ys.length → F' (L id).1 ((L id).2 + j) ∧ ∃ u, World.at w (L id).1 ((L id).2 + j) = some u ∧ FRep w F' u (ys.getD j .nilf)) :
    ∀ (d : D) (v : Value), VRep w L F U d v → VRep w L F' U (rpD id ys d) v
  | .ptr i k, v, h => by
    rw [rpD]
    split
    · rename_i e
      obtain ⟨rfl, rfl⟩ := e
      simp only [VRep] at h ⊢
      exact ⟨(L i).1, (L i).2 + 0, h.2.2, fun j hj => by rw [Nat.add_zero]; exact hp j hj⟩
    · simpa only [VRep] using h
  | .fn f caps, v, h => by
    rw [rpD]
    simp only [VRep] at h ⊢
    obtain ⟨vs, h1, h2⟩ := h
    exact ⟨vs, h1, VReps.rpd hF hp _ _ h2⟩
  | .agg ds, v, h => by
    rw [rpD]
    simp only [VRep] at h ⊢
    obtain ⟨vs, h1, h2⟩ := h
    exact ⟨vs, h1, VReps.rpd hF hp _ _ h2⟩
  | .tup ds, v, h => by
    rw [rpD]
    simp only [VRep] at h ⊢
    obtain ⟨vs, h1, h2⟩ := h
    exact ⟨vs, h1, VReps.rpd hF hp _ _ h2⟩
  | .junk, v, h => by rw [rpD]; simp only [VRep]
  | .fz x, v, h => VRep.ext (U' := U) ⟨fun _ h => h, fun _ _ => rfl, hF, fun _ _ _ => rfl, Nat.le_refl _, fun b cs T fr _ h => ⟨cs, T, fr, h, Nat.le_refl _⟩⟩ (.fz x) v h
  | .full xs, v, h => VRep.ext (U' := U) ⟨fun _ h => h, fun _ _ => rfl, hF, fun _ _ _ => rfl, Nat.le_refl _, fun b cs T fr _ h => ⟨cs, T, fr, h, Nat.le_refl _⟩⟩ (.full xs) v h
  | .rp xs, v, h => VRep.ext (U' := U) ⟨fun _ h => h, fun _ _ => rfl, hF, fun _ _ _ => rfl, Nat.le_refl _, fun b cs T fr _ h => ⟨cs, T, fr, h, Nat.le_refl _⟩⟩ (.rp xs) v h
  | .arr i es s len, v, h => VRep.ext (U' := U) ⟨fun _ h => h, fun _ _ => rfl, hF, fun _ _ _ => rfl, Nat.le_refl _, fun b cs T fr _ h => ⟨cs, T, fr, h, Nat.le_refl _⟩⟩ (.arr i es s len) v h
  | .ow i es xs, v, h => VRep.ext (U' := U) ⟨fun _ h => h, fun _ _ => rfl, hF, fun _ _ _ => rfl, Nat.le_refl _, fun b cs T fr _ h => ⟨cs, T, fr, h, Nat.le_refl _⟩⟩ (.ow i es xs) v h
theorem VReps.rpd (hF : ∀ b k, F b k → F' b k) (hp : ∀ j, j < ys.length → F' (L id).1 ((L id).2 + j) ∧ ∃ u, World.at w (L id).1 ((L id).2 + j) = some u ∧ FRep w F' u (ys.getD j .nilf)) :
    ∀ (ds : List D) (vs : List Value), VReps w L F U ds vs → VReps w L F' U (rpDs id ys ds) vs
  | [], [], _ => by rw [rpDs]; simp only [VReps]
  | d :: ds, v :: vs, h => by
    rw [rpDs]
    simp only [VReps] at h ⊢
    exact ⟨VRep.rpd hF hp d v h.1, VReps.rpd hF hp ds vs h.2⟩
  | [], _ :: _, h => by simp only [VReps] at h
  | _ :: _, [], h => by simp only [VReps] at h
end
end
section
variable {P : Program} {G : Nat → List FD} {N : Nat} {st : St}
theorem Weak_rpD {id : Id} {ys : List FD} {b : Bool} (ho : st.H id = some ⟨ys.map .fz, b, false⟩) : Weak G N st ⟨fun t => rpD id ys (st.fr t), updH st.H id none, st.n⟩ := by
  intro a w L F h
  obtain ⟨hu, hob⟩ := h.ok.live id _ ho
  have hv3 : (L id).3 = false := by
    cases e : (L id).3 with
    | false => rfl
    | true => unfold ObjRep at hob; rw [if_pos e] at hob; cases hob.2
  obtain ⟨hnF, cs, T, hcs, hsz, hcell⟩ := objRep_real hob hv3
  have hlt : (L id).1 < w.heap.size := by
    rcases Nat.lt_or_ge (L id).1 w.heap.size with h | h
    · exact h
    · rw [Array.getElem?_eq_none h] at hcs; cases hcs
  obtain ⟨F', hF'⟩ : ∃ F' : Nat → Nat → Prop, F' = fun b k => F b k ∨ (b = (L id).1 ∧ (L id).2 ≤ k) := ⟨_, rfl⟩
  have hsub : ∀ b k, F b k → F' b k := fun b k h => by rw [hF']; exact .inl h
  have e : Ext w L F (Ub st.n) w L F' (Ub st.n) := ⟨fun _ h => h, fun _ _ => rfl, hsub, fun _ _ _ => rfl, Nat.le_refl _, fun b cs T fr _ h => ⟨cs, T, fr, h, Nat.le_refl _⟩⟩
  have hold : ∀ id' o', updH st.H id none id' = some o' → id' ≠ id ∧ st.H id' = some o' := fun id' o' h => by
    unfold updH at h
    split at h
    · cases h
    · rename_i hne; exact ⟨hne, h⟩
  refine ⟨L, F', ⟨⟨fun b k hb => ?_, fun id' o' h1 => ?_, fun i1 i2 o1 o2 h1 h2 => h.ok.inj i1 i2 o1 o2 (hold _ _ h1).2 (hold _ _ h2).2, glob_ext hsub (fun _ _ _ => rfl) h.ok.glob⟩, h.size, fun s => ?_, h.nd⟩,
    fun _ h => h, fun _ _ => rfl, hsub, Nat.le_refl _, fun _ _ _ => rfl, fun _ _ _ _ => rfl, fun b cs T fr _ h => ⟨cs, T, fr, h, Nat.le_refl _⟩, fun b k hb => ?_, fun b k hb => ?_, rfl, rfl, rfl⟩
  · rw [hF'] at hb
    rcases hb with hb | ⟨rfl, _⟩
    · exact h.ok.fb b k hb
    · exact hlt
  · obtain ⟨hne, h2⟩ := hold _ _ h1
    obtain ⟨h3, h4⟩ := h.ok.live id' o' h2
    refine ⟨h3, h4.ext e h3 fun hv => ⟨rfl, fun k hk hb => ?_⟩⟩
    rw [hF'] at hb
    rcases hb with hb | ⟨hb, _⟩
    · exact (objRep_real h4 hv).1 k hk hb
    · exact hne (h.ok.inj id' id _ _ h2 ho hv hv3 hb)
  · refine VRep.rpd hsub (fun j hj => ⟨by rw [hF']; exact .inr ⟨rfl, by omega⟩, ?_⟩) _ _ (h.fr s)
    obtain ⟨u, hu1, hu2⟩ := hcell j (by simpa using hj)
    refine ⟨u, by rw [at_of hcs]; exact hu1, ?_⟩
    rw [getD_map_fz _ _ hj] at hu2
    simp only [VRep] at hu2
    exact hu2.mono (fun _ _ _ => rfl) hsub
  · rw [hF'] at hb
    rcases hb with hb | ⟨rfl, hk⟩
    · exact .inl hb
    · exact .inr (.inr ⟨id, _, ho, hv3, rfl, hk⟩)
  · obtain ⟨id', o', h1, h2, h3, h4⟩ := hb
    exact .inr ⟨id', o', (hold _ _ h1).2, h2, h3, h4⟩
/-- a call whose arguments capture a box that is not written any more -/
theorem Wcall_rp {f : FuncId} {args args' : List D} {H : Heap} {n : Nat} {R : D → Heap → Nat → Prop} (id : Id) (ys : List FD) {b : Bool} (ho : H id = some ⟨ys.map .fz, b, false⟩) (ha : rpDs id ys args = args')
    (h : Wcall P G f args' (updH H id none) n R) : Wcall P G f args H n R := by
  subst ha
  refine Wcall_weak (by rw [rpDs_map, List.length_map]) ?_ h
  have e : (fun t => rpD id ys (frL (argL 0 args) t)) = frL (argL 0 (rpDs id ys args)) := by
    funext t
    rw [← argFr_eq, ← argFr_eq]
    simp only [argFr]
    rw [rpDs_map, List.getD_eq_getElem?_getD, List.getD_eq_getElem?_getD, List.getElem?_map]
    cases args[t]? <;> rfl
  rw [← e]
  exact Weak_rpD (st := ⟨frL (argL 0 args), H, n⟩) ho
end
end Go.Abs

namespace Go.Abs
open Go

/-! ## variables that are arrays: a cell by its index -/

section
variable {P : Program} {G : Nat → List FD} {T : Tbl} {N tag0 : Nat} {am : Nat → Bool} {st : St} {a : Act} {w : World} {L : Loc} {F : Nat → Nat → Prop} {K : St → Prop} {ops : Array Oper}

theorem run_arrIx {t e : TypeId} {len : Nat} {te : TI} (hu : P.underlying t = some (.array len e)) (he : tiOf P e = some te) (h1 : te.size = 1) {b off : Nat} {kk : IntKind} {n : Int} (hn : 0 ≤ n) (hn2 : n < len) :
    (Instr.indexAt t (.pointer (some ⟨b, off, none⟩)) (.int kk n)).run P w = .ok (.pointer (some ⟨b, off + n.toNat, none⟩)) w := by
  simp [Instr.indexAt, Instr.sureAddr, asIntOf, run_underlying hu, hn, hn2, run_sizeOf_ti he, h1, addr_add]

theorem run_arrFld {s : TypeId} {f off : Nat} {fs : List (Nat × TypeId)} {ft : TypeId} {ts tf : TI} (hs : tiOf P s = some ts) (hf : ts.und = .struct fs) (hi : fs[f]? = some (off, ft)) (htf : tiOf P ft = some tf) (h0 : tf.size ≠ 0) {b o : Nat} :
    (Instr.fieldAt s (.pointer (some ⟨b, o, none⟩)) f).run P w = .ok (.pointer (some ⟨b, o + off, none⟩)) w := by
  obtain ⟨inf, z, u, g1, g2, g3, rfl⟩ := tiOf_spec hs
  obtain ⟨fs', rfl, rfl⟩ := und_struct hf
  have hf' : ∃ g, fs'[f]? = some g ∧ g.offset = off ∧ g.type = ft := by
    simp only [List.getElem?_map, Option.map_eq_some_iff, Prod.mk.injEq] at hi
    obtain ⟨g, h1, h2, h3⟩ := hi
    exact ⟨g, by simpa using h1, h2, h3⟩
  obtain ⟨g, hg, rfl, rfl⟩ := hf'
  have hplace : (fieldPlace ⟨b, o, none⟩ g).run P w = .ok ⟨b, o + g.offset, none⟩ w := by
    simp [fieldPlace, run_sizeOf_ti htf, h0, addr_add]
  simp [Instr.fieldAt, run_underlying g3, hg, Instr.sureAddr, hplace]

theorem exec_ix {o : Oper} {t x i} (ho : o.op = .indexAddr t x i) : execOp a.eval o = (do pure (.value (← Instr.indexAt t (a.eval x) (a.eval i))) : Sem Next) := by simp only [execOp, ho]
theorem exec_fa {o : Oper} {t x i} (ho : o.op = .fieldAddr t x i) : execOp a.eval o = (do pure (.value (← Instr.fieldAt t (a.eval x) i)) : Sem Next) := by simp only [execOp, ho]

theorem wp_arrIx {o : Oper} {Q : Exit → Act → World → Prop} (h : Rel G N st a w L F) {t x i d} (ho : o.op = .indexAddr t x i) (hd : o.dst = some d) (hdN : d < N) {len e te} (hu : P.underlying t = some (.array len e)) (he : tiOf P e = some te) (h1 : te.size = 1)
    {id k kk n} (hx : st.ev G x = .ptr id k) (hi : st.ev G i = .fz (.i kk n)) (hn : 0 ≤ n) (hn2 : n < len) (hK : K (st.put o.dst (.ptr id (k + n.toNat)))) : o.wp P a w (Sat G N st w L F K) Q := by
  refine wp_val h (by simp [hd, dstOk, hdN]) hK ?_
  have hxr := h.ev x
  rw [hx] at hxr
  simp only [VRep] at hxr
  obtain ⟨g1, g2, g3⟩ := hxr
  have hir := h.ev i
  rw [hi] at hir
  obtain ⟨g4, _⟩ := vint hir
  refine ⟨.pointer (some ⟨(L id).1, (L id).2 + k + n.toNat, none⟩), w, F, ?_, h.ok, ?_, Step.refl _ _ _ _ _⟩
  · rw [exec_ix ho, g3, g4]
    exact lift_run (run_arrIx hu he h1 hn hn2)
  · simp only [VRep]
    exact ⟨g1, g2, by rw [Nat.add_assoc]⟩

/-- the first operations of a row, then the rest `r` -/
theorem symX_part (hT : TblOk P G T) {Q' : Exit → Act → World → Prop} {r : List Nat} : ∀ (l : List Oper) (k : Nat), (∀ j o, l[j]? = some o → ops[k + j]? = some o) → ∀ (st : St) (a : Act) (w : World) (L : Loc) (F : Nat → Nat → Prop), Rel G N st a w L F → symX P G T N tag0 am ops l K st →
    (∀ a' w', Sat G N st w L F K a' w' → wpOps P ops Q' r a' w') → wpOps P ops Q' ((List.range l.length).map (k + ·) ++ r) a w
  | [], k, _, st, a, w, L, F, h, hs, hQ => by
    simp only [List.length_nil, List.range_zero, List.map_nil, List.nil_append]
    exact hQ _ _ ⟨st, L, F, hs, h, Step.refl _ _ _ _ _⟩
  | o :: l, k, hl, st, a, w, L, F, h, hs, hQ => by
    have h0 : ops[k]? = some o := hl 0 o rfl
    have hrest : (List.range (o :: l).length).map (k + ·) = k :: (List.range l.length).map (k + 1 + ·) := by
      simp only [List.length_cons, List.range_succ_eq_map, List.map_cons, List.map_map, Nat.add_zero]
      congr 1
      apply List.map_congr_left
      intro j _
      simp; omega
    rw [hrest, List.cons_append]
    simp only [wpOps, h0]
    have ih : ∀ (st1 : St) (a1 : Act) (w1 : World) (L1 : Loc) (F1 : Nat → Nat → Prop), Rel G N st1 a1 w1 L1 F1 → SStep st w L F st1 w1 L1 F1 → symX P G T N tag0 am ops l K st1 → wpOps P ops Q' ((List.range l.length).map (k + 1 + ·) ++ r) a1 w1 :=
      fun st1 a1 w1 L1 F1 hr hst hs' => symX_part hT l (k + 1) (fun j o' ho' => by have := hl (j + 1) o' (by simpa using ho'); rw [← this]; congr 1; omega) st1 a1 w1 L1 F1 hr hs' (fun a' w' hsat => hQ _ _ (hsat.trans hst))
    obtain ⟨b, hb, h1, h2⟩ := Bi_ex hs
    rw [gval_wanted h hb]
    cases b with
    | true =>
      simp only [if_true]
      exact .inl (Oper.wp_mono (fun a1 w1 ⟨st1, L1, F1, h1, h2, h3⟩ => ih st1 a1 w1 L1 F1 h2 h3 h1) (symOp_ok h (XO_sym hT o (h1 rfl))))
    | false =>
      simp only [Bool.false_eq_true, if_false]
      obtain ⟨hd, hs'⟩ := h2 rfl
      have hH : (st.put o.dst (.tup [])).H = st.H := by cases o.dst <;> rfl
      have hn : (st.put o.dst (.tup [])).n = st.n := by cases o.dst <;> rfl
      refine ih (st.put o.dst (.tup [])) (a.put o.dst undef) w L F (h.put (st' := st.put o.dst (.tup [])) (by rw [hH, hn]; exact h.ok) (by rw [hH, hn]; exact Step.refl _ _ _ _ _) hd (by simp only [VRep]; exact ⟨[], rfl, trivial⟩) rfl) ?_ hs'
      unfold SStep; rw [hH, hn]; exact Step.refl _ _ _ _ _

/-- what an index into an array asks -/
def ArrIx (P : Program) (G : Nat → List FD) (N : Nat) (t : TypeId) (x i : Operand) (d : Nat) (K : St → Prop) (st : St) : Prop :=
  ∃ len e te id k kk n, P.underlying t = some (.array len e) ∧ tiOf P e = some te ∧ te.size = 1 ∧ d < N ∧ st.ev G x = .ptr id k ∧ st.ev G i = .fz (.i kk n) ∧ 0 ≤ n ∧ n < (len : Int) ∧ K (st.put (some d) (.ptr id (k + n.toNat)))

/-- a region one of whose operations is an index into an array -/
theorem W_regionA (hT : TblOk P G T) {Q : Exit → St → Prop} {rid : Nat} (pre post : List Oper) {o : Oper} {t x i d} (hops : ops.toList = pre ++ o :: post) (ho : o.op = .indexAddr t x i) (hd : o.dst = some d) (hg : o.guard = none)
    (h : symX P G T N tag0 am ops pre (ArrIx P G N t x i d fun s => symX P G T N tag0 am ops post (Q .normal) s) st) : W P G N (.region rid ops false) Q st := by
  intro a w L F hr
  refine wp_region ?_
  have hget : ∀ (j : Nat) (o' : Oper), ops.toList[j]? = some o' → ops[j]? = some o' := fun j o' h => by simpa using h
  have e : List.range ops.size = (List.range pre.length).map (0 + ·) ++ (pre.length :: ((List.range post.length).map (pre.length + 1 + ·) ++ [])) := by
    have hs : ops.size = pre.length + (1 + post.length) := by rw [← Array.length_toList, hops]; simp; omega
    rw [hs, List.range_add, List.append_nil]
    congr 1
    · simp
    · rw [Nat.add_comm 1, List.range_succ_eq_map]
      simp only [List.map_cons, List.map_map, Nat.add_zero]
      congr 1
      apply List.map_congr_left
      intro j _
      simp; omega
  rw [e]
  refine symX_part hT (Q' := fun e a' w' => Sat G N st w L F (Q e) a' w') pre 0 (fun j o' h' => by
    rw [Nat.zero_add]; refine hget j o' ?_; rw [hops, List.getElem?_append_left ((List.getElem?_eq_some_iff.1 h').1)]; exact h') st a w L F hr h ?_
  rintro a1 w1 ⟨st1, L1, F1, ⟨len, e', te, id, k, kk, n, u1, u2, u3, u4, u5, u6, u7, u8, u9⟩, h2, h3⟩
  have h0 : ops[pre.length]? = some o := hget _ _ (by rw [hops, List.getElem?_append_right (Nat.le_refl _)]; simp)
  have hw : Region.wanted o (yielded ops a1.tmps) = true := by simp [Region.wanted, hg]
  simp only [wpOps, h0, hw, if_true]
  refine .inl (Oper.wp_mono (fun a2 w2 hs => ?_) (wp_arrIx (K := fun s => symX P G T N tag0 am ops post (Q .normal) s) h2 ho hd u4 u1 u2 u3 u5 u6 u7 u8 (by rw [hd]; exact u9)))
  obtain ⟨st2, L2, F2, k1, k2, k3⟩ := hs
  exact symX_part hT (Q' := fun e a' w' => Sat G N st w L F (Q e) a' w') post (pre.length + 1) (fun j o' h' => by
    refine hget _ o' ?_; rw [hops, List.getElem?_append_right (by omega)]; rw [show pre.length + 1 + j - pre.length = j + 1 by omega]; simpa using h') st2 a2 w2 L2 F2 k2 k1
    (fun a3 w3 hs => by simp only [wpOps]; exact (hs.trans k3).trans h3)

/-! ### in a region that draws, at a fixed place: as the address of a field -/

theorem Oper.wp_keep {o : Oper} {x : Tmp} {v0 : Value} {K' : Act → World → Prop} {Q : Exit → Act → World → Prop} (hx : o.dst ≠ some x) (hI : a.tmps.getD x undef = v0) (h : o.wp P a w K' Q) : o.wp P a w (fun a' w' => K' a' w' ∧ a'.tmps.getD x undef = v0) Q := by
  have hput : ∀ (b : Act) v, b.tmps = a.tmps → (b.put o.dst v).tmps.getD x undef = v0 := fun b v hb => by
    cases hd : o.dst with
    | none => simp only [Act.put, hb]; exact hI
    | some d =>
      have hne : d ≠ x := fun e => hx (by rw [hd, e])
      simp only [Act.put, hb]
      rw [Array.getD_eq_getD_getElem?] at hI ⊢
      rw [Array.getElem?_setIfInBounds_ne hne]
      exact hI
  unfold Oper.wp at *
  generalize (execOp a.eval o).run P w = r at *
  cases r with
  | ok n w' =>
    cases n <;> simp only [Oper.upon] at h ⊢ <;>
      first
        | exact ⟨h, hput _ _ rfl⟩
        | exact Calls.mono h (fun e w'' he => by cases e <;> first | exact ⟨he, hput _ _ rfl⟩ | exact he)
        | exact Rows.mono h (fun _ _ he => ⟨he, hput _ _ rfl⟩)
  | halt x w' => cases x <;> simp only [Oper.upon] at h ⊢ <;> exact h

theorem stepS_wp2 (hT : TblOk P G T) {Q' : Exit → Act → World → Prop} {K' : Act → World → Prop} {o : Oper} {q : Bool} (hgn : o.guard = none) (h : Rel G N st a w L F) (hs : stepS P G T N tag0 ops q o st K)
    (hk : ∀ a' w', Sat G N st w L F K a' w' → K' a' w') : o.wp P a w K' Q' := by
  have hgv : gval ops st.fr o.guard = some true := by rw [hgn]; rfl
  have sym : ∀ {K}, symOp P G N tag0 o st K → (∀ a' w', Sat G N st w L F K a' w' → K' a' w') → o.wp P a w K' Q' := fun h1 h2 => Oper.wp_mono h2 (symOp_ok h h1)
  unfold stepS at hs
  split at hs
  · obtain ⟨d, c, h1, h2, h3, h4⟩ := hs
    unfold qv at h1
    rw [hgv] at h1
    exact sym (evalQ_sym hT h2 h1 h3 h4) hk
  · rw [hgv] at hs
    exact sym hs hk

theorem anyS_wp2 (hT : TblOk P G T) {ops2 : Array Oper} {x : Tmp} {v0 : Value} (hsz : ops2.size = ops.size)
    (hop : ∀ (i : Nat) (o : Oper), ops2[i]? = some o → ∃ o' : Oper, ops[i]? = some o' ∧ o'.dst = o.dst ∧ o'.guard = none ∧ o.guard = none ∧ o'.after = o.after ∧ o.dst ≠ some x ∧ ∀ (a : Act) w, a.tmps.getD x undef = v0 → (execOp a.eval o').run P w = (execOp a.eval o).run P w)
    {q : Nat → Bool} {Q' : Exit → Act → World → Prop} : ∀ (fuel : Nat) (listed : Array Bool) (st : St) (a : Act) (w : World) (L : Loc) (F : Nat → Nat → Prop), Rel G N st a w L F → a.tmps.getD x undef = v0 → anyS P G T N tag0 ops q K fuel listed st →
    (∀ a' w', Sat G N st w L F K a' w' → Q' .normal a' w') → wpAny P .any ops2 Q' fuel listed a w := by
  have hrd : ∀ listed, Region.ready .any ops2 listed = Region.ready .any ops listed := fun listed => by
    unfold Region.ready
    rw [hsz]
    apply List.filter_congr
    intro i hi
    have hi2 : i < ops2.size := by rw [hsz]; exact List.mem_range.1 hi
    obtain ⟨o', h1, _, _, _, h2, _⟩ := hop i ops2[i] (by simp [hi2])
    rw [h1, show ops2[i]? = some ops2[i] by simp [hi2]]
    simp only [Option.map_some, h2]
  intro fuel
  induction fuel with
  | zero => exact fun listed st a w L F h _ hs hQ => ⟨by rw [hrd]; exact hs.1, hQ _ _ ⟨st, L, F, hs.2, h, Step.refl _ _ _ _ _⟩⟩
  | succ fuel ih =>
    intro listed st a w L F h hI hs hQ
    refine ⟨fun hr => hQ _ _ ⟨st, L, F, hs.1 (by rw [← hrd]; exact hr), h, Step.refl _ _ _ _ _⟩, fun i hi => ?_⟩
    obtain ⟨_, o, ho, _⟩ := mem_ready.1 hi
    obtain ⟨o', h1, h2, h3, h3', h4, h5, h6⟩ := hop i o ho
    have hw : Region.wanted o (yielded ops2 a.tmps) = true := by simp [Region.wanted, h3']
    unfold wpOp
    simp only [ho, hw, if_true]
    refine .inl ?_
    have key : o'.wp P a w (fun a' w' => wpAny P .any ops2 Q' fuel (listed.setIfInBounds i true) a' w') Q' := by
      have k1 := stepS_wp2 hT (Q' := Q') (K' := Sat G N st w L F (anyS P G T N tag0 ops q K fuel (listed.setIfInBounds i true))) h3 h (hs.2 i (by rw [← hrd]; exact hi) o' h1) (fun _ _ hs => hs)
      refine Oper.wp_mono ?_ (Oper.wp_keep (x := x) (v0 := v0) (by rw [h2]; exact h5) hI k1)
      rintro a' w' ⟨⟨st1, L1, F1, g1, g2, g3⟩, hI'⟩
      exact ih _ st1 a' w' L1 F1 g2 hI' g1 fun a2 w2 hsat => hQ _ _ (hsat.trans g3)
    unfold Oper.wp at key ⊢
    rw [h6 a w hI] at key
    have : ∀ r, o'.upon P a (fun a' w' => wpAny P .any ops2 Q' fuel (listed.setIfInBounds i true) a' w') Q' r = o.upon P a (fun a' w' => wpAny P .any ops2 Q' fuel (listed.setIfInBounds i true) a' w') Q' r := fun r => by
      unfold Oper.upon; rw [h2]
    rw [this] at key
    exact key

theorem WK_drawVS (hm : P.follows .mixedOrders = true) (hT : TblOk P G T) {q : Exit → St → Prop} {rid : Nat} {ops2 : Array Oper} (tag0 : Nat) (am : Nat → Bool) (x : Tmp) {id : Id} {k : Nat} (hx : st.fr x = .ptr id k) (hsz : ops2.size = ops.size)
    (hop : ∀ (i : Nat) (o : Oper), ops2[i]? = some o → ∃ o' : Oper, ops[i]? = some o' ∧ o'.dst = o.dst ∧ o'.guard = none ∧ o.guard = none ∧ o'.after = o.after ∧ o.dst ≠ some x ∧ ∀ (a : Act) w b off, a.tmps.getD x undef = .pointer (some ⟨b, off, none⟩) → (execOp a.eval o').run P w = (execOp a.eval o).run P w)
    (t : Tv) (ht : tvOk am T ops t (Array.replicate ops.size false) true = true) (hd : decide (tvDeep t ≤ ops.size) = true) (h : @symVK P G T N tag0 am ops t st ⟨q .normal⟩) : @WK P G N (.region rid ops2 true) st ⟨q⟩ := by
  unfold WK
  unfold symVK at h
  intro a w L F hr
  refine wp_region_any hm ?_
  have hr' : Rel G N st a { w with drawn := w.drawn + 1 } L F := ⟨hr.ok.heap rfl, hr.size, fun t => (hr.fr t).ext (heap_ext (w := w) (w' := { w with drawn := w.drawn + 1 }) rfl), hr.nd⟩
  have hst : SStep st w L F st { w with drawn := w.drawn + 1 } L F := ⟨fun _ h => h, fun _ _ => rfl, fun _ _ h => h, Nat.le_refl _, fun _ _ _ => rfl, fun _ _ _ _ => rfl, fun _ cs T fr _ h => ⟨cs, T, fr, h, Nat.le_refl _⟩, fun _ _ h => .inl h, fun _ _ h => .inr h, rfl, rfl, rfl⟩
  have hfr : FreshA st := fun id hid => by
    cases ho : st.H id with
    | none => rfl
    | some o => exact absurd (hr.ok.live _ o ho).1 (Nat.not_lt.2 hid)
  have hxr := hr.fr x
  rw [hx] at hxr
  simp only [VRep] at hxr
  rw [hsz]
  exact anyS_wp2 hT (x := x) (v0 := .pointer (some ⟨(L id).1, (L id).2 + k, none⟩)) hsz (fun i o ho => by
    obtain ⟨o', h1, h2, h3, h3', h4, h5, h6⟩ := hop i o ho
    exact ⟨o', h1, h2, h3, h3', h4, h5, fun a w hI => h6 a w _ _ hI⟩)
    (Q' := fun e a' w' => Sat G N st w L F (q e) a' w') _ _ st a _ L F hr' hxr.2.2 (symV_any hT ops.size t _ true st (fun _ => hfr) ht (of_decide_eq_true hd) h) (fun _ _ hs => hs.trans hst)

def ArrIxK (P : Program) (G : Nat → List FD) (N : Nat) (t : TypeId) (x i : Operand) (d : Nat) (st : St) [k : Kn St] : Prop := ArrIx P G N t x i d k.run st
theorem WK_regionJ (hT : TblOk P G T) {q : Exit → St → Prop} {rid : Nat} (tag0 : Nat) (am : Nat → Bool) (j : Nat) {o : Oper} {t x i d} (hj : ops.toList[j]? = some o) (ho : o.op = .indexAddr t x i) (hd : o.dst = some d) (hg : o.guard = none)
    (h : @symXK P G T N tag0 am ops (ops.toList.take j) st ⟨fun s => @ArrIxK P G N t x i d s ⟨fun s => @symXK P G T N tag0 am ops (ops.toList.drop (j + 1)) s ⟨q .normal⟩⟩⟩) : @WK P G N (.region rid ops false) st ⟨q⟩ := by
  unfold WK
  unfold symXK at h
  have hlt := (List.getElem?_eq_some_iff.1 hj).1
  have he := (List.getElem?_eq_some_iff.1 hj).2
  refine W_regionA hT (ops.toList.take j) (ops.toList.drop (j + 1)) ?_ ho hd hg h
  rw [← he, ← List.drop_eq_getElem_cons hlt, List.take_append_drop]
theorem ArrIxK.i {t x i d len e te id k kk n} {kc : St → Prop} (hu : P.underlying t = some (.array len e)) (he : tiOf P e = some te) (h1 : te.size = 1) (hd : d < N) (hx : st.ev G x = .ptr id k) (hi : st.ev G i = .fz (.i kk n)) (hn : 0 ≤ n ∧ n < (len : Int))
    (h : kc (st.put (some d) (.ptr id (k + n.toNat)))) : @ArrIxK P G N t x i d st ⟨kc⟩ := ⟨len, e, te, id, k, kk, n, hu, he, h1, hd, hx, hi, hn.1, hn.2, h⟩

/-- the index as a field -/
def swapOp (t s : TypeId) (o : Oper) : Oper :=
  { o with op := match o.op with
    | .indexAddr t' x (.const (.int k n)) => if t' = t then .fieldAddr s x n.toNat else .indexAddr t' x (.const (.int k n))
    | op => op }
def swapB (t : TypeId) (x : Tmp) (len : Nat) (o : Oper) : Bool :=
  o.guard.isNone && o.dst != some x && (match o.op with
    | .indexAddr t' y (.const (.int _ n)) => if t' = t then (match y with | .tmp z => z == x | _ => false) && decide (0 ≤ n) && decide (n < (len : Int)) else true
    | _ => true)
theorem swap_run {t s e : TypeId} {x : Tmp} {len : Nat} {te ts : TI} {fs : List (Nat × TypeId)} (hu : P.underlying t = some (.array len e)) (he : tiOf P e = some te) (h1 : te.size = 1) (hs : tiOf P s = some ts) (hf : ts.und = .struct fs)
    (hfs : ∀ f, f < len → ∃ ft tf, fs[f]? = some (f, ft) ∧ tiOf P ft = some tf ∧ tf.size ≠ 0) {o : Oper} (hb : swapB t x len o = true) {b off : Nat} (hI : a.tmps.getD x undef = .pointer (some ⟨b, off, none⟩)) :
    (execOp a.eval (swapOp t s o)).run P w = (execOp a.eval o).run P w := by
  obtain ⟨dst, op, type, pos, after, guard⟩ := o
  by_cases h : ∃ y k n, op = .indexAddr t y (.const (.int k n))
  · obtain ⟨y, k, n, rfl⟩ := h
    simp only [swapB, if_true, Bool.and_eq_true, decide_eq_true_eq] at hb
    obtain ⟨_, ⟨hy, h0⟩, h2⟩ := hb
    cases y <;> simp only [Bool.false_eq_true] at hy
    rename_i z
    obtain rfl : z = x := by simpa using hy
    obtain ⟨ft, tf, g1, g2, g3⟩ := hfs n.toNat (by omega)
    have e1 : (execOp a.eval (swapOp t s ⟨dst, .indexAddr t (.tmp z) (.const (.int k n)), type, pos, after, guard⟩)).run P w = .ok (.value (.pointer (some ⟨b, off + n.toNat, none⟩))) w := by
      rw [exec_fa (t := s) (x := .tmp z) (i := n.toNat) (by simp [swapOp])]
      refine lift_run ?_
      rw [show a.eval (.tmp z) = .pointer (some ⟨b, off, none⟩) from hI]
      exact run_arrFld hs hf g1 g2 g3
    have e2 : (execOp a.eval ⟨dst, .indexAddr t (.tmp z) (.const (.int k n)), type, pos, after, guard⟩).run P w = .ok (.value (.pointer (some ⟨b, off + n.toNat, none⟩))) w := by
      rw [exec_ix (t := t) (x := .tmp z) (i := .const (.int k n)) rfl]
      refine lift_run ?_
      rw [show a.eval (.tmp z) = .pointer (some ⟨b, off, none⟩) from hI]
      exact run_arrIx hu he h1 h0 h2
    rw [e1, e2]
  · congr 2
    unfold swapOp
    simp only
    split
    · rename_i t' y k n
      rw [if_neg fun e => h ⟨y, k, n, by rw [e]⟩]
    · rfl
theorem WK_drawW (hm : P.follows .mixedOrders = true) (hT : TblOk P G T) {q : Exit → St → Prop} {rid : Nat} (tag0 : Nat) (am : Nat → Bool) (x : Tmp) (t s : TypeId) {e : TypeId} {len : Nat} {te ts : TI} {fs : List (Nat × TypeId)} {id : Id} {k : Nat} (hx : st.fr x = .ptr id k)
    (hu : P.underlying t = some (.array len e)) (he : tiOf P e = some te) (h1 : te.size = 1) (hs : tiOf P s = some ts) (hf : ts.und = .struct fs)
    (hfs : ∀ f, f < len → ∃ ft tf, fs[f]? = some (f, ft) ∧ tiOf P ft = some tf ∧ tf.size ≠ 0) (hall : ops.toList.all (swapB t x len) = true)
    (tr : Tv) (ht : tvOk am T (ops.map (swapOp t s)) tr (Array.replicate (ops.map (swapOp t s)).size false) true = true) (hd : decide (tvDeep tr ≤ (ops.map (swapOp t s)).size) = true)
    (h : @symVK P G T N tag0 am (ops.map (swapOp t s)) tr st ⟨q .normal⟩) : @WK P G N (.region rid ops true) st ⟨q⟩ := by
  refine WK_drawVS hm hT tag0 am x hx (by simp) (fun i o ho => ?_) tr ht hd h
  have hb : swapB t x len o = true := List.all_eq_true.1 hall o (List.mem_of_getElem? (i := i) (by simpa using ho))
  have hb' := hb
  unfold swapB at hb'
  simp only [Bool.and_eq_true, Option.isNone_iff_eq_none, bne_iff_ne, ne_eq] at hb'
  exact ⟨swapOp t s o, by simp [ho], rfl, hb'.1.1, hb'.1.1, rfl, hb'.1.2, fun a w b off hI => swap_run hu he h1 hs hf hfs hb hI⟩

/-! ### code some of whose regions are left by hand -/
/-- code, up to loops and the regions named -/
def XE (P : Program) (G : Nat → List FD) (T : Tbl) (N tag0 : Nat) (am : Nat → Bool) : Code → (Exit → St → Prop) → St → Prop
  | .skip, Q, st => Q .normal st
  | .seq x y, Q, st => XE P G T N tag0 am x (seqX (XE P G T N tag0 am y Q) Q) st
  | .cond c x y, Q, st => condX (XE P G T N tag0 am x Q st) (XE P G T N tag0 am y Q st) (st.ev G c)
  | .block id c, Q, st => XE P G T N tag0 am c (blockQ id Q) st
  | .exit id, Q, st => Q (.exit id) st
  | .ret, Q, st => Q .ret st
  | .region id ops false, Q, st => CondB (am (1000000 + id)) (W P G N (.region id ops false) Q st) (symX P G T N tag0 am ops ops.toList (Q .normal) st)
  | .region id ops true, Q, st => CondB (am (1000000 + id)) (W P G N (.region id ops true) Q st) (symX P G T N tag0 am ops ops.toList (Q .normal) st)
  | c, Q, st => W P G N c Q st
theorem XE_ok (hm : P.follows .mixedOrders = true) (hT : TblOk P G T) : ∀ (c : Code) (Q : Exit → St → Prop) (st : St), drawsOk am T c = true → XE P G T N tag0 am c Q st → W P G N c Q st
  | .skip, _, _, _, h => W_skip h
  | .seq x y, Q, st, hd, h => by
    simp only [XE] at h
    simp only [drawsOk, Bool.and_eq_true] at hd
    refine W_seq (W_mono (XE_ok hm hT x _ st hd.1 h) fun e st1 h1 => ?_)
    cases e with
    | normal => exact XE_ok hm hT y Q st1 hd.2 h1
    | _ => exact h1
  | .cond c x y, Q, st, hd, h => by
    simp only [XE] at h
    simp only [drawsOk, Bool.and_eq_true] at hd
    unfold condX at h
    split at h
    · rename_i t ht
      exact W_cond ht (fun hh => XE_ok hm hT x Q st hd.1 (h.1 hh)) (fun hh => XE_ok hm hT y Q st hd.2 (h.2 hh))
    · exact h.elim
  | .block id c, Q, st, hd, h => by
    simp only [XE] at h
    exact W_block (XE_ok hm hT c _ st hd h)
  | .exit id, _, _, _, h => W_exit h
  | .ret, _, _, _, h => W_ret h
  | .region id ops false, Q, st, _, h => by
    simp only [XE] at h
    cases ha : am (1000000 + id) with
    | true => exact h.1 ha
    | false => exact W_regionX hT (h.2 ha)
  | .region id ops true, Q, st, hd, h => by
    simp only [XE] at h
    simp only [drawsOk] at hd
    cases ha : am (1000000 + id) with
    | true => exact h.1 ha
    | false => exact W_drawX hm hT (by simpa [ha] using hd) (h.2 ha)
  | .loop _, Q, st, _, h => by simpa only [XE] using h
  | .rangeFunc _ _ _ _, Q, st, _, h => by simpa only [XE] using h
  | .scope _, Q, st, _, h => by simpa only [XE] using h
  | .label _, Q, st, _, h => by simpa only [XE] using h
  | .goto _, Q, st, _, h => by simpa only [XE] using h
  | .refuse _, Q, st, _, h => by simpa only [XE] using h
def XEK (P : Program) (G : Nat → List FD) (T : Tbl) (N tag0 : Nat) (am : Nat → Bool) (c : Code) (st : St) [q : Ke] : Prop := XE P G T N tag0 am c q.run st
end
section
attribute [local semireducible] BiK obK ReqK ChkK CondK VvK XOK XNilK XVal2K XAppXK XAppYK XAppK XCallK symXK XCK condK seqK blockK RetK WcallK WK loopK
variable {P : Program} {G : Nat → List FD} {T : Tbl} {N tag0 : Nat} {am : Nat → Bool} {st : St} {ops : Array Oper} {q : Exit → St → Prop} {x : Operand}
@[go_sem] theorem k_ce_skip : @XEK P G T N tag0 am (.skip) st ⟨q⟩ = q .normal st := (rfl)
@[go_sem] theorem k_ce_seq {c d : Code} : @XEK P G T N tag0 am (.seq c d) st ⟨q⟩ = @XEK P G T N tag0 am c st ⟨fun e st => @seqK e st ⟨fun st => @XEK P G T N tag0 am d st ⟨q⟩⟩ ⟨q⟩⟩ := (rfl)
@[go_sem] theorem k_ce_cond {c d : Code} : @XEK P G T N tag0 am (.cond x c d) st ⟨q⟩ = @condK (st.ev G x) ⟨@XEK P G T N tag0 am c st ⟨q⟩⟩ ⟨@XEK P G T N tag0 am d st ⟨q⟩⟩ := (rfl)
@[go_sem] theorem k_ce_block {i : Nat} {c : Code} : @XEK P G T N tag0 am (.block i c) st ⟨q⟩ = @XEK P G T N tag0 am c st ⟨fun e st => @blockK i e st ⟨q⟩⟩ := (rfl)
@[go_sem] theorem k_ce_exit {i : Nat} : @XEK P G T N tag0 am (.exit i) st ⟨q⟩ = q (.exit i) st := (rfl)
@[go_sem] theorem k_ce_ret : @XEK P G T N tag0 am (.ret) st ⟨q⟩ = q .ret st := (rfl)
@[go_sem] theorem k_ce_region {i : Nat} : @XEK P G T N tag0 am (.region i ops false) st ⟨q⟩ = @CondK (am (1000000 + i)) ⟨@WK P G N (.region i ops false) st ⟨q⟩⟩ ⟨@symXK P G T N tag0 am ops ops.toList st ⟨q .normal⟩⟩ := (rfl)
@[go_sem] theorem k_ce_draw {i : Nat} : @XEK P G T N tag0 am (.region i ops true) st ⟨q⟩ = @CondK (am (1000000 + i)) ⟨@WK P G N (.region i ops true) st ⟨q⟩⟩ ⟨@symXK P G T N tag0 am ops ops.toList st ⟨q .normal⟩⟩ := (rfl)
@[go_sem] theorem k_ce_loop {c : Code} : @XEK P G T N tag0 am (.loop c) st ⟨q⟩ = @WK P G N (.loop c) st ⟨q⟩ := (rfl)
theorem WK_loopE (hm : P.follows .mixedOrders = true) (hT : TblOk P G T) (tag0 : Nat) (am : Nat → Bool) {ι : Type} {c : Code} (I : Ki ι) (i : ι) (hd : drawsOk am T c = true) (h0 : Weak G N st (I.st i))
    (round : ∀ i, @XEK P G T N tag0 am c (I.st i) ⟨fun e st => @loopK G N ι I i e st ⟨q⟩⟩) : @WK P G N (.loop c) st ⟨q⟩ :=
  W_loop I.st I.mu i h0 fun i => XE_ok hm hT c _ _ hd (round i)
end
attribute [irreducible] XEK ArrIxK
end Go.Abs
