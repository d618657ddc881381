import Derived.Test.YtdlioodgfopmfaaDoorAbs45
namespace Go.Abs
open Go

/-! ## two tables in one; pure functions that are given a function -/
def Tbl.or (S T : Tbl) : Tbl := fun f => (S f).or (T f)
@[go_sem] theorem Tbl_or {S T : Tbl} {f : FuncId} : Tbl.or S T f = (S f).or (T f) := rfl
@[go_sem] theorem or_some' {α : Type} {a : α} {b : Option α} : (some a).or b = some a := rfl
@[go_sem] theorem or_none' {α : Type} {b : Option α} : (none : Option α).or b = b := by cases b <;> rfl
section
variable {P : Program} {G : Nat → List FD} {S T : Tbl}
theorem TblOk_or (hS : TblOk P G S) (hT : TblOk P G T) : TblOk P G (Tbl.or S T) := fun f t xs r c ht hx hc => by
  unfold Tbl.or at ht
  cases h : S f with
  | none => rw [h] at ht; exact hT f t xs r c (by simpa using ht) hx hc
  | some t' => rw [h] at ht; exact hS f t xs r c (by rw [h]; simpa using ht) hx hc

theorem VReps.tail {w : World} {L L' : Loc} {F : Nat → Nat → Prop} {U U' : Id → Prop} {g : FuncId} {xs : List FD} : ∀ {ds : List D} {vs : List Value}, D.toFDs ds = some xs → VReps w L F U (ds ++ [.fn g []]) vs → VReps w L' F U' (xs.map .fz ++ [.fn g []]) vs := by
  intro ds vs ha h
  rw [VReps.iff] at h ⊢
  obtain ⟨h1, h2⟩ := h
  have hl : xs.length = ds.length := by
    have := VReps.toFDs (w := w) (L := L) (F := F) (U := U) ds (vs.take ds.length) xs (by
      rw [VReps.iff]
      refine ⟨by rw [List.length_append] at h1; simp only [List.length_take]; omega, fun j hj => ?_⟩
      have := h2 j (by rw [List.length_append]; omega)
      rw [List.getD_eq_getElem?_getD, List.getElem?_append_left hj, ← List.getD_eq_getElem?_getD] at this
      rwa [List.getD_eq_getElem?_getD (l := vs.take _), List.getElem?_take, if_pos hj, ← List.getD_eq_getElem?_getD (l := vs)]) ha
    have h3 := this.1
    rw [List.length_append] at h1
    simp only [List.length_take] at h3
    omega
  refine ⟨by rw [List.length_append, List.length_map, hl, ← List.length_append]; exact h1, fun j hj => ?_⟩
  rw [List.length_append, List.length_map] at hj
  have h3 := h2 j (by rw [List.length_append]; omega)
  rcases Nat.lt_or_ge j ds.length with h4 | h4
  · have hv : VReps w L F U ds (vs.take ds.length) := by
      rw [VReps.iff]
      refine ⟨by rw [List.length_append] at h1; simp only [List.length_take]; omega, fun i hi => ?_⟩
      have := h2 i (by rw [List.length_append]; omega)
      rw [List.getD_eq_getElem?_getD, List.getElem?_append_left hi, ← List.getD_eq_getElem?_getD] at this
      rwa [List.getD_eq_getElem?_getD (l := vs.take _), List.getElem?_take, if_pos hi, ← List.getD_eq_getElem?_getD (l := vs)]
    have := ((VReps.iff _ _).1 (hv.of_toFDs (L' := L') (U' := U') ha)).2 j (by rw [List.length_map]; omega)
    rw [List.getD_eq_getElem?_getD, List.getElem?_append_left (by rw [List.length_map]; omega), ← List.getD_eq_getElem?_getD]
    rwa [List.getD_eq_getElem?_getD (l := vs.take _), List.getElem?_take, if_pos h4, ← List.getD_eq_getElem?_getD (l := vs)] at this
  · obtain rfl : j = ds.length := by simp only [List.length_singleton] at hj; omega
    rw [List.getD_eq_getElem?_getD, List.getElem?_append_right (Nat.le_refl _), Nat.sub_self] at h3
    rw [List.getD_eq_getElem?_getD, List.getElem?_append_right (by rw [List.length_map]; omega), List.length_map, hl, Nat.sub_self]
    simp only [List.getElem?_cons_zero, Option.getD_some, VRep] at h3 ⊢
    obtain ⟨us, e, h5⟩ := h3
    refine ⟨us, e, ?_⟩
    cases us with
    | nil => simp only [VReps]
    | cons u us => simp only [VReps] at h5

/-- a pure function whose last argument is a function without captured variables -/
theorem Wcall_pureF {f g : FuncId} {ds : List D} {xs : List FD} {r : D} {H : Heap} {n : Nat} (ha : D.toFDs ds = some xs)
    (h : Wcall P G f (xs.map .fz ++ [.fn g []]) H0 0 (fun d _ _ => D.val d = some r)) : Wcall P G f (ds ++ [.fn g []]) H n (fun d H' n' => d = r ∧ H' = H ∧ n' = n) := by
  refine ⟨h.1, fun w L F vs hok hvs => ?_⟩
  refine (h.2 w L F vs ⟨hok.fb, (fun _ _ h => nomatch h), (fun _ _ _ _ h => nomatch h), hok.glob⟩ (hvs.tail ha)).mono fun e w' he => ?_
  obtain ⟨v, d, H', n', L', F', rfl, hd, g1, g2, g3⟩ := he
  have nb : ∀ b, ¬ Blk H0 L b := by rintro b ⟨_, _, h, _⟩; cases h
  have no : ∀ b k, ¬ Own H0 L b k := by rintro b k ⟨_, _, h, _⟩; cases h
  have ext : Ext w L F (Ub n) w' L F' (Ub n) := ⟨fun _ h => h, fun _ _ => rfl, g3.f, fun b k hb => g3.keepc b k (hok.fb b k hb) (no b k), g3.size, g3.shape⟩
  refine ⟨v, r, H, n, L, F', rfl, ⟨rfl, rfl, rfl⟩, ⟨g1.fb, ?_, hok.inj, g1.glob⟩, g2.val hd, ?_⟩
  · intro id o ho
    obtain ⟨h1, h2⟩ := hok.live id o ho
    refine ⟨h1, h2.ext ext h1 fun hv => ?_⟩
    have hlt := hok.blk_lt ho hv
    refine ⟨g3.keep _ hlt (nb _), fun k hk hF => ?_⟩
    rcases g3.fnew _ _ hF with h | h | h
    · exact (objRep_real h2 hv).1 k hk h
    · omega
    · exact no _ _ h
  · refine ⟨fun _ h => h, fun _ _ => rfl, g3.f, g3.size, fun b hb _ => g3.keep b hb (nb b), fun b k hb _ => g3.keepc b k hb (no b k), g3.shape, fun b k hb => ?_, fun b k hb => .inr hb, g3.os, g3.tape, g3.output⟩
    rcases g3.fnew b k hb with h | h | h
    · exact .inl h
    · exact .inr (.inl h)
    · exact absurd h (no b k)
end
end Go.Abs
