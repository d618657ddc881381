import Derived.Test.YtdlioodgfopmfaaDoorAT
import Derived.Test.YtdlioodgfopmfaaDoorQ85
set_option linter.unusedSimpArgs false
namespace Go.Abs
open Go
theorem sorted_of_step {α : Type} {lt : α → α → Prop} (tr : ∀ a b c, lt a b → lt b c → lt a c) {l : List α} (h : ∀ i (h : i + 1 < l.length), lt l[i] l[i + 1]) : ∀ j i (hj : j < l.length) (hi : i < l.length), i < j → lt l[i] l[j] := by
  intro j
  induction j with
  | zero => intro i _ _ h; omega
  | succ j ih =>
    intro i hj hi hij
    rcases Nat.lt_or_ge i j with h1 | h1
    · exact tr _ _ _ (ih i (by omega) hi h1) (h j hj)
    · obtain rfl : i = j := by omega
      exact h i hj
theorem ccM_all {m : Model} (h : (ccM m 0).code = 0) : ∀ i (hi : i < m.consts.length), constC m.size (pvA m.consts i) m.consts[i] = 0 := by
  have key : ∀ i, i ≤ m.consts.length → (ccM m i).code = 0 := by
    intro i
    induction i with
    | zero => intro _; exact h
    | succ i ih =>
      intro hi
      have h1 := ih (by omega)
      rw [ccM_step (by omega)] at h1
      split at h1
      · rename_i h2; exact absurd h1 h2
      · exact h1
  intro i hi
  have h1 := key i (by omega)
  rw [ccM_step hi] at h1
  split at h1
  · rename_i h2; exact absurd h1 h2
  · rename_i h2; exact Decidable.not_not.1 h2
theorem rrM_all {m : Model} (h : (rrM m 0).code = 0) : ∀ i (hi : i < m.rels.length), relC m.size (pvA m.rels i) m.rels[i] = 0 := by
  have key : ∀ i, i ≤ m.rels.length → (rrM m i).code = 0 := by
    intro i
    induction i with
    | zero => intro _; exact h
    | succ i ih =>
      intro hi
      have h1 := ih (by omega)
      rw [rrM_step (by omega)] at h1
      split at h1
      · rename_i h2; exact absurd h1 h2
      · exact h1
  intro i hi
  have h1 := key i (by omega)
  rw [rrM_step hi] at h1
  split at h1
  · rename_i h2; exact absurd h1 h2
  · rename_i h2; exact Decidable.not_not.1 h2
theorem ttM_all {size arity : Int} {l : List (List Int)} (h : ttM size arity l 0 = 0) : ∀ k (hk : k < l.length), tupC size arity (pvA l k) l[k] = 0 := by
  have key : ∀ k, k ≤ l.length → ttM size arity l k = 0 := by
    intro k
    induction k with
    | zero => intro _; exact h
    | succ k ih =>
      intro hk
      have h1 := ih (by omega)
      rw [ttM_step (by omega)] at h1
      split at h1
      · rename_i h2; exact absurd h1 h2
      · exact h1
  intro k hk
  have h1 := key k (by omega)
  rw [ttM_step hk] at h1
  split at h1
  · rename_i h2; exact absurd h1 h2
  · rename_i h2; exact Decidable.not_not.1 h2
structure mgood (m : Model) : Prop where
  v : mval m
  cv : ∀ c ∈ m.consts, 0 ≤ c.value ∧ c.value < m.size
  ar : ∀ r ∈ m.rels, 0 ≤ r.arity ∧ r.arity ≤ 3
  tv : ∀ r ∈ m.rels, ∀ t ∈ r.tuples, (t.length : Int) = r.arity ∧ ∀ v ∈ t, 0 ≤ v ∧ v < m.size
theorem constC_ok {size : Int} {p : Option Const} {c : Const} (h : constC size p c = 0) : (∀ q, p = some q → q.name.l < c.name.l) ∧ 0 ≤ c.value ∧ c.value < size := by
  unfold constC at h
  by_cases hn : isName c.name = false
  · rw [if_pos hn] at h; exact absurd h (by decide)
  rw [if_neg hn] at h
  have fin : (if c.value < 0 ∨ size ≤ c.value then (3 : Int) else 0) = 0 → 0 ≤ c.value ∧ c.value < size := fun h => by
    split at h
    · exact absurd h (by decide)
    · omega
  cases p with
  | none =>
    rw [if_neg (by simp)] at h
    exact ⟨fun q hq => (by cases hq), fin h⟩
  | some q =>
    by_cases hq : q.name.l < c.name.l
    · rw [if_neg (by simp [hq])] at h
      exact ⟨fun q' hq' => (by cases hq'; exact hq), fin h⟩
    · rw [if_pos (by simp [hq])] at h; exact absurd h (by decide)
theorem relC_ok {size : Int} {p : Option MRel} {r : MRel} (h : relC size p r = 0) : (∀ q, p = some q → ltR q r) ∧ 0 ≤ r.arity ∧ r.arity ≤ 3 ∧ ttM size r.arity r.tuples 0 = 0 := by
  unfold relC at h
  by_cases hn : isName r.name = false
  · rw [if_pos hn] at h; exact absurd h (by decide)
  rw [if_neg hn] at h
  by_cases ha : r.arity < 0 ∨ 3 < r.arity
  · rw [if_pos ha] at h; exact absurd h (by decide)
  rw [if_neg ha] at h
  cases p with
  | none =>
    rw [if_neg (by simp)] at h
    exact ⟨fun q hq => (by cases hq), by omega, by omega, h⟩
  | some q =>
    by_cases hq : 0 ≤ cmpR q r
    · rw [if_pos (by simp [hq])] at h; exact absurd h (by decide)
    · rw [if_neg (by simp [hq])] at h
      exact ⟨fun q' hq' => (by cases hq'; rw [← cmpR_neg]; omega), by omega, by omega, h⟩
theorem tupC_ok {size arity : Int} {p : Option (List Int)} {t : List Int} (h : tupC size arity p t = 0) : (∀ q, p = some q → cmpL q t < 0) ∧ (t.length : Int) = arity ∧ ∀ v ∈ t, 0 ≤ v ∧ v < size := by
  unfold tupC at h
  by_cases ha : (t.length : Int) ≠ arity
  · rw [if_pos ha] at h; exact absurd h (by decide)
  rw [if_neg ha] at h
  have ha := Decidable.not_not.1 ha
  by_cases hb : (t.any fun v => decide (v < 0 ∨ size ≤ v)) = true
  · rw [if_pos hb] at h; exact absurd h (by decide)
  rw [if_neg hb] at h
  have hv : ∀ v ∈ t, 0 ≤ v ∧ v < size := fun v hv => by
    by_cases h9 : v < 0 ∨ size ≤ v
    · exact absurd (List.any_eq_true.2 ⟨v, hv, decide_eq_true h9⟩) hb
    · omega
  cases p with
  | none => exact ⟨fun q hq => (by cases hq), ha, hv⟩
  | some q =>
    by_cases hq : 0 ≤ cmpL q t
    · rw [if_pos (by simp [hq])] at h; exact absurd h (by decide)
    · exact ⟨fun q' hq' => (by cases hq'; omega), ha, hv⟩
theorem modelM_good {m : Model} (h : (modelM m).code = 0) : mgood m := by
  have h1 : ¬ (m.size < 1 ∨ 6 < m.size) := fun h2 => by unfold modelM at h; rw [if_pos h2] at h; exact absurd h (by decide)
  have h2 : ¬ (300 < m.consts.length ∨ 300 < m.rels.length) := fun h2 => by unfold modelM at h; rw [if_neg h1, if_pos h2] at h; exact absurd h (by decide)
  obtain ⟨g1, g2⟩ := modelM_cc h1 h2
  have hc : (ccM m 0).code = 0 := Decidable.byContradiction fun h3 => by rw [g1 h3] at h; exact h3 h
  have hr : (rrM m 0).code = 0 := by rw [g2 hc] at h; exact h
  have ac := ccM_all hc
  have ar := rrM_all hr
  have cs : ∀ i (h : i + 1 < m.consts.length), m.consts[i].name.l < m.consts[i + 1].name.l := fun i h => (constC_ok (ac (i + 1) h)).1 _ (by rw [pvA_succ (by omega)])
  have rs : ∀ i (h : i + 1 < m.rels.length), ltR m.rels[i] m.rels[i + 1] := fun i h => (relC_ok (ar (i + 1) h)).1 _ (by rw [pvA_succ (by omega)])
  have tt : ∀ r ∈ m.rels, ∀ k (hk : k < r.tuples.length), tupC m.size r.arity (pvA r.tuples k) r.tuples[k] = 0 := fun r hr => by
    obtain ⟨i, hi, rfl⟩ := List.getElem_of_mem hr
    exact ttM_all (relC_ok (ar i hi)).2.2.2
  have ts : ∀ r ∈ m.rels, ∀ k (h : k + 1 < r.tuples.length), cmpL r.tuples[k] r.tuples[k + 1] < 0 := fun r hr k h => (tupC_ok (tt r hr (k + 1) h)).1 _ (by rw [pvA_succ (by omega)])
  refine ⟨⟨fun i j hi hj hij => ?_, fun i j hi hj hij => ?_, fun r hr i j hi hj hij => ?_, by omega, by omega, by omega, by omega⟩, fun c hcm => ?_, fun r hrm => ?_, fun r hrm t ht => ?_⟩
  · exact sorted_of_step (lt := fun a b : Const => a.name.l < b.name.l) (fun a b c h1 h2 => str_lt_trans h1 h2) cs j i hj hi hij
  · exact sorted_of_step (lt := ltR) (fun a b c h1 h2 => ltR_trans h1 h2) rs j i hj hi hij
  · exact sorted_of_step (lt := fun a b : List Int => cmpL a b < 0) (fun a b c h1 h2 => cmpL_trans h1 (by omega)) (ts r hr) j i hj hi hij
  · obtain ⟨i, hi, rfl⟩ := List.getElem_of_mem hcm
    exact (constC_ok (ac i hi)).2
  · obtain ⟨i, hi, rfl⟩ := List.getElem_of_mem hrm
    exact ⟨(relC_ok (ar i hi)).2.1, (relC_ok (ar i hi)).2.2.1⟩
  · obtain ⟨k, hk, rfl⟩ := List.getElem_of_mem ht
    exact (tupC_ok (tt r hrm k hk)).2
theorem modelM_zero {m : Model} (h : (modelM m).code = 0) : modelM m = ⟨0, 0⟩ := by
  have h1 : ¬ (m.size < 1 ∨ 6 < m.size) := fun h2 => by unfold modelM at h; rw [if_pos h2] at h; exact absurd h (by decide)
  have h2 : ¬ (300 < m.consts.length ∨ 300 < m.rels.length) := fun h2 => by unfold modelM at h; rw [if_neg h1, if_pos h2] at h; exact absurd h (by decide)
  obtain ⟨g1, g2⟩ := modelM_cc h1 h2
  have hc : (ccM m 0).code = 0 := Decidable.byContradiction fun h3 => by rw [g1 h3] at h; exact h3 h
  have hr : (rrM m 0).code = 0 := by rw [g2 hc] at h; exact h
  rw [g2 hc]
  have ar := rrM_all hr
  have key : ∀ k i, i + k = m.rels.length → rrM m i = ⟨0, 0⟩ := by
    intro k
    induction k with
    | zero => intro i hi; obtain rfl : i = m.rels.length := by omega
              exact rrM_end m
    | succ k ih => intro i hi; rw [rrM_step (by omega), ar i (by omega), if_neg (by simp)]; exact ih (i + 1) (by omega)
  exact key m.rels.length 0 (by omega)
structure vsP (m : Model) (f : Form) : Prop where
  m : mval m
  v : vok f
  s : szP f
  e : nestM f ≤ 800
theorem vsP_val {m : Model} {f : Form} (h : vsP m f) (env : List Const) (he : env.length ≤ 100) : valP m f env := ⟨h.m, h.v, h.s, by have := h.e; omega⟩
theorem vsP_ok {m : Model} {f : Form} (hm : mval m) (h : (checkM false f).code = 0) : vsP m f :=
  ⟨hm, checkM_vok h, ⟨checkM_fit h, by have := checkM_size h; omega⟩, by have := nest_depth f; have := Form.depth_size f; have := checkM_size h; omega⟩
section
variable {P : Program} {G : Nat → List FD} {T : Tbl}
def sp4p {α β γ δ ρ σ : Type} [Enc α] [Enc β] [Enc γ] [Enc δ] [Enc ρ] [Enc σ] (f : α → β → γ → δ → ρ × σ) (pre : α → β → γ → δ → Prop) : List FD → Option (D × Prop)
  | [x, y, z, w] => some (.tup [.fz (enc (f (dec x) (dec y) (dec z) (dec w)).1), .fz (enc (f (dec x) (dec y) (dec z) (dec w)).2)], x = enc (dec (α := α) x) ∧ y = enc (dec (α := β) y) ∧ z = enc (dec (α := γ) z) ∧ w = enc (dec (α := δ) w) ∧ pre (dec x) (dec y) (dec z) (dec w))
  | _ => none
@[go_sem] theorem k_sp4p {α β γ δ ρ σ : Type} [Enc α] [Enc β] [Enc γ] [Enc δ] [Enc ρ] [Enc σ] {f : α → β → γ → δ → ρ × σ} {pre : α → β → γ → δ → Prop} {x y z w : FD} : sp4p f pre [x, y, z, w] = some (.tup [.fz (enc (f (dec x) (dec y) (dec z) (dec w)).1), .fz (enc (f (dec x) (dec y) (dec z) (dec w)).2)], x = enc (dec (α := α) x) ∧ y = enc (dec (α := β) y) ∧ z = enc (dec (α := γ) z) ∧ w = enc (dec (α := δ) w) ∧ pre (dec x) (dec y) (dec z) (dec w)) := rfl
end
end Go.Abs
namespace Go.Proofs.YtdlioodgfopmfaaDoor
open Go Go.Abs Go.Proofs
section
variable {G : Nat → List FD}
def B22 : Tbl := A21
attribute [go_sem] B22
def B23 : Tbl := B22
attribute [go_sem] B23
def B24 : Tbl := B23
attribute [go_sem] B24
end
end Go.Proofs.YtdlioodgfopmfaaDoor
