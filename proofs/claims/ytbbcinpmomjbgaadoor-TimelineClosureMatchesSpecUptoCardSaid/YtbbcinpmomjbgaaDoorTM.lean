import Derived.Test.YtbbcinpmomjbgaaDoorTL
set_option linter.unusedSimpArgs false
namespace Go.Abs
open Go

/-! ## a consistent list has an order -/
def OkT (p : Nat) (x : Time) : Prop := (1 ≤ x.kind ∧ x.kind ≤ 4) ∧ InR p x
def HoldsF (f : Nat → Nat) (x : Time) : Prop :=
  (x.kind = 1 → f x.a.toNat < f x.b.toNat) ∧ (x.kind = 2 → f x.a.toNat ≤ f x.b.toNat) ∧ (x.kind = 3 → f x.a.toNat = f x.b.toNat) ∧ (x.kind = 4 → f x.a.toNat ≠ f x.b.toNat)
def SatT (l : List Time) : Prop := ∃ f : Nat → Nat, ∀ x ∈ l, HoldsF f x

theorem reach_le {l : List Time} {f : Nat → Nat} (hk : ∀ x ∈ l, 1 ≤ x.kind ∧ x.kind ≤ 4) (h : ∀ x ∈ l, HoldsF f x) {i j : Nat} (hr : Reach l i j) : f i ≤ f j := by
  induction hr with
  | refl => exact Nat.le_refl _
  | step _ he ih =>
    obtain ⟨x, hx, ⟨hn, rfl, rfl⟩ | ⟨hn, rfl, rfl⟩⟩ := he
    · obtain ⟨h1, h2, h3, _⟩ := h x hx
      have := hk x hx
      have h123 : x.kind = 1 ∨ x.kind = 2 ∨ x.kind = 3 := by omega
      rcases h123 with e | e | e
      · exact Nat.le_trans ih (Nat.le_of_lt (h1 e))
      · exact Nat.le_trans ih (h2 e)
      · exact Nat.le_trans ih (Nat.le_of_eq (h3 e))
    · exact Nat.le_trans ih (Nat.le_of_eq ((h x hx).2.2.1 hn).symm)

theorem count_mono {p q : Nat → Bool} {n : Nat} (h : ∀ i, i < n → p i = true → q i = true) : ((List.range n).filter p).length ≤ ((List.range n).filter q).length := by
  induction n with
  | zero => exact Nat.le_refl _
  | succ n ih =>
    rw [List.range_succ, List.filter_append, List.filter_append, List.length_append, List.length_append]
    have h1 := ih fun i hi => h i (by omega)
    have h2 := h n (by omega)
    cases hp : p n with
    | false => simp [hp]; omega
    | true => simp [hp, h2 hp]; omega
theorem count_lt {p q : Nat → Bool} {n : Nat} (h : ∀ i, i < n → p i = true → q i = true) {m : Nat} (hm : m < n) (h1 : p m = false) (h2 : q m = true) : ((List.range n).filter p).length < ((List.range n).filter q).length := by
  induction n with
  | zero => omega
  | succ n ih =>
    rw [List.range_succ, List.filter_append, List.filter_append, List.length_append, List.length_append]
    rcases Nat.lt_or_ge m n with h' | h'
    · have g1 := ih (fun i hi => h i (by omega)) h'
      have g2 := h n (by omega)
      cases hp : p n with
      | false => simp [hp]; omega
      | true => simp [hp, g2 hp]; omega
    · obtain rfl : m = n := by omega
      have g1 := count_mono (p := p) (q := q) (n := m) fun i hi => h i (by omega)
      simp [h1, h2]; omega

theorem find?_congr' {p q : Nat → Bool} : ∀ {l : List Nat}, (∀ a ∈ l, p a = q a) → l.find? p = l.find? q
  | [], _ => rfl
  | a :: l, h => by
    rw [List.find?_cons, List.find?_cons, h a List.mem_cons_self, find?_congr' fun b hb => h b (List.mem_cons_of_mem _ hb)]

section
variable (p : Nat) (M : Nat → Nat → Bool)
def below (i : Nat) : Nat := ((List.range p).filter fun j => M j i).length
def rep (i : Nat) : Nat := ((List.range p).find? fun j => M i j && M j i).getD p
def rankT (i : Nat) : Nat := below p M i * (p + 1) + rep p M i
variable {p M}
theorem rep_le (i : Nat) : rep p M i ≤ p := by
  unfold rep
  cases h : (List.range p).find? fun j => M i j && M j i with
  | none => exact Nat.le_refl _
  | some j => exact Nat.le_of_lt (List.mem_range.1 (List.mem_of_find?_eq_some h))
theorem rep_of (hr : ∀ i, i < p → M i i = true) {i : Nat} (hi : i < p) : rep p M i < p ∧ M i (rep p M i) = true ∧ M (rep p M i) i = true := by
  unfold rep
  cases h : (List.range p).find? fun j => M i j && M j i with
  | none =>
    have := List.find?_eq_none.1 h i (List.mem_range.2 hi)
    simp [hr i hi] at this
  | some j =>
    have h1 := List.find?_some h
    have h2 := List.mem_range.1 (List.mem_of_find?_eq_some h)
    simp only [Bool.and_eq_true] at h1
    exact ⟨h2, h1.1, h1.2⟩
variable (hr : ∀ i, i < p → M i i = true) (ht : ∀ i j k, i < p → j < p → k < p → M i j = true → M j k = true → M i k = true)
include ht
theorem below_le {i j : Nat} (hi : i < p) (hj : j < p) (h : M i j = true) : below p M i ≤ below p M j :=
  count_mono fun k hk hki => ht k i j hk hi hj hki h
theorem rep_eq {i j : Nat} (hi : i < p) (hj : j < p) (h : M i j = true) (h' : M j i = true) : rep p M i = rep p M j := by
  unfold rep
  have : (List.range p).find? (fun k => M i k && M k i) = (List.range p).find? (fun k => M j k && M k j) := by
    refine find?_congr' fun k hk => ?_
    have hk' := List.mem_range.1 hk
    rw [Bool.eq_iff_iff, Bool.and_eq_true, Bool.and_eq_true]
    exact ⟨fun ⟨a, b⟩ => ⟨ht j i k hj hi hk' h' a, ht k i j hk' hi hj b h⟩, fun ⟨a, b⟩ => ⟨ht i j k hi hj hk' h a, ht k j i hk' hj hi b h'⟩⟩
  rw [this]
include hr
theorem below_lt {i j : Nat} (hi : i < p) (hj : j < p) (h : M i j = true) (h' : M j i = false) : below p M i < below p M j :=
  count_lt (fun k hk hki => ht k i j hk hi hj hki h) hj h' (hr j hj)
theorem rank_le {i j : Nat} (hi : i < p) (hj : j < p) (h : M i j = true) : rankT p M i ≤ rankT p M j := by
  cases h' : M j i with
  | true =>
    have h1 := below_le ht hi hj h
    have h2 := below_le ht hj hi h'
    unfold rankT
    rw [rep_eq ht hi hj h h', Nat.le_antisymm h1 h2]
    exact Nat.le_refl _
  | false =>
    have h1 := below_lt hr ht hi hj h h'
    have h2 := rep_le (p := p) (M := M) i
    unfold rankT
    have : (below p M i + 1) * (p + 1) ≤ below p M j * (p + 1) := Nat.mul_le_mul_right _ h1
    rw [Nat.succ_mul] at this
    omega
theorem rank_lt {i j : Nat} (hi : i < p) (hj : j < p) (h : M i j = true) (h' : M j i = false) : rankT p M i < rankT p M j := by
  have h1 := below_lt hr ht hi hj h h'
  have h2 := rep_le (p := p) (M := M) i
  unfold rankT
  have : (below p M i + 1) * (p + 1) ≤ below p M j * (p + 1) := Nat.mul_le_mul_right _ h1
  rw [Nat.succ_mul] at this
  omega
theorem rank_eq {i j : Nat} (hi : i < p) (hj : j < p) (h : rankT p M i = rankT p M j) : M i j = true ∧ M j i = true := by
  have h1 := rep_le (p := p) (M := M) i
  have h2 := rep_le (p := p) (M := M) j
  unfold rankT at h
  have e : rep p M i = rep p M j := by
    have a1 : (below p M i * (p + 1) + rep p M i) % (p + 1) = rep p M i := by
      rw [Nat.mul_comm, Nat.mul_add_mod, Nat.mod_eq_of_lt (by omega)]
    have a2 : (below p M j * (p + 1) + rep p M j) % (p + 1) = rep p M j := by
      rw [Nat.mul_comm, Nat.mul_add_mod, Nat.mod_eq_of_lt (by omega)]
    rw [← a1, ← a2, h]
  have ⟨g1, g2, g3⟩ := rep_of hr hi
  have ⟨g4, g5, g6⟩ := rep_of hr hj
  rw [← e] at g4 g5 g6
  exact ⟨ht _ _ _ hi g4 hj g2 g6, ht _ _ _ hj g4 hi g5 g3⟩
end

theorem cons_sat {p : Nat} {l : List Time} (hl : ∀ x ∈ l, OkT p x) : consM p l = true ↔ SatT l := by
  have hin : ∀ x ∈ l, InR p x := fun x hx => (hl x hx).2
  have hrc : ∀ {i j}, i < p → j < p → (getM (reachM p l) i j = true ↔ Reach l i j) := fun hi hj => reach_ok hin hi hj
  unfold consM
  rw [Bool.not_eq_true', List.any_eq_false]
  constructor
  · intro h
    have hr : ∀ i, i < p → getM (reachM p l) i i = true := fun i hi => (hrc hi hi).2 (.refl i)
    have ht : ∀ i j k, i < p → j < p → k < p → getM (reachM p l) i j = true → getM (reachM p l) j k = true → getM (reachM p l) i k = true := fun i j k hi hj hk h1 h2 =>
      (hrc hi hk).2 (((hrc hi hj).1 h1).trans ((hrc hj hk).1 h2))
    refine ⟨rankT p (getM (reachM p l)), fun x hx => ?_⟩
    have ⟨ha, hb⟩ := (hin x hx).nat
    have hbad := h x hx
    have hedge : x.kind ≠ 4 → getM (reachM p l) x.a.toNat x.b.toNat = true := fun hk => (hrc ha hb).2 (.step (.refl _) ⟨x, hx, .inl ⟨hk, rfl, rfl⟩⟩)
    unfold badT at hbad
    simp only [Bool.or_eq_true, Bool.and_eq_true, decide_eq_true_eq, not_or, not_and] at hbad
    refine ⟨fun e => ?_, fun e => ?_, fun e => ?_, fun e => ?_⟩
    · refine rank_lt hr ht ha hb (hedge (by omega)) ?_
      have := hbad.1 e
      simpa using this
    · exact rank_le hr ht ha hb (hedge (by omega))
    · have h1 := hedge (by omega)
      have h2 : getM (reachM p l) x.b.toNat x.a.toNat = true := (hrc hb ha).2 (.step (.refl _) ⟨x, hx, .inr ⟨e, rfl, rfl⟩⟩)
      exact Nat.le_antisymm (rank_le hr ht ha hb h1) (rank_le hr ht hb ha h2)
    · intro he
      have ⟨h1, h2⟩ := rank_eq hr ht ha hb he
      exact hbad.2 ⟨e, h1⟩ h2
  · rintro ⟨f, hf⟩ x hx hbad
    have ⟨ha, hb⟩ := (hin x hx).nat
    have hle : ∀ {i j}, Reach l i j → f i ≤ f j := fun hr => reach_le (fun y hy => (hl y hy).1) hf hr
    obtain ⟨h1, _, _, h4⟩ := hf x hx
    unfold badT at hbad
    simp only [Bool.or_eq_true, Bool.and_eq_true, decide_eq_true_eq] at hbad
    rcases hbad with ⟨e, h⟩ | ⟨⟨e, h⟩, h'⟩
    · have := hle ((hrc hb ha).1 h)
      have := h1 e
      omega
    · have a1 := hle ((hrc ha hb).1 h)
      have a2 := hle ((hrc hb ha).1 h')
      exact h4 e (Nat.le_antisymm a1 a2)
end Go.Abs
