import Derived.Test.YtbbcinpmomjbgaaDoorA3
set_option linter.unusedSimpArgs false
namespace Go.Abs
open Go

structure Time where
  kind : Int
  a : Int
  b : Int
  deriving DecidableEq, Inhabited

/-! ## matrices -/
def getM (B : List (List Bool)) (i j : Nat) : Bool := (B.getD i []).getD j false
def setM (B : List (List Bool)) (i j : Nat) : List (List Bool) := B.set i ((B.getD i []).set j true)
structure Sq (p : Nat) (B : List (List Bool)) : Prop where
  len : B.length = p
  row : ∀ r ∈ B, r.length = p

theorem Sq.get {p : Nat} {B : List (List Bool)} (h : Sq p B) {i : Nat} (hi : i < p) : (B.getD i []).length = p := by
  have : i < B.length := by rw [h.len]; exact hi
  rw [List.getD_eq_getElem?_getD, List.getElem?_eq_getElem this]
  exact h.row _ (List.getElem_mem this)
theorem Sq.lt {p : Nat} {B : List (List Bool)} (h : Sq p B) {i j : Nat} (hg : getM B i j = true) : i < p ∧ j < p := by
  have hi : i < p := by
    rcases Nat.lt_or_ge i p with h' | h'
    · exact h'
    · unfold getM at hg
      have : B.getD i [] = [] := by rw [List.getD_eq_getElem?_getD, List.getElem?_eq_none (by rw [h.len]; exact h')]; rfl
      rw [this] at hg
      simp at hg
  refine ⟨hi, ?_⟩
  rcases Nat.lt_or_ge j p with h' | h'
  · exact h'
  · unfold getM at hg
    rw [List.getD_eq_getElem?_getD, List.getElem?_eq_none (by rw [h.get hi]; exact h')] at hg
    simp at hg
theorem Sq.set {p : Nat} {B : List (List Bool)} (h : Sq p B) {i j : Nat} (hi : i < p) : Sq p (setM B i j) := by
  refine ⟨by rw [setM, List.length_set]; exact h.len, fun r hr => ?_⟩
  rcases List.mem_or_eq_of_mem_set hr with hr | rfl
  · exact h.row r hr
  · rw [List.length_set]; exact h.get hi
theorem get_set {p : Nat} {B : List (List Bool)} (h : Sq p B) {i j k l : Nat} (hi : i < p) (hj : j < p) : getM (setM B i j) k l = (getM B k l || (decide (k = i) && decide (l = j))) := by
  have hB : i < B.length := by rw [h.len]; exact hi
  unfold getM setM
  by_cases e : k = i
  · subst e
    have hr := h.get hi
    have h0 : ∀ r, (B.set k r).getD k [] = r := fun r => by
      rw [List.getD_eq_getElem?_getD, List.getElem?_set_self hB]; rfl
    rw [h0]
    simp only [decide_true, Bool.true_and]
    by_cases e2 : l = j
    · subst e2
      rw [List.getD_eq_getElem?_getD, List.getElem?_set_self (by rw [hr]; exact hj)]
      simp
    · rw [List.getD_eq_getElem?_getD, List.getElem?_set_ne fun e => e2 e.symm]
      simp [e2, List.getD_eq_getElem?_getD]
  · have : ∀ r, (B.set i r).getD k [] = B.getD k [] := fun r => by
      rw [List.getD_eq_getElem?_getD, List.getElem?_set_ne fun e2 => e e2.symm, List.getD_eq_getElem?_getD]
    rw [this]
    simp [e]

def initM (p : Nat) : List (List Bool) := (List.range p).map fun i => (List.replicate p false).set i true
theorem sq_init (p : Nat) : Sq p (initM p) := by
  refine ⟨by simp [initM], fun r hr => ?_⟩
  obtain ⟨i, _, rfl⟩ := List.mem_map.1 hr
  simp
theorem get_init {p i j : Nat} (hi : i < p) (hj : j < p) : getM (initM p) i j = decide (i = j) := by
  unfold getM initM
  have h0 : ((List.range p).map fun i => (List.replicate p false).set i true).getD i [] = (List.replicate p false).set i true := by
    rw [List.getD_eq_getElem?_getD, List.getElem?_map, List.getElem?_range hi]; rfl
  rw [h0]
  by_cases e : i = j
  · subst e
    rw [List.getD_eq_getElem?_getD, List.getElem?_set_self (by simpa using hi)]
    simp
  · rw [List.getD_eq_getElem?_getD, List.getElem?_set_ne e]
    simp [hj, e]

/-! ## the relations -/
def oneM (B : List (List Bool)) (x : Time) : List (List Bool) :=
  let B1 := if x.kind ≠ 4 then setM B x.a.toNat x.b.toNat else B
  if x.kind = 3 then setM B1 x.b.toNat x.a.toNat else B1
def baseM (l : List Time) (B : List (List Bool)) : List (List Bool) := l.foldl oneM B
def stepM (k i : Nat) (B : List (List Bool)) (j : Nat) : List (List Bool) := if getM B i k && getM B k j then setM B i j else B
def rowM (p k : Nat) (B : List (List Bool)) (i : Nat) : List (List Bool) := (List.range p).foldl (stepM k i) B
def allM (p : Nat) (B : List (List Bool)) (k : Nat) : List (List Bool) := (List.range p).foldl (rowM p k) B
def fwM (p : Nat) (B : List (List Bool)) : List (List Bool) := (List.range p).foldl (allM p) B
def badT (B : List (List Bool)) (x : Time) : Bool := (decide (x.kind = 1) && getM B x.b.toNat x.a.toNat) || (decide (x.kind = 4) && getM B x.a.toNat x.b.toNat && getM B x.b.toNat x.a.toNat)
def reachM (p : Nat) (l : List Time) : List (List Bool) := fwM p (baseM l (initM p))
def consM (p : Nat) (l : List Time) : Bool := !(l.any (badT (reachM p l)))

def InR (p : Nat) (x : Time) : Prop := 0 ≤ x.a ∧ x.a < p ∧ 0 ≤ x.b ∧ x.b < p
def Edge (l : List Time) (i j : Nat) : Prop := ∃ x ∈ l, (x.kind ≠ 4 ∧ x.a.toNat = i ∧ x.b.toNat = j) ∨ (x.kind = 3 ∧ x.b.toNat = i ∧ x.a.toNat = j)
inductive Reach (l : List Time) : Nat → Nat → Prop
  | refl (i) : Reach l i i
  | step {i j k} : Reach l i j → Edge l j k → Reach l i k
theorem Reach.trans {l : List Time} {i j k : Nat} (h1 : Reach l i j) (h2 : Reach l j k) : Reach l i k := by
  induction h2 with
  | refl => exact h1
  | step _ h ih => exact .step ih h

theorem InR.nat {p : Nat} {x : Time} (h : InR p x) : x.a.toNat < p ∧ x.b.toNat < p := by
  obtain ⟨h1, h2, h3, h4⟩ := h; omega

theorem sq_one {p : Nat} {B : List (List Bool)} (h : Sq p B) {x : Time} (hx : InR p x) : Sq p (oneM B x) := by
  have ⟨h1, h2⟩ := hx.nat
  unfold oneM
  simp only
  split <;> split <;> first | exact h | exact (h.set h1).set h2 | exact h.set h1 | exact h.set h2
theorem get_one {p : Nat} {B : List (List Bool)} (h : Sq p B) {x : Time} (hx : InR p x) {i j : Nat} : getM (oneM B x) i j = true ↔ getM B i j = true ∨ (x.kind ≠ 4 ∧ x.a.toNat = i ∧ x.b.toNat = j) ∨ (x.kind = 3 ∧ x.b.toNat = i ∧ x.a.toNat = j) := by
  have ⟨h1, h2⟩ := hx.nat
  unfold oneM
  simp only
  by_cases e3 : x.kind = 3
  · rw [if_pos e3, if_pos (by omega), get_set (h.set h1) h2 h1, get_set h h1 h2]
    simp only [Bool.or_eq_true, Bool.and_eq_true, decide_eq_true_eq]
    constructor
    · rintro ((h | ⟨rfl, rfl⟩) | ⟨rfl, rfl⟩)
      · exact .inl h
      · exact .inr (.inl ⟨by omega, rfl, rfl⟩)
      · exact .inr (.inr ⟨e3, rfl, rfl⟩)
    · rintro (h | ⟨_, rfl, rfl⟩ | ⟨_, rfl, rfl⟩)
      · exact .inl (.inl h)
      · exact .inl (.inr ⟨rfl, rfl⟩)
      · exact .inr ⟨rfl, rfl⟩
  · rw [if_neg e3]
    by_cases e4 : x.kind = 4
    · rw [if_neg (fun e => e e4)]
      exact ⟨.inl, fun h => h.elim id fun h => h.elim (fun h => absurd e4 h.1) fun h => absurd h.1 e3⟩
    · rw [if_pos e4, get_set h h1 h2]
      simp only [Bool.or_eq_true, Bool.and_eq_true, decide_eq_true_eq]
      constructor
      · rintro (h | ⟨rfl, rfl⟩)
        · exact .inl h
        · exact .inr (.inl ⟨e4, rfl, rfl⟩)
      · rintro (h | ⟨_, rfl, rfl⟩ | ⟨h, _⟩)
        · exact .inl h
        · exact .inr ⟨rfl, rfl⟩
        · exact absurd h e3
theorem base_ok {p : Nat} : ∀ {l : List Time} {B : List (List Bool)}, Sq p B → (∀ x ∈ l, InR p x) → Sq p (baseM l B) ∧ ∀ i j, getM (baseM l B) i j = true ↔ getM B i j = true ∨ Edge l i j
  | [], B, h, _ => ⟨h, fun i j => ⟨.inl, fun h => h.elim id fun ⟨_, h, _⟩ => by cases h⟩⟩
  | x :: l, B, h, hl => by
    have hx := hl x List.mem_cons_self
    have ⟨g1, g2⟩ := base_ok (l := l) (sq_one h hx) fun y hy => hl y (List.mem_cons_of_mem _ hy)
    refine ⟨g1, fun i j => ?_⟩
    rw [show baseM (x :: l) B = baseM l (oneM B x) from rfl, g2, get_one h hx]
    constructor
    · rintro ((h | h) | ⟨y, hy, h⟩)
      · exact .inl h
      · exact .inr ⟨x, List.mem_cons_self, h⟩
      · exact .inr ⟨y, List.mem_cons_of_mem _ hy, h⟩
    · rintro (h | ⟨y, hy, h⟩)
      · exact .inl (.inl h)
      · rcases List.mem_cons.1 hy with rfl | hy
        · exact .inl (.inr h)
        · exact .inr ⟨y, hy, h⟩

/-! ## the closure -/
def Le (B B' : List (List Bool)) : Prop := ∀ i j, getM B i j = true → getM B' i j = true
theorem step_ok {p k i j : Nat} {B : List (List Bool)} (h : Sq p B) (hi : i < p) (hj : j < p) : Sq p (stepM k i B j) ∧ Le B (stepM k i B j) ∧ (getM B i k = true → getM B k j = true → getM (stepM k i B j) i j = true) := by
  unfold stepM
  split
  · rename_i hc
    refine ⟨h.set hi, fun a b hab => ?_, fun _ _ => ?_⟩
    · rw [get_set h hi hj, hab]; rfl
    · rw [get_set h hi hj]; simp
  · rename_i hc
    exact ⟨h, fun _ _ h => h, fun h1 h2 => absurd (by rw [h1, h2]; rfl) hc⟩
theorem step_sound {p k i j : Nat} {B : List (List Bool)} {R : Nat → Nat → Prop} (h : Sq p B) (hi : i < p) (hj : j < p) (ht : ∀ a b c, R a b → R b c → R a c) (hs : ∀ a b, getM B a b = true → R a b) : ∀ a b, getM (stepM k i B j) a b = true → R a b := by
  intro a b hab
  unfold stepM at hab
  split at hab
  · rename_i hc
    rw [get_set h hi hj] at hab
    simp only [Bool.or_eq_true, Bool.and_eq_true, decide_eq_true_eq] at hab hc
    rcases hab with hab | ⟨rfl, rfl⟩
    · exact hs a b hab
    · exact ht _ _ _ (hs _ _ hc.1) (hs _ _ hc.2)
  · exact hs a b hab

/-- a fold of steps that grow -/
theorem fold_ok {p : Nat} {f : List (List Bool) → Nat → List (List Bool)} {g : List (List Bool) → Nat → Prop} (hg : ∀ B B' m, Le B B' → g B m → g B' m) {Q : List (List Bool) → Prop}
    (hf : ∀ B m, m < p → Sq p B → Q B → Sq p (f B m) ∧ Le B (f B m) ∧ Q (f B m) ∧ g (f B m) m) : ∀ n B, n ≤ p → Sq p B → Q B → Sq p ((List.range n).foldl f B) ∧ Le B ((List.range n).foldl f B) ∧ Q ((List.range n).foldl f B) ∧ ∀ m, m < n → g ((List.range n).foldl f B) m
  | 0, B, _, h, hq => ⟨h, fun _ _ h => h, hq, fun m hm => absurd hm (by omega)⟩
  | n + 1, B, hn, h, hq => by
    have ⟨g1, g2, g3, g4⟩ := fold_ok hg hf n B (by omega) h hq
    rw [List.range_succ, List.foldl_append, List.foldl_cons, List.foldl_nil]
    have ⟨h1, h2, h3, h4⟩ := hf _ n (by omega) g1 g3
    refine ⟨h1, fun i j h => h2 i j (g2 i j h), h3, fun m hm => ?_⟩
    rcases Nat.lt_or_ge m n with h' | h'
    · exact hg _ _ _ h2 (g4 m h')
    · obtain rfl : m = n := by omega
      exact h4

theorem row_ok {p k i : Nat} {B : List (List Bool)} {R : Nat → Nat → Prop} (h : Sq p B) (hi : i < p) (ht : ∀ a b c, R a b → R b c → R a c) (hs : ∀ a b, getM B a b = true → R a b) :
    Sq p (rowM p k B i) ∧ Le B (rowM p k B i) ∧ (∀ a b, getM (rowM p k B i) a b = true → R a b) ∧ ∀ j, j < p → getM B i k = true → getM B k j = true → getM (rowM p k B i) i j = true := by
  have := fold_ok (p := p) (f := stepM k i) (g := fun C j => getM B i k = true → getM B k j = true → getM C i j = true) (fun C C' m hC hm h1 h2 => hC _ _ (hm h1 h2))
    (Q := fun C => Le B C ∧ ∀ a b, getM C a b = true → R a b) (fun C m hm hC hQ => by
      have ⟨h1, h2, h3⟩ := step_ok (k := k) hC hi hm
      exact ⟨h1, h2, ⟨fun a b hab => h2 _ _ (hQ.1 a b hab), step_sound hC hi hm ht hQ.2⟩, fun e1 e2 => h3 (hQ.1 _ _ e1) (hQ.1 _ _ e2)⟩) p B (Nat.le_refl _) h ⟨fun _ _ h => h, hs⟩
  exact ⟨this.1, this.2.1, this.2.2.1.2, this.2.2.2⟩
theorem all_ok {p k : Nat} {B : List (List Bool)} {R : Nat → Nat → Prop} (h : Sq p B) (ht : ∀ a b c, R a b → R b c → R a c) (hs : ∀ a b, getM B a b = true → R a b) :
    Sq p (allM p B k) ∧ Le B (allM p B k) ∧ (∀ a b, getM (allM p B k) a b = true → R a b) ∧ ∀ i, i < p → ∀ j, j < p → getM B i k = true → getM B k j = true → getM (allM p B k) i j = true := by
  have := fold_ok (p := p) (f := rowM p k) (g := fun C i => ∀ j, j < p → getM B i k = true → getM B k j = true → getM C i j = true) (fun C C' m hC hm j hj h1 h2 => hC _ _ (hm j hj h1 h2))
    (Q := fun C => Le B C ∧ ∀ a b, getM C a b = true → R a b) (fun C m hm hC hQ => by
      have ⟨h1, h2, h3, h4⟩ := row_ok (k := k) hC hm ht hQ.2
      exact ⟨h1, h2, ⟨fun a b hab => h2 _ _ (hQ.1 a b hab), h3⟩, fun j hj e1 e2 => h4 j hj (hQ.1 _ _ e1) (hQ.1 _ _ e2)⟩) p B (Nat.le_refl _) h ⟨fun _ _ h => h, hs⟩
  exact ⟨this.1, this.2.1, this.2.2.1.2, this.2.2.2⟩

/-- a path whose inner points are below n -/
inductive Path (E : Nat → Nat → Prop) (n : Nat) : Nat → Nat → Prop
  | edge {i j} : E i j → Path E n i j
  | cons {i m j} : E i m → m < n → Path E n m j → Path E n i j
theorem Path.snoc {E : Nat → Nat → Prop} {n i m j : Nat} (h : Path E n i m) (hm : m < n) (h2 : Path E n m j) : Path E n i j := by
  induction h with
  | edge h => exact .cons h hm h2
  | cons h h3 _ ih => exact .cons h h3 (ih hm h2)
theorem Path.cut {E : Nat → Nat → Prop} {n i j : Nat} (h : Path E (n + 1) i j) : Path E n i j ∨ (Path E n i n ∧ Path E n n j) := by
  induction h with
  | edge h => exact .inl (.edge h)
  | @cons i m j h hm _ ih =>
    rcases Nat.lt_or_ge m n with h' | h'
    · rcases ih with ih | ⟨ih1, ih2⟩
      · exact .inl (.cons h h' ih)
      · exact .inr ⟨.cons h h' ih1, ih2⟩
    · obtain rfl : m = n := by omega
      rcases ih with ih | ⟨ih1, ih2⟩
      · exact .inr ⟨.edge h, ih⟩
      · exact .inr ⟨.edge h, ih2⟩
theorem fw_ok {p : Nat} {B : List (List Bool)} {R : Nat → Nat → Prop} (h : Sq p B) (ht : ∀ a b c, R a b → R b c → R a c) (hs : ∀ a b, getM B a b = true → R a b) :
    (∀ a b, getM (fwM p B) a b = true → R a b) ∧ ∀ i j, i < p → j < p → Path (fun a b => getM B a b = true) p i j → getM (fwM p B) i j = true := by
  have key : ∀ n, n ≤ p → Sq p ((List.range n).foldl (allM p) B) ∧ (∀ a b, getM ((List.range n).foldl (allM p) B) a b = true → R a b) ∧ ∀ i j, i < p → j < p → Path (fun a b => getM B a b = true) n i j → getM ((List.range n).foldl (allM p) B) i j = true := by
    intro n
    induction n with
    | zero => exact fun _ => ⟨h, hs, fun i j _ _ hp => by
        cases hp with
        | edge h => exact h
        | cons _ h _ => omega⟩
    | succ n ih =>
      intro hn
      have ⟨g1, g2, g3⟩ := ih (by omega)
      rw [List.range_succ, List.foldl_append, List.foldl_cons, List.foldl_nil]
      have ⟨h1, h2, h3, h4⟩ := all_ok (k := n) g1 ht g2
      refine ⟨h1, h3, fun i j hi hj hp => ?_⟩
      rcases hp.cut with hp | ⟨hp1, hp2⟩
      · exact h2 _ _ (g3 i j hi hj hp)
      · exact h4 i hi j hj (g3 i n hi (by omega) hp1) (g3 n j (by omega) hj hp2)
  exact (key p (Nat.le_refl _)).2
theorem reach_ok {p : Nat} {l : List Time} (hl : ∀ x ∈ l, InR p x) {i j : Nat} (hi : i < p) (hj : j < p) : getM (reachM p l) i j = true ↔ Reach l i j := by
  have ⟨h1, h2⟩ := base_ok (sq_init p) hl
  have edge_lt : ∀ a b, Edge l a b → a < p ∧ b < p := by
    rintro a b ⟨x, hx, ⟨_, rfl, rfl⟩ | ⟨_, rfl, rfl⟩⟩
    · exact (hl x hx).nat
    · exact (hl x hx).nat.symm
  have ⟨g1, g2⟩ := fw_ok (R := fun a b => Reach l a b) (B := baseM l (initM p)) h1 (fun a b c hab hbc => hab.trans hbc) (fun a b hab => by
    have ⟨ha, hb⟩ := h1.lt hab
    rcases (h2 a b).1 hab with h | h
    · rw [get_init ha hb] at h
      obtain rfl := of_decide_eq_true h
      exact .refl _
    · exact .step (.refl _) h)
  refine ⟨fun h => g1 _ _ h, fun h => g2 i j hi hj ?_⟩
  have : ∀ a b, Reach l a b → a < p → b < p ∧ Path (fun a b => getM (baseM l (initM p)) a b = true) p a b := by
    intro a b h ha
    induction h with
    | refl => exact ⟨ha, .edge ((h2 _ _).2 (.inl (by rw [get_init ha ha]; simp)))⟩
    | step _ he ih =>
      exact ⟨(edge_lt _ _ he).2, ih.2.snoc ih.1 (.edge ((h2 _ _).2 (.inr he)))⟩
  exact (this i j h hi).2
end Go.Abs
