import Derived.Test.YtbbcinpmomjbgaaDoorTM
set_option linter.unusedSimpArgs false
namespace Go.Abs
open Go

/-! ## all orders of some points: codes, rank functions -/

/-- all codes of r digits below N, rising -/
def codes (N : Nat) : Nat → List (List Nat)
  | 0 => [[]]
  | r + 1 => (List.range N).flatMap fun c => (codes N r).map (c :: ·)
theorem mem_codes {N : Nat} : ∀ {n : Nat} {r : List Nat}, r ∈ codes N n ↔ r.length = n ∧ ∀ k ∈ r, k < N
  | 0, r => by
    simp only [codes, List.mem_singleton]
    constructor
    · rintro rfl; simp
    · rintro ⟨h, _⟩; exact List.eq_nil_of_length_eq_zero h
  | n + 1, r => by
    simp only [codes, List.mem_flatMap, List.mem_map, List.mem_range]
    constructor
    · rintro ⟨c, hc, s, hs, rfl⟩
      obtain ⟨h1, h2⟩ := mem_codes.1 hs
      exact ⟨by simp [h1], fun k hk => (List.mem_cons.1 hk).elim (fun e => e ▸ hc) (h2 k)⟩
    · rintro ⟨h1, h2⟩
      cases r with
      | nil => simp at h1
      | cons c s => exact ⟨c, h2 c (by simp), s, mem_codes.2 ⟨by simpa using h1, fun k hk => h2 k (by simp [hk])⟩, rfl⟩

def rf (r : List Nat) (i : Nat) : Nat := r.getD i 0
instance {f : Nat → Nat} {x : Time} : Decidable (HoldsF f x) := by unfold HoldsF; infer_instance
def holdN (r : List Nat) (x : Time) : Bool := decide (HoldsF (rf r) x)
/-- no rank without the one below it -/
def okR (r : List Nat) : Bool := r.all fun k => decide (k = 0) || decide (k - 1 ∈ r)
def fine (l : List Time) (r : List Nat) : Bool := l.all (holdN r) && okR r
def pruned (l : List Time) (r : List Nat) : Bool := l.any fun x => decide (max x.a x.b = (r.length : Int) - 1) && !holdN r x
def walkN (p : Nat) (l : List Time) : Nat → List Nat → List (List Nat)
  | 0, r => if pruned l r then [] else if okR r then [r] else []
  | d + 1, r => if pruned l r then [] else (List.range p).flatMap fun k => walkN p l d (r ++ [k])

theorem rf_app {r t : List Nat} {i : Nat} (h : i < r.length) : rf (r ++ t) i = rf r i := by
  unfold rf; rw [List.getD_eq_getElem?_getD, List.getElem?_append_left h, List.getD_eq_getElem?_getD]
theorem holdN_app {r t : List Nat} {x : Time} (ha : 0 ≤ x.a) (hb : 0 ≤ x.b) (h : max x.a x.b < r.length) : holdN (r ++ t) x = holdN r x := by
  have ea := rf_app (r := r) (t := t) (by omega : x.a.toNat < r.length)
  have eb := rf_app (r := r) (t := t) (by omega : x.b.toNat < r.length)
  have : HoldsF (rf (r ++ t)) x ↔ HoldsF (rf r) x := by unfold HoldsF; rw [ea, eb]
  unfold holdN; exact decide_eq_decide.2 this

theorem walkN_eq {p : Nat} {l : List Time} (hin : ∀ x ∈ l, InR p x) : ∀ (d : Nat) (r : List Nat), r.length + d = p → (∀ x ∈ l, max x.a x.b + 1 < r.length → holdN r x = true) →
    walkN p l d r = ((codes p d).map (r ++ ·)).filter (fine l)
  | d, r, hp, hh => by
    by_cases hpr : pruned l r = true
    · have : ((codes p d).map (r ++ ·)).filter (fine l) = [] := by
        rw [List.filter_eq_nil_iff]
        intro s hs
        obtain ⟨t, _, rfl⟩ := List.mem_map.1 hs
        unfold pruned at hpr
        obtain ⟨x, hx, h2⟩ := List.any_eq_true.1 hpr
        simp only [Bool.and_eq_true, decide_eq_true_eq, Bool.not_eq_true'] at h2
        obtain ⟨a1, a2, a3, a4⟩ := hin x hx
        have e := holdN_app (t := t) a1 a3 (show max x.a x.b < r.length by omega)
        simp only [fine, Bool.and_eq_true, not_and]
        intro h3
        have := List.all_eq_true.1 h3 x hx
        rw [e, h2.2] at this; cases this
      rw [this]
      cases d <;> (unfold walkN; rw [if_pos hpr])
    · have hall : ∀ x ∈ l, max x.a x.b < r.length → holdN r x = true := fun x hx hlt => by
        by_cases h1 : max x.a x.b + 1 < r.length
        · exact hh x hx h1
        · cases hb : holdN r x with
          | true => rfl
          | false =>
            refine absurd (List.any_eq_true.2 ⟨x, hx, ?_⟩) hpr
            simp only [Bool.and_eq_true, decide_eq_true_eq, hb, Bool.not_false, and_true]
            omega
      cases d with
      | zero =>
        unfold walkN
        rw [if_neg hpr]
        have hl : l.all (holdN r) = true := List.all_eq_true.2 fun x hx => hall x hx (by
          obtain ⟨a1, a2, a3, a4⟩ := hin x hx; omega)
        simp only [codes, List.map_cons, List.map_nil, List.append_nil, List.filter_cons, List.filter_nil, fine, hl, Bool.true_and]
      | succ d =>
        unfold walkN
        rw [if_neg hpr]
        simp only [codes, List.map_flatMap, List.filter_flatMap]
        have : ∀ {f g : Nat → List (List Nat)} {m : List Nat}, (∀ a ∈ m, f a = g a) → m.flatMap f = m.flatMap g := fun {f g m} h => by
          induction m with
          | nil => rfl
          | cons a m ih => rw [List.flatMap_cons, List.flatMap_cons, h a (by simp), ih fun b hb => h b (by simp [hb])]
        refine this fun k _ => ?_
        rw [walkN_eq hin d (r ++ [k]) (by simp; omega) (fun x hx hlt => by
          obtain ⟨a1, a2, a3, a4⟩ := hin x hx
          rw [holdN_app a1 a3 (by simp at hlt; omega)]
          exact hall x hx (by simp at hlt; omega))]
        rw [List.map_map]
        congr 2
        funext t
        simp
termination_by d => d

/-- all orders -/
def orders (p : Nat) (l : List Time) : List (List Nat) := (codes p p).filter (fine l)
theorem walkN_orders {p : Nat} {l : List Time} (hin : ∀ x ∈ l, InR p x) : walkN p l p [] = orders p l := by
  rw [walkN_eq hin p [] (by simp) (fun x hx h => by obtain ⟨a1, _, a3, _⟩ := hin x hx; simp at h; omega)]
  unfold orders
  simp
theorem mem_orders {p : Nat} {l : List Time} {r : List Nat} : r ∈ orders p l ↔ (r.length = p ∧ ∀ k ∈ r, k < p) ∧ okR r = true ∧ ∀ x ∈ l, HoldsF (rf r) x := by
  unfold orders fine
  rw [List.mem_filter, mem_codes, Bool.and_eq_true, List.all_eq_true]
  simp only [holdN, decide_eq_true_eq]
  exact ⟨fun ⟨a, b, c⟩ => ⟨a, c, b⟩, fun ⟨a, b, c⟩ => ⟨a, c, b⟩⟩

/-! ### dense ranks -/
theorem count_one {p q : Nat → Bool} : ∀ {n m : Nat}, m < n → q m = true → p m = false → (∀ i, i < n → i ≠ m → p i = q i) → ((List.range n).filter q).length = ((List.range n).filter p).length + 1
  | 0, _, h, _, _, _ => by omega
  | n + 1, m, hm, h1, h2, h => by
    rw [List.range_succ, List.filter_append, List.filter_append, List.length_append, List.length_append]
    by_cases e : m = n
    · subst e
      have : (List.range m).filter p = (List.range m).filter q := List.filter_congr fun i hi => h i (by have := List.mem_range.1 hi; omega) (by have := List.mem_range.1 hi; omega)
      rw [this]
      simp [List.filter_cons, h1, h2]
    · have ih := count_one (p := p) (q := q) (n := n) (m := m) (by omega) h1 h2 fun i hi => h i (by omega)
      rw [ih]
      have : p n = q n := h n (by omega) (fun e2 => e e2.symm)
      simp only [List.filter_cons, List.filter_nil, this]
      omega

section
variable (p : Nat) (f : Nat → Nat)
/-- the first point of its rank -/
def fst1 (j : Nat) : Bool := (List.range j).all fun j' => !decide (f j' = f j)
def dn (i : Nat) : Nat := ((List.range p).filter fun j => decide (f j < f i) && fst1 f j).length
variable {p f}
theorem fst_of {i : Nat} (hi : i < p) : ∃ j, j < p ∧ f j = f i ∧ fst1 f j = true := by
  induction i using Nat.strongRecOn with
  | ind i ih =>
    cases h : fst1 f i with
    | true => exact ⟨i, hi, rfl, h⟩
    | false =>
      unfold fst1 at h
      rw [List.all_eq_false] at h
      obtain ⟨j, hj, h2⟩ := h
      have hj' := List.mem_range.1 hj
      simp only [Bool.not_eq_true', decide_eq_false_iff_not, Classical.not_not] at h2
      obtain ⟨j2, a, b, c⟩ := ih j hj' (by omega)
      exact ⟨j2, a, b.trans h2, c⟩
theorem fst_inj {i j : Nat} (hi : fst1 f i = true) (hj : fst1 f j = true) (e : f i = f j) : i = j := by
  unfold fst1 at hi hj
  rw [List.all_eq_true] at hi hj
  rcases Nat.lt_trichotomy i j with h | h | h
  · have := hj i (List.mem_range.2 h); simp [e] at this
  · exact h
  · have := hi j (List.mem_range.2 h); simp [e] at this
theorem dn_le {i j : Nat} (h : f i ≤ f j) : dn p f i ≤ dn p f j :=
  count_mono fun k _ hk => by
    simp only [Bool.and_eq_true, decide_eq_true_eq] at hk ⊢
    exact ⟨by omega, hk.2⟩
theorem dn_lt {i j : Nat} (hi : i < p) (h : f i < f j) : dn p f i < dn p f j := by
  obtain ⟨m, h1, h2, h3⟩ := fst_of (f := f) hi
  refine count_lt (m := m) (fun k _ hk => ?_) h1 ?_ ?_
  · simp only [Bool.and_eq_true, decide_eq_true_eq] at hk ⊢
    exact ⟨by omega, hk.2⟩
  · simp [h2]
  · simp [h2, h, h3]
theorem dn_iff {i j : Nat} (hi : i < p) : dn p f i < dn p f j ↔ f i < f j := by
  constructor
  · intro h
    rcases Nat.lt_or_ge (f i) (f j) with h' | h'
    · exact h'
    · have := dn_le (p := p) h'; omega
  · exact dn_lt hi
theorem dn_small {i : Nat} (hi : i < p) : dn p f i < p := by
  obtain ⟨m, h1, h2, h3⟩ := fst_of (f := f) hi
  have : dn p f i < ((List.range p).filter fun _ => true).length := count_lt (p := fun j => decide (f j < f i) && fst1 f j) (m := m) (fun _ _ _ => rfl) h1 (by simp [h2]) rfl
  have e : ((List.range p).filter fun _ => true).length = p := by rw [List.filter_eq_self.2 fun _ _ => rfl, List.length_range]
  omega
theorem exists_max {P : Nat → Prop} [DecidablePred P] : ∀ {n : Nat}, (∃ j, j < n ∧ P j) → ∃ j, j < n ∧ P j ∧ ∀ k, k < n → P k → f k ≤ f j
  | 0, ⟨_, h, _⟩ => by omega
  | n + 1, ⟨j, hj, hp⟩ => by
    by_cases hn : P n
    · by_cases h : ∃ j, j < n ∧ P j
      · obtain ⟨m, a, b, c⟩ := exists_max h
        rcases Nat.le_total (f n) (f m) with h' | h'
        · refine ⟨m, by omega, b, fun k hk hpk => ?_⟩
          rcases Nat.lt_or_ge k n with h2 | h2
          · exact c k h2 hpk
          · obtain rfl : k = n := by omega
            exact h'
        · refine ⟨n, by omega, hn, fun k hk hpk => ?_⟩
          rcases Nat.lt_or_ge k n with h2 | h2
          · exact Nat.le_trans (c k h2 hpk) h'
          · obtain rfl : k = n := by omega
            exact Nat.le_refl _
      · refine ⟨n, by omega, hn, fun k hk hpk => ?_⟩
        rcases Nat.lt_or_ge k n with h2 | h2
        · exact absurd ⟨k, h2, hpk⟩ h
        · obtain rfl : k = n := by omega
          exact Nat.le_refl _
    · have hjn : j < n := by
        rcases Nat.lt_or_ge j n with h2 | h2
        · exact h2
        · obtain rfl : j = n := by omega
          exact absurd hp hn
      obtain ⟨m, a, b, c⟩ := exists_max ⟨j, hjn, hp⟩
      refine ⟨m, by omega, b, fun k hk hpk => ?_⟩
      rcases Nat.lt_or_ge k n with h2 | h2
      · exact c k h2 hpk
      · obtain rfl : k = n := by omega
        exact absurd hpk hn
theorem dn_pred {i : Nat} (h : 0 < dn p f i) : ∃ j, j < p ∧ dn p f j + 1 = dn p f i := by
  have hex : ∃ j, j < p ∧ (f j < f i ∧ fst1 f j = true) := by
    unfold dn at h
    obtain ⟨j, hj⟩ := List.exists_mem_of_length_pos h
    rw [List.mem_filter, List.mem_range, Bool.and_eq_true, decide_eq_true_eq] at hj
    exact ⟨j, hj⟩
  obtain ⟨m, a, ⟨b1, b2⟩, c⟩ := exists_max (f := f) hex
  refine ⟨m, a, ?_⟩
  unfold dn
  rw [count_one (q := fun j => decide (f j < f i) && fst1 f j) (p := fun j => decide (f j < f m) && fst1 f j) a (by simp [b1, b2]) (by simp) (fun k hk hne => ?_)]
  cases hf : fst1 f k with
  | false => simp
  | true =>
    simp only [Bool.and_true]
    rw [Bool.eq_iff_iff, decide_eq_true_eq, decide_eq_true_eq]
    constructor
    · intro h; omega
    · intro h
      have := c k hk ⟨h, hf⟩
      rcases Nat.lt_or_ge (f k) (f m) with h' | h'
      · exact h'
      · exact absurd (fst_inj hf b2 (by omega)) hne

/-- EVERY RANK FUNCTION HAS A DENSE ONE -/
theorem dense (p : Nat) (f : Nat → Nat) : ∃ r : List Nat, (r.length = p ∧ ∀ k ∈ r, k < p) ∧ okR r = true ∧ ∀ i j, i < p → j < p → (rf r i < rf r j ↔ f i < f j) := by
  have hg : ∀ i, i < p → rf ((List.range p).map (dn p f)) i = dn p f i := fun i hi => by
    unfold rf; simp [List.getD_eq_getElem?_getD, hi]
  refine ⟨(List.range p).map (dn p f), ⟨by simp, fun k hk => ?_⟩, ?_, fun i j hi hj => by rw [hg i hi, hg j hj]; exact dn_iff hi⟩
  · obtain ⟨i, hi, rfl⟩ := List.mem_map.1 hk
    exact dn_small (List.mem_range.1 hi)
  · unfold okR
    rw [List.all_eq_true]
    intro k hk
    obtain ⟨i, hi, rfl⟩ := List.mem_map.1 hk
    rw [Bool.or_eq_true, decide_eq_true_eq, decide_eq_true_eq]
    rcases Nat.eq_zero_or_pos (dn p f i) with h | h
    · exact .inl h
    · obtain ⟨j, hj, e⟩ := dn_pred h
      exact .inr (List.mem_map.2 ⟨j, List.mem_range.2 hj, by omega⟩)
end

theorem holds_iso {p : Nat} {f g : Nat → Nat} {x : Time} (hx : InR p x) (h : ∀ i j, i < p → j < p → (f i < f j ↔ g i < g j)) : HoldsF f x ↔ HoldsF g x := by
  obtain ⟨a1, a2, a3, a4⟩ := hx
  have h1 := h x.a.toNat x.b.toNat (by omega) (by omega)
  have h2 := h x.b.toNat x.a.toNat (by omega) (by omega)
  unfold HoldsF
  constructor
  · rintro ⟨c1, c2, c3, c4⟩
    refine ⟨fun e => ?_, fun e => ?_, fun e => ?_, fun e => ?_⟩
    · have := c1 e; omega
    · have := c2 e; omega
    · have := c3 e; omega
    · have := c4 e; omega
  · rintro ⟨c1, c2, c3, c4⟩
    refine ⟨fun e => ?_, fun e => ?_, fun e => ?_, fun e => ?_⟩
    · have := c1 e; omega
    · have := c2 e; omega
    · have := c3 e; omega
    · have := c4 e; omega

/-- FROM RANK FUNCTIONS TO ORDERS AND BACK -/
theorem orders_of {p : Nat} {l : List Time} (hin : ∀ x ∈ l, InR p x) {f : Nat → Nat} (hf : ∀ x ∈ l, HoldsF f x) : ∃ r ∈ orders p l, ∀ i j, i < p → j < p → (rf r i < rf r j ↔ f i < f j) := by
  obtain ⟨r, h1, h2, h3⟩ := dense p f
  exact ⟨r, mem_orders.2 ⟨h1, h2, fun x hx => (holds_iso (hin x hx) h3).2 (hf x hx)⟩, h3⟩
theorem of_orders {p : Nat} {l : List Time} {r : List Nat} (h : r ∈ orders p l) : ∀ x ∈ l, HoldsF (rf r) x := (mem_orders.1 h).2.2
theorem orders_sat {p : Nat} {l : List Time} (hl : ∀ x ∈ l, OkT p x) : consM p l = true ↔ orders p l ≠ [] := by
  rw [cons_sat hl]
  constructor
  · rintro ⟨f, hf⟩
    obtain ⟨r, hr, _⟩ := orders_of (fun x hx => (hl x hx).2) hf
    exact List.ne_nil_of_mem hr
  · intro h
    obtain ⟨r, hr⟩ := List.exists_mem_of_ne_nil _ h
    exact ⟨rf r, of_orders hr⟩
end Go.Abs
