import Derived.Test.YtbbcinpmomjbgaaDoorP26
set_option linter.unusedSimpArgs false
namespace Go.Proofs.YtbbcinpmomjbgaaDoor
open Go Go.Abs Go.Proofs

theorem timesGo_app {p : Int} {x : Time} (hx : relCode p x = 0) : ∀ {l : List Time} {i : Int}, (timesGo p l i).code = 0 → timesGo p (l ++ [x]) i = ⟨0, 0⟩
  | [], i, _ => by rw [List.nil_append, timesGo, if_pos hx]; rfl
  | y :: l, i, h => by
    unfold timesGo at h
    split at h
    · rename_i h0
      rw [List.cons_append, timesGo, if_pos h0]
      exact timesGo_app hx h
    · rename_i h0
      exact absurd h h0
theorem times_app {p : Int} {l : List Time} {x : Time} (h : (timesM p l).code = 0) (hx : relCode p x = 0) (hl : l.length < 300) : timesM p (l ++ [x]) = ⟨0, 0⟩ := by
  have ⟨_, h1, h2, _, _⟩ := times_zero h
  unfold timesM at h ⊢
  rw [if_neg (by omega)] at h ⊢
  rw [if_neg (by omega)] at h
  rw [if_neg (by rw [List.length_append, List.length_singleton]; omega)]
  exact timesGo_app hx h
theorem neg_iff {f : Nat → Nat} {x : Time} (hk : 1 ≤ x.kind ∧ x.kind ≤ 4) : HoldsF f (negT x) ↔ ¬ HoldsF f x := by
  have hks : x.kind = 1 ∨ x.kind = 2 ∨ x.kind = 3 ∨ x.kind = 4 := by omega
  unfold negT HoldsF
  rcases hks with e | e | e | e <;> simp [e] <;> omega
theorem bits_inj : ∀ {a b c a' b' c' : Bool}, (if a = true then (1 : Int) else 0) + (if b = true then 2 else 0) + (if c = true then 4 else 0) = (if a' = true then 1 else 0) + (if b' = true then 2 else 0) + (if c' = true then 4 else 0) → a = a' ∧ b = b' ∧ c = c' := by decide

section
variable {p : Nat} {l : List Time} {x : Time} (h : (timesM p l).code = 0) (hx : relCode p x = 0) (hl : l.length < 300)
include h hx hl
theorem ent_true (he : !consM p (l ++ [negT x]) = true) : gridB p l p = gridB p (l ++ [x]) p := by
  have hk : 1 ≤ x.kind ∧ x.kind ≤ 4 := (rel_ok (by omega) hx).1
  have hm : (timesM p (l ++ [x])).code = 0 := by rw [times_app h hx hl]
  have h4 := (consPre_add h (relCode_neg hx)).2.2.2
  simp only [Int.toNat_natCast] at h4
  have hall : ∀ f : Nat → Nat, (∀ y ∈ l, HoldsF f y) → HoldsF f x := fun f hf => by
    refine Classical.byContradiction fun hn => ?_
    have : consM p (l ++ [negT x]) = true := (cons_sat h4).2 ⟨f, fun y hy => by
      rcases List.mem_append.1 hy with hy | hy
      · exact hf y hy
      · obtain rfl := List.mem_singleton.1 hy; exact (neg_iff hk).2 hn⟩
    rw [this] at he; cases he
  have hiff : ∀ f : Nat → Nat, (∀ y ∈ l, HoldsF f y) ↔ ∀ y ∈ l ++ [x], HoldsF f y := fun f => by
    constructor
    · intro hf y hy
      rcases List.mem_append.1 hy with hy | hy
      · exact hf y hy
      · obtain rfl := List.mem_singleton.1 hy; exact hall f hf
    · exact fun hf y hy => hf y (List.mem_append_left _ hy)
  unfold gridB
  refine List.map_congr_left fun i hi => ?_
  unfold rowB
  refine List.map_congr_left fun k hk => ?_
  have hi' := List.mem_range.1 hi
  have hk' := List.mem_range.1 hk
  have c1 : consM p (withM l 1 i k) = consM p (withM (l ++ [x]) 1 i k) := by rw [Bool.eq_iff_iff, cons_1 h hi' hk', cons_1 hm hi' hk']; simp only [hiff]
  have c2 : consM p (withM l 3 i k) = consM p (withM (l ++ [x]) 3 i k) := by rw [Bool.eq_iff_iff, cons_3 h hi' hk', cons_3 hm hi' hk']; simp only [hiff]
  have c3 : consM p (withM l 1 k i) = consM p (withM (l ++ [x]) 1 k i) := by rw [Bool.eq_iff_iff, cons_1 h hk' hi', cons_1 hm hk' hi']; simp only [hiff]
  unfold bitsM
  rw [c1, c2, c3]
theorem ent_false (he : (!consM p (l ++ [negT x])) = false) : consM p l = true ∧ gridB p l p ≠ gridB p (l ++ [x]) p := by
  have ⟨hk, hin⟩ := rel_ok (p := p) (by omega) hx
  have ⟨ha, hb⟩ := InR.nat hin
  simp only [Int.toNat_natCast] at ha hb
  have hm : (timesM p (l ++ [x])).code = 0 := by rw [times_app h hx hl]
  have h4 := (consPre_add h (relCode_neg hx)).2.2.2
  simp only [Int.toNat_natCast] at h4
  have hc : consM p (l ++ [negT x]) = true := by simpa using he
  obtain ⟨f, hf⟩ := (cons_sat h4).1 hc
  have hfl : ∀ y ∈ l, HoldsF f y := fun y hy => hf y (List.mem_append_left _ hy)
  have hfx : ¬ HoldsF f x := (neg_iff hk).1 (hf _ (List.mem_append_right _ List.mem_cons_self))
  refine ⟨(cons_l h).2 ⟨f, hfl⟩, fun hg => ?_⟩
  have hrow : bitsM p l x.a.toNat x.b.toNat = bitsM p (l ++ [x]) x.a.toNat x.b.toNat := by
    have g1 : x.a.toNat < (gridB p l p).length := by rw [gridB_len]; exact ha
    have g2 : x.a.toNat < (gridB p (l ++ [x]) p).length := by rw [gridB_len]; exact ha
    have e1 : rowB p l x.a.toNat p = rowB p (l ++ [x]) x.a.toNat p := by
      rw [← grid_get g1, ← grid_get g2]; simp only [hg]
    have r1 : x.b.toNat < (rowB p l x.a.toNat p).length := by rw [rowB_len]; exact hb
    have r2 : x.b.toNat < (rowB p (l ++ [x]) x.a.toNat p).length := by rw [rowB_len]; exact hb
    rw [← row_get2 r1, ← row_get2 r2]; simp only [e1]
  unfold bitsM at hrow
  obtain ⟨c1, c2, c3⟩ := bits_inj hrow
  have same : ∀ g : Nat → Nat, (∀ y ∈ l ++ [x], HoldsF g y) → (f x.a.toNat < f x.b.toNat ↔ g x.a.toNat < g x.b.toNat) → (f x.a.toNat = f x.b.toNat ↔ g x.a.toNat = g x.b.toNat) → False := fun g hg h1 h2 => by
    have hgx := hg x (List.mem_append_right _ List.mem_cons_self)
    refine hfx ?_
    have hks : x.kind = 1 ∨ x.kind = 2 ∨ x.kind = 3 ∨ x.kind = 4 := by omega
    unfold HoldsF at hgx ⊢
    rcases hks with e | e | e | e <;> simp [e] at hgx ⊢ <;> omega
  rcases Nat.lt_trichotomy (f x.a.toNat) (f x.b.toNat) with h' | h' | h'
  · have : consM p (withM l 1 x.a.toNat x.b.toNat) = true := (cons_1 h ha hb).2 ⟨f, hfl, h'⟩
    rw [c1] at this
    obtain ⟨g, hg, hlt⟩ := (cons_1 hm ha hb).1 this
    exact same g hg (by omega) (by omega)
  · have : consM p (withM l 3 x.a.toNat x.b.toNat) = true := (cons_3 h ha hb).2 ⟨f, hfl, h'⟩
    rw [c2] at this
    obtain ⟨g, hg, hlt⟩ := (cons_3 hm ha hb).1 this
    exact same g hg (by omega) (by omega)
  · have : consM p (withM l 1 x.b.toNat x.a.toNat) = true := (cons_1 h hb ha).2 ⟨f, hfl, h'⟩
    rw [c3] at this
    obtain ⟨g, hg, hlt⟩ := (cons_1 hm hb ha).1 this
    exact same g hg (by omega) (by omega)
end
end Go.Proofs.YtbbcinpmomjbgaaDoor
