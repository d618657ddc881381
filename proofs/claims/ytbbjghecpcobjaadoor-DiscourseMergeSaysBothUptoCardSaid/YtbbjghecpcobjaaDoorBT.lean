import Derived.Test.YtbbjghecpcobjaaDoorBX
set_option linter.unusedSimpArgs false
namespace Go.Abs
open Go

/-! ## a box that passes the check is small; what is accessible in a box -/
mutual
def Box.tot : Box → Nat
  | .mk r cs => r.length + Cond.tots cs
def Cond.tot : Cond → Nat
  | .mk _ _ _ bs => 1 + Box.tots bs
def Box.tots : List Box → Nat
  | [] => 0
  | b :: bs => b.tot + Box.tots bs
def Cond.tots : List Cond → Nat
  | [] => 0
  | c :: cs => c.tot + Cond.tots cs
end
theorem Box.tot_eq {b : Box} : b.tot = b.refs.length + Cond.tots b.conds := by cases b; rw [Box.tot]; rfl
theorem Cond.tot_eq {c : Cond} : c.tot = 1 + Box.tots c.boxes := by cases c; rw [Cond.tot]; rfl
theorem refsGo_ok : ∀ {xs refs : List Str}, (refsGo refs xs).1 = 0 → (refsGo refs xs).2 = refs ++ xs
  | [], refs, _ => by simp [refsGo]
  | x :: xs, refs, h => by
    rw [refsGo] at h ⊢
    split at h
    · simp at h
    · split at h
      · simp at h
      · rename_i h1 h2
        rw [if_neg h1, if_neg h2, refsGo_ok h]
        simp
mutual
theorem boxW_tot : ∀ (b : Box) (d m : Int) (n : Nat) (refs : List Str), (boxW b d m n refs).e.code = 0 →
    (boxW b d m n refs).e = ⟨0, 0⟩ ∧ n + refs.length + b.tot ≤ (boxW b d m n refs).n + (boxW b d m n refs).refs.length ∧ (boxW b d m n refs).n ≤ 200 ∧ (boxW b d m n refs).refs.length ≤ 200
  | .mk r cs, d, m, n, refs, h => by
    rw [boxW] at h ⊢
    split at h
    · simp at h
    rename_i h1
    rw [if_neg h1]
    split at h
    · simp at h
    rename_i h2
    rw [if_neg h2]
    split at h
    · rename_i h3; exact absurd h h3
    rename_i h3
    rw [if_neg h3]
    have e := refsGo_ok (Decidable.not_not.1 h3)
    rw [e] at h ⊢
    obtain ⟨g1, g2, g3, g4⟩ := condsW_tot r cs d (n + 1) (refs ++ r) (by omega) (by rw [List.length_append]; omega) h
    refine ⟨g1, ?_, g3, g4⟩
    rw [List.length_append] at g2
    rw [Box.tot]
    omega
theorem condsW_tot : ∀ (r : List Str) (cs : List Cond) (d : Int) (n : Nat) (refs : List Str), n ≤ 200 → refs.length ≤ 200 → (condsW r cs d n refs).e.code = 0 →
    (condsW r cs d n refs).e = ⟨0, 0⟩ ∧ n + refs.length + Cond.tots cs ≤ (condsW r cs d n refs).n + (condsW r cs d n refs).refs.length ∧ (condsW r cs d n refs).n ≤ 200 ∧ (condsW r cs d n refs).refs.length ≤ 200
  | r, [], d, n, refs, h1, h2, _ => by rw [condsW, Cond.tots]; exact ⟨rfl, Nat.le_refl _, h1, h2⟩
  | r, c :: cs, d, n, refs, h1, h2, h => by
    rw [condsW] at h ⊢
    split at h
    · rename_i h3; exact absurd h h3
    rename_i h3
    rw [if_neg h3]
    obtain ⟨g1, g2, g3, g4⟩ := condW_tot r c d n refs h1 h2 (Decidable.not_not.1 h3)
    obtain ⟨k1, k2, k3, k4⟩ := condsW_tot r cs d _ _ g3 g4 h
    refine ⟨k1, ?_, k3, k4⟩
    rw [Cond.tots]
    omega
theorem condW_tot : ∀ (r : List Str) (c : Cond) (d : Int) (n : Nat) (refs : List Str), n ≤ 200 → refs.length ≤ 200 → (condW r c d n refs).e.code = 0 →
    (condW r c d n refs).e = ⟨0, 0⟩ ∧ n + refs.length + c.tot ≤ (condW r c d n refs).n + (condW r c d n refs).refs.length ∧ (condW r c d n refs).n ≤ 200 ∧ (condW r c d n refs).refs.length ≤ 200
  | r, .mk k nm f bs, d, n, refs, h1, h2, h => by
    rw [condW] at h ⊢
    split at h
    · simp at h
    rename_i h3
    rw [if_neg h3]
    split at h
    · rename_i h4; exact absurd h h4
    rename_i h4
    rw [if_neg h4]
    obtain ⟨g1, g2, g3, g4⟩ := boxsW_tot bs (d + 1) (if k = 6 then 2 else 200) (n + 1) refs (by omega) h2 h
    refine ⟨g1, ?_, g3, g4⟩
    rw [Cond.tot]
    omega
theorem boxsW_tot : ∀ (bs : List Box) (d m : Int) (n : Nat) (refs : List Str), n ≤ 200 → refs.length ≤ 200 → (boxsW bs d m n refs).e.code = 0 →
    (boxsW bs d m n refs).e = ⟨0, 0⟩ ∧ n + refs.length + Box.tots bs ≤ (boxsW bs d m n refs).n + (boxsW bs d m n refs).refs.length ∧ (boxsW bs d m n refs).n ≤ 200 ∧ (boxsW bs d m n refs).refs.length ≤ 200
  | [], d, m, n, refs, h1, h2, _ => by rw [boxsW, Box.tots]; exact ⟨rfl, Nat.le_refl _, h1, h2⟩
  | b :: bs, d, m, n, refs, h1, h2, h => by
    rw [boxsW] at h ⊢
    split at h
    · rename_i h3; exact absurd h h3
    rename_i h3
    rw [if_neg h3]
    obtain ⟨g1, g2, g3, g4⟩ := boxW_tot b d m n refs (Decidable.not_not.1 h3)
    obtain ⟨k1, k2, k3, k4⟩ := boxsW_tot bs d m _ _ g3 g4 h
    refine ⟨k1, ?_, k3, k4⟩
    rw [Box.tots]
    omega
end
theorem boxM_ok {b : Box} (h : (boxM b).code = 0) : boxM b = ⟨0, 0⟩ ∧ b.tot ≤ 400 := by
  unfold boxM at *
  obtain ⟨h1, h2, h3, h4⟩ := boxW_tot b 1 200 0 [] h
  simp only [List.length_nil] at h2
  exact ⟨h1, by omega⟩
theorem Cond.tots_len : ∀ {cs : List Cond}, cs.length ≤ Cond.tots cs
  | [] => by rw [Cond.tots]; exact Nat.le_refl _
  | c :: cs => by rw [Cond.tots, List.length_cons, Cond.tot_eq]; have := @Cond.tots_len cs; omega
theorem Cond.tots_get : ∀ {cs : List Cond} {i : Nat} (h : i < cs.length), cs[i].tot ≤ Cond.tots cs
  | c :: cs, 0, _ => by rw [Cond.tots]; simp
  | c :: cs, i + 1, h => by
    rw [Cond.tots]; have := Cond.tots_get (cs := cs) (i := i) (by simpa using h)
    simp only [List.getElem_cons_succ]; omega
theorem Box.tots_get : ∀ {bs : List Box} {i : Nat} (h : i < bs.length), bs[i].tot ≤ Box.tots bs
  | b :: bs, 0, _ => by rw [Box.tots]; simp
  | b :: bs, i + 1, h => by
    rw [Box.tots]; have := Box.tots_get (bs := bs) (i := i) (by simpa using h)
    simp only [List.getElem_cons_succ]; omega
/-! ### the boxes on a path -/
def noB : Box := .mk [] []
def stepB (b : Box) (i k : Int) : Option (List Box × Box) :=
  if i < 0 ∨ (b.conds.length : Int) ≤ i then none else if k < 0 ∨ (((b.conds.getD i.toNat (.mk 0 ⟨[]⟩ (.mk 0 ⟨[]⟩ [] []) [])).boxes.length : Int)) ≤ k then none
  else some ((if (b.conds.getD i.toNat (.mk 0 ⟨[]⟩ (.mk 0 ⟨[]⟩ [] []) [])).kind = 3 ∧ k = 1 then [(b.conds.getD i.toNat (.mk 0 ⟨[]⟩ (.mk 0 ⟨[]⟩ [] []) [])).boxes.getD 0 noB] else []) ++
    [(b.conds.getD i.toNat (.mk 0 ⟨[]⟩ (.mk 0 ⟨[]⟩ [] []) [])).boxes.getD k.toNat noB], (b.conds.getD i.toNat (.mk 0 ⟨[]⟩ (.mk 0 ⟨[]⟩ [] []) [])).boxes.getD k.toNat noB)
/-- the boxes behind the first one -/
def reachM : Box → List Int → Option (List Box)
  | b, i :: k :: p => match stepB b i k with
    | none => none
    | some (l, b') => (reachM b' p).map (l ++ ·)
  | _, [_] => some []
  | _, [] => some []
end Go.Abs
