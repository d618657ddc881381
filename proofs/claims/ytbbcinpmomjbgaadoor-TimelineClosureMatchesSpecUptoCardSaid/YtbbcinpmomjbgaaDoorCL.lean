import Derived.Test.YtbbcinpmomjbgaaDoorOL
set_option linter.unusedSimpArgs false
namespace Go.Abs
open Go

/-! ## counting up codes -/
/-- the next code -/
def nextC (N : Nat) : List Nat → Option (List Nat)
  | [] => none
  | c :: cs => match nextC N cs with
    | some cs' => some (c :: cs')
    | none => if c + 1 < N then some ((c + 1) :: cs.map fun _ => 0) else none
/-- the codes from a code on -/
def fromC (N : Nat) : List Nat → List (List Nat)
  | [] => [[]]
  | c :: cs => (fromC N cs).map (c :: ·) ++ (List.range' (c + 1) (N - (c + 1))).flatMap fun d => (codes N cs.length).map (d :: ·)

theorem fromC_zero (N : Nat) (hN : 0 < N) : ∀ r, fromC N (List.replicate r 0) = codes N r
  | 0 => rfl
  | r + 1 => by
    rw [List.replicate_succ, fromC, fromC_zero N hN r, List.length_replicate, codes]
    obtain ⟨M, rfl⟩ : ∃ M, N = M + 1 := ⟨N - 1, by omega⟩
    rw [List.range_eq_range', List.range'_succ, List.flatMap_cons]
    rfl
theorem fromC_head (N : Nat) : ∀ cs : List Nat, ∃ l, fromC N cs = cs :: l
  | [] => ⟨[], rfl⟩
  | c :: cs => by
    obtain ⟨l, h⟩ := fromC_head N cs
    rw [fromC, h, List.map_cons, List.cons_append]
    exact ⟨_, rfl⟩
theorem fromC_next (N : Nat) : ∀ cs : List Nat, (∀ c ∈ cs, c < N) → fromC N cs = cs :: match nextC N cs with | some cs' => fromC N cs' | none => []
  | [], _ => rfl
  | c :: cs, h => by
    have ih := fromC_next N cs fun d hd => h d (List.mem_cons_of_mem _ hd)
    have hc : c < N := h c List.mem_cons_self
    rw [fromC, ih, List.map_cons, List.cons_append, nextC]
    cases hn : nextC N cs with
    | some cs' =>
      have hl : cs'.length = cs.length := by
        clear ih h hc
        induction cs generalizing cs' with
        | nil => cases hn
        | cons a cs ih2 =>
          rw [nextC] at hn
          cases h3 : nextC N cs with
          | some l => rw [h3] at hn; obtain rfl := Option.some.inj hn; simp [ih2 l h3]
          | none =>
            rw [h3] at hn
            simp only at hn
            split at hn
            · obtain rfl := Option.some.inj hn; simp
            · cases hn
      simp only [fromC, hl]
    | none =>
      simp only [List.map_nil, List.nil_append]
      by_cases h1 : c + 1 < N
      · rw [if_pos h1]
        obtain ⟨M, hM⟩ : ∃ M, N - (c + 1) = M + 1 := ⟨N - (c + 1) - 1, by omega⟩
        have hz : (cs.map fun _ => 0) = List.replicate cs.length 0 := by
          rw [List.eq_replicate_iff]; simp
        simp only [hz, fromC]
        rw [fromC_zero N (by omega), List.length_replicate, hM, List.range'_succ, List.flatMap_cons]
        have : N - (c + 1 + 1) = M := by omega
        rw [this]
      · rw [if_neg h1]
        have : N - (c + 1) = 0 := by omega
        rw [this]
        rfl
theorem nextC_full (N : Nat) : ∀ m, nextC N (List.replicate m (N - 1)) = none
  | 0 => rfl
  | m + 1 => by
    rw [List.replicate_succ, nextC, nextC_full N m]
    simp only
    rw [if_neg (by omega)]
theorem nextC_at (N : Nat) (c m : Nat) (hc : c + 1 < N) : ∀ pre : List Nat, nextC N (pre ++ c :: List.replicate m (N - 1)) = some (pre ++ (c + 1) :: List.replicate m 0)
  | [] => by
    rw [List.nil_append, nextC, nextC_full N m]
    simp only
    rw [if_pos hc]
    have : (List.replicate m (N - 1)).map (fun _ => 0) = List.replicate m 0 := by rw [List.eq_replicate_iff]; simp
    rw [this]; rfl
  | a :: pre => by
    rw [List.cons_append, nextC, nextC_at N c m hc pre]
    rfl

def mx (p : Nat) (cs : List Nat) : Nat := cs.foldl (fun p c => max p (c + 1)) p
theorem mx_le {n : Nat} : ∀ {cs : List Nat} {p : Nat}, p ≤ n → (∀ c ∈ cs, c < n) → mx p cs ≤ n
  | [], _, h, _ => h
  | c :: cs, p, h, hc => by
    have h1 := hc c List.mem_cons_self
    exact mx_le (cs := cs) (p := max p (c + 1)) (by omega) fun d hd => hc d (List.mem_cons_of_mem _ hd)
theorem le_mx : ∀ {cs : List Nat} {p : Nat}, p ≤ mx p cs
  | [], _ => Nat.le_refl _
  | c :: cs, p => Nat.le_trans (Nat.le_max_left p (c + 1)) (le_mx (cs := cs))


theorem mx_ge : ∀ {cs : List Nat} {p : Nat}, ∀ c ∈ cs, c < mx p cs
  | c :: cs, p, d, h => by
    rcases List.mem_cons.1 h with rfl | h
    · have := le_mx (cs := cs) (p := max p (d + 1))
      show d < mx (max p (d + 1)) cs
      omega
    · exact mx_ge (cs := cs) (p := max p (c + 1)) d h
theorem mx_mem : ∀ {cs : List Nat} {p : Nat}, p < mx p cs → mx p cs - 1 ∈ cs
  | [], p, h => by simp [mx] at h
  | c :: cs, p, h => by
    have e : mx p (c :: cs) = mx (max p (c + 1)) cs := rfl
    rw [e] at h ⊢
    rcases Nat.lt_or_ge (max p (c + 1)) (mx (max p (c + 1)) cs) with h2 | h2
    · exact List.mem_cons_of_mem _ (mx_mem h2)
    · have := le_mx (cs := cs) (p := max p (c + 1))
      have : mx (max p (c + 1)) cs - 1 = c := by omega
      rw [this]; exact List.mem_cons_self
theorem mx_snoc {cs : List Nat} {c p : Nat} : mx p (cs ++ [c]) = max (mx p cs) (c + 1) := by
  unfold mx; rw [List.foldl_append]; rfl
def contig (r : List Nat) (n : Nat) : Bool := (List.range n).all fun k => decide (k ∈ r)
theorem contig_succ {r : List Nat} {n : Nat} : contig r (n + 1) = (contig r n && decide (n ∈ r)) := by
  unfold contig; rw [List.range_succ, List.all_append]; simp
theorem okR_contig {r : List Nat} : okR r = contig r (mx 0 r) := by
  unfold okR contig
  rw [Bool.eq_iff_iff, List.all_eq_true, List.all_eq_true]
  constructor
  · intro h k hk
    have hk' := List.mem_range.1 hk
    rw [decide_eq_true_eq]
    have hm := mx_mem (cs := r) (p := 0) (by omega)
    have key : ∀ d, d < mx 0 r → mx 0 r - 1 - d ∈ r := by
      intro d
      induction d with
      | zero => intro _; exact hm
      | succ d ih =>
        intro hd
        have h1 := h _ (ih (by omega))
        rw [Bool.or_eq_true, decide_eq_true_eq, decide_eq_true_eq] at h1
        rcases h1 with h1 | h1
        · omega
        · have : mx 0 r - 1 - (d + 1) = mx 0 r - 1 - d - 1 := by omega
          rw [this]; exact h1
    have := key (mx 0 r - 1 - k) (by omega)
    have e : mx 0 r - 1 - (mx 0 r - 1 - k) = k := by omega
    rwa [e] at this
  · intro h k hk
    rw [Bool.or_eq_true, decide_eq_true_eq, decide_eq_true_eq]
    rcases Nat.eq_zero_or_pos k with h0 | h0
    · exact .inl h0
    · have h1 := mx_ge (p := 0) k hk
      exact .inr (by simpa using h (k - 1) (List.mem_range.2 (by omega)))
/-- which of the numbers up to p are there -/
def seenL (p : Nat) (s : List Nat) : List Bool := (List.range (p + 1)).map fun k => decide (k ∈ s)
theorem seenL_len {p : Nat} {s : List Nat} : (seenL p s).length = p + 1 := by simp [seenL]
theorem seenL_nil {p : Nat} : seenL p [] = List.replicate (p + 1) false := by
  unfold seenL; rw [List.eq_replicate_iff]; simp
theorem seenL_snoc {p : Nat} {s : List Nat} {k : Nat} : (seenL p s).set k true = seenL p (s ++ [k]) := by
  apply List.ext_getElem
  · simp [seenL]
  · intro i h1 h2
    rw [List.getElem_set]
    simp only [seenL, List.getElem_map, List.getElem_range, List.mem_append, List.mem_singleton]
    by_cases e : k = i
    · rw [if_pos e]; simp [e]
    · rw [if_neg e]
      have : ¬ i = k := fun h => e h.symm
      simp [this]
theorem seenL_get {p : Nat} {s : List Nat} {k : Nat} (h : k < (seenL p s).length) : (seenL p s)[k] = decide (k ∈ s) := by simp [seenL]
def restC (N : Nat) (code : List Nat) : List (List Nat) := match nextC N code with | some c => fromC N c | none => []
end Go.Abs
