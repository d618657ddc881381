import Derived.Test.YtbbcinpmomjbgaaDoorP6
set_option linter.unusedSimpArgs false
namespace Go.Proofs.YtbbcinpmomjbgaaDoor
open Go Go.Abs

/-! ## counting up codes -/

/-- all codes of r digits below N, rising -/
def allC (N : Nat) : Nat → List (List Nat)
  | 0 => [[]]
  | r + 1 => (List.range N).flatMap fun c => (allC N r).map (c :: ·)
/-- the next code -/
def nextC (N : Nat) : List Nat → Option (List Nat)
  | [] => none
  | c :: cs => match nextC N cs with
    | some cs' => some (c :: cs')
    | none => if c + 1 < N then some ((c + 1) :: cs.map fun _ => 0) else none
/-- the codes from a code on -/
def fromC (N : Nat) : List Nat → List (List Nat)
  | [] => [[]]
  | c :: cs => (fromC N cs).map (c :: ·) ++ (List.range' (c + 1) (N - (c + 1))).flatMap fun d => (allC N cs.length).map (d :: ·)

theorem fromC_zero (N : Nat) (hN : 0 < N) : ∀ r, fromC N (List.replicate r 0) = allC N r
  | 0 => rfl
  | r + 1 => by
    rw [List.replicate_succ, fromC, fromC_zero N hN r, List.length_replicate, allC]
    obtain ⟨M, rfl⟩ : ∃ M, N = M + 1 := ⟨N - 1, by omega⟩
    rw [List.range_eq_range', List.range'_succ, List.flatMap_cons]
    rfl
theorem fromC_head (N : Nat) : ∀ cs : List Nat, ∃ l, fromC N cs = cs :: l
  | [] => ⟨[], rfl⟩
  | c :: cs => by
    obtain ⟨l, h⟩ := fromC_head N cs
    rw [fromC, h, List.map_cons, List.cons_append]
    exact ⟨_, rfl⟩
theorem fromC_next (N : Nat) : ∀ cs : List Nat, (∀ c ∈ cs, c < N) → fromC N cs = cs :: match nextC N cs with | some cs' => fromC N cs' | none => []
  | [], _ => rfl
  | c :: cs, h => by
    have ih := fromC_next N cs fun d hd => h d (List.mem_cons_of_mem _ hd)
    have hc : c < N := h c List.mem_cons_self
    rw [fromC, ih, List.map_cons, List.cons_append, nextC]
    cases hn : nextC N cs with
    | some cs' =>
      have hl : cs'.length = cs.length := by
        clear ih h hc
        induction cs generalizing cs' with
        | nil => cases hn
        | cons a cs ih2 =>
          rw [nextC] at hn
          cases h3 : nextC N cs with
          | some l => rw [h3] at hn; obtain rfl := Option.some.inj hn; simp [ih2 l h3]
          | none =>
            rw [h3] at hn
            simp only at hn
            split at hn
            · obtain rfl := Option.some.inj hn; simp
            · cases hn
      simp only [fromC, hl]
    | none =>
      simp only [List.map_nil, List.nil_append]
      by_cases h1 : c + 1 < N
      · rw [if_pos h1]
        obtain ⟨M, hM⟩ : ∃ M, N - (c + 1) = M + 1 := ⟨N - (c + 1) - 1, by omega⟩
        have hz : (cs.map fun _ => 0) = List.replicate cs.length 0 := by
          rw [List.eq_replicate_iff]; simp
        simp only [hz, fromC]
        rw [fromC_zero N (by omega), List.length_replicate, hM, List.range'_succ, List.flatMap_cons]
        have : N - (c + 1 + 1) = M := by omega
        rw [this]
      · rw [if_neg h1]
        have : N - (c + 1) = 0 := by omega
        rw [this]
        rfl
theorem nextC_full (N : Nat) : ∀ m, nextC N (List.replicate m (N - 1)) = none
  | 0 => rfl
  | m + 1 => by
    rw [List.replicate_succ, nextC, nextC_full N m]
    simp only
    rw [if_neg (by omega)]
theorem nextC_at (N : Nat) (c m : Nat) (hc : c + 1 < N) : ∀ pre : List Nat, nextC N (pre ++ c :: List.replicate m (N - 1)) = some (pre ++ (c + 1) :: List.replicate m 0)
  | [] => by
    rw [List.nil_append, nextC, nextC_full N m]
    simp only
    rw [if_pos hc]
    have : (List.replicate m (N - 1)).map (fun _ => 0) = List.replicate m 0 := by rw [List.eq_replicate_iff]; simp
    rw [this]; rfl
  | a :: pre => by
    rw [List.cons_append, nextC, nextC_at N c m hc pre]
    rfl

/-! ## codes and parts -/

/-- is a code right behind p parts? -/
def okC : Nat → List Nat → Bool
  | _, [] => true
  | p, c :: cs => decide (c ≤ p) && okC (max p (c + 1)) cs
def build : List Str → List Nat → List (List Str) → List (List Str)
  | x :: xs, c :: cs, parts => build xs cs (addAt c x parts)
  | _, _, parts => parts

theorem addAt_length {k : Nat} {x : Str} {parts : List (List Str)} (h : k ≤ parts.length) : (addAt k x parts).length = max parts.length (k + 1) := by
  unfold addAt
  split
  · rw [List.length_set]; omega
  · rw [List.length_append]; simp; omega

theorem flat_cut {β : Type} {f : Nat → List β} {N p : Nat} (h : p < N) (h0 : ∀ c, p < c → f c = []) : (List.range N).flatMap f = (List.range (p + 1)).flatMap f := by
  obtain ⟨k, rfl⟩ : ∃ k, N = p + 1 + k := ⟨N - (p + 1), by omega⟩
  clear h
  induction k with
  | zero => rfl
  | succ k ih => rw [← Nat.add_assoc, List.range_succ, List.flatMap_append, ih]; simp [h0 (p + 1 + k) (by omega)]

theorem flatMap_eq {α β : Type} {f g : α → List β} : ∀ {l : List α}, (∀ a ∈ l, f a = g a) → l.flatMap f = l.flatMap g
  | [], _ => rfl
  | a :: l, h => by rw [List.flatMap_cons, List.flatMap_cons, h a List.mem_cons_self, flatMap_eq fun b hb => h b (List.mem_cons_of_mem _ hb)]
theorem walkM_codes (N : Nat) : ∀ (xs : List Str) (parts : List (List Str)), parts.length + xs.length ≤ N →
    walkM xs parts = ((allC N xs.length).filter (okC parts.length)).map fun cs => build xs cs parts
  | [], parts, _ => rfl
  | x :: xs, parts, h => by
    simp only [List.length_cons] at h
    rw [walkM, List.length_cons, allC, List.filter_flatMap, List.map_flatMap]
    rw [flat_cut (f := fun c => List.map (fun cs => build (x :: xs) cs parts) (List.filter (okC parts.length) (List.map (fun x => c :: x) (allC N xs.length)))) (p := parts.length) (by omega) (fun c hc => by
      rw [List.filter_map, List.map_map]
      have : (allC N xs.length).filter (okC parts.length ∘ (c :: ·)) = [] := by
        rw [List.filter_eq_nil_iff]
        intro cs _
        simp only [Function.comp, okC, decide_eq_false (show ¬ c ≤ parts.length by omega), Bool.false_and]
        simp
      rw [this]; rfl)]
    refine flatMap_eq fun c hc => ?_
    have hc' : c ≤ parts.length := by have := List.mem_range.1 hc; omega
    have hl := addAt_length (x := x) hc'
    rw [walkM_codes N xs (addAt c x parts) (by rw [hl]; omega), List.filter_map, List.map_map, hl]
    have : (okC parts.length ∘ (c :: ·)) = okC (max parts.length (c + 1)) := by
      funext cs
      simp only [Function.comp, okC, decide_eq_true hc', Bool.true_and]
    rw [this]
    rfl
end Go.Proofs.YtbbcinpmomjbgaaDoor
