import Derived.Test.YtdlioodgfopmfaaDoorY9
import Derived.Test.YtdlioodgfopmfaaDoorTK
set_option linter.unusedSimpArgs false
namespace Go.Proofs.YtdlioodgfopmfaaDoor
open Go Go.Abs Go.Proofs

mutual
theorem cntK_size : ∀ (p : Prf) (n : Int), cntK p n ≤ 2000 → n + p.size = cntK p n
  | .mk k f o nm s, n, h => by
    rw [cntK] at h ⊢
    have := cntKs_size s (n + 1) h
    rw [Prf.size]
    omega
theorem cntKs_size : ∀ (s : List Prf) (n : Int), cntKs s n ≤ 2000 → n + Prf.sizes s = cntKs s n
  | [], n, h => by rw [cntKs, Prf.sizes]; simp
  | x :: xs, n, h => by
    rw [cntKs] at h ⊢
    by_cases h1 : 2000 < n
    · rw [if_pos h1] at h; omega
    · rw [if_neg h1] at h ⊢
      have i2 := cntKs_size xs (cntK x n) h
      have i1 := cntK_size x n (by omega)
      rw [Prf.sizes]
      omega
end
def branch1 (ax : List Abs.Form) (g : Abs.Form) : List Abs.Form := canL ax ++ [negM g]
theorem br_valid {f : Abs.Form} (h : (checkM false f).code = 0) : brF f := ⟨checkM_vok h, checkM_fit h, by have := checkM_size h; omega⟩
theorem begin_ok {ax : List Abs.Form} {g : Abs.Form} (h : (beginP ax g).2.code = 0) : beginP ax g = (branch1 ax g, ⟨0, 0⟩) ∧ ax.length ≤ 40 ∧ (∀ f ∈ ax, (checkM false f).code = 0) ∧ (checkM false g).code = 0 := by
  unfold beginP at h ⊢
  split at h
  · exact absurd h (by decide)
  rename_i h1
  split at h
  · rename_i h2; exact absurd h h2
  rename_i h2
  split at h
  · rename_i h3; exact absurd h h3
  rename_i h3
  rw [if_neg h1, if_neg h2, if_neg h3]
  refine ⟨rfl, by omega, fun f hf => ?_, Decidable.not_not.1 h3⟩
  have h4 := Decidable.not_not.1 h2
  clear h h2 h3 h1
  by_cases hc : (checkM false f).code = 0
  · exact hc
  · exfalso
    have : ∀ (l : List Abs.Form) (k : Nat), f ∈ l → (badA l k).code ≠ 0 := by
      intro l
      induction l with
      | nil => intro k h; simp at h
      | cons x l ih =>
        intro k hm
        rw [badA]
        by_cases hx : (checkM false x).code = 0
        · rw [if_neg (by simp [hx])]
          rcases List.mem_cons.1 hm with rfl | hm
          · exact absurd hx hc
          · exact ih _ hm
        · rw [if_pos hx]; exact hx
    exact this ax 0 hf h4
theorem branch1_br {ax : List Abs.Form} {g : Abs.Form} (h1 : ∀ f ∈ ax, (checkM false f).code = 0) (h2 : (checkM false g).code = 0) : ∀ f ∈ branch1 ax g, brF f := fun f hf => by
  unfold branch1 canL at hf
  rcases List.mem_append.1 hf with hf | hf
  · obtain ⟨a, ha, rfl⟩ := List.mem_map.1 hf
    exact (br_valid (h1 a ha)).cn
  · rw [List.mem_singleton.1 hf]
    exact (br_valid h2).ng (by have := checkM_size h2; omega)
end Go.Proofs.YtdlioodgfopmfaaDoor
