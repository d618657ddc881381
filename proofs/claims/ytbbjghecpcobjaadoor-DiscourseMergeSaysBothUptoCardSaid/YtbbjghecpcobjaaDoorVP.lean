import Derived.Test.YtbbjghecpcobjaaDoorVS
set_option linter.unusedSimpArgs false
namespace Go.Abs
open Go

/-! ## what is said of groups -/
mutual
theorem ren_vok (g : Nat → Str × Nat) : ∀ (f : Form) (env : List Bind) (n : Nat), vok f → vok (ren g f env n).1
  | .mk k nm ws s, env, n, h => by
    rw [vok] at h
    rw [ren]
    split
    · rw [vok, List.length_map, rens_len]
      exact ⟨h.1, h.2.1, h.2.2.1, h.2.2.2.1, h.2.2.2.2.1, h.2.2.2.2.2.1, rens_vok g s _ _ h.2.2.2.2.2.2⟩
    · rw [vok, List.length_map, rens_len]
      exact ⟨h.1, h.2.1, h.2.2.1, h.2.2.2.1, h.2.2.2.2.1, h.2.2.2.2.2.1, rens_vok g s _ _ h.2.2.2.2.2.2⟩
theorem rens_vok (g : Nat → Str × Nat) : ∀ (fs : List Form) (env : List Bind) (n : Nat), voks fs → voks (rens g fs env n).1
  | [], env, n, _ => by rw [rens, voks]; trivial
  | f :: fs, env, n, h => by
    rw [voks] at h
    rw [rens, voks]
    exact ⟨ren_vok g f env n h.1, rens_vok g fs env _ h.2⟩
end
theorem canon_vok {f : Form} {env : List Bind} (h : vok f) : vok (canonM f env) := ren_vok _ f env 0 h
theorem fold_vok {k : Int} (hk : k = 5 ∨ k = 6) : ∀ (l : List Form) (f : Form), voks l → vok f → vok (l.foldl (fun a x => Form.mk k ⟨[]⟩ [] [a, x]) f)
  | [], f, _, h => h
  | x :: l, f, hl, h => by
    rw [voks] at hl
    rw [List.foldl_cons]
    refine fold_vok hk l _ hl.2 ?_
    rw [vok, voks, voks, voks]
    exact ⟨by omega, by omega, fun e => by omega, fun e => by omega, fun e => by omega, fun _ => rfl, h, hl.1, trivial⟩
theorem join_vok {k : Int} (hk : k = 5 ∨ k = 6) {l : List Form} (h : l ≠ []) (hl : ∀ f ∈ l, vok f) : vok (joinM k l) := by
  cases l with
  | nil => exact absurd rfl h
  | cons f l => exact fold_vok hk l f ((voks_mem l).2 fun x hx => hl x (List.mem_cons_of_mem _ hx)) (hl f (by simp))
theorem cst_names' {f : Form} (h : (checkM false f).code = 0) (bd : List Str) : ∀ x ∈ cst f bd, isName x = true := fun x hx => cst_allW f bd x (checkM_allW h) hx
/-! the cumulative formula -/
end Go.Abs
