import Derived.Test.YtdlioodgfopmfaaDoorVS
set_option linter.unusedSimpArgs false
namespace Go.Abs
open Go

/-! ## what is said of groups -/
mutual
theorem ren_vok (g : Nat → Str × Nat) : ∀ (f : Form) (env : List Bind) (n : Nat), vok f → vok (ren g f env n).1
  | .mk k nm ws s, env, n, h => by
    rw [vok] at h
    rw [ren]
    split
    · rw [vok, List.length_map, rens_len]
      exact ⟨h.1, h.2.1, h.2.2.1, h.2.2.2.1, h.2.2.2.2.1, h.2.2.2.2.2.1, rens_vok g s _ _ h.2.2.2.2.2.2⟩
    · rw [vok, List.length_map, rens_len]
      exact ⟨h.1, h.2.1, h.2.2.1, h.2.2.2.1, h.2.2.2.2.1, h.2.2.2.2.2.1, rens_vok g s _ _ h.2.2.2.2.2.2⟩
theorem rens_vok (g : Nat → Str × Nat) : ∀ (fs : List Form) (env : List Bind) (n : Nat), voks fs → voks (rens g fs env n).1
  | [], env, n, _ => by rw [rens, voks]; trivial
  | f :: fs, env, n, h => by
    rw [voks] at h
    rw [rens, voks]
    exact ⟨ren_vok g f env n h.1, rens_vok g fs env _ h.2⟩
end
theorem canon_vok {f : Form} {env : List Bind} (h : vok f) : vok (canonM f env) := ren_vok _ f env 0 h
/-! the cumulative formula -/
end Go.Abs
