/- several texts of this proof in one; no conditions -/
import Derived.Test.YtdlioodgfopmfaaDoorTR
import Derived.Test.YtdlioodgfopmfaaDoorAE
set_option linter.unusedSimpArgs false
namespace Go.Abs
open Go

theorem wordV_snoc (m : Model) (ev : List Const) (nm : Str) (v : Int) (w : Str) : wordV m (ev ++ [(⟨nm, v⟩ : Const)]) w = if nm = w then v else wordV m ev w := by
  unfold wordV
  rw [lastE_snoc]
  show (match (if nm = w then some v else lastE ev w) with | some v => v | none => constV m w) = _
  by_cases h : nm = w
  · rw [if_pos h, if_pos h]
  · rw [if_neg h, if_neg h]; rfl
mutual
theorem ren_val (m : Model) {used U : List Str} : ∀ (f : Form) (env : List Bind) (bd : List Str) (n : Nat) (ev ev' : List Const), vok f →
    (∀ w, w ∈ bd ∨ w ∈ U → wordV m ev w = wordV m ev' (lkp env w) ∧ (lkp env w ∈ used ∨ ∃ j, j < n ∧ lkp env w = vnum j)) → (∀ x ∈ cst f bd, x ∈ U) → valM m (ren (vg used) f env n).1 ev' = valM m f ev
  | .mk k nm ws s, env, bd, n, ev, ev', hv, he, hc => by
    rw [vok] at hv
    rw [cst] at hc
    have hw1 : ∀ w ∈ ws, wordV m ev w = wordV m ev' (lkp env w) := fun w hw => by
      refine (he w ?_).1
      by_cases hb : w ∈ bd
      · exact .inl hb
      · exact .inr (hc w (List.mem_append_left _ (List.mem_filter.2 ⟨hw, by simpa using hb⟩)))
    have hw : (ws.map (lkp env)).map (wordV m ev') = ws.map (wordV m ev) := by
      rw [List.map_map]
      exact List.map_congr_left fun w hw => (hw1 w hw).symm
    have hl : (ws.map (lkp env)).length = ws.length := List.length_map _
    by_cases hq : isQ k
    · have hs : ∀ v : Int, valMs m (rens (vg used) s (env ++ [(⟨nm, (vg used n).1⟩ : Bind)]) (vg used n).2).1 (ev' ++ [(⟨(vg used n).1, v⟩ : Const)]) = valMs m s (ev ++ [(⟨nm, v⟩ : Const)]) := fun v => by
        obtain ⟨a1, _, a3, _⟩ := nextM_spec used n
        rw [if_pos hq] at hc
        refine rens_val m s _ (bd ++ [nm]) _ _ _ hv.2.2.2.2.2.2 (fun w hw2 => ?_) fun x hx => hc x (List.mem_append_right _ hx)
        rw [lkp_snoc, wordV_snoc, wordV_snoc]
        have hvg : (vg used n).1 = vnum (nextM used n) := rfl
        have hvg2 : (vg used n).2 = nextM used n + 1 := rfl
        by_cases e : nm = w
        · rw [if_pos e, if_pos e]
          exact ⟨(if_pos rfl).symm, .inr ⟨nextM used n, by omega, hvg⟩⟩
        · rw [if_neg e, if_neg e]
          have hw3 : w ∈ bd ∨ w ∈ U := by
            rcases hw2 with h | h
            · rcases List.mem_append.1 h with h | h
              · exact .inl h
              · exact absurd (List.mem_singleton.1 h).symm e
            · exact .inr h
          obtain ⟨h1, h2⟩ := he w hw3
          refine ⟨?_, ?_⟩
          · rw [if_neg (fun h => ?_)]
            · exact h1
            · rw [hvg] at h
              rcases h2 with h2 | ⟨j, hj, h2⟩
              · exact a3 (by rw [h]; exact h2)
              · have := vnum_inj (h.trans h2); omega
          · rcases h2 with h2 | ⟨j, hj, h2⟩
            · exact .inl h2
            · exact .inr ⟨j, by omega, h2⟩
      rw [ren, if_pos hq]
      rw [valM, valM]
      rcases hq with rfl | rfl <;> simp only [hs, reduceIte, show ¬ ((8 : Int) = 1) by decide, show ¬ ((8 : Int) = 2) by decide, show ¬ ((8 : Int) = 3) by decide, show ¬ ((8 : Int) = 4) by decide, show ¬ ((8 : Int) = 5) by decide, show ¬ ((8 : Int) = 6) by decide, show ¬ ((8 : Int) = 7) by decide,
        show ¬ ((9 : Int) = 1) by decide, show ¬ ((9 : Int) = 2) by decide, show ¬ ((9 : Int) = 3) by decide, show ¬ ((9 : Int) = 4) by decide, show ¬ ((9 : Int) = 5) by decide, show ¬ ((9 : Int) = 6) by decide, show ¬ ((9 : Int) = 7) by decide, show ¬ ((9 : Int) = 8) by decide, if_false, if_true]
    · rw [if_neg hq] at hc
      have hs := rens_val m s env bd n ev ev' hv.2.2.2.2.2.2 he fun x hx => hc x (List.mem_append_right _ hx)
      have h8 : ¬ k = 8 := fun e => hq (.inl e)
      have h9 : ¬ k = 9 := fun e => hq (.inr e)
      rw [ren, if_neg hq]
      rw [valM, valM]
      simp only [hs, h8, h9, if_false, hw, hl]
      by_cases h3 : k = 3
      · have h2 := hv.2.2.2.1 h3
        obtain ⟨a, b, rfl⟩ : ∃ a b, ws = [a, b] := by
          match ws, h2 with
          | [a, b], _ => exact ⟨a, b, rfl⟩
        subst h3
        have e0 := hw1 a (by simp)
        have e1 := hw1 b (by simp)
        simp only [List.map_cons, List.map_nil, List.getD_cons_zero, List.getD_cons_succ]
        rw [e0, e1]
      · simp only [h3, if_false]
theorem rens_val (m : Model) {used U : List Str} : ∀ (fs : List Form) (env : List Bind) (bd : List Str) (n : Nat) (ev ev' : List Const), voks fs →
    (∀ w, w ∈ bd ∨ w ∈ U → wordV m ev w = wordV m ev' (lkp env w) ∧ (lkp env w ∈ used ∨ ∃ j, j < n ∧ lkp env w = vnum j)) → (∀ x ∈ csts fs bd, x ∈ U) → valMs m (rens (vg used) fs env n).1 ev' = valMs m fs ev
  | [], env, bd, n, ev, ev', hv, he, hc => by rw [rens, valMs, valMs]
  | f :: fs, env, bd, n, ev, ev', hv, he, hc => by
    rw [voks] at hv
    rw [csts] at hc
    rw [rens]
    simp only
    rw [valMs, valMs, ren_val m f env bd n ev ev' hv.1 he fun x hx => hc x (List.mem_append_left _ hx),
      rens_val m fs env bd _ ev ev' hv.2 (fun w hw => ?_) fun x hx => hc x (List.mem_append_right _ hx)]
    obtain ⟨h1, h2⟩ := he w hw
    refine ⟨h1, ?_⟩
    rcases h2 with h2 | ⟨j, hj, h2⟩
    · exact .inl h2
    · have := ((ren_le (vg_le used)).1 f env n).1
      exact .inr ⟨j, by omega, h2⟩
end
theorem canon_val {m : Model} {f : Form} (hv : vok f) : valM m (canonM f []) [] = valM m f [] := by
  refine ren_val m (U := usedM f) f [] [] 0 [] [] hv (fun w hw => ?_) fun x hx => (mem_usedM f x).2 hx
  rw [lkp_nil]
  rcases hw with h | h
  · simp at h
  · exact ⟨rfl, .inl h⟩
mutual
theorem aeq_nest : ∀ (f f' : Form) (E : PE), Aeq E f f' → nestM f = nestM f'
  | .mk k nm ws s, .mk k' nm' ws' s', E, h => by
    rw [Aeq] at h
    obtain ⟨rfl, _, _, h4⟩ := h
    rw [nestM, nestM, aeqs_nest s s' _ h4]
theorem aeqs_nest : ∀ (f f' : List Form) (E : PE), Aeqs E f f' → nestMs f = nestMs f'
  | [], [], _, _ => rfl
  | f :: fs, f' :: fs', E, h => by
    rw [Aeqs] at h
    rw [nestMs, nestMs, aeq_nest f f' E h.1, aeqs_nest fs fs' E h.2]
  | [], _ :: _, _, h => by rw [Aeqs] at h; exact h.elim
  | _ :: _, [], _, h => by rw [Aeqs] at h; exact h.elim
end
mutual
theorem aeq_hasR (m : Model) : ∀ (f f' : Form) (E : PE), Aeq E f f' → hasR m f = hasR m f'
  | .mk k nm ws s, .mk k' nm' ws' s', E, h => by
    rw [Aeq] at h
    obtain ⟨rfl, h2, h3, h4⟩ := h
    rw [hasR, hasR, aeqs_hasR m s s' _ h4, wsrel_len h3]
    by_cases hk : k = 2
    · rw [h2 (by rw [hk]; decide)]
    · simp [hk]
theorem aeqs_hasR (m : Model) : ∀ (f f' : List Form) (E : PE), Aeqs E f f' → hasRs m f = hasRs m f'
  | [], [], _, _ => rfl
  | f :: fs, f' :: fs', E, h => by
    rw [Aeqs] at h
    rw [hasRs, hasRs, aeq_hasR m f f' E h.1, aeqs_hasR m fs fs' E h.2]
  | [], _ :: _, _, h => by rw [Aeqs] at h; exact h.elim
  | _ :: _, [], _, h => by rw [Aeqs] at h; exact h.elim
end
def truthE (m : Model) (f : Form) : Fault := if 5 < nestM f then ⟨17, -2⟩ else if lacksM m f = true then ⟨6, -2⟩ else ⟨0, 0⟩
end Go.Abs

namespace Go.Abs
open Go

mutual
theorem ren_vok (g : Nat → Str × Nat) : ∀ (f : Form) (env : List Bind) (n : Nat), vok f → vok (ren g f env n).1
  | .mk k nm ws s, env, n, h => by
    rw [vok] at h
    rw [ren]
    split
    · rw [vok, List.length_map, rens_len]
      exact ⟨h.1, h.2.1, h.2.2.1, h.2.2.2.1, h.2.2.2.2.1, h.2.2.2.2.2.1, rens_vok g s _ _ h.2.2.2.2.2.2⟩
    · rw [vok, List.length_map, rens_len]
      exact ⟨h.1, h.2.1, h.2.2.1, h.2.2.2.1, h.2.2.2.2.1, h.2.2.2.2.2.1, rens_vok g s _ _ h.2.2.2.2.2.2⟩
theorem rens_vok (g : Nat → Str × Nat) : ∀ (fs : List Form) (env : List Bind) (n : Nat), voks fs → voks (rens g fs env n).1
  | [], env, n, _ => by rw [rens, voks]; trivial
  | f :: fs, env, n, h => by
    rw [voks] at h
    rw [rens, voks]
    exact ⟨ren_vok g f env n h.1, rens_vok g fs env _ h.2⟩
end
theorem canon_vok {f : Form} {env : List Bind} (h : vok f) : vok (canonM f env) := ren_vok _ f env 0 h
end Go.Abs
