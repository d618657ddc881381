import Derived.Test.YtbbjghecpcobjaaDoorTR
import Derived.Test.YtbbjghecpcobjaaDoorAE
set_option linter.unusedSimpArgs false
namespace Go.Abs
open Go

/-! ## what a formula says, and the names of its variables -/
theorem wordV_snoc (m : Model) (ev : List Const) (nm : Str) (v : Int) (w : Str) : wordV m (ev ++ [(⟨nm, v⟩ : Const)]) w = if nm = w then v else wordV m ev w := by
  unfold wordV
  rw [lastE_snoc]
  show (match (if nm = w then some v else lastE ev w) with | some v => v | none => constV m w) = _
  by_cases h : nm = w
  · rw [if_pos h, if_pos h]
  · rw [if_neg h, if_neg h]; rfl
mutual
theorem ren_val (m : Model) {used U : List Str} : ∀ (f : Form) (env : List Bind) (bd : List Str) (n : Nat) (ev ev' : List Const), vok f →
    (∀ w, w ∈ bd ∨ w ∈ U → wordV m ev w = wordV m ev' (lkp env w) ∧ (lkp env w ∈ used ∨ ∃ j, j < n ∧ lkp env w = vnum j)) → (∀ x ∈ cst f bd, x ∈ U) → valM m (ren (vg used) f env n).1 ev' = valM m f ev
  | .mk k nm ws s, env, bd, n, ev, ev', hv, he, hc => by
    rw [vok] at hv
    rw [cst] at hc
    have hw1 : ∀ w ∈ ws, wordV m ev w = wordV m ev' (lkp env w) := fun w hw => by
      refine (he w ?_).1
      by_cases hb : w ∈ bd
      · exact .inl hb
      · exact .inr (hc w (List.mem_append_left _ (List.mem_filter.2 ⟨hw, by simpa using hb⟩)))
    have hw : (ws.map (lkp env)).map (wordV m ev') = ws.map (wordV m ev) := by
      rw [List.map_map]
      exact List.map_congr_left fun w hw => (hw1 w hw).symm
    have hl : (ws.map (lkp env)).length = ws.length := List.length_map _
    by_cases hq : isQ k
    · have hs : ∀ v : Int, valMs m (rens (vg used) s (env ++ [(⟨nm, (vg used n).1⟩ : Bind)]) (vg used n).2).1 (ev' ++ [(⟨(vg used n).1, v⟩ : Const)]) = valMs m s (ev ++ [(⟨nm, v⟩ : Const)]) := fun v => by
        obtain ⟨a1, _, a3, _⟩ := nextM_spec used n
        rw [if_pos hq] at hc
        refine rens_val m s _ (bd ++ [nm]) _ _ _ hv.2.2.2.2.2.2 (fun w hw2 => ?_) fun x hx => hc x (List.mem_append_right _ hx)
        rw [lkp_snoc, wordV_snoc, wordV_snoc]
        have hvg : (vg used n).1 = vnum (nextM used n) := rfl
        have hvg2 : (vg used n).2 = nextM used n + 1 := rfl
        by_cases e : nm = w
        · rw [if_pos e, if_pos e]
          exact ⟨(if_pos rfl).symm, .inr ⟨nextM used n, by omega, hvg⟩⟩
        · rw [if_neg e, if_neg e]
          have hw3 : w ∈ bd ∨ w ∈ U := by
            rcases hw2 with h | h
            · rcases List.mem_append.1 h with h | h
              · exact .inl h
              · exact absurd (List.mem_singleton.1 h).symm e
            · exact .inr h
          obtain ⟨h1, h2⟩ := he w hw3
          refine ⟨?_, ?_⟩
          · rw [if_neg (fun h => ?_)]
            · exact h1
            · rw [hvg] at h
              rcases h2 with h2 | ⟨j, hj, h2⟩
              · exact a3 (by rw [h]; exact h2)
              · have := vnum_inj (h.trans h2); omega
          · rcases h2 with h2 | ⟨j, hj, h2⟩
            · exact .inl h2
            · exact .inr ⟨j, by omega, h2⟩
      rw [ren, if_pos hq]
      rw [valM, valM]
      rcases hq with rfl | rfl <;> simp only [hs, reduceIte, show ¬ ((8 : Int) = 1) by decide, show ¬ ((8 : Int) = 2) by decide, show ¬ ((8 : Int) = 3) by decide, show ¬ ((8 : Int) = 4) by decide, show ¬ ((8 : Int) = 5) by decide, show ¬ ((8 : Int) = 6) by decide, show ¬ ((8 : Int) = 7) by decide,
        show ¬ ((9 : Int) = 1) by decide, show ¬ ((9 : Int) = 2) by decide, show ¬ ((9 : Int) = 3) by decide, show ¬ ((9 : Int) = 4) by decide, show ¬ ((9 : Int) = 5) by decide, show ¬ ((9 : Int) = 6) by decide, show ¬ ((9 : Int) = 7) by decide, show ¬ ((9 : Int) = 8) by decide, if_false, if_true]
    · rw [if_neg hq] at hc
      have hs := rens_val m s env bd n ev ev' hv.2.2.2.2.2.2 he fun x hx => hc x (List.mem_append_right _ hx)
      have h8 : ¬ k = 8 := fun e => hq (.inl e)
      have h9 : ¬ k = 9 := fun e => hq (.inr e)
      rw [ren, if_neg hq]
      rw [valM, valM]
      simp only [hs, h8, h9, if_false, hw, hl]
      by_cases h3 : k = 3
      · have h2 := hv.2.2.2.1 h3
        obtain ⟨a, b, rfl⟩ : ∃ a b, ws = [a, b] := by
          match ws, h2 with
          | [a, b], _ => exact ⟨a, b, rfl⟩
        subst h3
        have e0 := hw1 a (by simp)
        have e1 := hw1 b (by simp)
        simp only [List.map_cons, List.map_nil, List.getD_cons_zero, List.getD_cons_succ]
        rw [e0, e1]
      · simp only [h3, if_false]
theorem rens_val (m : Model) {used U : List Str} : ∀ (fs : List Form) (env : List Bind) (bd : List Str) (n : Nat) (ev ev' : List Const), voks fs →
    (∀ w, w ∈ bd ∨ w ∈ U → wordV m ev w = wordV m ev' (lkp env w) ∧ (lkp env w ∈ used ∨ ∃ j, j < n ∧ lkp env w = vnum j)) → (∀ x ∈ csts fs bd, x ∈ U) → valMs m (rens (vg used) fs env n).1 ev' = valMs m fs ev
  | [], env, bd, n, ev, ev', hv, he, hc => by rw [rens, valMs, valMs]
  | f :: fs, env, bd, n, ev, ev', hv, he, hc => by
    rw [voks] at hv
    rw [csts] at hc
    rw [rens]
    simp only
    rw [valMs, valMs, ren_val m f env bd n ev ev' hv.1 he fun x hx => hc x (List.mem_append_left _ hx),
      rens_val m fs env bd _ ev ev' hv.2 (fun w hw => ?_) fun x hx => hc x (List.mem_append_right _ hx)]
    obtain ⟨h1, h2⟩ := he w hw
    refine ⟨h1, ?_⟩
    rcases h2 with h2 | ⟨j, hj, h2⟩
    · exact .inl h2
    · have := ((ren_le (vg_le used)).1 f env n).1
      exact .inr ⟨j, by omega, h2⟩
end
/-- the canonical form says what the formula says -/
theorem canon_val {m : Model} {f : Form} (hv : vok f) : valM m (canonM f []) [] = valM m f [] := by
  refine ren_val m (U := usedM f) f [] [] 0 [] [] hv (fun w hw => ?_) fun x hx => (mem_usedM f x).2 hx
  rw [lkp_nil]
  rcases hw with h | h
  · simp at h
  · exact ⟨rfl, .inl h⟩
/-! formulas put together -/
theorem val_and (m : Model) (a b : Form) (ev : List Const) : valM m (.mk 5 ⟨[]⟩ [] [a, b]) ev = (valM m a ev && valM m b ev) := by
  rw [valM, valMs_map]; rfl
theorem val_not (m : Model) (a : Form) (ev : List Const) : valM m (.mk 4 ⟨[]⟩ [] [a]) ev = !valM m a ev := by
  rw [valM, valMs_map]; rfl
theorem foldl_and (m : Model) (ev : List Const) : ∀ (l : List Form) (f : Form), valM m (l.foldl (fun a x => Form.mk 5 ⟨[]⟩ [] [a, x]) f) ev = (valM m f ev && l.all fun g => valM m g ev)
  | [], f => by simp
  | x :: l, f => by rw [List.foldl_cons, foldl_and m ev l, val_and, List.all_cons, Bool.and_assoc]
theorem joinM_cons (k : Int) (f : Form) (l : List Form) : joinM k (f :: l) = l.foldl (fun a x => Form.mk k ⟨[]⟩ [] [a, x]) f := rfl
theorem join_and {m : Model} {ev : List Const} {l : List Form} (h : l ≠ []) : valM m (joinM 5 l) ev = l.all fun g => valM m g ev := by
  cases l with
  | nil => exact absurd rfl h
  | cons f l => rw [joinM_cons, foldl_and, List.all_cons]
theorem foldl_cst (k : Int) (hk : ¬ isQ k) (bd : List Str) : ∀ (l : List Form) (f : Form), cst (l.foldl (fun a x => Form.mk k ⟨[]⟩ [] [a, x]) f) bd = cst f bd ++ csts l bd
  | [], f => by simp [csts]
  | x :: l, f => by rw [List.foldl_cons, foldl_cst k hk bd l, cst, if_neg hk, csts, csts, csts, csts]; simp
theorem join_cst {k : Int} (hk : ¬ isQ k) {bd : List Str} {l : List Form} (h : l ≠ []) : cst (joinM k l) bd = csts l bd := by
  cases l with
  | nil => exact absurd rfl h
  | cons f l => rw [joinM_cons, foldl_cst k hk, csts]
theorem csts_mem {bd : List Str} {x : Str} : ∀ {l : List Form}, x ∈ csts l bd ↔ ∃ f ∈ l, x ∈ cst f bd
  | [] => by rw [csts]; simp
  | f :: l => by rw [csts, List.mem_append, csts_mem (l := l)]; simp
theorem nestMs_mem : ∀ {l : List Form} {f : Form}, f ∈ l → nestM f ≤ nestMs l
  | x :: l, f, h => by
    rw [nestMs]
    rcases List.mem_cons.1 h with rfl | h
    · omega
    · have := nestMs_mem h; omega
theorem foldl_nest (k : Int) (hk : ¬ isQ k) : ∀ (l : List Form) (f : Form), nestM (l.foldl (fun a x => Form.mk k ⟨[]⟩ [] [a, x]) f) = max (nestM f) (nestMs l)
  | [], f => by simp [nestMs]
  | x :: l, f => by rw [List.foldl_cons, foldl_nest k hk l, nestM, if_neg hk, nestMs, nestMs, nestMs, nestMs]; omega
theorem join_nest {k : Int} (hk : ¬ isQ k) {l : List Form} (h : l ≠ []) : nestM (joinM k l) = nestMs l := by
  cases l with
  | nil => exact absurd rfl h
  | cons f l => rw [joinM_cons, foldl_nest k hk, nestMs]
theorem hasRs_mem {m : Model} : ∀ {l : List Form}, hasRs m l = true ↔ ∀ f ∈ l, hasR m f = true
  | [] => by rw [hasRs]; simp
  | f :: l => by rw [hasRs, Bool.and_eq_true, hasRs_mem (l := l)]; simp
theorem foldl_hasR (m : Model) (k : Int) (hk : ¬ k = 2) : ∀ (l : List Form) (f : Form), hasR m (l.foldl (fun a x => Form.mk k ⟨[]⟩ [] [a, x]) f) = (hasR m f && hasRs m l)
  | [], f => by simp [hasRs]
  | x :: l, f => by rw [List.foldl_cons, foldl_hasR m k hk l, hasR, hasRs, hasRs, hasRs, hasRs]; simp [hk, Bool.and_assoc]
theorem join_hasR {m : Model} {k : Int} (hk : ¬ k = 2) {l : List Form} (h : l ≠ []) : hasR m (joinM k l) = hasRs m l := by
  cases l with
  | nil => exact absurd rfl h
  | cons f l => rw [joinM_cons, foldl_hasR m k hk, hasRs]
/-! what a model lacks, and how deep quantifiers stand, in formulas that differ in bound names -/
mutual
theorem aeq_nest : ∀ (f f' : Form) (E : PE), Aeq E f f' → nestM f = nestM f'
  | .mk k nm ws s, .mk k' nm' ws' s', E, h => by
    rw [Aeq] at h
    obtain ⟨rfl, _, _, h4⟩ := h
    rw [nestM, nestM, aeqs_nest s s' _ h4]
theorem aeqs_nest : ∀ (f f' : List Form) (E : PE), Aeqs E f f' → nestMs f = nestMs f'
  | [], [], _, _ => rfl
  | f :: fs, f' :: fs', E, h => by
    rw [Aeqs] at h
    rw [nestMs, nestMs, aeq_nest f f' E h.1, aeqs_nest fs fs' E h.2]
  | [], _ :: _, _, h => by rw [Aeqs] at h; exact h.elim
  | _ :: _, [], _, h => by rw [Aeqs] at h; exact h.elim
end
mutual
theorem aeq_hasR (m : Model) : ∀ (f f' : Form) (E : PE), Aeq E f f' → hasR m f = hasR m f'
  | .mk k nm ws s, .mk k' nm' ws' s', E, h => by
    rw [Aeq] at h
    obtain ⟨rfl, h2, h3, h4⟩ := h
    rw [hasR, hasR, aeqs_hasR m s s' _ h4, wsrel_len h3]
    by_cases hk : k = 2
    · rw [h2 (by rw [hk]; decide)]
    · simp [hk]
theorem aeqs_hasR (m : Model) : ∀ (f f' : List Form) (E : PE), Aeqs E f f' → hasRs m f = hasRs m f'
  | [], [], _, _ => rfl
  | f :: fs, f' :: fs', E, h => by
    rw [Aeqs] at h
    rw [hasRs, hasRs, aeq_hasR m f f' E h.1, aeqs_hasR m fs fs' E h.2]
  | [], _ :: _, _, h => by rw [Aeqs] at h; exact h.elim
  | _ :: _, [], _, h => by rw [Aeqs] at h; exact h.elim
end
theorem canon_cst (f : Form) : cst (canonM f []) [] = cst f [] := (aeq_cst f _ [] [] [] (canon_aeq f) fun w w' hw => ⟨by simp, fun _ => hw⟩).symm
theorem canon_nest (f : Form) : nestM (canonM f []) = nestM f := (aeq_nest f _ [] (canon_aeq f)).symm
theorem canon_hasR (m : Model) (f : Form) : hasR m (canonM f []) = hasR m f := (aeq_hasR m f _ [] (canon_aeq f)).symm
theorem canon_lacks (m : Model) (f : Form) : lacksM m (canonM f []) = lacksM m f := by unfold lacksM; rw [canon_cst, canon_hasR]
/-- what 'truth.Fault' says of a valid model and a valid formula -/
def truthE (m : Model) (f : Form) : Fault := if 5 < nestM f then ⟨17, -2⟩ else if lacksM m f = true then ⟨6, -2⟩ else ⟨0, 0⟩
theorem canon_truthE (m : Model) (f : Form) : truthE m (canonM f []) = truthE m f := by unfold truthE; rw [canon_nest, canon_lacks]
theorem truthE_ok {m : Model} {f : Form} : (truthE m f).code = 0 ↔ nestM f ≤ 5 ∧ lacksM m f = false := by
  unfold truthE
  split
  · simp; omega
  · split
    · rename_i h; simp [h]
    · rename_i h1 h2; simp at h2; simp [h2]; omega
theorem lacks_ok {m : Model} {f : Form} : lacksM m f = false ↔ (∀ c ∈ cst f [], (findC m c).isSome = true) ∧ hasR m f = true := by
  unfold lacksM
  rw [Bool.not_eq_false', Bool.and_eq_true, List.all_eq_true]
end Go.Abs
