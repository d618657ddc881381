import Derived.Test.YtdlioodgfopmfaaDoorEV
set_option linter.unusedSimpArgs false
namespace Go.Abs
open Go

abbrev PE := List (Str × Str)
def wrel : PE → Str → Str → Prop
  | [], w, w' => w = w'
  | (a, b) :: E, w, w' => (w = a ∧ w' = b) ∨ (w ≠ a ∧ w' ≠ b ∧ wrel E w w')
def wsrel (E : PE) : List Str → List Str → Prop
  | [], [] => True
  | w :: ws, w' :: ws' => wrel E w w' ∧ wsrel E ws ws'
  | [], _ :: _ => False
  | _ :: _, [] => False
mutual
def Aeq : PE → Form → Form → Prop
  | E, .mk k nm ws s, .mk k' nm' ws' s' => k = k' ∧ (¬ isQ k → nm = nm') ∧ wsrel E ws ws' ∧ Aeqs (if isQ k then (nm, nm') :: E else E) s s'
def Aeqs : PE → List Form → List Form → Prop
  | _, [], [] => True
  | E, f :: fs, g :: gs => Aeq E f g ∧ Aeqs E fs gs
  | _, [], _ :: _ => False
  | _, _ :: _, [] => False
end
theorem wsrel_len {E : PE} : ∀ {a b : List Str}, wsrel E a b → a.length = b.length
  | [], [], _ => rfl
  | _ :: a, _ :: b, h => by rw [wsrel] at h; rw [List.length_cons, List.length_cons, wsrel_len h.2]
  | [], _ :: _, h => by rw [wsrel] at h; exact h.elim
  | _ :: _, [], h => by rw [wsrel] at h; exact h.elim
theorem wsrel_at {E : PE} : ∀ {a b : List Str} {i : Nat}, wsrel E a b → i < a.length → wrel E (a.getD i ⟨[]⟩) (b.getD i ⟨[]⟩)
  | [], [], i, _, hi => by simp at hi
  | w :: a, w' :: b, 0, h, _ => by rw [wsrel] at h; exact h.1
  | w :: a, w' :: b, i + 1, h, hi => by rw [wsrel] at h; exact wsrel_at (i := i) h.2 (by simpa using hi)
  | [], _ :: _, _, h, _ => by rw [wsrel] at h; exact h.elim
  | _ :: _, [], _, h, _ => by rw [wsrel] at h; exact h.elim
theorem Aeqs_len {E : PE} : ∀ {a b : List Form}, Aeqs E a b → a.length = b.length
  | [], [], _ => rfl
  | _ :: a, _ :: b, h => by rw [Aeqs] at h; rw [List.length_cons, List.length_cons, Aeqs_len h.2]
  | [], _ :: _, h => by rw [Aeqs] at h; exact h.elim
  | _ :: _, [], h => by rw [Aeqs] at h; exact h.elim
theorem Aeqs_app {E : PE} : ∀ {a b c d : List Form}, Aeqs E a b → Aeqs E c d → Aeqs E (a ++ c) (b ++ d)
  | [], [], _, _, _, h => h
  | _ :: a, _ :: b, _, _, h, h2 => by rw [Aeqs] at h; rw [List.cons_append, List.cons_append, Aeqs]; exact ⟨h.1, Aeqs_app h.2 h2⟩
  | [], _ :: _, _, _, h, _ => by rw [Aeqs] at h; exact h.elim
  | _ :: _, [], _, _, h, _ => by rw [Aeqs] at h; exact h.elim
theorem Aeq_def {E : PE} : Aeq E defF defF := by
  unfold defF
  rw [Aeq, if_neg (by decide)]
  exact ⟨rfl, fun _ => rfl, by rw [wsrel]; trivial, by rw [Aeqs]; trivial⟩
theorem Aeqs_getD {E : PE} : ∀ {a b : List Form} (i : Nat), Aeqs E a b → Aeq E (a.getD i defF) (b.getD i defF)
  | [], [], i, _ => by simp only [List.getD_nil]; exact Aeq_def
  | _ :: a, _ :: b, 0, h => by rw [Aeqs] at h; exact h.1
  | _ :: a, _ :: b, i + 1, h => by rw [Aeqs] at h; exact Aeqs_getD i h.2
  | [], _ :: _, _, h => by rw [Aeqs] at h; exact h.elim
  | _ :: _, [], _, h => by rw [Aeqs] at h; exact h.elim
theorem Aeq_eq {E : PE} {f f' : Form} : Aeq E f f' ↔ f.kind = f'.kind ∧ (¬ isQ f.kind → f.name = f'.name) ∧ wsrel E f.words f'.words ∧ Aeqs (if isQ f.kind then (f.name, f'.name) :: E else E) f.subs f'.subs := by
  cases f; cases f'; rw [Aeq]; rfl

theorem wsrel_map {E : PE} {s s' : Str → Str} (h : ∀ w w', wrel E w w' → s w = s' w') : ∀ {a b : List Str}, wsrel E a b → a.map s = b.map s'
  | [], [], _ => rfl
  | w :: a, w' :: b, hw => by rw [wsrel] at hw; rw [List.map_cons, List.map_cons, h _ _ hw.1, wsrel_map h hw.2]
  | [], _ :: _, h => by rw [wsrel] at h; exact h.elim
  | _ :: _, [], h => by rw [wsrel] at h; exact h.elim
mutual
theorem aeq_ren {g : Nat → Str × Nat} : ∀ (f f' : Form) (E : PE) (env env' : List Bind) (n : Nat), Aeq E f f' → (∀ w w', wrel E w w' → lkp env w = lkp env' w') → ren g f env n = ren g f' env' n
  | .mk k nm ws s, .mk k' nm' ws' s', E, env, env', n, h, he => by
    rw [Aeq] at h
    obtain ⟨rfl, h2, h3, h4⟩ := h
    rw [ren, ren, wsrel_map he h3]
    by_cases hq : isQ k
    · rw [if_pos hq] at h4
      simp only [if_pos hq]
      rw [aeqs_ren (g := g) s s' ((nm, nm') :: E) (env ++ [(⟨nm, (g n).1⟩ : Bind)]) (env' ++ [(⟨nm', (g n).1⟩ : Bind)]) (g n).2 h4 fun w w' hw => ?_]
      rw [lkp_snoc, lkp_snoc]
      rw [wrel] at hw
      rcases hw with ⟨rfl, rfl⟩ | ⟨h5, h6, h7⟩
      · rw [if_pos rfl, if_pos rfl]
      · rw [if_neg (fun e => h5 e.symm), if_neg (fun e => h6 e.symm)]
        exact he w w' h7
    · rw [if_neg hq] at h4
      simp only [if_neg hq]
      rw [aeqs_ren (g := g) s s' E env env' n h4 he, h2 hq]
theorem aeqs_ren {g : Nat → Str × Nat} : ∀ (f f' : List Form) (E : PE) (env env' : List Bind) (n : Nat), Aeqs E f f' → (∀ w w', wrel E w w' → lkp env w = lkp env' w') → rens g f env n = rens g f' env' n
  | [], [], E, env, env', n, _, _ => by rw [rens, rens]
  | f :: fs, f' :: fs', E, env, env', n, h, he => by
    rw [Aeqs] at h
    rw [rens, rens, aeq_ren f f' E env env' n h.1 he]
    rw [aeqs_ren fs fs' E env env' _ h.2 he]
  | [], _ :: _, _, _, _, _, h, _ => by rw [Aeqs] at h; exact h.elim
  | _ :: _, [], _, _, _, _, h, _ => by rw [Aeqs] at h; exact h.elim
end
theorem wsrel_filter {E : PE} {bd bd' : List Str} (hb : ∀ w w', wrel E w w' → (w ∈ bd ↔ w' ∈ bd') ∧ (w ∉ bd → w = w')) : ∀ {a b : List Str}, wsrel E a b → a.filter (fun w => decide (w ∉ bd)) = b.filter (fun w => decide (w ∉ bd'))
  | [], [], _ => rfl
  | w :: a, w' :: b, hw => by
    rw [wsrel] at hw
    rw [List.filter_cons, List.filter_cons, wsrel_filter hb hw.2]
    obtain ⟨h1, h2⟩ := hb w w' hw.1
    by_cases h : w ∈ bd
    · rw [if_neg (by simpa using h), if_neg (by simpa using h1.1 h)]
    · have e := h2 h
      rw [if_pos (by simpa using h), if_pos (by simpa using fun h3 => h (h1.2 h3)), e]
  | [], _ :: _, h => by rw [wsrel] at h; exact h.elim
  | _ :: _, [], h => by rw [wsrel] at h; exact h.elim
mutual
theorem aeq_cst : ∀ (f f' : Form) (E : PE) (bd bd' : List Str), Aeq E f f' → (∀ w w', wrel E w w' → (w ∈ bd ↔ w' ∈ bd') ∧ (w ∉ bd → w = w')) → cst f bd = cst f' bd'
  | .mk k nm ws s, .mk k' nm' ws' s', E, bd, bd', h, he => by
    rw [Aeq] at h
    obtain ⟨rfl, h2, h3, h4⟩ := h
    rw [cst, cst, wsrel_filter he h3]
    by_cases hq : isQ k
    · rw [if_pos hq] at h4
      rw [if_pos hq, if_pos hq]
      rw [aeqs_cst s s' ((nm, nm') :: E) (bd ++ [nm]) (bd' ++ [nm']) h4 fun w w' hw => ?_]
      rw [wrel] at hw
      simp only [List.mem_append, List.mem_singleton]
      rcases hw with ⟨rfl, rfl⟩ | ⟨h5, h6, h7⟩
      · exact ⟨⟨fun _ => .inr rfl, fun _ => .inr rfl⟩, fun h => absurd (.inr rfl) h⟩
      · obtain ⟨h8, h9⟩ := he w w' h7
        refine ⟨⟨fun h => ?_, fun h => ?_⟩, fun h => h9 fun h0 => h (.inl h0)⟩
        · rcases h with h | h
          · exact .inl (h8.1 h)
          · exact absurd h h5
        · rcases h with h | h
          · exact .inl (h8.2 h)
          · exact absurd h h6
    · rw [if_neg hq] at h4
      rw [if_neg hq, if_neg hq, aeqs_cst s s' E bd bd' h4 he]
theorem aeqs_cst : ∀ (f f' : List Form) (E : PE) (bd bd' : List Str), Aeqs E f f' → (∀ w w', wrel E w w' → (w ∈ bd ↔ w' ∈ bd') ∧ (w ∉ bd → w = w')) → csts f bd = csts f' bd'
  | [], [], E, bd, bd', _, _ => by rw [csts, csts]
  | f :: fs, f' :: fs', E, bd, bd', h, he => by
    rw [Aeqs] at h
    rw [csts, csts, aeq_cst f f' E bd bd' h.1 he, aeqs_cst fs fs' E bd bd' h.2 he]
  | [], _ :: _, _, _, _, h, _ => by rw [Aeqs] at h; exact h.elim
  | _ :: _, [], _, _, _, h, _ => by rw [Aeqs] at h; exact h.elim
end
theorem aeq_canon {f f' : Form} (h : Aeq [] f f') : canonM f [] = canonM f' [] := by
  have h1 : cst f [] = cst f' [] := aeq_cst f f' [] [] [] h fun w w' hw => ⟨by simp, fun _ => hw⟩
  unfold canonM usedM
  rw [h1, aeq_ren f f' [] [] [] 0 h fun w w' hw => by rw [lkp_nil, lkp_nil]; exact hw]

mutual
theorem ren_aeq {used : List Str} : ∀ (f : Form) (E : PE) (env : List Bind) (bd : List Str) (n : Nat), (∀ w, w ∈ bd ∨ w ∈ used → wrel E w (lkp env w) ∧ (lkp env w ∈ used ∨ ∃ j, j < n ∧ lkp env w = vnum j)) → (∀ x ∈ cst f bd, x ∈ used) → Aeq E f (ren (vg used) f env n).1
  | .mk k nm ws s, E, env, bd, n, he, hc => by
    rw [cst] at hc
    have hw : wsrel E ws (ws.map (lkp env)) := by
      have : ∀ l : List Str, (∀ w ∈ l, w ∈ ws) → wsrel E l (l.map (lkp env)) := by
        intro l
        induction l with
        | nil => intro _; rw [List.map_nil, wsrel]; trivial
        | cons w l ih =>
          intro hl
          rw [List.map_cons, wsrel]
          refine ⟨(he w ?_).1, ih fun x hx => hl x (List.mem_cons_of_mem _ hx)⟩
          by_cases hb : w ∈ bd
          · exact .inl hb
          · exact .inr (hc w (List.mem_append_left _ (List.mem_filter.2 ⟨hl w (by simp), by simpa using hb⟩)))
      exact this ws fun _ h => h
    rw [ren]
    by_cases hq : isQ k
    · rw [if_pos hq] at hc
      rw [if_pos hq, Aeq, if_pos hq]
      obtain ⟨a1, _, a3, _⟩ := nextM_spec used n
      refine ⟨rfl, fun h => absurd hq h, hw, rens_aeq s _ _ (bd ++ [nm]) _ (fun w hw2 => ?_) fun x hx => hc x (List.mem_append_right _ hx)⟩
      rw [lkp_snoc, wrel]
      by_cases e : nm = w
      · rw [if_pos e]
        exact ⟨.inl ⟨e.symm, rfl⟩, .inr ⟨nextM used n, Nat.lt_succ_self _, rfl⟩⟩
      · rw [if_neg e]
        have hw3 : w ∈ bd ∨ w ∈ used := by
          rcases hw2 with h | h
          · rcases List.mem_append.1 h with h | h
            · exact .inl h
            · exact absurd (List.mem_singleton.1 h).symm e
          · exact .inr h
        obtain ⟨h1, h2⟩ := he w hw3
        refine ⟨.inr ⟨fun h => e h.symm, fun h => ?_, h1⟩, ?_⟩
        · rw [h] at h2
          rcases h2 with h2 | ⟨j, hj, h2⟩
          · exact a3 h2
          · have := vnum_inj h2; omega
        · rcases h2 with h2 | ⟨j, hj, h2⟩
          · exact .inl h2
          · refine .inr ⟨j, ?_, h2⟩
            have : (vg used n).2 = nextM used n + 1 := rfl
            omega
    · rw [if_neg hq] at hc
      rw [if_neg hq, Aeq, if_neg hq]
      exact ⟨rfl, fun _ => rfl, hw, rens_aeq s _ _ bd _ he fun x hx => hc x (List.mem_append_right _ hx)⟩
theorem rens_aeq {used : List Str} : ∀ (fs : List Form) (E : PE) (env : List Bind) (bd : List Str) (n : Nat), (∀ w, w ∈ bd ∨ w ∈ used → wrel E w (lkp env w) ∧ (lkp env w ∈ used ∨ ∃ j, j < n ∧ lkp env w = vnum j)) → (∀ x ∈ csts fs bd, x ∈ used) → Aeqs E fs (rens (vg used) fs env n).1
  | [], E, env, bd, n, _, _ => by rw [rens, Aeqs]; trivial
  | f :: fs, E, env, bd, n, he, hc => by
    rw [csts] at hc
    rw [rens, Aeqs]
    refine ⟨ren_aeq f E env bd n he fun x hx => hc x (List.mem_append_left _ hx), rens_aeq fs E env bd _ (fun w hw => ?_) fun x hx => hc x (List.mem_append_right _ hx)⟩
    obtain ⟨h1, h2⟩ := he w hw
    refine ⟨h1, ?_⟩
    rcases h2 with h2 | ⟨j, hj, h2⟩
    · exact .inl h2
    · have := ((ren_le (vg_le used)).1 f env n).1
      exact .inr ⟨j, by omega, h2⟩
end
theorem canon_aeq (f : Form) : Aeq [] f (canonM f []) := by
  refine ren_aeq f [] [] [] 0 (fun w hw => ?_) fun x hx => (mem_usedM f x).2 hx
  rw [lkp_nil]
  rcases hw with h | h
  · simp at h
  · exact ⟨rfl, .inl h⟩

mutual
theorem listM_aeq : ∀ (f f' : Form) (E : PE), Aeq E f f' → Aeqs E (listM f) (listM f')
  | .mk k nm ws s, .mk k' nm' ws' s', E, h => by
    have h0 := h
    rw [Aeq] at h
    obtain ⟨rfl, h2, h3, h4⟩ := h
    have hl := Aeqs_len h4
    rw [listM, listM, ← hl]
    by_cases hk : k = 5 ∧ s.length = 2
    · rw [if_pos hk, if_pos hk]
      rw [if_neg (by rw [hk.1]; decide)] at h4
      exact listMs_aeq s s' E h4
    · rw [if_neg hk, if_neg hk, Aeqs]
      exact ⟨h0, by rw [Aeqs]; trivial⟩
theorem listMs_aeq : ∀ (f f' : List Form) (E : PE), Aeqs E f f' → Aeqs E (listMs f) (listMs f')
  | [], [], E, _ => by rw [listMs, Aeqs]; trivial
  | f :: fs, f' :: fs', E, h => by
    rw [Aeqs] at h
    rw [listMs, listMs]
    exact Aeqs_app (listM_aeq f f' E h.1) h.2
  | [], _ :: _, _, h => by rw [Aeqs] at h; exact h.elim
  | _ :: _, [], _, h => by rw [Aeqs] at h; exact h.elim
end
theorem parts_aeq {E : PE} {f f' : Form} (h : Aeq E f f') (hk : f.kind = 9) : Aeqs ((f.name, f'.name) :: E) (partsE f) (partsE f') := by
  rw [Aeq_eq, if_pos (show isQ f.kind from .inr hk)] at h
  unfold partsE
  exact listM_aeq _ _ _ (Aeqs_getD 0 h.2.2.2)
theorem wrel_name {E : PE} {a b w w' : Str} (h : wrel ((a, b) :: E) w w') : (w = a ↔ w' = b) ∧ (w ≠ a → wrel E w w') := by
  rw [wrel] at h
  rcases h with ⟨rfl, rfl⟩ | ⟨h1, h2, h3⟩
  · exact ⟨⟨fun _ => rfl, fun _ => rfl⟩, fun h => absurd rfl h⟩
  · exact ⟨⟨fun h => absurd h h1, fun h => absurd h h2⟩, fun _ => h3⟩
theorem okE_aeq {E : PE} {f f' : Form} (h : Aeq E f f') : okE f = okE f' := by
  have hk := (Aeq_eq.1 h).1
  unfold okE
  rw [← hk]
  by_cases h9 : f.kind = 9
  · have hp := parts_aeq h h9
    have hh : Aeq ((f.name, f'.name) :: E) (headE f) (headE f') := Aeqs_getD 0 hp
    rw [Aeq_eq] at hh
    obtain ⟨e1, _, e2, _⟩ := hh
    rw [← e1, ← wsrel_len e2]
    by_cases hl : (headE f).words.length = 1
    · have := (wrel_name (wsrel_at (i := 0) e2 (by omega))).1
      rw [show decide ((headE f).words.getD 0 ⟨[]⟩ = f.name) = decide ((headE f').words.getD 0 ⟨[]⟩ = f'.name) from decide_eq_decide.2 this]
    · simp [hl]
  · simp [h9]
theorem goodE_aeq {E : PE} {f f' x x' : Form} (h : Aeq ((f.name, f'.name) :: E) x x') (i : Nat) : goodE f i x = goodE f' i x' := by
  rw [Aeq_eq] at h
  obtain ⟨e1, e0, e2, _⟩ := h
  unfold goodE
  rw [← e1, ← wsrel_len e2]
  by_cases hk : x.kind = 2
  · rw [e0 (by rw [hk]; decide)]
    by_cases hl : x.words.length = 2
    · have h0 := (wrel_name (wsrel_at (i := 0) e2 (by omega))).1
      have h1 := (wrel_name (wsrel_at (i := 1) e2 (by omega))).1
      rw [show decide (x.words.getD 0 ⟨[]⟩ = f.name) = decide (x'.words.getD 0 ⟨[]⟩ = f'.name) from decide_eq_decide.2 h0,
        show decide (x.words.getD 1 ⟨[]⟩ = f.name) = decide (x'.words.getD 1 ⟨[]⟩ = f'.name) from decide_eq_decide.2 h1]
    · simp [hl]
  · simp [hk]
theorem goodN_aeq {E : PE} {f f' : Form} (h : Aeqs ((f.name, f'.name) :: E) (partsE f) (partsE f')) : ∀ n, goodN f n = goodN f' n
  | 0 => by rw [goodN, goodN]
  | n + 1 => by rw [goodN, goodN, goodN_aeq h n, goodE_aeq (Aeqs_getD (n + 1) h) n]
theorem wordsN_aeq {E : PE} {f f' : Form} (h : Aeqs ((f.name, f'.name) :: E) (partsE f) (partsE f')) {n : Nat} (hg : goodN f n = true) : wsrel E (wordsN f n) (wordsN f' n) := by
  unfold wordsN
  have : ∀ l : List Nat, (∀ j ∈ l, j < n) → wsrel E (l.map fun j => ((partsE f).getD (j + 1) defF).words.getD 1 ⟨[]⟩) (l.map fun j => ((partsE f').getD (j + 1) defF).words.getD 1 ⟨[]⟩) := by
    intro l
    induction l with
    | nil => intro _; rw [List.map_nil, List.map_nil, wsrel]; trivial
    | cons j l ih =>
      intro hl
      rw [List.map_cons, List.map_cons, wsrel]
      refine ⟨?_, ih fun x hx => hl x (List.mem_cons_of_mem _ hx)⟩
      have hj := goodN_at hg (hl j (by simp))
      have hx := Aeqs_getD (j + 1) h
      unfold goodE at hj
      simp only [Bool.and_eq_true, decide_eq_true_eq, Bool.not_eq_true', decide_eq_false_iff_not] at hj
      have hw := (Aeq_eq.1 hx).2.2.1
      exact (wrel_name (wsrel_at (i := 1) hw (by omega))).2 hj.2
  exact this _ fun j hj => List.mem_range.1 hj
theorem mergeBy_aeq {E : PE} {f f' : Form} (h : Aeq E f f') : Aeq E (mergeBy f) (mergeBy f') := by
  have ho := okE_aeq h
  by_cases ht : okE f = true
  · have hk := (okE_kind ht).1
    have hp := parts_aeq h hk
    have hl := Aeqs_len hp
    have hm : mergeOk f = mergeOk f' := by
      unfold mergeOk
      rw [ho, hl, goodN_aeq hp]
    unfold mergeBy
    rw [← hm, ← hl]
    by_cases hmt : mergeOk f = true
    · rw [if_pos hmt, if_pos hmt, Aeq, if_neg (by decide)]
      have hh := Aeqs_getD 0 hp
      have hh2 := Aeq_eq.1 hh
      refine ⟨rfl, fun _ => hh2.2.1 ?_, wordsN_aeq hp ?_, by rw [Aeqs]; trivial⟩
      · rw [show ((partsE f).getD 0 defF).kind = 2 from (okE_kind ht).2]; decide
      · unfold mergeOk at hmt
        simp only [Bool.and_eq_true] at hmt
        exact hmt.2
    · rw [if_neg hmt, if_neg hmt]; exact h
  · have h1 : ¬ mergeOk f = true := fun hm => ht (mergeOk_ok hm)
    have h2 : ¬ mergeOk f' = true := fun hm => ht (by rw [ho]; exact mergeOk_ok hm)
    unfold mergeBy
    rw [if_neg h1, if_neg h2]; exact h
mutual
theorem changeM_aeq {by' : Form → Form} (hb : ∀ E f f', Aeq E f f' → Aeq E (by' f) (by' f')) : ∀ (f f' : Form) (E : PE), Aeq E f f' → Aeq E (changeM by' f) (changeM by' f')
  | .mk k nm ws s, .mk k' nm' ws' s', E, h => by
    rw [Aeq] at h
    rw [changeM, changeM]
    refine hb _ _ _ ?_
    rw [Aeq]
    exact ⟨h.1, h.2.1, h.2.2.1, changeMs_aeq hb s s' _ h.2.2.2⟩
theorem changeMs_aeq {by' : Form → Form} (hb : ∀ E f f', Aeq E f f' → Aeq E (by' f) (by' f')) : ∀ (f f' : List Form) (E : PE), Aeqs E f f' → Aeqs E (changeMs by' f) (changeMs by' f')
  | [], [], E, _ => by rw [changeMs, Aeqs]; trivial
  | f :: fs, f' :: fs', E, h => by
    rw [Aeqs] at h
    rw [changeMs, changeMs, Aeqs]
    exact ⟨changeM_aeq hb f f' E h.1, changeMs_aeq hb fs fs' E h.2⟩
  | [], _ :: _, _, h => by rw [Aeqs] at h; exact h.elim
  | _ :: _, [], _, h => by rw [Aeqs] at h; exact h.elim
end

mutual
theorem changeM_depth {by' : Form → Form} (hb : ∀ f, (by' f).depth ≤ f.depth) : ∀ f : Form, (changeM by' f).depth ≤ f.depth
  | .mk k nm ws s => by
    rw [changeM]
    refine Nat.le_trans (hb _) ?_
    rw [Form.depth, Form.depth]
    have := changeMs_depth hb s
    omega
theorem changeMs_depth {by' : Form → Form} (hb : ∀ f, (by' f).depth ≤ f.depth) : ∀ fs : List Form, Form.depths (changeMs by' fs) ≤ Form.depths fs
  | [] => by rw [changeMs]; exact Nat.le_refl _
  | f :: fs => by
    rw [changeMs, Form.depths, Form.depths]
    have h1 := changeM_depth hb f
    have h2 := changeMs_depth hb fs
    omega
end
theorem depth_pos (f : Form) : 1 ≤ f.depth := by cases f; rw [Form.depth]; omega
theorem mergeBy_depth (f : Form) : (mergeBy f).depth ≤ f.depth := by
  unfold mergeBy
  split
  · have := depth_pos f; simp only [Form.depth, Form.depths]; omega
  · exact Nat.le_refl _
mutual
theorem ren_depth (g : Nat → Str × Nat) : ∀ (f : Form) (env : List Bind) (n : Nat), (ren g f env n).1.depth = f.depth
  | .mk k nm ws s, env, n => by
    rw [ren]
    split
    · rw [Form.depth, Form.depth, rens_depth g s]
    · rw [Form.depth, Form.depth, rens_depth g s]
theorem rens_depth (g : Nat → Str × Nat) : ∀ (fs : List Form) (env : List Bind) (n : Nat), Form.depths (rens g fs env n).1 = Form.depths fs
  | [], env, n => by rw [rens]
  | f :: fs, env, n => by rw [rens, Form.depths, Form.depths, ren_depth g f, rens_depth g fs]
end
theorem canonM_depth (f : Form) (env : List Bind) : (canonM f env).depth = f.depth := ren_depth _ f env 0
theorem canonM_fits (f : Form) (env : List Bind) : fitsM (canonM f env) = fitsM f := by unfold fitsM; rw [canonM_size, canonM_depth]

def nodeS (op : Bool) (f : Form) : Prop := (f.subs.length : Int) = partsK op f ∧ wordsOk f = true ∧ (named f = true → ¬ isQ f.kind → isName f.name = true) ∧ (named f = false → f.name = ⟨[]⟩)
mutual
def shp (op : Bool) : Form → Prop
  | .mk k nm w s => nodeS op (.mk k nm w s) ∧ shps op s
def shps (op : Bool) : List Form → Prop
  | [] => True
  | f :: fs => shp op f ∧ shps op fs
end
theorem nodeC_ok {op : Bool} {f : Form} {d : Int} {n : Nat} (hs : nodeS op f) (hn : n + 1 ≤ 200) (hd : d ≤ 40) (hw : ∀ w ∈ f.words, isName w = true) (hq : isQ f.kind → isName f.name = true) : nodeC op f d n = 0 := by
  obtain ⟨h1, h2, h3, h4⟩ := hs
  unfold nodeC
  rw [if_neg (by omega), if_neg (by omega), if_neg (by rw [Decidable.not_not]; exact ⟨h1, h2⟩), if_neg, if_neg, if_neg]
  · rw [show f.words.all isName = true from List.all_eq_true.2 hw]; simp
  · rintro ⟨h5, h6⟩; exact h6 (h4 h5)
  · rintro ⟨h5, h6⟩
    by_cases hk : isQ f.kind
    · rw [hq hk] at h6; cases h6
    · rw [h3 h5 hk] at h6; cases h6
mutual
theorem chk_ok {op : Bool} : ∀ (f : Form) (d : Int) (n : Nat), shp op f → allW (fun w => isName w = true) f → n + f.size ≤ 200 → d + f.depth ≤ 41 → chk op f d n = (⟨0, 0⟩, n + f.size)
  | .mk k nm ws s, d, n, hs, ha, hn, hd => by
    rw [shp] at hs
    rw [allW] at ha
    rw [Form.size] at hn ⊢
    rw [Form.depth] at hd
    have := nodeC_ok (d := d) (n := n) hs.1 (by omega) (by omega) ha.1 ha.2.1
    rw [chk, if_neg (by simp [this]), chks_ok s (d + 1) (n + 1) hs.2 ha.2.2 (by omega) (by omega)]
    rw [show n + 1 + Form.sizes s = n + (Form.sizes s + 1) by omega]
theorem chks_ok {op : Bool} : ∀ (fs : List Form) (d : Int) (n : Nat), shps op fs → allWs (fun w => isName w = true) fs → n + Form.sizes fs ≤ 200 → d + Form.depths fs ≤ 41 → chks op fs d n = (⟨0, 0⟩, n + Form.sizes fs)
  | [], d, n, _, _, _, _ => by rw [chks, Form.sizes]; rfl
  | f :: fs, d, n, hs, ha, hn, hd => by
    rw [shps] at hs
    rw [allWs] at ha
    rw [Form.sizes] at hn ⊢
    rw [Form.depths] at hd
    rw [chks, chk_ok f d n hs.1 ha.1 (by omega) (by omega), if_neg (by simp), chks_ok fs d _ hs.2 ha.2 (by omega) (by omega)]
    rw [Nat.add_assoc]
end
theorem checkM_ok {op : Bool} {f : Form} (hs : shp op f) (ha : allW (fun w => isName w = true) f) (hf : fitsM f = true) : checkM op f = ⟨0, 0⟩ := by
  unfold fitsM at hf
  have hf := of_decide_eq_true hf
  unfold checkM
  rw [chk_ok f 1 0 hs ha (by omega) (by omega)]
mutual
theorem chk_shp {op : Bool} : ∀ (f : Form) (d : Int) (n : Nat), (chk op f d n).1.code = 0 → shp op f ∧ d + f.depth ≤ 41
  | .mk k nm w s, d, n, h => by
    rw [chk] at h
    split at h
    · rename_i h1; exact absurd h h1
    · rename_i h1
      have h1 := Decidable.not_not.1 h1
      have h2 := nodeC_words h1
      have h3 := chks_shp s _ _ h
      have hd : d ≤ 40 := by
        unfold nodeC at h1
        split at h1
        · simp at h1
        · omega
      rw [shp, Form.depth]
      exact ⟨⟨⟨h2.2.2.2.2, h2.2.2.2.1, fun hn _ => h2.2.1 hn, h2.2.2.1⟩, h3.1⟩, by have := h3.2; omega⟩
theorem chks_shp {op : Bool} : ∀ (fs : List Form) (d : Int) (n : Nat), (chks op fs d n).1.code = 0 → shps op fs ∧ (Form.depths fs = 0 ∨ d + Form.depths fs ≤ 41)
  | [], d, n, _ => by rw [shps, Form.depths]; exact ⟨trivial, .inl rfl⟩
  | f :: fs, d, n, h => by
    rw [chks] at h
    split at h
    · rename_i h1; exact absurd h h1
    · rename_i h1
      have h2 := chk_shp f d n (Decidable.not_not.1 h1)
      have h3 := chks_shp fs d _ h
      rw [shps, Form.depths]
      exact ⟨⟨h2.1, h3.1⟩, .inr (by have := h2.2; rcases h3.2 with h | h <;> omega)⟩
end
theorem checkM_shp {op : Bool} {f : Form} (h : (checkM op f).code = 0) : shp op f := (chk_shp f 1 0 h).1
theorem nodeS_ren {op : Bool} {k : Int} {nm nm' : Str} {w w' : List Str} {s s' : List Form} (h : nodeS op (.mk k nm w s)) (hl : w'.length = w.length) (hs : s'.length = s.length) (hn : ¬ isQ k → nm' = nm) (_hq : isQ k → True) : nodeS op (.mk k nm' w' s') := by
  obtain ⟨h1, h2, h3, h4⟩ := h
  refine ⟨?_, ?_, fun h5 h6 => ?_, fun h5 => ?_⟩
  · simp only [form_subs] at h1 ⊢
    rw [hs, h1]; rfl
  · have : wordsOk (.mk k nm' w' s') = wordsOk (.mk k nm w s) := by
      show (if k = 2 then decide (w'.length ≤ 3) else if k = 3 then decide (w'.length = 2) else decide (w'.length = 0)) = _
      rw [hl]; rfl
    rw [this]; exact h2
  · simp only [form_kind, form_name] at h6 h3 ⊢
    rw [hn h6]; exact h3 h5 h6
  · have h6 := h4 h5
    simp only [form_name] at h6 ⊢
    have : ¬ isQ k := by
      intro hq
      have : named (.mk k nm' w' s') = true := by
        unfold named
        refine decide_eq_true ?_
        simp only [form_kind]
        rcases hq with e | e <;> omega
      rw [h5] at this; cases this
    rw [hn this]; exact h6
mutual
theorem ren_shp {op : Bool} (g : Nat → Str × Nat) : ∀ (f : Form) (env : List Bind) (n : Nat), shp op f → shp op (ren g f env n).1
  | .mk k nm ws s, env, n, h => by
    rw [shp] at h
    rw [ren]
    split
    · rename_i hq
      rw [shp]
      exact ⟨nodeS_ren h.1 (List.length_map _) (rens_len g _ s _) (fun h => absurd hq h) fun _ => trivial, rens_shp g s _ _ h.2⟩
    · rw [shp]
      exact ⟨nodeS_ren h.1 (List.length_map _) (rens_len g _ s _) (fun _ => rfl) fun _ => trivial, rens_shp g s _ _ h.2⟩
theorem rens_shp {op : Bool} (g : Nat → Str × Nat) : ∀ (fs : List Form) (env : List Bind) (n : Nat), shps op fs → shps op (rens g fs env n).1
  | [], env, n, _ => by rw [rens, shps]; trivial
  | f :: fs, env, n, h => by
    rw [shps] at h
    rw [rens, shps]
    exact ⟨ren_shp g f _ _ h.1, rens_shp g fs _ _ h.2⟩
end
theorem digits_small' {n : Nat} (h : n < 10) : digits n = [UInt8.ofNat (48 + n)] := by unfold digits; rw [Lib.decDigits, dif_pos h]
theorem digits_lt : ∀ (k u : Nat), u < 10 ^ (k + 1) → (digits u).length ≤ k + 1 ∧ ∀ c ∈ digits u, 48 ≤ c.toNat ∧ c.toNat ≤ 57 := by
  intro k
  induction k with
  | zero =>
    intro u h
    rw [digits_small' (by omega)]
    refine ⟨by simp, fun c hc => ?_⟩
    rw [List.mem_singleton.1 hc, UInt8.toNat_ofNat', Nat.mod_eq_of_lt (by omega)]; omega
  | succ k ih =>
    intro u h
    rcases Nat.lt_or_ge u 10 with h1 | h1
    · rw [digits_small' h1]
      refine ⟨by simp, fun c hc => ?_⟩
      rw [List.mem_singleton.1 hc, UInt8.toNat_ofNat', Nat.mod_eq_of_lt (by omega)]; omega
    · have h2 := ih (u / 10) (by rw [Nat.pow_succ] at h; omega)
      have e : digits u = digits (u / 10) ++ [UInt8.ofNat (48 + u % 10)] := by
        unfold digits
        rw [Lib.decDigits, dif_neg (by omega)]
      rw [e, List.length_append, List.length_singleton]
      refine ⟨by omega, fun c hc => ?_⟩
      rcases List.mem_append.1 hc with hc | hc
      · exact h2.2 c hc
      · rw [List.mem_singleton.1 hc, UInt8.toNat_ofNat', Nat.mod_eq_of_lt (by omega)]; omega
theorem vnum_name {j : Nat} (h : j < 10 ^ 20) : isName (vnum j) = true := by
  have h1 := digits_lt 19 j h
  refine name_good ?_ ?_ ?_ fun i hi => ?_
  · simp [vnum]
  · simp only [vnum, List.length_cons]; omega
  · simp [vnum, lowc]
  · simp only [vnum, List.length_cons] at hi ⊢
    cases i with
    | zero => show okc (118 : UInt8); decide
    | succ i =>
      rw [List.getD_cons_succ]
      have hm : (digits j).getD i 0 ∈ digits j := by
        rw [List.getD_eq_getElem?_getD, List.getElem?_eq_getElem (by omega)]
        exact List.getElem_mem _
      have := h1.2 _ hm
      exact .inr (.inl ⟨by omega, by omega⟩)
mutual
theorem ren_names {used : List Str} {B : Nat} {p : Str → Prop} (hv : ∀ j, j < B → p (vnum j)) : ∀ (f : Form) (env : List Bind) (bd : List Str) (n : Nat), n + (used.length + 1) * f.size ≤ B → (∀ w ∈ bd, p (lkp env w)) → (∀ w, w ∉ bd → lkp env w = w) → (∀ x ∈ cst f bd, p x) → allW p (ren (vg used) f env n).1
  | .mk k nm ws s, env, bd, n, hn, h1, h2, hc => by
    rw [Form.size, Nat.mul_add, Nat.mul_one] at hn
    rw [cst] at hc
    have hw : ∀ w ∈ ws.map (lkp env), p w := fun w hw => by
      obtain ⟨x, hx, rfl⟩ := List.mem_map.1 hw
      by_cases hb : x ∈ bd
      · exact h1 x hb
      · rw [h2 x hb]
        exact hc x (List.mem_append_left _ (List.mem_filter.2 ⟨hx, by simpa using hb⟩))
    have hg := nextM_spec used n
    rw [ren]
    by_cases hq : isQ k
    · rw [if_pos hq] at hc
      have hvn : p (vnum (nextM used n)) := hv _ (by omega)
      rw [if_pos hq, allW]
      refine ⟨hw, fun _ => hvn, rens_names hv s _ (bd ++ [nm]) _ ?_ (fun w hw2 => ?_) (fun w hw2 => ?_) fun x hx => hc x (List.mem_append_right _ hx)⟩
      · show nextM used n + 1 + _ ≤ B
        omega
      · rw [lkp_snoc]
        by_cases e : nm = w
        · rw [if_pos e]; exact hvn
        · rw [if_neg e]
          rcases List.mem_append.1 hw2 with h | h
          · exact h1 w h
          · exact absurd (List.mem_singleton.1 h).symm e
      · rw [lkp_snoc, if_neg (fun e => hw2 (List.mem_append_right _ (List.mem_singleton.2 e.symm)))]
        exact h2 w fun h => hw2 (List.mem_append_left _ h)
    · rw [if_neg hq] at hc
      rw [if_neg hq, allW]
      exact ⟨hw, fun h => absurd h hq, rens_names hv s _ bd _ (by omega) h1 h2 fun x hx => hc x (List.mem_append_right _ hx)⟩
theorem rens_names {used : List Str} {B : Nat} {p : Str → Prop} (hv : ∀ j, j < B → p (vnum j)) : ∀ (fs : List Form) (env : List Bind) (bd : List Str) (n : Nat), n + (used.length + 1) * Form.sizes fs ≤ B → (∀ w ∈ bd, p (lkp env w)) → (∀ w, w ∉ bd → lkp env w = w) → (∀ x ∈ csts fs bd, p x) → allWs p (rens (vg used) fs env n).1
  | [], env, bd, n, _, _, _, _ => by rw [rens, allWs]; trivial
  | f :: fs, env, bd, n, hn, h1, h2, hc => by
    rw [Form.sizes, Nat.mul_add] at hn
    rw [csts] at hc
    rw [rens, allWs]
    have := ((ren_le (vg_le used)).1 f env n).2
    exact ⟨ren_names hv f env bd n (by omega) h1 h2 fun x hx => hc x (List.mem_append_left _ hx), rens_names hv fs env bd _ (by omega) h1 h2 fun x hx => hc x (List.mem_append_right _ hx)⟩
end
mutual
theorem cst_len : ∀ (f : Form) (bd : List Str), f.fit = true → (cst f bd).length ≤ 1000 * f.size
  | .mk k nm ws s, bd, h => by
    rw [Form.fit] at h
    simp only [Bool.and_eq_true, decide_eq_true_eq] at h
    rw [cst, List.length_append, Form.size]
    have h1 := List.length_filter_le (fun w => decide (w ∉ bd)) ws
    have h2 := csts_len s (if isQ k then bd ++ [nm] else bd) h.2
    omega
theorem csts_len : ∀ (fs : List Form) (bd : List Str), Form.fits fs = true → (csts fs bd).length ≤ 1000 * Form.sizes fs
  | [], bd, _ => by rw [csts]; simp
  | f :: fs, bd, h => by
    rw [Form.fits, Bool.and_eq_true] at h
    rw [csts, List.length_append, Form.sizes]
    have h1 := cst_len f bd h.1
    have h2 := csts_len fs bd h.2
    omega
end
theorem canon_names {f : Form} (hf : f.fit = true) (hs : f.size ≤ 200) (hc : ∀ x ∈ cst f [], isName x = true) : allW (fun w => isName w = true) (canonM f []) := by
  have h1 := cst_len f [] hf
  have h2 := usedM_len f
  refine ren_names (B := 10 ^ 20) (fun j hj => vnum_name hj) f [] [] 0 ?_ (by simp) (fun w _ => lkp_nil w) hc
  show 0 + ((usedM f).length + 1) * f.size ≤ 10 ^ 20
  have h3 : ((usedM f).length + 1) * f.size ≤ 200001 * 200 := Nat.mul_le_mul (by omega) hs
  omega
theorem canon_ok {op : Bool} {f : Form} (hs : shp op f) (hf : f.fit = true) (hl : fitsM f = true) (hc : ∀ x ∈ cst f [], isName x = true) : checkM op (canonM f []) = ⟨0, 0⟩ := by
  have h1 := of_decide_eq_true (show decide (f.size ≤ 200 ∧ f.depth ≤ 40) = true from hl)
  exact checkM_ok (ren_shp _ f [] 0 hs) (canon_names hf h1.1 hc) (by rw [canonM_fits]; exact hl)
mutual
def mergedM : Form → Bool
  | .mk k nm ws s => okE (.mk k nm ws s) || mergedMs s
def mergedMs : List Form → Bool
  | [] => false
  | f :: fs => mergedM f || mergedMs fs
end
theorem listM_join : ∀ (l : List Form) (f : Form), (∀ g ∈ l, g.kind ≠ 5) → listM (l.foldl (fun a x => Form.mk 5 ⟨[]⟩ [] [a, x]) f) = listM f ++ l
  | [], f, _ => by simp
  | x :: l, f, h => by
    rw [List.foldl_cons, listM_join l _ fun g hg => h g (List.mem_cons_of_mem _ hg), listM_and (a := f) (b := x) rfl rfl]
    simp
theorem change_join {by' : Form → Form} (hb : ∀ f, f.kind ≠ 9 → by' f = f) : ∀ (l : List Form) (f : Form), (∀ g ∈ l, changeM by' g = g) → changeM by' f = f → changeM by' (l.foldl (fun a x => Form.mk 5 ⟨[]⟩ [] [a, x]) f) = l.foldl (fun a x => Form.mk 5 ⟨[]⟩ [] [a, x]) f
  | [], f, _, h => h
  | x :: l, f, h, hf => by
    rw [List.foldl_cons]
    refine change_join hb l _ (fun g hg => h g (List.mem_cons_of_mem _ hg)) ?_
    rw [changeM, changeMs, changeMs, changeMs, hf, h x (by simp), hb (.mk 5 ⟨[]⟩ [] [f, x]) (show (5 : Int) ≠ 9 by decide)]
theorem mergeBy_other {f : Form} (h : f.kind ≠ 9) : mergeBy f = f := by
  unfold mergeBy
  rw [if_neg]
  intro hm
  exact h (okE_kind (mergeOk_ok hm)).1
theorem range_getD {α : Type} (l : List α) (d : α) : (List.range l.length).map (fun i => l.getD i d) = l := by
  refine List.ext_getElem (by simp) fun i h1 h2 => ?_
  simp only [List.getElem_map, List.getElem_range]
  rw [List.getD_eq_getElem?_getD, List.getElem?_eq_getElem h2]; rfl
theorem merge_split {v nm : Str} {ws : List Str} (h1 : 0 < ws.length) (h3 : ws.length ≤ 3) (hv : ∀ w ∈ ws, w ≠ v) : changeM mergeBy (splitF v nm ws) = .mk 2 nm ws [] := by
  obtain ⟨l, hl⟩ : ∃ l, ((List.range ws.length).map fun i => Form.mk 2 (argS i) [v, ws.getD i ⟨[]⟩] []) = l := ⟨_, rfl⟩
  have hll : l.length = ws.length := by rw [← hl]; simp
  have hat : ∀ i, i < ws.length → l.getD i defF = .mk 2 (argS i) [v, ws.getD i ⟨[]⟩] [] := fun i hi => by
    rw [← hl, List.getD_eq_getElem?_getD, List.getElem?_map, List.getElem?_range hi]; rfl
  have hmem : ∀ g ∈ l, g.kind = 2 ∧ g.subs = [] := fun g hg => by
    rw [← hl] at hg
    obtain ⟨i, _, rfl⟩ := List.mem_map.1 hg
    exact ⟨rfl, rfl⟩
  have hid : ∀ g : Form, g.kind = 2 → g.subs = [] → changeM mergeBy g = g := fun g hk hs => by
    rw [changeM_eq, hs, List.map_nil, mergeBy_other (by simp only [form_kind]; omega)]
    cases g; simp only [form_subs] at hs; subst hs; rfl
  unfold splitF
  rw [hl]
  have hj : changeM mergeBy (joinM 5 (.mk 2 nm [v] [] :: l)) = joinM 5 (.mk 2 nm [v] [] :: l) :=
    change_join (fun f h => mergeBy_other h) l _ (fun g hg => hid g (hmem g hg).1 (hmem g hg).2) (hid _ rfl rfl)
  rw [changeM, changeMs, changeMs, hj]
  have hp : partsE (.mk 9 v [] [joinM 5 (.mk 2 nm [v] [] :: l)]) = .mk 2 nm [v] [] :: l := by
    unfold partsE
    show listM (joinM 5 (.mk 2 nm [v] [] :: l)) = _
    have := listM_join l (.mk 2 nm [v] []) fun g hg => by rw [(hmem g hg).1]; decide
    rw [listM_one (f := .mk 2 nm [v] []) (fun h => absurd h.1 (show ¬ (2 : Int) = 5 by decide))] at this
    exact this
  have hh : headE (.mk 9 v [] [joinM 5 (.mk 2 nm [v] [] :: l)]) = .mk 2 nm [v] [] := by unfold headE; rw [hp]; rfl
  have hok : okE (.mk 9 v [] [joinM 5 (.mk 2 nm [v] [] :: l)]) = true := by
    unfold okE; rw [hh]; simp [form_kind, form_words, form_name]
  have hgd : ∀ n, n ≤ ws.length → goodN (.mk 9 v [] [joinM 5 (.mk 2 nm [v] [] :: l)]) n = true := by
    intro n
    induction n with
    | zero => intro _; rw [goodN]
    | succ n ih =>
      intro hn
      rw [goodN, ih (by omega), hp, List.getD_cons_succ, hat n (by omega)]
      have := hv _ (getD_mem (ws := ws) (i := n) (by omega))
      simp only [goodE, form_kind, form_words, form_name, List.getD_cons_zero, List.getD_cons_succ, List.length_cons, List.length_nil, decide_eq_false this]
      simp
  have hwn : wordsN (.mk 9 v [] [joinM 5 (.mk 2 nm [v] [] :: l)]) ws.length = ws := by
    unfold wordsN
    rw [hp]
    conv => rhs; rw [← range_getD ws ⟨[]⟩]
    refine List.map_congr_left fun j hj => ?_
    rw [List.getD_cons_succ, hat j (List.mem_range.1 hj)]
    rfl
  unfold mergeBy
  have hm : mergeOk (.mk 9 v [] [joinM 5 (.mk 2 nm [v] [] :: l)]) = true := by
    unfold mergeOk
    rw [hok, hp, List.length_cons, hll]
    simp only [Nat.add_sub_cancel, hgd ws.length (Nat.le_refl _)]
    simp only [Bool.true_and, Bool.and_true, Bool.and_eq_true, decide_eq_true_eq]
    omega
  rw [if_pos hm, hh, hp, List.length_cons, hll, Nat.add_sub_cancel, hwn]
  rfl
mutual
theorem split_merge {v : Str} {ps : List Str} : ∀ f : Form, shp false f → allW (fun w => w ≠ v) f → mergedM f = false → changeM mergeBy (changeM (splitBy v ps) f) = f
  | .mk k nm ws s, hs, ha, hm => by
    rw [shp] at hs
    rw [allW] at ha
    rw [mergedM, Bool.or_eq_false_iff] at hm
    rw [changeM, splitBy_mk]
    split
    · rename_i hc
      obtain ⟨rfl, h0, _⟩ := hc
      have h3 : ws.length ≤ 3 := by
        have := hs.1.2.1
        rw [show wordsOk (.mk 2 nm ws s) = decide (ws.length ≤ 3) from rfl] at this
        exact of_decide_eq_true this
      have h4 : s = [] := by
        have := hs.1.1
        rw [show partsK false (.mk 2 nm ws s) = 0 from rfl] at this
        simp only [form_subs] at this
        exact List.eq_nil_of_length_eq_zero (by omega)
      subst h4
      exact merge_split h0 h3 ha.1
    · rw [changeM, split_merges s hs.2 ha.2.2 hm.2]
      unfold mergeBy
      rw [if_neg]
      intro h
      rw [mergeOk_ok h] at hm
      exact absurd hm.1 (by decide)
theorem split_merges {v : Str} {ps : List Str} : ∀ fs : List Form, shps false fs → allWs (fun w => w ≠ v) fs → mergedMs fs = false → changeMs mergeBy (changeMs (splitBy v ps) fs) = fs
  | [], _, _, _ => by rw [changeMs, changeMs]
  | f :: fs, hs, ha, hm => by
    rw [shps] at hs
    rw [allWs] at ha
    rw [mergedMs, Bool.or_eq_false_iff] at hm
    rw [changeMs, changeMs, split_merge f hs.1 ha.1 hm.1, split_merges fs hs.2 ha.2 hm.2]
end
theorem join_shp {op : Bool} : ∀ (l : List Form) (f : Form), shps op l → shp op f → shp op (l.foldl (fun a x => Form.mk 5 ⟨[]⟩ [] [a, x]) f)
  | [], f, _, h => h
  | x :: l, f, hl, h => by
    rw [shps] at hl
    rw [List.foldl_cons]
    refine join_shp l _ hl.2 ?_
    rw [shp, shps, shps, shps]
    refine ⟨⟨rfl, rfl, fun h2 => absurd (show false = true from h2) (by decide), fun _ => rfl⟩, h, hl.1, trivial⟩
theorem shps_mem {op : Bool} : ∀ l : List Form, shps op l ↔ ∀ f ∈ l, shp op f
  | [] => by rw [shps]; simp
  | f :: l => by rw [shps, shps_mem l]; simp
theorem argS_name {i : Nat} (h : i < 3) : isName (argS i) = true := by
  have : i = 0 ∨ i = 1 ∨ i = 2 := by omega
  unfold argS
  rw [digits_small' (by omega)]
  rcases this with rfl | rfl | rfl <;> decide
theorem splitF_shp {v nm : Str} {ws : List Str} (hn : isName nm = true) (h3 : ws.length ≤ 3) : shp false (splitF v nm ws) := by
  unfold splitF
  rw [shp, shps, shps]
  refine ⟨⟨rfl, rfl, fun _ h => absurd (.inr rfl) h, fun h => ?_⟩, join_shp _ _ ((shps_mem _).2 fun g hg => ?_) ?_, trivial⟩
  · exact absurd h (by simp [named, form_kind])
  · obtain ⟨i, hi, rfl⟩ := List.mem_map.1 hg
    have hi := List.mem_range.1 hi
    rw [shp, shps]
    refine ⟨⟨rfl, rfl, fun _ _ => argS_name (by omega), fun h => ?_⟩, trivial⟩
    exact absurd h (by simp [named, form_kind])
  · rw [shp, shps]
    refine ⟨⟨rfl, rfl, fun _ _ => hn, fun h => ?_⟩, trivial⟩
    exact absurd h (by simp [named, form_kind])
mutual
theorem split_shp {v : Str} {ps : List Str} : ∀ f : Form, shp false f → shp false (changeM (splitBy v ps) f)
  | .mk k nm ws s, h => by
    rw [shp] at h
    rw [changeM, splitBy_mk]
    split
    · rename_i hc
      obtain ⟨rfl, h0, _⟩ := hc
      have h3 : ws.length ≤ 3 := by
        have := h.1.2.1
        rw [show wordsOk (.mk 2 nm ws s) = decide (ws.length ≤ 3) from rfl] at this
        exact of_decide_eq_true this
      exact splitF_shp (h.1.2.2.1 rfl (by simp [isQ, form_kind])) h3
    · rw [shp]
      exact ⟨nodeS_ren h.1 rfl (by rw [changeMs_map, List.length_map]) (fun _ => rfl) fun _ => trivial, split_shps s h.2⟩
theorem split_shps {v : Str} {ps : List Str} : ∀ fs : List Form, shps false fs → shps false (changeMs (splitBy v ps) fs)
  | [], _ => by rw [changeMs, shps]; trivial
  | f :: fs, h => by
    rw [shps] at h
    rw [changeMs, shps]
    exact ⟨split_shp f h.1, split_shps fs h.2⟩
end
mutual
theorem split_names (ps : List Str) : ∀ f : Form, allW (fun w => isName w = true) f → allW (fun w => isName w = true ∨ w = qM) (changeM (splitBy qM ps) f)
  | .mk k nm ws s, h => by
    rw [allW] at h
    rw [changeM, splitBy_mk]
    split
    · unfold splitF
      rw [allW, allWs, allWs]
      refine ⟨by simp, fun _ => .inr rfl, joinM_allW _ 5 (by decide) ((allWs_mem _ _).2 fun g hg => ?_), trivial⟩
      rcases List.mem_cons.1 hg with rfl | hg
      · rw [allW, allWs]
        exact ⟨fun w hw => .inr (List.mem_singleton.1 hw), fun e => absurd e (by decide), trivial⟩
      · obtain ⟨i, hi, rfl⟩ := List.mem_map.1 hg
        rw [allW, allWs]
        refine ⟨fun w hw => ?_, fun e => absurd e (by decide), trivial⟩
        simp only [List.mem_cons, List.not_mem_nil, or_false] at hw
        rcases hw with rfl | rfl
        · exact .inr rfl
        · exact .inl (h.1 _ (getD_mem (List.mem_range.1 hi)))
    · rw [allW]
      exact ⟨fun w hw => .inl (h.1 w hw), fun hq => .inl (h.2.1 hq), split_namess ps s h.2.2⟩
theorem split_namess (ps : List Str) : ∀ fs : List Form, allWs (fun w => isName w = true) fs → allWs (fun w => isName w = true ∨ w = qM) (changeMs (splitBy qM ps) fs)
  | [], _ => by rw [changeMs, allWs]; trivial
  | f :: fs, h => by
    rw [allWs] at h
    rw [changeMs, allWs]
    exact ⟨split_names ps f h.1, split_namess ps fs h.2⟩
end
theorem undoes {f : Form} {ps : List Str} (h : (checkM false f).code = 0) (hf : fitsM (changeM (splitBy qM ps) f) = true) (hm : mergedM f = false) :
    checkM false (canonM (changeM (splitBy qM ps) f) []) = ⟨0, 0⟩ ∧ fitsM (changeM mergeBy (canonM (changeM (splitBy qM ps) f) [])) = true ∧ canonM (changeM mergeBy (canonM (changeM (splitBy qM ps) f) [])) [] = canonM f [] := by
  have hn := checkM_allW h
  have hs := checkM_shp h
  refine ⟨canon_ok (split_shp f hs) (changeM_fit (fun f h => splitBy_fit h) f (checkM_fit h)) hf fun x hx => ?_, ?_, ?_⟩
  · rcases cst_allW _ _ x (split_names ps f hn) hx with h1 | h1
    · exact h1
    · exact absurd h1 (split_free ps f [] x hn hx)
  · have h1 := of_decide_eq_true (show decide ((changeM (splitBy qM ps) f).size ≤ 200 ∧ (changeM (splitBy qM ps) f).depth ≤ 40) = true from hf)
    have h2 := changeM_size (c := 0) (fun f => mergeBy_size f) (canonM (changeM (splitBy qM ps) f) [])
    have h3 := changeM_depth (fun f => mergeBy_depth f) (canonM (changeM (splitBy qM ps) f) [])
    rw [canonM_size] at h2
    rw [canonM_depth] at h3
    unfold fitsM
    exact decide_eq_true ⟨by omega, by omega⟩
  · have h1 := changeM_aeq (fun E f f' h => mergeBy_aeq h) _ _ [] (canon_aeq (changeM (splitBy qM ps) f))
    rw [split_merge f hs (allW_mono (fun w hw e => by rw [e] at hw; exact absurd hw (by decide)) f hn) hm] at h1
    exact (aeq_canon h1).symm
end Go.Abs
