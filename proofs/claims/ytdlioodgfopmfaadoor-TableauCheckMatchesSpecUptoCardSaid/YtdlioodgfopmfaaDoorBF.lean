import Derived.Test.YtdlioodgfopmfaaDoorCK
set_option linter.unusedSimpArgs false
namespace Go.Abs
open Go

/-! ## what stands on a branch: valid formulas in their canonical form -/
theorem vg_congr {a b : List Str} (h : ∀ j, vnum j ∈ a ↔ vnum j ∈ b) : vg a = vg b := by
  funext k; unfold vg; rw [nextM_congr h k]
mutual
/-- the constants of a renamed formula -/
theorem cst_ren {used : List Str} : ∀ (f : Form) (env : List Bind) (bd bd' : List Str) (n : Nat), (∀ w ∈ bd, lkp env w ∈ bd') → (∀ w ∈ bd', w ∉ used) → (∀ w ∈ cst f bd, lkp env w ∈ used) →
    cst (ren (vg used) f env n).1 bd' = (cst f bd).map (lkp env)
  | .mk k nm ws s, env, bd, bd', n, h1, h2, h3 => by
    rw [cst] at h3
    have hw : (ws.map (lkp env)).filter (fun w => decide (w ∉ bd')) = (ws.filter fun w => decide (w ∉ bd)).map (lkp env) := by
      have : ∀ l : List Str, (∀ w ∈ l, w ∈ ws) → (l.map (lkp env)).filter (fun w => decide (w ∉ bd')) = (l.filter fun w => decide (w ∉ bd)).map (lkp env) := by
        intro l
        induction l with
        | nil => intro _; rfl
        | cons w l ih =>
          intro hl
          have ih := ih fun x hx => hl x (by simp [hx])
          rw [List.map_cons]
          by_cases hb : w ∈ bd
          · rw [List.filter_cons_of_neg (by simpa using h1 w hb), List.filter_cons_of_neg (by simpa using hb), ih]
          · have hu : lkp env w ∉ bd' := fun hm => h2 _ hm (h3 w (List.mem_append_left _ (List.mem_filter.2 ⟨hl w (by simp), by simpa using hb⟩)))
            rw [List.filter_cons_of_pos (by simpa using hu), List.filter_cons_of_pos (by simpa using hb), ih, List.map_cons]
      exact this ws fun _ h => h
    rw [ren]
    by_cases hq : isQ k
    · rw [if_pos hq] at h3
      rw [if_pos hq, cst, cst, if_pos hq, if_pos hq, List.map_append, hw]
      have hv : vnum (nextM used n) ∉ used := (nextM_spec used n).2.2.1
      have hc : ∀ w ∈ csts s (bd ++ [nm]), lkp (env ++ [⟨nm, (vg used n).1⟩]) w = lkp env w := fun w hw => by
        have hn := csts_notin s _ w hw
        rw [lkp_snoc, if_neg fun e => hn (List.mem_append_right _ (List.mem_singleton.2 e.symm))]
      have ih := csts_ren s (env ++ [⟨nm, (vg used n).1⟩]) (bd ++ [nm]) (bd' ++ [(vg used n).1]) (vg used n).2 (fun w hw => by
        rw [lkp_snoc]
        by_cases e : nm = w
        · rw [if_pos e]; exact List.mem_append_right _ (by simp)
        · rw [if_neg e]
          rcases List.mem_append.1 hw with h | h
          · exact List.mem_append_left _ (h1 w h)
          · exact absurd (List.mem_singleton.1 h).symm e) (fun w hw => by
        rcases List.mem_append.1 hw with h | h
        · exact h2 w h
        · rw [List.mem_singleton.1 h]; exact hv) (fun w hw => by rw [hc w hw]; exact h3 w (List.mem_append_right _ hw))
      rw [ih]
      congr 1
      exact List.map_congr_left hc
    · rw [if_neg hq] at h3
      rw [if_neg hq, cst, cst, if_neg hq, if_neg hq, List.map_append, hw]
      rw [csts_ren s env bd bd' n h1 h2 fun w hw => h3 w (List.mem_append_right _ hw)]
theorem csts_ren {used : List Str} : ∀ (fs : List Form) (env : List Bind) (bd bd' : List Str) (n : Nat), (∀ w ∈ bd, lkp env w ∈ bd') → (∀ w ∈ bd', w ∉ used) → (∀ w ∈ csts fs bd, lkp env w ∈ used) →
    csts (rens (vg used) fs env n).1 bd' = (csts fs bd).map (lkp env)
  | [], env, bd, bd', n, _, _, _ => by rw [rens, csts, csts]; rfl
  | f :: fs, env, bd, bd', n, h1, h2, h3 => by
    rw [csts] at h3
    rw [rens, csts, csts, List.map_append, cst_ren f env bd bd' n h1 h2 fun w hw => h3 w (List.mem_append_left _ hw), csts_ren fs env bd bd' _ h1 h2 fun w hw => h3 w (List.mem_append_right _ hw)]
end
mutual
/-- a renamed formula renamed again by the same names is the same -/
theorem ren_twice {g : Nat → Str × Nat} : ∀ (f : Form) (env env' : List Bind) (n : Nat), (∀ w, lkp env' w = w) → ren g (ren g f env n).1 env' n = ((ren g f env n).1, (ren g f env n).2)
  | .mk k nm ws s, env, env', n, h => by
    have hm : ∀ l : List Str, l.map (lkp env') = l := fun l => by
      rw [show lkp env' = id from funext h, List.map_id]
    rw [ren]
    by_cases hq : isQ k
    · rw [if_pos hq, ren, if_pos hq]
      rw [rens_twice s _ _ _ (fun w => by rw [lkp_snoc]; split; · assumption
                                          · exact h w), hm]
    · rw [if_neg hq, ren, if_neg hq]
      rw [rens_twice s env env' n h, hm]
theorem rens_twice {g : Nat → Str × Nat} : ∀ (fs : List Form) (env env' : List Bind) (n : Nat), (∀ w, lkp env' w = w) → rens g (rens g fs env n).1 env' n = ((rens g fs env n).1, (rens g fs env n).2)
  | [], env, env', n, _ => by simp [rens]
  | f :: fs, env, env', n, h => by
    rw [rens, rens, ren_twice f env env' n h, rens_twice fs env env' _ h]
end
theorem replM_one {b : Bind} {u : List Str} : replM [b] u = u.map fun w => if w = b.fr then b.to else w := rfl
theorem lkp_one {b : Bind} {w : Str} : lkp [b] w = if w = b.fr then b.to else w := by
  have := lkp_snoc [] b w
  rw [List.nil_append, lkp_nil] at this
  rw [this]
  by_cases h : b.fr = w
  · rw [if_pos h, if_pos h.symm]
  · rw [if_neg h, if_neg fun e => h e.symm]
theorem repl_lkp {env : List Bind} {u : List Str} (he : env.length ≤ 1) : replM env u = u.map (lkp env) := by
  match env, he with
  | [], _ => rw [show lkp [] = id from funext lkp_nil, List.map_id]; rfl
  | [b], _ => rw [replM_one]; exact List.map_congr_left fun w _ => lkp_one.symm
/-- the canonical form is its own canonical form -/
theorem canon_twice {f : Form} {env : List Bind} (he : env.length ≤ 1) : canonM (canonM f env) [] = canonM f env := by
  have hc : cst (canonM f env) [] = (cst f []).map (lkp env) := by
    unfold canonM
    refine cst_ren f env [] [] 0 (by simp) (by simp) fun w hw => ?_
    rw [repl_lkp he]
    exact List.mem_map.2 ⟨w, (mem_usedM f w).2 hw, rfl⟩
  have hv : vg (replM [] (usedM (canonM f env))) = vg (replM env (usedM f)) := by
    refine vg_congr fun j => ?_
    rw [repl_lkp he, show replM [] (usedM (canonM f env)) = usedM (canonM f env) from rfl, mem_usedM, hc, List.mem_map, List.mem_map]
    constructor
    · rintro ⟨w, hw, e⟩; exact ⟨w, (mem_usedM f w).2 hw, e⟩
    · rintro ⟨w, hw, e⟩; exact ⟨w, (mem_usedM f w).1 hw, e⟩
  have e : canonM (canonM f env) [] = (ren (vg (replM env (usedM f))) (canonM f env) [] 0).1 := by
    rw [← hv]; rfl
  rw [e]
  unfold canonM
  rw [ren_twice f env [] 0 lkp_nil]
/-! the negation of a canonical form is one -/
theorem used_not (f : Form) : usedM (notF f) = usedM f := by
  unfold usedM
  rw [show cst (notF f) [] = cst f [] by unfold notF; rw [cst, csts, csts]; simp [isQ]]
theorem ngg_eq (f : Form) : ngg f = notF (cnn f) := by
  unfold ngg cnn canonM
  rw [used_not]
  unfold notF
  rw [ren, if_neg (by unfold isQ; omega), rens, rens]
  rfl
/-- a formula whose parts may stand on a branch, in their canonical form -/
structure BF0 (f : Form) : Prop where
  b : brF f
  sh : shp false f
  aw : allW (fun w => isName w = true) f
structure BF (f : Form) : Prop where
  o : BF0 f
  cn : cnn f = f
theorem BF0.clean {f : Form} (h : BF0 f) : clean f := allW_clean (fun _ hw => name_bang hw) f h.aw
theorem BF0.sub {f g : Form} (h : BF0 f) (hg : g ∈ f.subs) : BF0 g := by
  have hs := h.sh
  have ha := h.aw
  refine ⟨h.b.sub hg, ?_, ?_⟩
  · obtain ⟨k, nm, ws, s⟩ := f
    rw [shp] at hs
    exact (shps_mem s).1 hs.2 g hg
  · obtain ⟨k, nm, ws, s⟩ := f
    rw [allW] at ha
    exact (allWs_mem _ s).1 ha.2.2 g hg
theorem ren_names2 {used : List Str} {B : Nat} {p : Str → Prop} (hv : ∀ j, j < B → p (vnum j)) : ∀ m, (∀ (f : Form) (env : List Bind) (n : Nat), f.size ≤ m → n + (used.length + 1) * f.size ≤ B → allW p f → (∀ w, p w → p (lkp env w)) → allW p (ren (vg used) f env n).1) ∧
    ∀ (fs : List Form) (env : List Bind) (n : Nat), Form.sizes fs ≤ m → n + (used.length + 1) * Form.sizes fs ≤ B → allWs p fs → (∀ w, p w → p (lkp env w)) → allWs p (rens (vg used) fs env n).1 := by
  intro m
  induction m with
  | zero =>
    refine ⟨fun f env n h => by have := f.size_pos; omega, fun fs env n h _ _ _ => ?_⟩
    cases fs with
    | nil => rw [rens, allWs]; trivial
    | cons f fs => rw [Form.sizes] at h; have := f.size_pos; omega
  | succ m ih =>
    have h1 : ∀ (f : Form) (env : List Bind) (n : Nat), f.size ≤ m + 1 → n + (used.length + 1) * f.size ≤ B → allW p f → (∀ w, p w → p (lkp env w)) → allW p (ren (vg used) f env n).1 := by
      intro f env n hs hn ha he
      obtain ⟨k, nm, ws, s⟩ := f
      rw [Form.size] at hs hn
      rw [Nat.mul_add, Nat.mul_one] at hn
      rw [allW] at ha
      have hw : ∀ w ∈ ws.map (lkp env), p w := fun w hw => by
        obtain ⟨x, hx, rfl⟩ := List.mem_map.1 hw
        exact he x (ha.1 x hx)
      have hg := nextM_spec used n
      rw [ren]
      by_cases hq : isQ k
      · have hvn : p (vnum (nextM used n)) := hv _ (by omega)
        rw [if_pos hq, allW]
        refine ⟨hw, fun _ => hvn, ih.2 s _ _ (by omega) ?_ ha.2.2 fun w hw => ?_⟩
        · show nextM used n + 1 + _ ≤ B
          omega
        · rw [lkp_snoc]
          split
          · exact hvn
          · exact he w hw
      · rw [if_neg hq, allW]
        exact ⟨hw, fun h => absurd h hq, ih.2 s _ _ (by omega) (by omega) ha.2.2 he⟩
    refine ⟨h1, fun fs => ?_⟩
    induction fs with
    | nil => intro env n _ _ _ _; rw [rens, allWs]; trivial
    | cons f fs ih2 =>
      intro env n hs hn ha he
      rw [Form.sizes] at hs hn
      rw [Nat.mul_add] at hn
      rw [allWs] at ha
      rw [rens, allWs]
      have := ((ren_le (vg_le used)).1 f env n).2
      exact ⟨h1 f env n (by omega) (by omega) ha.1 he, ih2 env _ (by omega) (by omega) ha.2 he⟩
theorem BF0.can {f : Form} {env : List Bind} (h : BF0 f) (he : env.length ≤ 1) (hn : ∀ b ∈ env, isName b.to = true) : BF (canonM f env) := by
  refine ⟨⟨h.b.cn, ren_shp _ f env 0 h.sh, ?_⟩, canon_twice he⟩
  unfold canonM
  have h1 := cst_len f [] h.b.ft
  have h2 := usedM_len f
  refine (ren_names2 (B := 10 ^ 20) (fun j hj => vnum_name hj) f.size).1 f env 0 (Nat.le_refl _) ?_ h.aw fun w hw => ?_
  · rw [repl_lkp he, List.length_map]
    have hs := h.b.s
    have h3 : ((usedM f).length + 1) * f.size ≤ 800001 * 800 := Nat.mul_le_mul (by omega) hs
    omega
  · rcases lkp_or env w with e | ⟨b, hb, e⟩
    · rw [e]; exact hw
    · rw [e]; exact hn b hb
theorem BF0.cn {f : Form} (h : BF0 f) : BF (cnn f) := h.can (by simp) (by simp)
theorem BF0.not {f : Form} (h : BF0 f) (hs : f.size + 1 ≤ 800) : BF0 (notF f) := by
  refine ⟨⟨?_, ?_, ?_⟩, ?_, ?_⟩
  · unfold notF
    rw [vok, voks, voks]
    exact ⟨by decide, by decide, fun e => absurd e (by decide), fun e => absurd e (by decide), fun _ => rfl, fun e => by omega, h.b.v, trivial⟩
  · simp [notF, Form.fit, Form.fits, h.b.ft]
  · simp only [notF, Form.size, Form.sizes]; omega
  · unfold notF
    rw [shp, shps, shps]
    refine ⟨⟨rfl, rfl, fun e => ?_, fun _ => rfl⟩, h.sh, trivial⟩
    exact absurd (of_decide_eq_true e) (by rw [form_kind]; omega)
  · exact notF_allW h.aw
theorem BF0.ng {f : Form} (h : BF0 f) (hs : f.size + 1 ≤ 800) : BF (ngg f) := (h.not hs).can (by simp) (by simp)
theorem BF.not_inv {f : Form} (h : BF (notF f)) : cnn f = f := by
  have h1 : ngg f = notF f := h.cn
  rw [ngg_eq] at h1
  unfold notF at h1
  injection h1 with _ _ _ h2
  exact (List.cons.inj h2).1
/-- the forms of formulas -/
theorem bf_view : ∀ (n : Nat) (f : Form), f.size ≤ n → BF0 f → Vw f
  | 0, f, h, _ => by have := f.size_pos; omega
  | n + 1, f, h, hb => by
    have hv := vok_eq.1 hb.b.v
    have hsub : ∀ g ∈ f.subs, Vw g := fun g hg => bf_view n g (by have := Form.size_sub hg; omega) (hb.sub hg)
    have hs := hb.sh
    have ha := hb.aw
    obtain ⟨k, nm, ws, s⟩ := f
    rw [shp] at hs
    rw [allW] at ha
    obtain ⟨⟨s1, s2, s3, s4⟩, _⟩ := hs
    simp only [form_kind, form_subs, form_name, form_words] at hv s1 s2 s3 s4 hsub
    have hp : partsK false (.mk k nm ws s) = subsK k := by unfold partsK; rw [form_kind, if_neg (by simp)]
    rw [hp] at s1
    have w0 : k ≠ 2 → k ≠ 3 → ws = [] := fun h2 h3 => by
      unfold wordsOk at s2
      rw [form_kind, form_words, if_neg h2, if_neg h3] at s2
      exact List.eq_nil_of_length_eq_zero (of_decide_eq_true s2)
    have n0 : k ≠ 2 → k ≠ 8 → k ≠ 9 → nm = ⟨[]⟩ := fun h2 h8 h9 => s4 (by
      unfold named
      rw [form_kind]
      exact decide_eq_false (by omega))
    have sub0 : (k = 1 ∨ k = 2 ∨ k = 3) → s = [] := fun h => by
      unfold subsK at s1
      rw [if_pos h] at s1
      exact List.eq_nil_of_length_eq_zero (by omega)
    by_cases h1 : k = 1
    · subst h1
      rw [w0 (by decide) (by decide), n0 (by decide) (by decide) (by decide), sub0 (.inl rfl)]
      exact .t
    by_cases h2 : k = 2
    · subst h2
      rw [sub0 (.inr (.inl rfl))]
      exact .p nm ws (s3 rfl (by unfold isQ; decide)) ha.1
    by_cases h3 : k = 3
    · subst h3
      rw [n0 (by decide) (by decide) (by decide), sub0 (.inr (.inr rfl))]
      have hl := hv.2.2.2.1 rfl
      match ws, hl, ha.1 with
      | [a, b], _, hw => exact .e a b (hw a (by simp)) (hw b (by simp))
    have hw := w0 h2 h3
    subst hw
    by_cases h4 : k = 4
    · subst h4
      rw [n0 (by decide) (by decide) (by decide)]
      have hl := hv.2.2.2.2.1 (.inl rfl)
      match s, hl, hsub with
      | [a], _, hsub => exact .n a (hsub a (by simp))
    by_cases h8 : k = 8 ∨ k = 9
    · have hl := hv.2.2.2.2.1 (.inr h8)
      match s, hl, hsub with
      | [a], _, hsub => exact .q k nm a h8 (ha.2.1 h8) (hsub a (by simp))
    have h5 : k = 5 ∨ k = 6 ∨ k = 7 := by omega
    rw [n0 h2 (by omega) (by omega)]
    have hl := hv.2.2.2.2.2.1 h5
    match s, hl, hsub with
    | [a, b], _, hsub => exact .j k a b h5 (hsub a (by simp)) (hsub b (by simp))
theorem BF0.vw {f : Form} (h : BF0 f) : Vw f := bf_view f.size f (Nat.le_refl _) h
theorem txt_eq {f g : Form} (hf : BF0 f) (hg : BF0 g) : txt f = txt g ↔ f = g := ⟨hf.vw.txt_eq hg.vw, fun h => by rw [h]⟩
/-! lengths -/
theorem jn_len {ws : List Str} {sep : List UInt8} (h : ∀ w ∈ ws, isName w = true) (hs : sep.length ≤ 3) : (jn sep ws).length ≤ 33 * ws.length := by
  have key : ∀ l : List Str, (∀ w ∈ l, isName w = true) → (l.flatMap fun v => sep ++ v.l).length ≤ 33 * l.length := by
    intro l
    induction l with
    | nil => intro _; simp
    | cons w l ih =>
      intro hl
      have h1 := ih fun x hx => hl x (by simp [hx])
      have h2 := name_len (hl w (by simp))
      rw [List.flatMap_cons, List.length_append, List.length_append, List.length_cons]
      omega
  cases ws with
  | nil => simp [jn]
  | cons w ws =>
    have h1 := key ws fun x hx => h x (by simp [hx])
    have h2 := name_len (h w (by simp))
    rw [jn, List.length_append, List.length_cons]
    omega
theorem txt_len : ∀ (n : Nat) (f : Form), f.size ≤ n → BF0 f → (txt f).length ≤ 40000 * f.size
  | 0, f, h, _ => by have := f.size_pos; omega
  | n + 1, f, h, hb => by
    have hv := hb.vw
    have hwl : f.words.length ≤ 1000 := by
      have hf := hb.b.ft
      cases f with
      | mk a b c d =>
        rw [Form.fit] at hf
        simp only [Bool.and_eq_true, decide_eq_true_eq] at hf
        exact hf.1.1
    cases hv with
    | t => rw [txt_v1, Form.size, Form.sizes]; simp
    | p nm ws h1 h2 =>
      have h3 := jn_len (sep := [44]) h2 (by simp)
      have h4 := name_len h1
      rw [form_words] at hwl
      rw [txt_v2, Form.size, Form.sizes]
      simp only [List.length_append, List.length_cons, List.length_nil]
      omega
    | e a b h1 h2 =>
      have h3 := name_len h1
      have h4 := name_len h2
      rw [txt_v3, Form.size, Form.sizes]
      simp only [List.length_append, List.length_cons, List.length_nil]
      omega
    | n a _ =>
      have hz : (Form.mk 4 ⟨[]⟩ [] [a]).size = a.size + 1 := size_one rfl
      have := txt_len n a (by omega) (hb.sub (by simp [form_subs]))
      rw [txt_v4, hz, List.length_cons]
      omega
    | j k a b hk _ _ =>
      have hz : (Form.mk k ⟨[]⟩ [] [a, b]).size = a.size + b.size + 1 := size_two rfl
      have hpa := a.size_pos
      have hpb := b.size_pos
      have h1 := txt_len n a (by omega) (hb.sub (by simp [form_subs]))
      have h2 := txt_len n b (by omega) (hb.sub (by simp [form_subs]))
      rw [txt_v5 hk, hz]
      simp only [List.length_append, List.length_cons, List.length_nil]
      omega
    | q k nm a hk h1 _ =>
      have hz : (Form.mk k nm [] [a]).size = a.size + 1 := size_one rfl
      have h2 := txt_len n a (by omega) (hb.sub (by simp [form_subs]))
      have h3 := name_len h1
      have h4 : (qs k).length ≤ 4 := by unfold qs; split <;> decide
      rw [txt_v8 hk, hz]
      simp only [List.length_append, List.length_cons]
      omega
theorem BF0.tx {f : Form} (h : BF0 f) : txP f := ⟨h.b.v, h.b.ft, by
  have := txt_len f.size f (Nat.le_refl _) h
  have := h.b.s
  omega⟩
end Go.Abs
