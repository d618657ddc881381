import Derived.Test.YtdlioodgfopmfaaDoorLW
set_option linter.unusedSimpArgs false
namespace Go.Abs
open Go

mutual
def allW (p : Str → Prop) : Form → Prop
  | .mk k nm ws s => (∀ w ∈ ws, p w) ∧ (isQ k → p nm) ∧ allWs p s
def allWs (p : Str → Prop) : List Form → Prop
  | [] => True
  | f :: fs => allW p f ∧ allWs p fs
end
mutual
def mapF (σ : Str → Str) : Form → Form
  | .mk k nm ws s => .mk k (if isQ k then σ nm else nm) (ws.map σ) (mapFs σ s)
def mapFs (σ : Str → Str) : List Form → List Form
  | [] => []
  | f :: fs => mapF σ f :: mapFs σ fs
end
theorem mapFs_map (σ : Str → Str) : ∀ l : List Form, mapFs σ l = l.map (mapF σ)
  | [] => by rw [mapFs]; rfl
  | f :: l => by rw [mapFs, mapFs_map σ l]; rfl
theorem allWs_mem (p : Str → Prop) : ∀ l : List Form, allWs p l ↔ ∀ f ∈ l, allW p f
  | [] => by rw [allWs]; simp
  | f :: l => by rw [allWs, allWs_mem p l]; simp
mutual
theorem allW_mono {p q : Str → Prop} (h : ∀ w, p w → q w) : ∀ f : Form, allW p f → allW q f
  | .mk k nm ws s, hf => by
    rw [allW] at hf ⊢
    exact ⟨fun w hw => h w (hf.1 w hw), fun hk => h nm (hf.2.1 hk), allWs_mono h s hf.2.2⟩
theorem allWs_mono {p q : Str → Prop} (h : ∀ w, p w → q w) : ∀ fs : List Form, allWs p fs → allWs q fs
  | [], _ => by rw [allWs]; trivial
  | f :: fs, hf => by rw [allWs] at hf ⊢; exact ⟨allW_mono h f hf.1, allWs_mono h fs hf.2⟩
end
mutual
theorem allW_clean {p : Str → Prop} (h : ∀ w, p w → ¬ bang w) : ∀ f : Form, allW p f → clean f
  | .mk k nm ws s, hf => by rw [allW] at hf; rw [clean]; exact ⟨fun w hw => h w (hf.1 w hw), allWs_clean h s hf.2.2⟩
theorem allWs_clean {p : Str → Prop} (h : ∀ w, p w → ¬ bang w) : ∀ fs : List Form, allWs p fs → cleans fs
  | [], _ => by rw [cleans]; trivial
  | f :: fs, hf => by rw [allWs] at hf; rw [cleans]; exact ⟨allW_clean h f hf.1, allWs_clean h fs hf.2⟩
end
mutual
theorem mapF_size (σ : Str → Str) : ∀ f : Form, (mapF σ f).size = f.size
  | .mk k nm ws s => by rw [mapF, Form.size, Form.size, mapFs_sizes σ s]
theorem mapFs_sizes (σ : Str → Str) : ∀ fs : List Form, Form.sizes (mapFs σ fs) = Form.sizes fs
  | [] => by rw [mapFs]
  | f :: fs => by rw [mapFs, Form.sizes, Form.sizes, mapF_size σ f, mapFs_sizes σ fs]
end
mutual
theorem mapF_depth (σ : Str → Str) : ∀ f : Form, (mapF σ f).depth = f.depth
  | .mk k nm ws s => by rw [mapF, Form.depth, Form.depth, mapFs_depths σ s]
theorem mapFs_depths (σ : Str → Str) : ∀ fs : List Form, Form.depths (mapFs σ fs) = Form.depths fs
  | [] => by rw [mapFs]
  | f :: fs => by rw [mapFs, Form.depths, Form.depths, mapF_depth σ f, mapFs_depths σ fs]
end
theorem mapFs_len (σ : Str → Str) (l : List Form) : (mapFs σ l).length = l.length := by rw [mapFs_map, List.length_map]
mutual
theorem mapF_fit (σ : Str → Str) : ∀ f : Form, (mapF σ f).fit = f.fit
  | .mk k nm ws s => by rw [mapF, Form.fit, Form.fit, mapFs_fits σ s, List.length_map, mapFs_len]
theorem mapFs_fits (σ : Str → Str) : ∀ fs : List Form, Form.fits (mapFs σ fs) = Form.fits fs
  | [] => by rw [mapFs]
  | f :: fs => by rw [mapFs, Form.fits, Form.fits, mapF_fit σ f, mapFs_fits σ fs]
end
theorem foldl_map (σ : Str → Str) (k : Int) (hk : ¬ isQ k) : ∀ (l : List Form) (f : Form), mapF σ (l.foldl (fun a x => Form.mk k ⟨[]⟩ [] [a, x]) f) = (l.map (mapF σ)).foldl (fun a x => Form.mk k ⟨[]⟩ [] [a, x]) (mapF σ f)
  | [], f => rfl
  | x :: l, f => by
    rw [List.foldl_cons, foldl_map σ k hk l, List.map_cons, List.foldl_cons]
    simp only [mapF, mapFs, if_neg hk, List.map_nil]
theorem joinM_map (σ : Str → Str) (k : Int) (hk : ¬ isQ k) (l : List Form) : mapF σ (joinM k l) = joinM k (l.map (mapF σ)) := by
  cases l with
  | nil => simp [joinM, mapF, mapFs, isQ]
  | cons f l => exact foldl_map σ k hk l f
theorem foldl_allW (p : Str → Prop) (k : Int) (hk : ¬ isQ k) : ∀ (l : List Form) (f : Form), allW p f → allWs p l → allW p (l.foldl (fun a x => Form.mk k ⟨[]⟩ [] [a, x]) f)
  | [], f, h, _ => h
  | x :: l, f, h, hl => by
    rw [List.foldl_cons]
    rw [allWs] at hl
    refine foldl_allW p k hk l _ ?_ hl.2
    simp only [allW, allWs]
    exact ⟨by simp, fun h => absurd h hk, h, hl.1, trivial⟩
theorem joinM_allW (p : Str → Prop) (k : Int) (hk : ¬ isQ k) {l : List Form} (h : allWs p l) : allW p (joinM k l) := by
  cases l with
  | nil => simp [joinM, allW, allWs, isQ]
  | cons f l => rw [allWs] at h; exact foldl_allW p k hk l f h.1 h.2

mutual
theorem cst_notin : ∀ (f : Form) (bd : List Str) (x : Str), x ∈ cst f bd → x ∉ bd
  | .mk k nm ws s, bd, x, h => by
    rw [cst, List.mem_append] at h
    rcases h with h | h
    · simpa using (List.mem_filter.1 h).2
    · have := csts_notin s _ x h
      split at this
      · exact fun hb => this (List.mem_append_left _ hb)
      · exact this
theorem csts_notin : ∀ (fs : List Form) (bd : List Str) (x : Str), x ∈ csts fs bd → x ∉ bd
  | [], bd, x, h => by rw [csts] at h; simp at h
  | f :: fs, bd, x, h => by
    rw [csts, List.mem_append] at h
    rcases h with h | h
    · exact cst_notin f bd x h
    · exact csts_notin fs bd x h
end
mutual
theorem cst_allW {p : Str → Prop} : ∀ (f : Form) (bd : List Str) (x : Str), allW p f → x ∈ cst f bd → p x
  | .mk k nm ws s, bd, x, hf, h => by
    rw [allW] at hf
    rw [cst, List.mem_append] at h
    rcases h with h | h
    · exact hf.1 x (List.mem_filter.1 h).1
    · exact csts_allW s _ x hf.2.2 h
theorem csts_allW {p : Str → Prop} : ∀ (fs : List Form) (bd : List Str) (x : Str), allWs p fs → x ∈ csts fs bd → p x
  | [], bd, x, _, h => by rw [csts] at h; simp at h
  | f :: fs, bd, x, hf, h => by
    rw [allWs] at hf
    rw [csts, List.mem_append] at h
    rcases h with h | h
    · exact cst_allW f bd x hf.1 h
    · exact csts_allW fs bd x hf.2 h
end
mutual
theorem cst_map {σ : Str → Str} {p : Str → Prop} (hi : ∀ a b, p a → p b → σ a = σ b → a = b) : ∀ (f : Form) (bd : List Str), allW p f → (∀ b ∈ bd, p b) → cst (mapF σ f) (bd.map σ) = (cst f bd).map σ
  | .mk k nm ws s, bd, hf, hb => by
    rw [allW] at hf
    rw [mapF, cst, cst, List.map_append]
    congr 1
    · rw [List.filter_map]
      congr 1
      refine List.filter_congr fun w hw => ?_
      simp only [Function.comp]
      rw [decide_eq_decide]
      constructor
      · intro h hw2; exact h (List.mem_map_of_mem hw2)
      · intro h hw2
        obtain ⟨b, hb2, e⟩ := List.mem_map.1 hw2
        exact h (hi b w (hb b hb2) (hf.1 w hw) e ▸ hb2)
    · by_cases hq : isQ k
      · rw [if_pos hq, if_pos hq, if_pos hq]
        have := csts_map hi s (bd ++ [nm]) hf.2.2 fun b hb2 => by
          rcases List.mem_append.1 hb2 with h | h
          · exact hb b h
          · rw [List.mem_singleton.1 h]; exact hf.2.1 hq
        rw [List.map_append] at this
        exact this
      · rw [if_neg hq, if_neg hq]
        exact csts_map hi s bd hf.2.2 hb
theorem csts_map {σ : Str → Str} {p : Str → Prop} (hi : ∀ a b, p a → p b → σ a = σ b → a = b) : ∀ (fs : List Form) (bd : List Str), allWs p fs → (∀ b ∈ bd, p b) → csts (mapFs σ fs) (bd.map σ) = (csts fs bd).map σ
  | [], bd, _, _ => by rw [mapFs, csts, csts]; rfl
  | f :: fs, bd, hf, hb => by
    rw [allWs] at hf
    rw [mapFs, csts, csts, List.map_append, cst_map hi f bd hf.1 hb, csts_map hi fs bd hf.2 hb]
end

theorem lkp_alpha {σ : Str → Str} {p : Str → Prop} (hi : ∀ a b, p a → p b → σ a = σ b → a = b) {env : List Bind} {w : Str} (hw : p w) (he : ∀ b ∈ env, p b.fr) :
    lkp (env.map fun b => ⟨σ b.fr, b.to⟩) (σ w) = lkp env w ∨ (lkp (env.map fun b => ⟨σ b.fr, b.to⟩) (σ w) = σ w ∧ lkp env w = w ∧ w ∉ env.map (·.fr)) := by
  have key : ∀ i, i ≤ env.length → lkpN (env.map fun b => ⟨σ b.fr, b.to⟩) (σ w) i = lkpN env w i ∨ (lkpN (env.map fun b => ⟨σ b.fr, b.to⟩) (σ w) i = σ w ∧ lkpN env w i = w ∧ ∀ j (h : j < env.length), j < i → env[j].fr ≠ w) := by
    intro i
    induction i with
    | zero => intro _; exact .inr ⟨rfl, rfl, fun j h1 h2 => by omega⟩
    | succ i ih =>
      intro hi2
      have hlt : i < env.length := by omega
      have e1 : env.getD i default = env[i] := by rw [List.getD_eq_getElem?_getD, List.getElem?_eq_getElem hlt]; rfl
      have e2 : (env.map fun b => (⟨σ b.fr, b.to⟩ : Bind)).getD i default = ⟨σ env[i].fr, env[i].to⟩ := by
        rw [List.getD_eq_getElem?_getD, List.getElem?_map, List.getElem?_eq_getElem hlt]; rfl
      rw [lkpN, lkpN, e1, e2]
      by_cases hc : env[i].fr = w
      · rw [if_pos hc, if_pos (by simp only; rw [hc])]
        exact .inl rfl
      · rw [if_neg hc, if_neg (fun e => hc (hi _ _ (he _ (List.getElem_mem hlt)) hw e))]
        rcases ih (by omega) with h | ⟨h1, h2, h3⟩
        · exact .inl h
        · refine .inr ⟨h1, h2, fun j hj hji => ?_⟩
          rcases Nat.lt_or_ge j i with h | h
          · exact h3 j hj h
          · obtain rfl : j = i := by omega
            exact hc
  rcases key env.length (Nat.le_refl _) with h | ⟨h1, h2, h3⟩
  · refine .inl ?_
    unfold lkp; rw [List.length_map]; exact h
  · refine .inr ⟨?_, h2, fun hm => ?_⟩
    · unfold lkp; rw [List.length_map]; exact h1
    · obtain ⟨b, hb, e⟩ := List.mem_map.1 hm
      obtain ⟨j, hj, rfl⟩ := List.getElem_of_mem hb
      exact h3 j hj hj e
mutual
theorem alpha {g : Nat → Str × Nat} {σ : Str → Str} {p : Str → Prop} (hi : ∀ a b, p a → p b → σ a = σ b → a = b) : ∀ (f : Form) (env : List Bind) (n : Nat), allW p f → (∀ b ∈ env, p b.fr) → (∀ x ∈ cst f (env.map (·.fr)), σ x = x) →
    ren g (mapF σ f) (env.map fun b => ⟨σ b.fr, b.to⟩) n = ren g f env n
  | .mk k nm ws s, env, n, hf, he, hc => by
    rw [allW] at hf
    rw [cst] at hc
    have hw : (ws.map σ).map (lkp (env.map fun b => ⟨σ b.fr, b.to⟩)) = ws.map (lkp env) := by
      rw [List.map_map]
      refine List.map_congr_left fun w hw => ?_
      rcases lkp_alpha hi (hf.1 w hw) he with e | ⟨e1, e2, e3⟩
      · exact e
      · show lkp _ (σ w) = _
        rw [e1, e2]
        exact hc w (List.mem_append_left _ (List.mem_filter.2 ⟨hw, by simpa using e3⟩))
    rw [mapF, ren, ren, hw]
    by_cases hq : isQ k
    · rw [if_pos hq] at hc
      simp only [if_pos hq]
      have h3 := alphas (g := g) hi s (env ++ [⟨nm, (g n).1⟩]) (g n).2 hf.2.2 (fun b hb => by
        rcases List.mem_append.1 hb with h | h
        · exact he b h
        · rw [List.mem_singleton.1 h]; exact hf.2.1 hq) (fun x hx => hc x (List.mem_append_right _ (by rw [List.map_append] at hx; exact hx)))
      rw [List.map_append] at h3
      simp only [List.map_cons, List.map_nil] at h3
      rw [h3]
    · rw [if_neg hq] at hc
      simp only [if_neg hq]
      rw [alphas hi s env n hf.2.2 he fun x hx => hc x (List.mem_append_right _ hx)]
theorem alphas {g : Nat → Str × Nat} {σ : Str → Str} {p : Str → Prop} (hi : ∀ a b, p a → p b → σ a = σ b → a = b) : ∀ (fs : List Form) (env : List Bind) (n : Nat), allWs p fs → (∀ b ∈ env, p b.fr) → (∀ x ∈ csts fs (env.map (·.fr)), σ x = x) →
    rens g (mapFs σ fs) (env.map fun b => ⟨σ b.fr, b.to⟩) n = rens g fs env n
  | [], env, n, _, _, _ => by rw [mapFs, rens, rens]
  | f :: fs, env, n, hf, he, hc => by
    rw [allWs] at hf
    rw [csts] at hc
    rw [mapFs, rens, rens, alpha hi f env n hf.1 he fun x hx => hc x (List.mem_append_left _ hx)]
    rw [alphas hi fs env _ hf.2 he fun x hx => hc x (List.mem_append_right _ hx)]
end
mutual
theorem ren_map {g : Nat → Str × Nat} {σ : Str → Str} (hg : ∀ k, σ (g k).1 = (g k).1) : ∀ (f : Form) (env env' : List Bind) (n : Nat), allW (fun w => σ w = w) f → env'.map (·.fr) = env.map (·.fr) → env'.map (·.to) = env.map (fun b => σ b.to) →
    ren g f env' n = (mapF σ (ren g f env n).1, (ren g f env n).2)
  | .mk k nm ws s, env, env', n, hf, e1, e2 => by
    rw [allW] at hf
    have hw : ws.map (lkp env') = (ws.map (lkp env)).map σ := by
      rw [List.map_map]
      exact List.map_congr_left fun w hw => lkp_map e1 e2 (hf.1 w hw)
    rw [ren, ren, hw]
    by_cases hq : isQ k
    · simp only [if_pos hq]
      have h3 := rens_map (g := g) hg s (env ++ [⟨nm, (g n).1⟩]) (env' ++ [⟨nm, (g n).1⟩]) (g n).2 hf.2.2 (by rw [List.map_append, List.map_append, e1]) (by rw [List.map_append, List.map_append, e2]; simp only [List.map_cons, List.map_nil, hg])
      rw [h3]
      simp only [mapF, if_pos hq, hg]
    · simp only [if_neg hq]
      rw [rens_map hg s env env' n hf.2.2 e1 e2]
      simp only [mapF, if_neg hq]
theorem rens_map {g : Nat → Str × Nat} {σ : Str → Str} (hg : ∀ k, σ (g k).1 = (g k).1) : ∀ (fs : List Form) (env env' : List Bind) (n : Nat), allWs (fun w => σ w = w) fs → env'.map (·.fr) = env.map (·.fr) → env'.map (·.to) = env.map (fun b => σ b.to) →
    rens g fs env' n = (mapFs σ (rens g fs env n).1, (rens g fs env n).2)
  | [], env, env', n, _, _, _ => by rw [rens, rens, mapFs]
  | f :: fs, env, env', n, hf, e1, e2 => by
    rw [allWs] at hf
    rw [rens, rens, ren_map hg f env env' n hf.1 e1 e2]
    simp only
    rw [rens_map hg fs env env' _ hf.2 e1 e2, mapFs]
end
mutual
theorem ren_allW {g : Nat → Str × Nat} {p : Str → Prop} (hg : ∀ k, p (g k).1) : ∀ (f : Form) (env : List Bind) (n : Nat), allW p f → (∀ b ∈ env, p b.to) → allW p (ren g f env n).1
  | .mk k nm ws s, env, n, hf, he => by
    rw [allW] at hf
    have hw : ∀ w ∈ ws.map (lkp env), p w := fun w hw => by
      obtain ⟨x, hx, rfl⟩ := List.mem_map.1 hw
      rcases lkp_or env x with e | ⟨b, hb, e⟩
      · rw [e]; exact hf.1 x hx
      · rw [e]; exact he b hb
    rw [ren]
    split
    · rw [allW]
      refine ⟨hw, fun _ => hg n, rens_allW hg s _ _ hf.2.2 fun b hb => ?_⟩
      rcases List.mem_append.1 hb with h | h
      · exact he b h
      · rw [List.mem_singleton.1 h]; exact hg n
    · rename_i hq
      rw [allW]
      exact ⟨hw, fun h => absurd h hq, rens_allW hg s _ _ hf.2.2 he⟩
theorem rens_allW {g : Nat → Str × Nat} {p : Str → Prop} (hg : ∀ k, p (g k).1) : ∀ (fs : List Form) (env : List Bind) (n : Nat), allWs p fs → (∀ b ∈ env, p b.to) → allWs p (rens g fs env n).1
  | [], env, n, _, _ => by rw [rens, allWs]; trivial
  | f :: fs, env, n, hf, he => by
    rw [allWs] at hf
    rw [rens, allWs]
    exact ⟨ren_allW hg f _ _ hf.1 he, rens_allW hg fs _ _ hf.2 he⟩
end
mutual
theorem chk_allW {op : Bool} : ∀ (f : Form) (d : Int) (n : Nat), (chk op f d n).1.code = 0 → allW (fun w => isName w = true) f
  | .mk k nm w s, d, n, h => by
    rw [chk] at h
    split at h
    · rename_i h1; exact absurd h h1
    · rename_i h1
      have h2 := nodeC_words (Decidable.not_not.1 h1)
      rw [allW]
      refine ⟨fun x hx => List.all_eq_true.1 h2.1 x hx, fun hq => h2.2.1 ?_, chks_allW s _ _ h⟩
      unfold named
      have hq' : k = 8 ∨ k = 9 := hq
      have : (Form.mk k nm w s).kind = k := rfl
      rw [this]
      exact decide_eq_true (by omega)
theorem chks_allW {op : Bool} : ∀ (fs : List Form) (d : Int) (n : Nat), (chks op fs d n).1.code = 0 → allWs (fun w => isName w = true) fs
  | [], d, n, _ => by rw [allWs]; trivial
  | f :: fs, d, n, h => by
    rw [chks] at h
    split at h
    · rename_i h1; exact absurd h h1
    · rename_i h1
      rw [allWs]
      exact ⟨chk_allW f d n (Decidable.not_not.1 h1), chks_allW fs d _ h⟩
end
theorem checkM_allW {op : Bool} {f : Form} (h : (checkM op f).code = 0) : allW (fun w => isName w = true) f := chk_allW f 1 0 h

def qn (i : Nat) : Str := ⟨63 :: digits i⟩
def sg (w : Str) : Str := match w with
  | ⟨c :: t⟩ => if c = 63 then ⟨36 :: t⟩ else ⟨c :: t⟩
  | ⟨[]⟩ => ⟨[]⟩
def wrap (v : Nat → Str) : Nat → Form → Form
  | 0, c => c
  | i + 1, c => wrap v i (.mk 9 (v i) [] [c])
def lwP (n : Nat) (x : Str) : Prop := (x.l.head? = some 63 → ∃ i, i < n ∧ x = qn i) ∧ x.l.head? ≠ some 36 ∧ ¬ bang x
theorem lwP_name {n : Nat} {x : Str} (h : isName x = true) : lwP n x := by
  unfold isName at h
  have h := (of_decide_eq_true h).2.2.1
  have hd : ∀ c : UInt8, x.l.head? = some c → lowc c := fun c hc => by
    have h0 : x.l.getD 0 0 = c := by rw [List.getD_eq_getElem?_getD, ← List.head?_eq_getElem?, hc]; rfl
    rwa [h0] at h
  exact ⟨fun e => absurd (hd 63 e) (by decide), fun e => absurd (hd 36 e) (by decide), fun e => absurd (hd 33 e) (by decide)⟩
def notF (f : Form) : Form := .mk 4 ⟨[]⟩ [] [f]
theorem notF_allW {p : Str → Prop} {f : Form} (h : allW p f) : allW p (notF f) := by
  simp only [notF, allW, allWs]; exact ⟨by simp, fun h => absurd h (by decide), h, trivial⟩
end Go.Abs
