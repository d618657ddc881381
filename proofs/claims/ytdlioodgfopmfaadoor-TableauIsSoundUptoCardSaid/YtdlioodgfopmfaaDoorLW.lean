import Derived.Test.YtdlioodgfopmfaaDoorCN
set_option linter.unusedSimpArgs false
namespace Go.Abs
open Go

mutual
def Form.depth : Form → Nat
  | .mk _ _ _ s => Form.depths s + 1
def Form.depths : List Form → Nat
  | [] => 0
  | f :: fs => max f.depth (Form.depths fs)
end
def fitsM (f : Form) : Bool := decide (f.size ≤ 200 ∧ f.depth ≤ 40)
mutual
theorem Form.depth_size : ∀ f : Form, f.depth ≤ f.size
  | .mk k n w s => by rw [Form.depth, Form.size]; have := Form.depths_size s; omega
theorem Form.depths_size : ∀ fs : List Form, Form.depths fs ≤ Form.sizes fs
  | [] => by rw [Form.depths, Form.sizes]; exact Nat.le_refl _
  | f :: fs => by rw [Form.depths, Form.sizes]; have := f.depth_size; have := Form.depths_size fs; omega
end
mutual
theorem chk_size {op : Bool} : ∀ (f : Form) (d : Int) (n : Nat), (chk op f d n).1.code = 0 → (chk op f d n).2 = n + f.size
  | .mk k nm w s, d, n, h => by
    rw [chk] at h ⊢
    split at h
    · rename_i h1; exact absurd h h1
    · rename_i h1
      rw [if_neg h1, Form.size, chks_size s _ _ h]; omega
theorem chks_size {op : Bool} : ∀ (fs : List Form) (d : Int) (n : Nat), (chks op fs d n).1.code = 0 → (chks op fs d n).2 = n + Form.sizes fs
  | [], d, n, _ => by rw [chks, Form.sizes]; rfl
  | f :: fs, d, n, h => by
    rw [chks] at h ⊢
    split at h
    · rename_i h1; exact absurd h h1
    · rename_i h1
      have h2 := chk_size f d n (Decidable.not_not.1 h1)
      rw [if_neg h1, chks_size fs d _ h, h2, Form.sizes]; omega
end
theorem checkM_size {op : Bool} {f : Form} (h : (checkM op f).code = 0) : f.size ≤ 200 := by
  have h1 := chk_size f 1 0 h
  have h2 := (chk_n f 1 0 h).2.1
  omega
theorem name_bang {s : Str} (h : isName s = true) : ¬ bang s := by
  unfold isName at h
  have h := (of_decide_eq_true h).2.2.1
  intro hb
  unfold bang at hb
  have h0 : s.l.getD 0 0 = 33 := by rw [List.getD_eq_getElem?_getD, ← List.head?_eq_getElem?, hb]; rfl
  rw [h0] at h
  exact absurd h (by decide)
theorem nodeC_words {op : Bool} {f : Form} {d : Int} {n : Nat} (h : nodeC op f d n = 0) : f.words.all isName = true ∧ (named f = true → isName f.name = true) ∧ (named f = false → f.name = ⟨[]⟩) ∧ wordsOk f = true ∧ (f.subs.length : Int) = partsK op f := by
  unfold nodeC at h
  split at h
  · simp at h
  split at h
  · simp at h
  split at h
  · simp at h
  rename_i h3
  split at h
  · simp at h
  rename_i h4
  split at h
  · simp at h
  rename_i h5
  split at h
  · simp at h
  rename_i h6
  have h7 := Decidable.not_not.1 h3
  refine ⟨by simpa using h6, fun h8 => ?_, fun h8 => ?_, h7.2, h7.1⟩
  · cases hn : isName f.name with
    | true => rfl
    | false => exact absurd ⟨h8, hn⟩ h4
  · exact Decidable.not_not.1 fun hn => h5 ⟨h8, hn⟩
mutual
theorem chk_clean {op : Bool} : ∀ (f : Form) (d : Int) (n : Nat), (chk op f d n).1.code = 0 → clean f
  | .mk k nm w s, d, n, h => by
    rw [chk] at h
    split at h
    · rename_i h1; exact absurd h h1
    · rename_i h1
      have h2 := (nodeC_words (Decidable.not_not.1 h1)).1
      rw [clean]
      exact ⟨fun x hx => name_bang (List.all_eq_true.1 h2 x hx), chks_clean s _ _ h⟩
theorem chks_clean {op : Bool} : ∀ (fs : List Form) (d : Int) (n : Nat), (chks op fs d n).1.code = 0 → cleans fs
  | [], d, n, _ => by rw [cleans]; trivial
  | f :: fs, d, n, h => by
    rw [chks] at h
    split at h
    · rename_i h1; exact absurd h h1
    · rename_i h1
      rw [cleans]
      exact ⟨chk_clean f d n (Decidable.not_not.1 h1), chks_clean fs d _ h⟩
end
theorem fits_mem : ∀ l : List Form, Form.fits l = true ↔ ∀ f ∈ l, f.fit = true
  | [] => by rw [Form.fits]; simp
  | f :: l => by rw [Form.fits, Bool.and_eq_true, fits_mem l]; simp
theorem sizes_mul {c : Nat} : ∀ l : List Form, (∀ f ∈ l, f.size ≤ c) → Form.sizes l ≤ l.length * c
  | [], _ => by rw [Form.sizes]; omega
  | f :: l, h => by
    rw [Form.sizes, List.length_cons, Nat.add_mul, Nat.one_mul]
    have h1 := h f (by simp)
    have h2 := sizes_mul l fun g hg => h g (by simp [hg])
    omega

theorem lkpN_or (env : List Bind) (w : Str) : ∀ i, i ≤ env.length → lkpN env w i = w ∨ ∃ b ∈ env, lkpN env w i = b.to
  | 0, _ => .inl rfl
  | i + 1, h => by
    rw [lkpN]
    split
    · refine .inr ⟨env.getD i default, ?_, rfl⟩
      rw [List.getD_eq_getElem?_getD, List.getElem?_eq_getElem (by omega)]
      exact List.getElem_mem _
    · exact lkpN_or env w i (by omega)
theorem lkp_or (env : List Bind) (w : Str) : lkp env w = w ∨ ∃ b ∈ env, lkp env w = b.to := lkpN_or env w _ (Nat.le_refl _)
mutual
theorem ren_size (g : Nat → Str × Nat) : ∀ (f : Form) (env : List Bind) (n : Nat), (ren g f env n).1.size = f.size
  | .mk k nm ws s, env, n => by
    rw [ren]
    split
    · rw [Form.size, Form.size, rens_size g s]
    · rw [Form.size, Form.size, rens_size g s]
theorem rens_size (g : Nat → Str × Nat) : ∀ (fs : List Form) (env : List Bind) (n : Nat), Form.sizes (rens g fs env n).1 = Form.sizes fs
  | [], env, n => by rw [rens]
  | f :: fs, env, n => by rw [rens, Form.sizes, Form.sizes, ren_size g f, rens_size g fs]
end
mutual
theorem ren_fit (g : Nat → Str × Nat) : ∀ (f : Form) (env : List Bind) (n : Nat), (ren g f env n).1.fit = f.fit
  | .mk k nm ws s, env, n => by
    rw [ren]
    split
    · rw [Form.fit, Form.fit, rens_fit g s, List.length_map, rens_len]
    · rw [Form.fit, Form.fit, rens_fit g s, List.length_map, rens_len]
theorem rens_fit (g : Nat → Str × Nat) : ∀ (fs : List Form) (env : List Bind) (n : Nat), Form.fits (rens g fs env n).1 = Form.fits fs
  | [], env, n => by rw [rens]
  | f :: fs, env, n => by rw [rens, Form.fits, Form.fits, ren_fit g f, rens_fit g fs]
end
theorem map_clean {env : List Bind} {ws : List Str} (h : ∀ w ∈ ws, ¬ bang w) (he : ∀ b ∈ env, ¬ bang b.to) : ∀ w ∈ ws.map (lkp env), ¬ bang w := by
  intro w hw
  obtain ⟨x, hx, rfl⟩ := List.mem_map.1 hw
  rcases lkp_or env x with e | ⟨b, hb, e⟩
  · rw [e]; exact h x hx
  · rw [e]; exact he b hb
mutual
theorem ren_clean {g : Nat → Str × Nat} (hg : ∀ k, ¬ bang (g k).1) : ∀ (f : Form) (env : List Bind) (n : Nat), clean f → (∀ b ∈ env, ¬ bang b.to) → clean (ren g f env n).1
  | .mk k nm ws s, env, n, h, he => by
    rw [clean] at h
    rw [ren]
    split
    · rw [clean]
      refine ⟨map_clean h.1 he, rens_clean hg s _ _ h.2 fun b hb => ?_⟩
      rcases List.mem_append.1 hb with hb | hb
      · exact he b hb
      · rw [List.mem_singleton.1 hb]; exact hg n
    · rw [clean]
      exact ⟨map_clean h.1 he, rens_clean hg s _ _ h.2 he⟩
theorem rens_clean {g : Nat → Str × Nat} (hg : ∀ k, ¬ bang (g k).1) : ∀ (fs : List Form) (env : List Bind) (n : Nat), cleans fs → (∀ b ∈ env, ¬ bang b.to) → cleans (rens g fs env n).1
  | [], env, n, _, _ => by rw [rens, cleans]; trivial
  | f :: fs, env, n, h, he => by
    rw [cleans] at h
    rw [rens, cleans]
    exact ⟨ren_clean hg f _ _ h.1 he, rens_clean hg fs _ _ h.2 he⟩
end
theorem canonM_size (f : Form) (env : List Bind) : (canonM f env).size = f.size := ren_size _ f env 0
theorem canonM_fit (f : Form) (env : List Bind) : (canonM f env).fit = f.fit := ren_fit _ f env 0
def joinM (k : Int) : List Form → Form
  | [] => .mk 0 ⟨[]⟩ [] []
  | f :: l => l.foldl (fun a x => .mk k ⟨[]⟩ [] [a, x]) f
theorem foldl_join (k : Int) : ∀ (l : List Form) (f : Form), ((l.foldl (fun a x => Form.mk k ⟨[]⟩ [] [a, x]) f).size = f.size + Form.sizes l + l.length) ∧ ((l.foldl (fun a x => Form.mk k ⟨[]⟩ [] [a, x]) f).fit = (f.fit && Form.fits l)) ∧ (clean (l.foldl (fun a x => Form.mk k ⟨[]⟩ [] [a, x]) f) ↔ clean f ∧ cleans l)
  | [], f => by rw [Form.sizes, Form.fits, cleans]; simp
  | x :: l, f => by
    rw [List.foldl_cons]
    obtain ⟨h1, h2, h3⟩ := foldl_join k l (.mk k ⟨[]⟩ [] [f, x])
    refine ⟨?_, ?_, ?_⟩
    · rw [h1]; simp only [Form.size, Form.sizes, List.length_cons]; omega
    · rw [h2]; simp only [Form.fit, Form.fits, List.length_nil, List.length_cons, Nat.zero_le, decide_true, Bool.true_and, Bool.and_true, Bool.and_assoc]; rfl
    · rw [h3]; simp only [clean, cleans, List.not_mem_nil, false_implies, implies_true, true_and, and_true, and_assoc]
theorem joinM_size (k : Int) (l : List Form) : (joinM k l).size ≤ Form.sizes l + l.length + 1 := by
  cases l with
  | nil => simp only [joinM, Form.size, Form.sizes, List.length_nil]; omega
  | cons f l =>
    have := (foldl_join k l f).1
    show (l.foldl (fun a x => Form.mk k ⟨[]⟩ [] [a, x]) f).size ≤ _
    rw [this, Form.sizes, List.length_cons]; omega
theorem joinM_fit (k : Int) {l : List Form} (h : Form.fits l = true) : (joinM k l).fit = true := by
  cases l with
  | nil => simp only [joinM, Form.fit, Form.fits, List.length_nil, Nat.zero_le, decide_true, Bool.true_and]
  | cons f l =>
    show (l.foldl (fun a x => Form.mk k ⟨[]⟩ [] [a, x]) f).fit = _
    rw [(foldl_join k l f).2.1]; rwa [Form.fits] at h
def zeroF : Form := .mk 0 ⟨[]⟩ [] []
end Go.Abs
