import Derived.Test.YtbbjghecpcobjaaDoorAE
set_option linter.unusedSimpArgs false
namespace Go.Abs
open Go

/-! ## modifiers of events -/
def modP (mod : Str) (f : Form) : Form := .mk 2 mod [f.name] []
/-- is it an event of that name? -/
def isE (nm : Str) (f : Form) : Bool := okE f && decide ((headE f).name = nm)
/-- the parts without the modifier -/
def keepE (mod : Str) (f : Form) : List Form := headE f :: ((partsE f).drop 1).filter fun x => !decide (x = modP mod f)
def modBy (nm mod : Str) (f : Form) : Form := if isE nm f = true then .mk 9 f.name [] [.mk 5 ⟨[]⟩ [] [f.subs.getD 0 defF, modP mod f]] else f
def dropBy (nm mod : Str) (f : Form) : Form := if isE nm f = true then .mk 9 f.name [] [joinM 5 (keepE mod f)] else f
/-- what the document drops -/
def gone (drop : Bool) (mod : Str) (f x : Form) : Bool := drop && decide (x.kind = 2) && decide (x.name = mod) && decide (x.words.length = 1) && decide (x.words.getD 0 ⟨[]⟩ = f.name)
def keepD (drop : Bool) (mod : Str) (f : Form) : List Form := headE f :: ((partsE f).drop 1).filter fun x => !gone drop mod f x
def docBy (drop : Bool) (nm mod : Str) (f : Form) : Form := if isE nm f = true then .mk f.kind f.name f.words [joinM 5 (keepD drop mod f ++ if drop then [] else [modP mod f])] else f
theorem isE_ok {nm : Str} {f : Form} (h : isE nm f = true) : okE f = true ∧ (headE f).name = nm := by
  unfold isE at h
  simp only [Bool.and_eq_true, decide_eq_true_eq] at h
  exact h
theorem isE_other {nm : Str} {f : Form} (h : f.kind ≠ 9) : isE nm f = false := by
  cases hi : isE nm f with
  | false => rfl
  | true => exact absurd (okE_kind (isE_ok hi).1).1 h

/-! what is well formed -/
theorem shp_eq {op : Bool} {f : Form} : shp op f ↔ nodeS op f ∧ shps op f.subs := by cases f; rw [shp]; rfl
theorem shp_sub {op : Bool} {f : Form} (h : shp op f) : ∀ g ∈ f.subs, shp op g := (shps_mem _).1 (shp_eq.1 h).2
theorem shp_nine {nm : Str} {ws : List Str} {s : List Form} (h : shp false (.mk 9 nm ws s)) : ws = [] ∧ ∃ a, s = [a] ∧ shp false a := by
  rw [shp] at h
  have h1 := h.1.1
  have h2 := h.1.2.1
  rw [show partsK false (.mk 9 nm ws s) = 1 from rfl] at h1
  rw [show wordsOk (.mk 9 nm ws s) = decide (ws.length = 0) from rfl] at h2
  simp only [form_subs] at h1
  obtain ⟨a, rfl⟩ := one_of (s := s) (by omega)
  rw [shps] at h
  exact ⟨List.eq_nil_of_length_eq_zero (of_decide_eq_true h2), a, rfl, h.2.1⟩
theorem shp_five {nm : Str} {ws : List Str} {s : List Form} (h : shp false (.mk 5 nm ws s)) : nm = ⟨[]⟩ ∧ ws = [] ∧ ∃ a b, s = [a, b] ∧ shp false a ∧ shp false b := by
  rw [shp] at h
  have h1 := h.1.1
  have h2 := h.1.2.1
  have h3 := h.1.2.2.2 rfl
  rw [show partsK false (.mk 5 nm ws s) = 2 from rfl] at h1
  rw [show wordsOk (.mk 5 nm ws s) = decide (ws.length = 0) from rfl] at h2
  simp only [form_subs] at h1
  obtain ⟨a, b, rfl⟩ := two_of (s := s) (by omega)
  rw [shps, shps] at h
  exact ⟨h3, List.eq_nil_of_length_eq_zero (of_decide_eq_true h2), a, b, rfl, h.2.1, h.2.2.1⟩
theorem shp_two {nm : Str} {ws : List Str} {s : List Form} (h : shp false (.mk 2 nm ws s)) : s = [] := by
  rw [shp] at h
  have h1 := h.1.1
  rw [show partsK false (.mk 2 nm ws s) = 0 from rfl] at h1
  simp only [form_subs] at h1
  exact List.eq_nil_of_length_eq_zero (by omega)
theorem listM_shp {f : Form} (h : shp false f) : ∀ g ∈ listM f, shp false g := listM_all (fun _ h => shp_sub h) f.size f (Nat.le_refl _) h
/-! the parts of a conjunction, and the conjunction of parts -/
theorem listM_fold : ∀ (l : List Form) (f : Form), listM (l.foldl (fun a x => Form.mk 5 ⟨[]⟩ [] [a, x]) f) = listM f ++ l
  | [], f => by simp
  | x :: l, f => by rw [List.foldl_cons, listM_fold l _, listM_and (a := f) (b := x) rfl rfl]; simp
theorem listM_ne (f : Form) : listM f ≠ [] := by
  have := (listM_len f.size f (Nat.le_refl _)).1
  intro h; rw [h] at this; simp at this
theorem listM_cons (f : Form) : listM f = (listM f).getD 0 defF :: (listM f).drop 1 := by
  cases h : listM f with
  | nil => exact absurd h (listM_ne f)
  | cons x l => rfl
theorem listM_head5 : ∀ (n : Nat) (f : Form), f.size ≤ n → listM ((listM f).getD 0 defF) = [(listM f).getD 0 defF] := by
  intro n
  induction n with
  | zero => intro f h; have := f.size_pos; omega
  | succ n ih =>
    intro f hn
    by_cases hk : f.kind = 5 ∧ f.subs.length = 2
    · obtain ⟨a, b, hs⟩ := two_of hk.2
      have h1 := Form.size_sub (f := f) (g := a) (by rw [hs]; simp)
      have h2 := ih a (by omega)
      rw [listM_and hk.1 hs, listM_cons a]
      exact h2
    · rw [listM_one hk]
      exact listM_one hk
theorem join_list : ∀ (n : Nat) (f : Form), f.size ≤ n → shp false f → joinM 5 (listM f) = f := by
  intro n
  induction n with
  | zero => intro f h; have := f.size_pos; omega
  | succ n ih =>
    intro f hn h
    by_cases hk : f.kind = 5 ∧ f.subs.length = 2
    · cases f with
      | mk k nm ws s =>
        obtain ⟨rfl, _⟩ := hk
        obtain ⟨rfl, rfl, a, b, rfl, ha, hb⟩ := shp_five h
        have h1 := Form.size_sub (f := .mk 5 ⟨[]⟩ [] [a, b]) (g := a) (by simp [form_subs])
        rw [listM_and (f := .mk 5 ⟨[]⟩ [] [a, b]) rfl rfl, joinM_snoc 5 (listM_ne a), ih a (by omega) ha]
    · rw [listM_one hk]; rfl
theorem list_join (l : List Form) (f : Form) (h : listM f = [f]) : listM (joinM 5 (f :: l)) = f :: l := by
  show listM (l.foldl (fun a x => Form.mk 5 ⟨[]⟩ [] [a, x]) f) = _
  rw [listM_fold, h]; rfl
theorem fold_depth : ∀ (l : List Form) (f f' : Form), f.depth ≤ f'.depth → (l.foldl (fun a x => Form.mk 5 ⟨[]⟩ [] [a, x]) f).depth ≤ (l.foldl (fun a x => Form.mk 5 ⟨[]⟩ [] [a, x]) f').depth
  | [], _, _, h => h
  | x :: l, f, f', h => by
    rw [List.foldl_cons, List.foldl_cons]
    refine fold_depth l _ _ ?_
    simp only [Form.depth, Form.depths]
    omega
theorem filter_depth (p : Form → Bool) : ∀ (l : List Form) (f : Form), ((l.filter p).foldl (fun a x => Form.mk 5 ⟨[]⟩ [] [a, x]) f).depth ≤ (l.foldl (fun a x => Form.mk 5 ⟨[]⟩ [] [a, x]) f).depth
  | [], f => Nat.le_refl _
  | x :: l, f => by
    rw [List.filter_cons, List.foldl_cons]
    split
    · rw [List.foldl_cons]; exact filter_depth p l _
    · refine Nat.le_trans (filter_depth p l f) (fold_depth l _ _ ?_)
      rw [Form.depth, Form.depths]; omega
theorem filter_sizes (p : Form → Bool) : ∀ l : List Form, Form.sizes (l.filter p) + (l.filter p).length ≤ Form.sizes l + l.length
  | [] => Nat.le_refl _
  | x :: l => by
    have := filter_sizes p l
    rw [List.filter_cons]
    split
    · rw [Form.sizes, Form.sizes, List.length_cons, List.length_cons]; omega
    · rw [Form.sizes, List.length_cons]; omega
theorem fold_size (l : List Form) (f : Form) : (l.foldl (fun a x => Form.mk 5 ⟨[]⟩ [] [a, x]) f).size = f.size + Form.sizes l + l.length := (foldl_join 5 l f).1
theorem lst_size : ∀ (n : Nat) (f : Form), f.size ≤ n → Form.sizes (listM f) + (listM f).length = f.size + 1 := by
  intro n
  induction n with
  | zero => intro f h; have := f.size_pos; omega
  | succ n ih =>
    intro f hn
    by_cases hk : f.kind = 5 ∧ f.subs.length = 2
    · obtain ⟨a, b, hs⟩ := two_of hk.2
      have h1 := Form.size_sub (f := f) (g := a) (by rw [hs]; simp)
      have h2 := ih a (by omega)
      have h3 : f.size = a.size + b.size + 1 := by
        cases f; simp only [form_subs] at hs; subst hs; rw [Form.size, Form.sizes, Form.sizes, Form.sizes]; omega
      rw [listM_and hk.1 hs, Form.sizes_app, List.length_append, List.length_singleton, Form.sizes, Form.sizes]
      omega
    · rw [listM_one hk, Form.sizes, Form.sizes]; rfl
theorem lst_depth : ∀ (n : Nat) (f : Form), f.size ≤ n → (joinM 5 (listM f)).depth = f.depth := by
  intro n
  induction n with
  | zero => intro f h; have := f.size_pos; omega
  | succ n ih =>
    intro f hn
    by_cases hk : f.kind = 5 ∧ f.subs.length = 2
    · obtain ⟨a, b, hs⟩ := two_of hk.2
      have h1 := Form.size_sub (f := f) (g := a) (by rw [hs]; simp)
      have h2 := ih a (by omega)
      have h3 : f.depth = max a.depth b.depth + 1 := by
        cases f; simp only [form_subs] at hs; subst hs; rw [Form.depth, Form.depths, Form.depths, Form.depths]; omega
      rw [listM_and hk.1 hs, joinM_snoc 5 (listM_ne a), h3, Form.depth, Form.depths, Form.depths, Form.depths, h2]
      omega
    · rw [listM_one hk]; rfl
theorem lst_fit : ∀ (n : Nat) (f : Form), f.size ≤ n → f.fit = true → Form.fits (listM f) = true := fun n f hn h =>
  (fits_mem _).2 (listM_all (p := fun g => g.fit = true) (fun _ h _ hg => Form.fits_mem (Form.fit_eq h).2.2 hg) n f hn h)
/-- an event has a part -/
theorem ok_sub {f : Form} (h : okE f = true) : ∃ a s, f.subs = a :: s := by
  cases hs : f.subs with
  | cons a s => exact ⟨a, s, rfl⟩
  | nil =>
    have h1 := (okE_kind h).2
    unfold headE partsE at h1
    rw [hs] at h1
    exact absurd h1 (by decide)
theorem parts_cons (f : Form) : partsE f = headE f :: (partsE f).drop 1 := listM_cons _
theorem keep_depth (p : Form → Bool) (a : Form) : (joinM 5 ((listM a).getD 0 defF :: ((listM a).drop 1).filter p)).depth ≤ a.depth := by
  refine Nat.le_trans (filter_depth p ((listM a).drop 1) ((listM a).getD 0 defF)) ?_
  have h := lst_depth a.size a (Nat.le_refl _)
  rw [listM_cons a] at h
  exact Nat.le_of_eq h
theorem keep_size (p : Form → Bool) (a : Form) : (joinM 5 ((listM a).getD 0 defF :: ((listM a).drop 1).filter p)).size ≤ a.size := by
  have h1 := fold_size (((listM a).drop 1).filter p) ((listM a).getD 0 defF)
  have h2 := filter_sizes p ((listM a).drop 1)
  have h3 := lst_size a.size a (Nat.le_refl _)
  rw [listM_cons a, Form.sizes, List.length_cons] at h3
  show ((((listM a).drop 1).filter p).foldl (fun a x => Form.mk 5 ⟨[]⟩ [] [a, x]) ((listM a).getD 0 defF)).size ≤ _
  omega
theorem dropBy_size (nm mod : Str) (f : Form) : (dropBy nm mod f).size ≤ f.size := by
  unfold dropBy
  split
  · rename_i h
    obtain ⟨a, s, hs⟩ := ok_sub (isE_ok h).1
    have h1 := keep_size (fun x => !decide (x = modP mod f)) a
    have h2 : a.size + 1 ≤ f.size := by have := Form.size_sub (f := f) (g := a) (by rw [hs]; simp); omega
    have h3 : keepE mod f = (listM a).getD 0 defF :: ((listM a).drop 1).filter fun x => !decide (x = modP mod f) := by unfold keepE headE partsE; rw [hs]; rfl
    rw [← h3] at h1
    rw [Form.size, Form.sizes, Form.sizes]; omega
  · exact Nat.le_refl _
theorem dropBy_depth (nm mod : Str) (f : Form) : (dropBy nm mod f).depth ≤ f.depth := by
  unfold dropBy
  split
  · rename_i h
    obtain ⟨a, s, hs⟩ := ok_sub (isE_ok h).1
    have h1 := keep_depth (fun x => !decide (x = modP mod f)) a
    have h2 : a.depth + 1 ≤ f.depth := by
      cases f; simp only [form_subs] at hs; subst hs; rw [Form.depth, Form.depths]; omega
    have h3 : keepE mod f = (listM a).getD 0 defF :: ((listM a).drop 1).filter fun x => !decide (x = modP mod f) := by unfold keepE headE partsE; rw [hs]; rfl
    rw [← h3] at h1
    rw [Form.depth, Form.depths, Form.depths]; omega
  · exact Nat.le_refl _
theorem keep_mem {mod : Str} {f x : Form} (h : x ∈ keepE mod f) : x ∈ partsE f := by
  rw [parts_cons f]
  unfold keepE at h
  rcases List.mem_cons.1 h with rfl | h
  · simp
  · exact List.mem_cons_of_mem _ (List.mem_filter.1 h).1
theorem parts_fit {f : Form} (h : f.fit = true) : Form.fits (partsE f) = true := by
  unfold partsE
  refine lst_fit _ _ (Nat.le_refl _) ?_
  cases hs : f.subs with
  | nil => rfl
  | cons a s => exact Form.fits_mem (Form.fit_eq h).2.2 (by rw [hs]; simp)
theorem dropBy_fit {nm mod : Str} {f : Form} (h : f.fit = true) : (dropBy nm mod f).fit = true := by
  unfold dropBy
  split
  · rw [Form.fit, Form.fits, Form.fits, joinM_fit 5 ((fits_mem _).2 fun x hx => (fits_mem _).1 (parts_fit h) x (keep_mem hx))]
    rfl
  · exact h
theorem join_wfE : ∀ (l : List Form) (f : Form), wfEs l → wfE f → wfE (l.foldl (fun a x => Form.mk 5 ⟨[]⟩ [] [a, x]) f)
  | [], f, _, h => h
  | x :: l, f, hl, h => by
    rw [wfEs] at hl
    rw [List.foldl_cons]
    refine join_wfE l _ hl.2 ?_
    rw [wfE, wfEs, wfEs, wfEs]
    exact ⟨fun _ => rfl, fun e => absurd e (by decide), fun e => absurd e (by decide), h, hl.1, trivial⟩
theorem dropBy_wfE {nm mod : Str} {f : Form} (h : wfE f) : wfE (dropBy nm mod f) := by
  unfold dropBy
  split
  · rename_i hi
    have hk := (okE_kind (isE_ok hi).1).1
    have hp := partsE_wfE h hk
    rw [wfE, wfEs, wfEs]
    refine ⟨fun e => absurd e (by decide), fun _ => rfl, fun e => absurd e (by decide), ?_, trivial⟩
    exact join_wfE _ _ ((wfEs_mem _).2 fun x hx => hp x (keep_mem (List.mem_cons_of_mem _ hx))) (hp _ (keep_mem (mod := mod) (List.mem_cons_self ..)))
  · exact h
theorem dropBy_shp {nm mod : Str} {f : Form} (h : shp false f) : shp false (dropBy nm mod f) := by
  unfold dropBy
  split
  · rename_i hi
    have hk := (okE_kind (isE_ok hi).1).1
    cases f with
    | mk k n w s =>
      simp only [form_kind] at hk
      subst hk
      obtain ⟨rfl, a, rfl, ha⟩ := shp_nine h
      have hp : ∀ x ∈ partsE (.mk 9 n [] [a]), shp false x := listM_shp ha
      rw [shp, shps, shps]
      refine ⟨⟨rfl, rfl, fun _ h => absurd (.inr rfl) h, fun h => absurd h (by simp [named, form_kind])⟩, ?_, trivial⟩
      exact join_shp _ _ ((shps_mem _).2 fun x hx => hp x (keep_mem (List.mem_cons_of_mem _ hx))) (hp _ (keep_mem (mod := mod) (List.mem_cons_self ..)))
  · exact h
mutual
theorem changeM_shp {by' : Form → Form} (hb : ∀ f, shp false f → shp false (by' f)) : ∀ f : Form, shp false f → shp false (changeM by' f)
  | .mk k nm ws s, h => by
    rw [shp] at h
    rw [changeM]
    refine hb _ ?_
    rw [shp]
    exact ⟨nodeS_ren h.1 rfl (by rw [changeMs_map, List.length_map]) (fun _ => rfl) fun _ => trivial, changeMs_shp hb s h.2⟩
theorem changeMs_shp {by' : Form → Form} (hb : ∀ f, shp false f → shp false (by' f)) : ∀ fs : List Form, shps false fs → shps false (changeMs by' fs)
  | [], _ => by rw [changeMs, shps]; trivial
  | f :: fs, h => by
    rw [shps] at h
    rw [changeMs, shps]
    exact ⟨changeM_shp hb f h.1, changeMs_shp hb fs h.2⟩
end
mutual
/-- two changes that agree on well-formed nodes -/
theorem changeM_congr {b1 b2 : Form → Form} (hb : ∀ f, shp false f → b1 f = b2 f) (hs : ∀ f, shp false f → shp false (b2 f)) : ∀ f : Form, shp false f → changeM b1 f = changeM b2 f
  | .mk k nm ws s, h => by
    rw [shp] at h
    rw [changeM, changeM, changeMs_congr hb hs s h.2]
    refine hb _ ?_
    rw [shp]
    exact ⟨nodeS_ren h.1 rfl (by rw [changeMs_map, List.length_map]) (fun _ => rfl) fun _ => trivial, changeMs_shp hs s h.2⟩
theorem changeMs_congr {b1 b2 : Form → Form} (hb : ∀ f, shp false f → b1 f = b2 f) (hs : ∀ f, shp false f → shp false (b2 f)) : ∀ fs : List Form, shps false fs → changeMs b1 fs = changeMs b2 fs
  | [], _ => by rw [changeMs, changeMs]
  | f :: fs, h => by
    rw [shps] at h
    rw [changeMs, changeMs, changeM_congr hb hs f h.1, changeMs_congr hb hs fs h.2]
end
end Go.Abs
