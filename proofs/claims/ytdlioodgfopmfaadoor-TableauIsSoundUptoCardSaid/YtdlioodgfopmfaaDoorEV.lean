import Derived.Test.YtdlioodgfopmfaaDoorAL
set_option linter.unusedSimpArgs false
namespace Go.Abs
open Go

mutual
def wfE : Form → Prop
  | .mk k nm _ s => (k = 5 → s.length = 2) ∧ (k = 9 → s.length = 1) ∧ (k = 2 → nm.l ≠ []) ∧ wfEs s
def wfEs : List Form → Prop
  | [] => True
  | f :: fs => wfE f ∧ wfEs fs
end
mutual
theorem chk_wfE {op : Bool} : ∀ (f : Form) (d : Int) (n : Nat), (chk op f d n).1.code = 0 → wfE f
  | .mk k nm w s, d, n, h => by
    rw [chk] at h
    split at h
    · rename_i h1; exact absurd h h1
    · rename_i h1
      have h2 := nodeC_words (Decidable.not_not.1 h1)
      have h3 := h2.2.2.2.2
      simp only [form_subs] at h3
      rw [wfE]
      refine ⟨fun e => ?_, fun e => ?_, fun e => ?_, chks_wfE s _ _ h⟩
      · subst e
        have : partsK op (Form.mk 5 nm w s) = 2 := by simp [partsK, subsK, form_kind]
        omega
      · subst e
        have : partsK op (Form.mk 9 nm w s) = 1 := by simp [partsK, subsK, form_kind]
        omega
      · have hn := h2.2.1 (by unfold named; exact decide_eq_true (.inl e))
        simp only [form_name] at hn
        unfold isName at hn
        have := (of_decide_eq_true hn).1
        intro e2; rw [e2] at this; simp at this
theorem chks_wfE {op : Bool} : ∀ (fs : List Form) (d : Int) (n : Nat), (chks op fs d n).1.code = 0 → wfEs fs
  | [], d, n, _ => by rw [wfEs]; trivial
  | f :: fs, d, n, h => by
    rw [chks] at h
    split at h
    · rename_i h1; exact absurd h h1
    · rename_i h1
      rw [wfEs]
      exact ⟨chk_wfE f d n (Decidable.not_not.1 h1), chks_wfE fs d _ h⟩
end
mutual
def listM : Form → List Form
  | .mk k nm ws s => if k = 5 ∧ s.length = 2 then listMs s else [.mk k nm ws s]
def listMs : List Form → List Form
  | [] => []
  | f :: fs => listM f ++ fs
end
theorem listM_and {f a b : Form} (hk : f.kind = 5) (hs : f.subs = [a, b]) : listM f = listM a ++ [b] := by
  cases f with
  | mk k nm ws s =>
    simp only [form_kind, form_subs] at hk hs
    subst hk hs
    rw [listM, if_pos ⟨rfl, rfl⟩, listMs]
theorem listM_one {f : Form} (h : ¬ (f.kind = 5 ∧ f.subs.length = 2)) : listM f = [f] := by
  cases f with
  | mk k nm ws s =>
    simp only [form_kind, form_subs] at h
    rw [listM, if_neg h]
def defF : Form := .mk 0 ⟨[]⟩ [] []
def partsE (f : Form) : List Form := listM (f.subs.getD 0 defF)
def headE (f : Form) : Form := (partsE f).getD 0 defF
def okE (f : Form) : Bool := decide (f.kind = 9) && decide ((headE f).kind = 2) && decide ((headE f).words.length = 1) && decide ((headE f).words.getD 0 ⟨[]⟩ = f.name)
def argS (i : Nat) : Str := ⟨97 :: 114 :: 103 :: digits (i + 1)⟩
def goodE (f : Form) (i : Nat) (x : Form) : Bool := decide (x.kind = 2) && decide (x.name = argS i) && decide (x.words.length = 2) && decide (x.words.getD 0 ⟨[]⟩ = f.name) && !decide (x.words.getD 1 ⟨[]⟩ = f.name)
def goodN (f : Form) : Nat → Bool
  | 0 => true
  | i + 1 => goodN f i && goodE f i ((partsE f).getD (i + 1) defF)
def wordsN (f : Form) (i : Nat) : List Str := (List.range i).map fun j => ((partsE f).getD (j + 1) defF).words.getD 1 ⟨[]⟩
def mergeOk (f : Form) : Bool := okE f && decide (2 ≤ (partsE f).length) && decide ((partsE f).length ≤ 4) && goodN f ((partsE f).length - 1)
def mergeBy (f : Form) : Form := if mergeOk f then .mk 2 (headE f).name (wordsN f ((partsE f).length - 1)) [] else f
mutual
def changeM (by' : Form → Form) : Form → Form
  | .mk k nm ws s => by' (.mk k nm ws (changeMs by' s))
def changeMs (by' : Form → Form) : List Form → List Form
  | [] => []
  | f :: fs => changeM by' f :: changeMs by' fs
end
theorem changeMs_map (by' : Form → Form) : ∀ l : List Form, changeMs by' l = l.map (changeM by')
  | [] => by rw [changeMs]; rfl
  | f :: l => by rw [changeMs, changeMs_map by' l]; rfl
theorem changeM_eq (by' : Form → Form) (f : Form) : changeM by' f = by' (.mk f.kind f.name f.words (f.subs.map (changeM by'))) := by cases f; rw [changeM, changeMs_map]; rfl
theorem goodN_at {f : Form} : ∀ {n i : Nat}, goodN f n = true → i < n → goodE f i ((partsE f).getD (i + 1) defF) = true
  | n + 1, i, h, hi => by
    rw [goodN, Bool.and_eq_true] at h
    rcases Nat.lt_or_ge i n with h1 | h1
    · exact goodN_at h.1 h1
    · obtain rfl : i = n := by omega
      exact h.2
theorem okE_kind {f : Form} (h : okE f = true) : f.kind = 9 ∧ (headE f).kind = 2 := by
  unfold okE at h
  simp only [Bool.and_eq_true, decide_eq_true_eq] at h
  exact ⟨h.1.1.1, h.1.1.2⟩
theorem mergeOk_ok {f : Form} (h : mergeOk f = true) : okE f = true := by
  unfold mergeOk at h
  simp only [Bool.and_eq_true] at h
  exact h.1.1.1
mutual
theorem changeM_wfE {by' : Form → Form} (hb : ∀ f, wfE f → wfE (by' f)) : ∀ f : Form, wfE f → wfE (changeM by' f)
  | .mk k nm ws s, h => by
    rw [wfE] at h
    rw [changeM]
    refine hb _ ?_
    rw [wfE, changeMs_map, List.length_map]
    refine ⟨h.1, h.2.1, h.2.2.1, ?_⟩
    rw [← changeMs_map]
    exact changeMs_wfE hb s h.2.2.2
theorem changeMs_wfE {by' : Form → Form} (hb : ∀ f, wfE f → wfE (by' f)) : ∀ fs : List Form, wfEs fs → wfEs (changeMs by' fs)
  | [], _ => by rw [changeMs, wfEs]; trivial
  | f :: fs, h => by rw [wfEs] at h; rw [changeMs, wfEs]; exact ⟨changeM_wfE hb f h.1, changeMs_wfE hb fs h.2⟩
end
theorem mergeBy_size (f : Form) : (mergeBy f).size ≤ f.size := by
  unfold mergeBy
  split
  · have := f.size_pos; simp only [Form.size, Form.sizes]; omega
  · exact Nat.le_refl _
mutual
theorem changeM_size {by' : Form → Form} {c : Nat} (hb : ∀ f, (by' f).size ≤ f.size + c) : ∀ f : Form, (changeM by' f).size ≤ f.size * (c + 1)
  | .mk k nm ws s => by
    rw [changeM]
    have h1 := hb (.mk k nm ws (changeMs by' s))
    have h2 := changeMs_size hb s
    rw [Form.size] at h1 ⊢
    rw [Nat.add_mul, Nat.one_mul]
    omega
theorem changeMs_size {by' : Form → Form} {c : Nat} (hb : ∀ f, (by' f).size ≤ f.size + c) : ∀ fs : List Form, Form.sizes (changeMs by' fs) ≤ Form.sizes fs * (c + 1)
  | [] => by rw [changeMs, Form.sizes]; omega
  | f :: fs => by
    rw [changeMs, Form.sizes, Form.sizes, Nat.add_mul]
    have h1 := changeM_size hb f
    have h2 := changeMs_size hb fs
    omega
end
mutual
theorem changeM_fit {by' : Form → Form} (hb : ∀ f, f.fit = true → (by' f).fit = true) : ∀ f : Form, f.fit = true → (changeM by' f).fit = true
  | .mk k nm ws s, h => by
    rw [Form.fit] at h
    simp only [Bool.and_eq_true] at h
    rw [changeM]
    refine hb _ ?_
    rw [Form.fit, changeMs_map, List.length_map, ← changeMs_map, changeMs_fit hb s h.2, h.1.1, h.1.2]
    rfl
theorem changeMs_fit {by' : Form → Form} (hb : ∀ f, f.fit = true → (by' f).fit = true) : ∀ fs : List Form, Form.fits fs = true → Form.fits (changeMs by' fs) = true
  | [], _ => by rw [changeMs, Form.fits]
  | f :: fs, h => by rw [Form.fits, Bool.and_eq_true] at h; rw [changeMs, Form.fits, changeM_fit hb f h.1, changeMs_fit hb fs h.2]; rfl
end
mutual
theorem changeM_allW {by' : Form → Form} {p : Str → Prop} (hb : ∀ f, wfE f → allW p f → allW p (by' f)) (hw : ∀ f, wfE f → wfE (by' f)) : ∀ f : Form, wfE f → allW p f → allW p (changeM by' f)
  | .mk k nm ws s, h2, h => by
    have h3 := h2
    rw [wfE] at h3
    rw [allW] at h
    rw [changeM]
    refine hb _ ?_ ?_
    · rw [wfE, changeMs_map, List.length_map]
      refine ⟨h3.1, h3.2.1, h3.2.2.1, ?_⟩
      rw [← changeMs_map]
      exact changeMs_wfE hw s h3.2.2.2
    · rw [allW]; exact ⟨h.1, h.2.1, changeMs_allW hb hw s h3.2.2.2 h.2.2⟩
theorem changeMs_allW {by' : Form → Form} {p : Str → Prop} (hb : ∀ f, wfE f → allW p f → allW p (by' f)) (hw : ∀ f, wfE f → wfE (by' f)) : ∀ fs : List Form, wfEs fs → allWs p fs → allWs p (changeMs by' fs)
  | [], _, _ => by rw [changeMs, allWs]; trivial
  | f :: fs, h2, h => by rw [allWs] at h; rw [wfEs] at h2; rw [changeMs, allWs]; exact ⟨changeM_allW hb hw f h2.1 h.1, changeMs_allW hb hw fs h2.2 h.2⟩
end
def qM : Str := ⟨[63]⟩
def dM : Str := ⟨[36]⟩
def splitF (v : Str) (nm : Str) (ws : List Str) : Form := .mk 9 v [] [joinM 5 (.mk 2 nm [v] [] :: (List.range ws.length).map fun i => .mk 2 (argS i) [v, ws.getD i ⟨[]⟩] [])]
def splitBy (v : Str) (ps : List Str) (f : Form) : Form := if f.kind = 2 ∧ 0 < f.words.length ∧ f.name ∈ ps then splitF v f.name f.words else f
theorem splitBy_mk (v : Str) (ps : List Str) (k : Int) (nm : Str) (ws : List Str) (s : List Form) : splitBy v ps (.mk k nm ws s) = if k = 2 ∧ 0 < ws.length ∧ nm ∈ ps then splitF v nm ws else .mk k nm ws s := rfl
theorem splitF_map (nm : Str) (ws : List Str) (h : ∀ w ∈ ws, sg w = w) : mapF sg (splitF qM nm ws) = splitF dM nm ws := by
  have e : sg qM = dM := rfl
  have hh : (Form.mk 2 nm [qM] [] :: (List.range ws.length).map fun i => Form.mk 2 (argS i) [qM, ws.getD i ⟨[]⟩] []).map (mapF sg) = Form.mk 2 nm [dM] [] :: (List.range ws.length).map fun i => Form.mk 2 (argS i) [dM, ws.getD i ⟨[]⟩] [] := by
    rw [List.map_cons, List.map_map]
    congr 1
    refine List.map_congr_left fun i hi => ?_
    have hi := List.mem_range.1 hi
    have hm : ws.getD i ⟨[]⟩ ∈ ws := by
      rw [List.getD_eq_getElem?_getD, List.getElem?_eq_getElem hi]
      exact List.getElem_mem _
    show mapF sg (Form.mk 2 (argS i) [qM, ws.getD i ⟨[]⟩] []) = _
    rw [mapF, if_neg (by decide), List.map_cons, List.map_cons, List.map_nil, e, h _ hm, mapFs]
  unfold splitF
  rw [mapF, mapFs, mapFs, joinM_map sg 5 (by decide), hh, if_pos (show isQ 9 from .inr rfl), e, List.map_nil]
mutual
theorem split_map (ps : List Str) : ∀ f : Form, allW (fun w => sg w = w) f → changeM (splitBy dM ps) f = mapF sg (changeM (splitBy qM ps) f)
  | .mk k nm ws s, h => by
    have h2 := h
    rw [allW] at h
    rw [changeM, changeM, split_maps ps s h.2.2]
    rw [splitBy_mk, splitBy_mk]
    split
    · rw [splitF_map nm ws h.1]
    · rw [mapF]
      congr 1
      · by_cases hq : isQ k
        · rw [if_pos hq]; exact (h.2.1 hq).symm
        · rw [if_neg hq]
      · conv => lhs; rw [← List.map_id ws]
        exact List.map_congr_left fun w hw => (h.1 w hw).symm
theorem split_maps (ps : List Str) : ∀ fs : List Form, allWs (fun w => sg w = w) fs → changeMs (splitBy dM ps) fs = mapFs sg (changeMs (splitBy qM ps) fs)
  | [], _ => by rw [changeMs, changeMs, mapFs]
  | f :: fs, h => by rw [allWs] at h; rw [changeMs, changeMs, mapFs, split_map ps f h.1, split_maps ps fs h.2]
end
def swP (x : Str) : Prop := (x.l.head? = some 63 → x = qM) ∧ x.l.head? ≠ some 36 ∧ ¬ bang x
theorem swP_name {x : Str} (h : isName x = true) : swP x := by
  have := lwP_name (n := 0) h
  exact ⟨fun e => by obtain ⟨i, hi, _⟩ := this.1 e; omega, this.2⟩
theorem swP_q : swP qM := ⟨fun _ => rfl, by simp [qM], by simp [bang, qM]⟩
theorem getD_mem {ws : List Str} {i : Nat} (h : i < ws.length) : ws.getD i ⟨[]⟩ ∈ ws := by
  rw [List.getD_eq_getElem?_getD, List.getElem?_eq_getElem h]
  exact List.getElem_mem _
theorem splitF_allW {nm : Str} {ws : List Str} (h : ∀ w ∈ ws, swP w) : allW swP (splitF qM nm ws) := by
  unfold splitF
  simp only [allW, allWs]
  refine ⟨by simp, fun _ => swP_q, joinM_allW swP 5 (by decide) ((allWs_mem _ _).2 fun g hg => ?_), trivial⟩
  rcases List.mem_cons.1 hg with rfl | hg
  · rw [allW, allWs]
    exact ⟨fun w hw => by rw [List.mem_singleton.1 hw]; exact swP_q, fun e => absurd e (by decide), trivial⟩
  · obtain ⟨i, hi, rfl⟩ := List.mem_map.1 hg
    have hi := List.mem_range.1 hi
    rw [allW, allWs]
    refine ⟨fun w hw => ?_, fun e => absurd e (by decide), trivial⟩
    simp only [List.mem_cons, List.not_mem_nil, or_false] at hw
    rcases hw with rfl | rfl
    · exact swP_q
    · exact h _ (getD_mem hi)
mutual
theorem split_allW (ps : List Str) : ∀ f : Form, allW (fun w => isName w = true) f → allW swP (changeM (splitBy qM ps) f)
  | .mk k nm ws s, h => by
    rw [allW] at h
    rw [changeM]
    rw [splitBy_mk]
    split
    · exact splitF_allW fun w hw => swP_name (h.1 w hw)
    · rw [allW]
      exact ⟨fun w hw => swP_name (h.1 w hw), fun hq => swP_name (h.2.1 hq), split_allWs ps s h.2.2⟩
theorem split_allWs (ps : List Str) : ∀ fs : List Form, allWs (fun w => isName w = true) fs → allWs swP (changeMs (splitBy qM ps) fs)
  | [], _ => by rw [changeMs, allWs]; trivial
  | f :: fs, h => by rw [allWs] at h; rw [changeMs, allWs]; exact ⟨split_allW ps f h.1, split_allWs ps fs h.2⟩
end
mutual
theorem split_free (ps : List Str) : ∀ (f : Form) (bd : List Str) (x : Str), allW (fun w => isName w = true) f → x ∈ cst (changeM (splitBy qM ps) f) bd → x ≠ qM
  | .mk k nm ws s, bd, x, h, hx => by
    rw [allW] at h
    rw [changeM] at hx
    rw [splitBy_mk] at hx
    split at hx
    · unfold splitF at hx
      rw [cst, if_pos (show isQ 9 from .inr rfl), csts, csts] at hx
      simp only [List.filter_nil, List.nil_append, List.append_nil] at hx
      have := cst_notin _ _ _ hx
      intro e
      exact this (by rw [e]; simp)
    · rw [cst, List.mem_append] at hx
      rcases hx with hx | hx
      · have := h.1 x (List.mem_filter.1 hx).1
        intro e
        rw [e] at this
        exact absurd this (by decide)
      · exact split_frees ps s _ x h.2.2 hx
theorem split_frees (ps : List Str) : ∀ (fs : List Form) (bd : List Str) (x : Str), allWs (fun w => isName w = true) fs → x ∈ csts (changeMs (splitBy qM ps) fs) bd → x ≠ qM
  | [], bd, x, _, hx => by rw [changeMs, csts] at hx; simp at hx
  | f :: fs, bd, x, h, hx => by
    rw [allWs] at h
    rw [changeMs, csts, List.mem_append] at hx
    rcases hx with hx | hx
    · exact split_free ps f bd x h.1 hx
    · exact split_frees ps fs bd x h.2 hx
end
theorem splitF_size (v nm : Str) (ws : List Str) : (splitF v nm ws).size ≤ 2 * ws.length + 4 ∧ (splitF v nm ws).fit = true := by
  unfold splitF
  have h1 := joinM_size 5 (.mk 2 nm [v] [] :: (List.range ws.length).map fun i => .mk 2 (argS i) [v, ws.getD i ⟨[]⟩] [])
  have hl : ∀ g ∈ (Form.mk 2 nm [v] [] :: (List.range ws.length).map fun i => Form.mk 2 (argS i) [v, ws.getD i ⟨[]⟩] []), g.size ≤ 1 ∧ g.fit = true := fun g hg => by
    rcases List.mem_cons.1 hg with rfl | hg
    · exact ⟨by simp [Form.size, Form.sizes], by simp [Form.fit, Form.fits]⟩
    · obtain ⟨i, _, rfl⟩ := List.mem_map.1 hg
      exact ⟨by simp [Form.size, Form.sizes], by simp [Form.fit, Form.fits]⟩
  have h2 := sizes_mul (c := 1) _ fun g hg => (hl g hg).1
  have h3 := joinM_fit 5 ((fits_mem _).2 fun g hg => (hl g hg).2)
  rw [List.length_cons, List.length_map, List.length_range] at h1 h2
  refine ⟨by simp only [Form.size, Form.sizes]; omega, ?_⟩
  rw [Form.fit, Form.fits, Form.fits, h3]; rfl
theorem splitBy_fit {v : Str} {ps : List Str} {f : Form} (h : f.fit = true) : (splitBy v ps f).fit = true := by
  unfold splitBy; split
  · exact (splitF_size _ _ _).2
  · exact h
end Go.Abs
