/- several texts of this proof in one; no conditions -/
import Derived.Test.YtdlioodgfopmfaaDoorZQ120Q1211
import Derived.Test.YtdlioodgfopmfaaDoorBF
import Derived.Test.YtdlioodgfopmfaaDoorAT
import Derived.Test.YtdlioodgfopmfaaDoorY3
import Derived.Test.YtdlioodgfopmfaaDoorTA
import Derived.Test.YtdlioodgfopmfaaDoorTK
set_option linter.unusedSimpArgs false
namespace Go.Proofs.YtdlioodgfopmfaaDoor
open Go Go.Abs Go.Proofs

/-! ## the document's classes are those of the program -/
theorem idxR_snoc (ns : List Str) (a w : Str) : idxR (ns ++ [a]) w = if a = w then (ns.length : Int) else idxR ns w := by
  unfold idxR
  rw [List.zipIdx_append, List.foldl_append]
  simp
/-- the class of a word, -1: none -/
def cvD (p : List Str × List Int) (w : Str) : Int := if idxR p.1 w < 0 then -1 else p.2.getD (idxR p.1 w).toNat 0
theorem valR_eq {ns : List Str} {cs : List Int} (h : ns.length = cs.length) (w : Str) (d : Int) : valR ns cs w d = if idxR ns w < 0 then d else cs.getD (idxR ns w).toNat 0 := by
  have key : ∀ i, i ≤ ns.length → valR (ns.take i) (cs.take i) w d = if idxR (ns.take i) w < 0 then d else cs.getD (idxR (ns.take i) w).toNat 0 := by
    intro i
    induction i with
    | zero => intro _; simp [valR, idxR]
    | succ i ih =>
      intro hi
      rw [valR_take (by omega) (by omega), idxR_take (by omega), ih (by omega)]
      split
      · rw [if_neg (by omega), Int.toNat_natCast, List.getD_eq_getElem?_getD, List.getElem?_eq_getElem (by omega)]; rfl
      · rfl
  have := key ns.length (Nat.le_refl _)
  rwa [List.take_length, show cs.take ns.length = cs by rw [h, List.take_length]] at this
structure RI (p : List Str × List Int) : Prop where
  l : p.1.length = p.2.length
  v : ∀ c ∈ p.2, 0 ≤ c ∧ c < p.1.length
def eqD (p : List Str × List Int) (u v : Str) : Prop := u = v ∨ (0 ≤ cvD p u ∧ cvD p u = cvD p v)
theorem RI.cv {p : List Str × List Int} (h : RI p) {w : Str} (hw : ¬ idxR p.1 w < 0) : 0 ≤ cvD p w ∧ cvD p w < p.1.length := by
  unfold cvD
  rw [if_neg hw]
  have := (idxR_lt p.1 w).2
  have hl := h.l
  rw [List.getD_eq_getElem?_getD, List.getElem?_eq_getElem (by omega), Option.getD_some]
  exact h.v _ (List.getElem_mem _)
theorem RI.bd {p : List Str × List Int} (h : RI p) (w : Str) : -1 ≤ cvD p w ∧ cvD p w < p.1.length := by
  by_cases hw : idxR p.1 w < 0
  · unfold cvD
    rw [if_pos hw]; omega
  · have := h.cv hw; omega
theorem eqR_iff {p : List Str × List Int} (h : RI p) (u v : Str) : eqR p.1 p.2 u v = true ↔ eqD p u v := by
  unfold eqR eqD
  by_cases huv : u = v
  · simp [huv]
  · rw [if_neg huv, decide_eq_true_eq, valR_eq h.l, valR_eq h.l]
    have hu := h.bd u
    have hv := h.bd v
    by_cases h1 : idxR p.1 u < 0
    · rw [if_pos h1]
      have e1 : cvD p u = -1 := by unfold cvD; rw [if_pos h1]
      by_cases h2 : idxR p.1 v < 0
      · rw [if_pos h2, e1]; simp [huv]
      · have := h.cv h2
        have e2 : cvD p v = p.2.getD (idxR p.1 v).toNat 0 := by unfold cvD; rw [if_neg h2]
        rw [if_neg h2, ← e2, e1]
        constructor
        · intro h; omega
        · rintro (h | h)
          · exact absurd h huv
          · omega
    · have e1 : cvD p u = p.2.getD (idxR p.1 u).toNat 0 := by unfold cvD; rw [if_neg h1]
      have := h.cv h1
      rw [if_neg h1, ← e1]
      by_cases h2 : idxR p.1 v < 0
      · have e2 : cvD p v = -1 := by unfold cvD; rw [if_pos h2]
        rw [if_pos h2, e2]
        constructor
        · intro h; omega
        · rintro (h | h)
          · exact absurd h huv
          · omega
      · have e2 : cvD p v = p.2.getD (idxR p.1 v).toNat 0 := by unfold cvD; rw [if_neg h2]
        rw [if_neg h2, ← e2]
        constructor
        · intro h; exact .inr ⟨this.1, h⟩
        · rintro (h | h)
          · exact absurd h huv
          · exact h.2
theorem pw_ri {p : List Str × List Int} (h : RI p) (a : Str) : RI (pwD p a) := by
  unfold pwD
  split
  · refine ⟨by simp [h.l], fun c hc => ?_⟩
    simp only [List.length_append, List.length_singleton]
    rcases List.mem_append.1 hc with hc | hc
    · have := h.v c hc; omega
    · rw [List.mem_singleton.1 hc]; omega
  · exact h
theorem pw_has {p : List Str × List Int} (a : Str) : ¬ idxR (pwD p a).1 a < 0 := by
  unfold pwD
  split
  · simp only
    rw [idxR_snoc, if_pos rfl]; omega
  · assumption
theorem pw_px {p : List Str × List Int} (a : Str) : pxD p.1 a = idxR (pwD p a).1 a := by
  unfold pwD pxD
  split
  · simp only
    rw [idxR_snoc, if_pos rfl]
  · rfl
theorem pw_idx {p : List Str × List Int} {a w : Str} (hw : ¬ idxR p.1 w < 0) : idxR (pwD p a).1 w = idxR p.1 w := by
  unfold pwD
  split
  · rename_i h
    simp only
    rw [idxR_snoc, if_neg fun e => hw (by rw [← e]; exact h)]
  · rfl
theorem pw_cv {p : List Str × List Int} (h : RI p) {a : Str} (ha : idxR p.1 a < 0) (w : Str) : cvD (pwD p a) w = if a = w then (p.1.length : Int) else cvD p w := by
  have e : pwD p a = (p.1 ++ [a], p.2 ++ [(p.1.length : Int)]) := by unfold pwD; rw [if_pos ha]
  rw [e]
  unfold cvD
  simp only
  rw [idxR_snoc]
  by_cases haw : a = w
  · rw [if_pos haw, if_neg (by omega), if_pos haw, Int.toNat_natCast, List.getD_eq_getElem?_getD, h.l, List.getElem?_append_right (Nat.le_refl _)]
    simp
  · rw [if_neg haw, if_neg haw]
    split
    · rfl
    · have := (idxR_lt p.1 w).2
      have hl := h.l
      rw [List.getD_eq_getElem?_getD, List.getD_eq_getElem?_getD, List.getElem?_append_left (by omega)]
theorem pw_eq {p : List Str × List Int} (h : RI p) (a u v : Str) : eqD (pwD p a) u v ↔ eqD p u v := by
  by_cases ha : idxR p.1 a < 0
  · unfold eqD
    rw [pw_cv h ha, pw_cv h ha]
    have hu := h.bd u
    have hv := h.bd v
    have e1 : cvD p a = -1 := by unfold cvD; rw [if_pos ha]
    by_cases h1 : a = u
    · rw [if_pos h1]
      subst h1
      by_cases h2 : a = v
      · simp [h2]
      · rw [if_neg h2, e1]
        constructor
        · rintro (h | h)
          · exact .inl h
          · omega
        · rintro (h | h)
          · exact .inl h
          · omega
    · rw [if_neg h1]
      by_cases h2 : a = v
      · rw [if_pos h2]
        subst h2
        rw [e1]
        constructor
        · rintro (h | h)
          · exact .inl h
          · omega
        · rintro (h | h)
          · exact .inl h
          · omega
      · rw [if_neg h2]
  · have e : pwD p a = p := by unfold pwD; rw [if_neg ha]
    rw [e]
theorem mrg_eq {p : List Str × List Int} (h : RI p) {a b : Str} (ha : ¬ idxR p.1 a < 0) (hb : ¬ idxR p.1 b < 0) (u v : Str) :
    RI (mrg p (idxR p.1 a) (idxR p.1 b)) ∧ (eqD (mrg p (idxR p.1 a) (idxR p.1 b)) u v ↔ (eqD p u v ∨ (eqD p u a ∧ eqD p v b) ∨ (eqD p u b ∧ eqD p v a))) := by
  have ea : p.2.getD (idxR p.1 a).toNat 0 = cvD p a := by unfold cvD; rw [if_neg ha]
  have eb : p.2.getD (idxR p.1 b).toNat 0 = cvD p b := by unfold cvD; rw [if_neg hb]
  have em : mrg p (idxR p.1 a) (idxR p.1 b) = (p.1, p.2.map (recl (cvD p a) (cvD p b))) := by unfold mrg; rw [ea, eb]
  have va := h.cv ha
  have vb := h.cv hb
  have hcv : ∀ w, cvD (mrg p (idxR p.1 a) (idxR p.1 b)) w = recl (cvD p a) (cvD p b) (cvD p w) := fun w => by
    rw [em]
    by_cases hw : idxR p.1 w < 0
    · unfold cvD
      simp only
      rw [if_pos hw, if_pos hw]
      rw [if_neg ha] 
      unfold recl
      rw [if_neg (by rw [ea]; omega)]
    · have hl := h.l
      have := (idxR_lt p.1 w).2
      have e2 : cvD p w = p.2.getD (idxR p.1 w).toNat 0 := by unfold cvD; rw [if_neg hw]
      rw [e2]
      show (if idxR p.1 w < 0 then -1 else (p.2.map (recl (cvD p a) (cvD p b))).getD (idxR p.1 w).toNat 0) = _
      rw [if_neg hw, List.getD_eq_getElem?_getD, List.getElem?_map, List.getD_eq_getElem?_getD, List.getElem?_eq_getElem (by omega)]
      rfl
  refine ⟨?_, ?_⟩
  · rw [em]
    refine ⟨by simp [h.l], fun c hc => ?_⟩
    obtain ⟨d, hd, rfl⟩ := List.mem_map.1 hc
    have := h.v d hd
    simp only
    unfold recl
    split <;> omega
  · unfold eqD
    rw [hcv u, hcv v]
    unfold recl
    have hu := h.bd u
    have hv := h.bd v
    by_cases h1 : cvD p u = cvD p a
    · rw [if_pos h1]
      by_cases h2 : cvD p v = cvD p a
      · rw [if_pos h2]
        constructor
        · intro _; exact .inl (.inr ⟨by omega, by omega⟩)
        · intro _; exact .inr ⟨by omega, rfl⟩
      · rw [if_neg h2]
        constructor
        · rintro (h | ⟨_, h⟩)
          · exact .inl (.inl h)
          · exact .inr (.inl ⟨.inr ⟨by omega, h1⟩, .inr ⟨by omega, h.symm⟩⟩)
        · rintro (h | ⟨_, h⟩ | ⟨h, h'⟩)
          · rcases h with h | h
            · exact .inl h
            · omega
          · rcases h with h | h
            · subst h; exact .inr ⟨by omega, rfl⟩
            · exact .inr ⟨by omega, by omega⟩
          · rcases h' with h' | h'
            · subst h'; exact absurd rfl h2
            · omega
    · rw [if_neg h1]
      by_cases h2 : cvD p v = cvD p a
      · rw [if_pos h2]
        constructor
        · rintro (h | ⟨_, h⟩)
          · exact .inl (.inl h)
          · exact .inr (.inr ⟨.inr ⟨by omega, h⟩, .inr ⟨by omega, h2⟩⟩)
        · rintro (h | ⟨h, _⟩ | ⟨h, _⟩)
          · rcases h with h | h
            · exact .inl h
            · omega
          · rcases h with h | h
            · subst h; exact absurd rfl h1
            · omega
          · rcases h with h | h
            · subst h; exact .inr ⟨by omega, rfl⟩
            · exact .inr ⟨by omega, by omega⟩
      · rw [if_neg h2]
        constructor
        · intro h; exact .inl h
        · rintro (h | ⟨h, _⟩ | ⟨_, h⟩)
          · exact h
          · rcases h with h | h
            · subst h; exact absurd rfl h1
            · omega
          · rcases h with h | h
            · subst h; exact absurd rfl h2
            · omega
theorem cl2_eq {p : List Str × List Int} (h : RI p) (a b u v : Str) : RI (cl2 p a b) ∧ (eqD (cl2 p a b) u v ↔ (eqD p u v ∨ (eqD p u a ∧ eqD p v b) ∨ (eqD p u b ∧ eqD p v a))) := by
  have h1 := pw_ri h a
  have h2 := pw_ri h1 b
  have hx : pxD p.1 a = idxR (pwD (pwD p a) b).1 a := by rw [pw_px, pw_idx (pw_has a)]
  have hy : pxD (pwD p a).1 b = idxR (pwD (pwD p a) b).1 b := pw_px b
  have := mrg_eq h2 (a := a) (b := b) (by rw [pw_idx (pw_has a)]; exact pw_has a) (pw_has b) u v
  unfold cl2
  rw [hx, hy]
  simp only [pw_eq h1, pw_eq h] at this
  exact this
theorem root_eq {c : List Bind} (f : Abs.Form) (hk : f.kind = 3) (u v : Str) : rootM (lnk1 c f) u = rootM (lnk1 c f) v ↔ (rootM c u = rootM c v ∨ (rootM c u = rootM c (f.words.getD 0 ⟨[]⟩) ∧ rootM c v = rootM c (f.words.getD 1 ⟨[]⟩)) ∨ (rootM c u = rootM c (f.words.getD 1 ⟨[]⟩) ∧ rootM c v = rootM c (f.words.getD 0 ⟨[]⟩))) := by
  unfold lnk1
  rw [if_neg (by simp [hk])]
  obtain ⟨A, hA⟩ : ∃ x, rootM c (f.words.getD 0 ⟨[]⟩) = x := ⟨_, rfl⟩
  obtain ⟨B, hB⟩ : ∃ x, rootM c (f.words.getD 1 ⟨[]⟩) = x := ⟨_, rfl⟩
  rw [hA, hB]
  by_cases h : A = B
  · rw [if_pos h]
    subst h
    constructor
    · intro h; exact .inl h
    · rintro (h | ⟨h1, h2⟩ | ⟨h1, h2⟩)
      · exact h
      · rw [h1, h2]
      · rw [h1, h2]
  · rw [if_neg h, rootM_snoc, rootM_snoc]
    simp only
    by_cases h1 : rootM c u = A
    · rw [if_pos h1]
      by_cases h2 : rootM c v = A
      · rw [if_pos h2, h1, h2]; simp
      · rw [if_neg h2]
        constructor
        · intro e; exact .inr (.inl ⟨h1, e.symm⟩)
        · rintro (e | ⟨_, e⟩ | ⟨_, e⟩)
          · exact absurd (e.symm.trans h1) h2
          · exact e.symm
          · exact absurd e h2
    · rw [if_neg h1]
      by_cases h2 : rootM c v = A
      · rw [if_pos h2]
        constructor
        · intro e; exact .inr (.inr ⟨e, h2⟩)
        · rintro (e | ⟨e, _⟩ | ⟨e, _⟩)
          · exact absurd (e.trans h2) h1
          · exact absurd e h1
          · exact e
      · rw [if_neg h2]
        constructor
        · intro e; exact .inl e
        · rintro (e | ⟨e, _⟩ | ⟨_, e⟩)
          · exact e
          · exact absurd e h1
          · exact absurd e h2
theorem cls_same (l : List Abs.Form) : RI (clD l) ∧ ∀ u v, eqD (clD l) u v ↔ rootM (clsM l) u = rootM (clsM l) v := by
  suffices h : ∀ (l : List Abs.Form) (p : List Str × List Int) (c : List Bind), RI p → (∀ u v, eqD p u v ↔ rootM c u = rootM c v) → RI (l.foldl cl1 p) ∧ ∀ u v, eqD (l.foldl cl1 p) u v ↔ rootM (l.foldl lnk1 c) u = rootM (l.foldl lnk1 c) v from
    h l ([], []) [] ⟨rfl, fun c hc => by simp at hc⟩ fun u v => by
      unfold eqD cvD idxR rootM
      simp
  intro l
  induction l with
  | nil => intro p c h1 h2; exact ⟨h1, h2⟩
  | cons f l ih =>
    intro p c h1 h2
    rw [List.foldl_cons, List.foldl_cons]
    by_cases hk : f.kind = 3
    · have e : cl1 p f = cl2 p (f.words.getD 0 ⟨[]⟩) (f.words.getD 1 ⟨[]⟩) := by unfold cl1; rw [if_pos hk]
      refine ih _ _ ?_ fun u v => ?_
      · rw [e]; exact (cl2_eq h1 _ _ ⟨[]⟩ ⟨[]⟩).1
      · rw [e, (cl2_eq h1 _ _ u v).2, root_eq f hk, h2, h2, h2, h2, h2]
    · have e1 : cl1 p f = p := by unfold cl1; rw [if_neg hk]
      have e2 : lnk1 c f = c := by unfold lnk1; rw [if_pos hk]
      rw [e1, e2]
      exact ih _ _ h1 h2
theorem eqR_root (l : List Abs.Form) (u v : Str) : eqR (clD l).1 (clD l).2 u v = decide (rootM (clsM l) u = rootM (clsM l) v) := by
  have h := cls_same l
  rw [Bool.eq_iff_iff, eqR_iff h.1, h.2, decide_eq_true_eq]
/-! ## what the document asks of a branch -/
theorem occ_has (l : List Abs.Form) (w : Str) : occG l w = decide (w ∈ acM l) := by
  unfold occG
  rw [Bool.eq_iff_iff, List.any_eq_true, decide_eq_true_eq, mem_acM]
  constructor
  · rintro ⟨f, hf, h⟩
    exact ⟨f, hf, (mem_usedM f w).1 (of_decide_eq_true h)⟩
  · rintro ⟨f, hf, h⟩
    exact ⟨f, hf, decide_eq_true ((mem_usedM f w).2 h)⟩
mutual
theorem cstR_len3 : ∀ (f : Abs.Form) (bd l : List Str), shp false f → (cstR f bd l).length ≤ l.length + 3 * f.size
  | .mk k nm ws s, bd, l, h => by
    rw [shp] at h
    have hw : ws.length ≤ 3 := by
      have h2 := h.1.2.1
      unfold wordsOk at h2
      rw [form_kind, form_words] at h2
      split at h2
      · exact of_decide_eq_true h2
      · split at h2
        · have := of_decide_eq_true h2; omega
        · have := of_decide_eq_true h2; omega
    rw [cstR, Form.size]
    have h1 := cstsR_len3 s (if isQ k then bd ++ [nm] else bd) (ws.foldl (fun l w => if w ∈ bd then l else putR l w) l) h.2
    have h2 := foldR_len bd ws l
    omega
theorem cstsR_len3 : ∀ (fs : List Abs.Form) (bd l : List Str), shps false fs → (cstsR fs bd l).length ≤ l.length + 3 * Form.sizes fs
  | [], _, l, _ => by rw [cstsR]; omega
  | f :: fs, bd, l, h => by
    rw [shps] at h
    rw [cstsR, Form.sizes]
    have h1 := cstR_len3 f bd l h.1
    have h2 := cstsR_len3 fs bd (cstR f bd l) h.2
    omega
end
theorem bf_ac {f : Abs.Form} (h : BF0 f) : acP f := ⟨h.b.ft, by have := h.b.s; omega, by
  have h1 := cstR_len3 f [] [] h.sh
  have := h.b.s
  simp only [List.length_nil] at h1
  omega⟩
/-- the closing test of two formulas -/
theorem close_doc {l : List Abs.Form} {f h : Abs.Form} {k : Abs.Form} (hf : BF f) (hk : BF k) (h4 : k.kind = 4) (hs : k.subs = [h]) : closeM l f k = (sameR (cnn h) f || alikM (clsM l) f h) := by
  have hv := hk.o.vw
  have hh : BF0 h := hk.o.sub (by rw [hs]; simp)
  have ek : k = notF h := by
    cases hv with
    | t => simp [form_kind] at h4
    | p => simp [form_kind] at h4
    | e => simp [form_kind] at h4
    | n a _ => rw [form_subs] at hs; rw [(List.cons.inj hs).1]; rfl
    | j k a b hk2 => exfalso; rw [form_kind] at h4; omega
    | q k nm a hk2 => exfalso; rw [form_kind] at h4; omega
  have hc : cnn h = h := BF.not_inv (by rw [← ek]; exact hk)
  have s0 : sub0 k = h := by unfold sub0; rw [hs]; rfl
  unfold closeM sameR
  rw [decide_eq_true h4, s0, Bool.true_and, ngg_eq, hf.cn, hc]
  congr 1
  rw [decide_eq_decide, txt_eq hh hf.o, ek]
  constructor
  · intro e
    unfold notF at e
    injection e with _ _ _ e
    exact ((List.cons.inj e).1).symm
  · intro e; rw [e]
theorem close_doc0 {l : List Abs.Form} {f k : Abs.Form} (h4 : k.kind ≠ 4) : closeM l f k = false := by
  unfold closeM
  rw [decide_eq_false h4, Bool.false_and, Bool.or_false]
  refine decide_eq_false fun e => h4 ?_
  rw [← e, ngg_eq]; rfl
theorem alik_doc (c : List Bind) (f g : Abs.Form) : alikM c f g = (decide (f.kind = 2) && decide (g.kind = 2) && decide (f.name = g.name) && decide (f.words.map (rootM c) = g.words.map (rootM c))) := rfl
end Go.Proofs.YtdlioodgfopmfaaDoor

namespace Go.Proofs.YtdlioodgfopmfaaDoor
open Go Go.Abs Go.Proofs

/-! ## instances -/
def bodyM (f : Abs.Form) (name : Str) : Abs.Form := canonM (sub0 f) [⟨f.name, name⟩]
def bodyPre (f : Abs.Form) (_ : Str) : Prop := ∃ a, f.subs = [a] ∧ a.fit = true ∧ a.size ≤ 1000
def treeBd : Tv := (.q 0 (.q 1 (.q 2 (.q 3 (.q 4 (.q 5 (.q 6 (.q 7 (.q 8 (.q 9 (.br [(10, .leaf)])))))))))))
def Y1 : Tbl := N5.add 87 (sp2 bodyM bodyPre)
attribute [go_sem] Y1
set_option maxRecDepth 100000 in
set_option maxHeartbeats 1000000 in
theorem hY1 : TblOk Tryd.prog GA Y1 := by
  refine sp2_ok ok87 hN5 fun f name hp _ _ => ?_
  obtain ⟨a, ha, h1, h2⟩ := hp
  have e : bodyM f name = canonM a [⟨f.name, name⟩] := by unfold bodyM sub0; rw [ha]; rfl
  rw [e]
  have hcp : canonPre a [⟨f.name, name⟩] := ⟨h1, h2, by simp⟩
  obtain ⟨R, hR⟩ : ∃ R, canonM a [⟨f.name, name⟩] = R := ⟨_, rfl⟩
  rw [hR]
  refine Wcall_K (N := 15) hm hN5 87000 (lst [1000001]) ok87 Tryd.func87 rfl rfl (by simp) (by kernel_rfl) ?_
  repeat' (first | refine ReqK.i ⟨rfl, hcp⟩ fun _ => ?_ | refine ReqK.i hcp fun _ => ?_ | refine WK_drawV (id := 1) hm hN5 87000 (lst [1000001]) treeBd (by kernel_rfl) (by kernel_rfl) ?_ | refine And.intro ?_ ?_ | exact True.intro | refine rq fun _ => ?_ | simp only [go_sem, ha, hR, str_eta, form_eta, treeBd, Tryd.f87])
def instM (q : Abs.Form) (turned : Bool) (name : Str) : Abs.Form := if turned then negM (bodyM q name) else bodyM q name
def instPre (q : Abs.Form) (_ : Bool) (_ : Str) : Prop := ∃ a, q.subs = [a] ∧ a.fit = true ∧ a.size ≤ 800
theorem body_small {q : Abs.Form} {name : Str} (h : ∃ a, q.subs = [a] ∧ a.fit = true ∧ a.size ≤ 800) : (bodyM q name).fit = true ∧ (bodyM q name).size ≤ 800 := by
  obtain ⟨a, ha, h1, h2⟩ := h
  have e : bodyM q name = canonM a [⟨q.name, name⟩] := by unfold bodyM sub0; rw [ha]; rfl
  rw [e]
  exact ⟨by rw [canonM_fit]; exact h1, by rw [canonM_size]; exact h2⟩
def Y2 : Tbl := Y1.add 50 (sp3 instM instPre)
attribute [go_sem] Y2
set_option maxRecDepth 100000 in
set_option maxHeartbeats 1000000 in
theorem hY2 : TblOk Tryd.prog GA Y2 := by
  refine sp3_ok ok50 hY1 fun q tn name hp _ _ _ => ?_
  have hs := body_small (name := name) hp
  have hb : bodyPre q name := by obtain ⟨a, ha, h1, h2⟩ := hp; exact ⟨a, ha, h1, by omega⟩
  have hng : (bodyM q name).fit = true ∧ (bodyM q name).size ≤ 900 := ⟨hs.1, by omega⟩
  obtain ⟨B, hB⟩ : ∃ B, bodyM q name = B := ⟨_, rfl⟩
  rw [hB] at hng
  cases tn with
  | true =>
    have e : instM q true name = negM B := by unfold instM; rw [hB]; rfl
    rw [e]
    obtain ⟨R, hR⟩ : ∃ R, negM B = R := ⟨_, rfl⟩
    rw [hR]
    refine Wcall_K (N := 15) hm hY1 50000 (lst []) ok50 Tryd.func50 rfl rfl (by simp) (by kernel_rfl) ?_
    repeat' (first | refine ReqK.i hb fun _ => ?_ | refine ReqK.i hng fun _ => ?_ | refine And.intro ?_ ?_ | exact True.intro | refine rq fun _ => ?_ | simp only [go_sem, hB, hR, str_eta, form_eta, Tryd.f50])
  | false =>
    have e : instM q false name = B := by unfold instM; rw [hB]; rfl
    rw [e]
    refine Wcall_K (N := 15) hm hY1 50000 (lst []) ok50 Tryd.func50 rfl rfl (by simp) (by kernel_rfl) ?_
    repeat' (first | refine ReqK.i hb fun _ => ?_ | refine ReqK.i hng fun _ => ?_ | refine And.intro ?_ ?_ | exact True.intro | refine rq fun _ => ?_ | simp only [go_sem, hB, str_eta, form_eta, Tryd.f50])
/-! ## what a formula is expanded to -/
def treeQ4 : Tv := (.q 0 (.q 1 (.q 2 (.q 3 (.q 4 (.q 6 (.q 7 (.br [(5, (.q 8 (.q 9 (.q 10 (.br [(11, (.q 12 (.q 13 (.q 14 (.q 15 (.br [(16, (.q 17 .leaf))])))))), (13, (.br [(11, (.q 12 (.q 14 (.q 15 (.br [(16, (.q 17 .leaf))])))))]))]))))), (8, (.q 9 (.br [(5, (.q 10 (.br [(11, (.q 12 (.q 13 (.q 14 (.q 15 (.br [(16, (.q 17 .leaf))])))))), (13, (.br [(11, (.q 12 (.q 14 (.q 15 (.br [(16, (.q 17 .leaf))])))))]))]))), (10, (.br [(5, (.br [(11, (.q 12 (.q 13 (.q 14 (.q 15 (.br [(16, (.q 17 .leaf))])))))), (13, (.br [(11, (.q 12 (.q 14 (.q 15 (.br [(16, (.q 17 .leaf))])))))]))])), (13, (.br [(5, (.br [(11, (.q 12 (.q 14 (.q 15 (.br [(16, (.q 17 .leaf))])))))]))]))])), (13, (.br [(5, (.q 10 (.br [(11, (.q 12 (.q 14 (.q 15 (.br [(16, (.q 17 .leaf))])))))]))), (10, (.br [(5, (.br [(11, (.q 12 (.q 14 (.q 15 (.br [(16, (.q 17 .leaf))])))))]))]))]))]))), (13, (.br [(5, (.q 8 (.q 9 (.q 10 (.br [(11, (.q 12 (.q 14 (.q 15 (.br [(16, (.q 17 .leaf))])))))]))))), (8, (.q 9 (.br [(5, (.q 10 (.br [(11, (.q 12 (.q 14 (.q 15 (.br [(16, (.q 17 .leaf))])))))]))), (10, (.br [(5, (.br [(11, (.q 12 (.q 14 (.q 15 (.br [(16, (.q 17 .leaf))])))))]))]))])))]))]))))))))
def treeQ6 : Tv := (.q 0 (.q 1 (.q 2 (.q 3 (.q 4 (.q 6 (.q 7 (.br [(5, (.q 8 (.q 9 (.q 10 (.br [(11, (.q 12 (.q 13 (.q 14 (.q 15 (.br [(16, (.q 17 .leaf))])))))), (13, (.br [(11, (.q 12 (.q 14 (.q 15 (.br [(16, (.q 17 .leaf))])))))]))]))))), (8, (.q 9 (.br [(5, (.q 10 (.br [(11, (.q 12 (.q 13 (.q 14 (.q 15 (.br [(16, (.q 17 .leaf))])))))), (13, (.br [(11, (.q 12 (.q 14 (.q 15 (.br [(16, (.q 17 .leaf))])))))]))]))), (10, (.br [(5, (.br [(11, (.q 12 (.q 13 (.q 14 (.q 15 (.br [(16, (.q 17 .leaf))])))))), (13, (.br [(11, (.q 12 (.q 14 (.q 15 (.br [(16, (.q 17 .leaf))])))))]))])), (13, (.br [(5, (.br [(11, (.q 12 (.q 14 (.q 15 (.br [(16, (.q 17 .leaf))])))))]))]))])), (13, (.br [(5, (.q 10 (.br [(11, (.q 12 (.q 14 (.q 15 (.br [(16, (.q 17 .leaf))])))))]))), (10, (.br [(5, (.br [(11, (.q 12 (.q 14 (.q 15 (.br [(16, (.q 17 .leaf))])))))]))]))]))]))), (13, (.br [(5, (.q 8 (.q 9 (.q 10 (.br [(11, (.q 12 (.q 14 (.q 15 (.br [(16, (.q 17 .leaf))])))))]))))), (8, (.q 9 (.br [(5, (.q 10 (.br [(11, (.q 12 (.q 14 (.q 15 (.br [(16, (.q 17 .leaf))])))))]))), (10, (.br [(5, (.br [(11, (.q 12 (.q 14 (.q 15 (.br [(16, (.q 17 .leaf))])))))]))]))])))]))]))))))))
def treeQ8 : Tv := (.q 0 (.q 1 (.q 2 (.q 3 (.q 4 (.q 5 (.q 6 (.q 7 (.q 8 (.q 9 (.br [(10, (.q 11 (.q 12 (.q 13 (.q 14 (.br [(15, (.q 16 .leaf))])))))), (12, (.br [(10, (.q 11 (.q 13 (.q 14 (.br [(15, (.q 16 .leaf))])))))]))])))))))))))
def treeQ10 : Tv := (.q 0 (.q 1 (.q 2 (.br [(3, (.q 4 .leaf))]))))
def treeQ12 : Tv := (.q 0 (.q 1 (.q 2 (.br [(3, (.q 4 .leaf))]))))
def treeQ17 : Tv := (.q 0 (.q 1 (.q 2 (.q 3 (.q 4 (.br [(5, (.q 6 (.q 7 (.q 8 (.q 9 (.br [(10, (.q 11 .leaf))])))))), (7, (.br [(5, (.q 6 (.q 8 (.q 9 (.br [(10, (.q 11 .leaf))])))))]))]))))))
def treeQ19 : Tv := (.q 0 (.q 1 (.q 2 (.q 3 (.q 4 (.q 5 (.q 6 (.q 7 (.q 8 (.q 9 (.q 10 (.q 11 (.q 12 (.q 13 (.br [(14, (.q 15 .leaf))])))))))))))))))
def treeQ21 : Tv := (.q 0 (.q 1 (.q 2 (.q 3 (.q 4 (.q 5 (.q 6 (.q 7 (.q 8 (.q 9 (.q 10 (.q 11 (.q 12 (.q 13 (.br [(14, (.q 15 .leaf))])))))))))))))))
def treeQ23 : Tv := (.q 0 (.q 1 (.q 2 (.q 3 (.q 4 (.q 6 (.br [(5, (.q 7 (.q 8 (.q 9 (.q 10 (.q 11 (.q 12 (.q 13 (.q 14 (.br [(15, (.q 16 .leaf))])))))))))), (7, (.q 8 (.br [(5, (.q 9 (.q 10 (.q 11 (.q 12 (.q 13 (.q 14 (.br [(15, (.q 16 .leaf))])))))))), (9, (.br [(5, (.q 10 (.q 11 (.q 12 (.q 13 (.q 14 (.br [(15, (.q 16 .leaf))]))))))), (12, (.br [(5, (.q 10 (.q 11 (.q 13 (.q 14 (.br [(15, (.q 16 .leaf))]))))))]))])), (12, (.br [(5, (.q 9 (.q 10 (.q 11 (.q 13 (.q 14 (.br [(15, (.q 16 .leaf))]))))))), (9, (.br [(5, (.q 10 (.q 11 (.q 13 (.q 14 (.br [(15, (.q 16 .leaf))]))))))]))]))]))), (12, (.br [(5, (.q 7 (.q 8 (.q 9 (.q 10 (.q 11 (.q 13 (.q 14 (.br [(15, (.q 16 .leaf))]))))))))), (7, (.q 8 (.br [(5, (.q 9 (.q 10 (.q 11 (.q 13 (.q 14 (.br [(15, (.q 16 .leaf))]))))))), (9, (.br [(5, (.q 10 (.q 11 (.q 13 (.q 14 (.br [(15, (.q 16 .leaf))]))))))]))])))]))])))))))
def treeQ25 : Tv := (.q 0 (.q 1 (.q 2 (.br [(3, (.q 4 .leaf))]))))
def treeQ27 : Tv := (.q 0 (.q 1 (.q 2 (.br [(3, (.q 4 .leaf))]))))
def treeQ28 : Tv := (.q 0 (.q 1 (.q 2 (.br [(3, (.q 4 .leaf))]))))
theorem cn_small {a : Abs.Form} (h : brF a) : a.fit = true ∧ a.size ≤ 1000 := ⟨h.ft, by have := h.s; omega⟩
theorem ng_small {a : Abs.Form} (h : brF a) : a.fit = true ∧ a.size ≤ 900 := ⟨h.ft, by have := h.s; omega⟩
def Y3 : Tbl := Y2.add 43 (sp1q partsM brF)
attribute [go_sem] Y3
set_option maxRecDepth 100000 in
set_option maxHeartbeats 1000000 in
set_option maxHeartbeats 16000000 in
theorem hY3 : TblOk Tryd.prog GA Y3 := by
  refine sp1q_ok ok43 hY2 fun f hbr _ => ?_
  have zk : zeroF.kind = 0 := rfl
  have zn : zeroF.name.l = [] := rfl
  have zw : zeroF.words = [] := rfl
  have zs : zeroF.subs = [] := rfl
  have hkb := vok_eq.1 hbr.v
  have hk1 := hkb.1
  have hk2 := hkb.2.1
  clear hkb
  by_cases k5 : f.kind = 5
  · obtain ⟨a, b, hab, s0, s1, ha, hb⟩ := br_two hbr (by omega)
    have pa := cn_small ha
    have pb := cn_small hb
    obtain ⟨A, hA⟩ : ∃ A, canonM a [] = A := ⟨_, rfl⟩
    obtain ⟨B, hB⟩ : ∃ B, canonM b [] = B := ⟨_, rfl⟩
    have e : partsM f = (1, [A, B], zeroF, false) := by
      unfold partsM
      rw [s0, s1, k5, ← hA, ← hB]; rfl
    rw [e]
    clear e s0 s1 ha hb
    refine Wcall_K (N := 131) hm hY2 43000 (lst [1000004, 1000006, 1000008, 1000010, 1000012, 1000017, 1000019, 1000021, 1000023, 1000025, 1000027, 1000028]) ok43 Tryd.func43 rfl rfl (by simp) (by kernel_rfl) ?_
    repeat' (first | refine ReqK.i pa fun _ => ?_ | refine ReqK.i pb fun _ => ?_ | refine WK_drawV (id := 4) hm hY2 43000 (lst [1000004, 1000006, 1000008, 1000010, 1000012, 1000017, 1000019, 1000021, 1000023, 1000025, 1000027, 1000028]) treeQ4 (by kernel_rfl) (by kernel_rfl) ?_ | refine And.intro ?_ ?_ | exact True.intro | refine rq fun _ => ?_ | simp only [go_sem, k5, hab, hA, hB, treeQ4, zk, zn, zw, zs, form_eta, getD_map_lt, Tryd.f43])
  by_cases k6 : f.kind = 6
  · obtain ⟨a, b, hab, s0, s1, ha, hb⟩ := br_two hbr (by omega)
    have pa := cn_small ha
    have pb := cn_small hb
    obtain ⟨A, hA⟩ : ∃ A, canonM a [] = A := ⟨_, rfl⟩
    obtain ⟨B, hB⟩ : ∃ B, canonM b [] = B := ⟨_, rfl⟩
    have e : partsM f = (2, [A, B], zeroF, false) := by
      unfold partsM
      rw [s0, s1, k6, ← hA, ← hB]; rfl
    rw [e]
    clear e s0 s1 ha hb
    refine Wcall_K (N := 131) hm hY2 43000 (lst [1000004, 1000006, 1000008, 1000010, 1000012, 1000017, 1000019, 1000021, 1000023, 1000025, 1000027, 1000028]) ok43 Tryd.func43 rfl rfl (by simp) (by kernel_rfl) ?_
    repeat' (first | refine ReqK.i pa fun _ => ?_ | refine ReqK.i pb fun _ => ?_ | refine WK_drawV (id := 6) hm hY2 43000 (lst [1000004, 1000006, 1000008, 1000010, 1000012, 1000017, 1000019, 1000021, 1000023, 1000025, 1000027, 1000028]) treeQ6 (by kernel_rfl) (by kernel_rfl) ?_ | refine And.intro ?_ ?_ | exact True.intro | refine rq fun _ => ?_ | simp only [go_sem, k6, hab, hA, hB, treeQ6, zk, zn, zw, zs, form_eta, getD_map_lt, Tryd.f43])
  by_cases k7 : f.kind = 7
  · obtain ⟨a, b, hab, s0, s1, ha, hb⟩ := br_two hbr (by omega)
    have pa := ng_small ha
    have pb := cn_small hb
    obtain ⟨A, hA⟩ : ∃ A, negM a = A := ⟨_, rfl⟩
    obtain ⟨B, hB⟩ : ∃ B, canonM b [] = B := ⟨_, rfl⟩
    have e : partsM f = (2, [A, B], zeroF, false) := by
      unfold partsM
      rw [s0, s1, k7, ← hA, ← hB]; rfl
    rw [e]
    clear e s0 s1 ha hb
    refine Wcall_K (N := 131) hm hY2 43000 (lst [1000004, 1000006, 1000008, 1000010, 1000012, 1000017, 1000019, 1000021, 1000023, 1000025, 1000027, 1000028]) ok43 Tryd.func43 rfl rfl (by simp) (by kernel_rfl) ?_
    repeat' (first | refine ReqK.i pa fun _ => ?_ | refine ReqK.i pb fun _ => ?_ | refine WK_drawV (id := 8) hm hY2 43000 (lst [1000004, 1000006, 1000008, 1000010, 1000012, 1000017, 1000019, 1000021, 1000023, 1000025, 1000027, 1000028]) treeQ8 (by kernel_rfl) (by kernel_rfl) ?_ | refine And.intro ?_ ?_ | exact True.intro | refine rq fun _ => ?_ | simp only [go_sem, k7, hab, hA, hB, treeQ8, zk, zn, zw, zs, form_eta, getD_map_lt, Tryd.f43])
  by_cases k8 : f.kind = 8
  · have eF : Abs.Form.mk 8 f.name f.words f.subs = f := by rw [← k8]; exact form_eta
    have e : partsM f = (3, [], f, false) := by
      unfold partsM
      rw [k8]; rfl
    rw [e]
    clear e
    refine Wcall_K (N := 131) hm hY2 43000 (lst [1000004, 1000006, 1000008, 1000010, 1000012, 1000017, 1000019, 1000021, 1000023, 1000025, 1000027, 1000028]) ok43 Tryd.func43 rfl rfl (by simp) (by kernel_rfl) ?_
    repeat' (first | refine WK_drawV (id := 10) hm hY2 43000 (lst [1000004, 1000006, 1000008, 1000010, 1000012, 1000017, 1000019, 1000021, 1000023, 1000025, 1000027, 1000028]) treeQ10 (by kernel_rfl) (by kernel_rfl) ?_ | refine And.intro ?_ ?_ | exact True.intro | refine rq fun _ => ?_ | simp only [go_sem, k8, eF, treeQ10, zk, zn, zw, zs, form_eta, getD_map_lt, Tryd.f43])
  by_cases k9 : f.kind = 9
  · have eF : Abs.Form.mk 9 f.name f.words f.subs = f := by rw [← k9]; exact form_eta
    have e : partsM f = (4, [], f, false) := by
      unfold partsM
      rw [k9]; rfl
    rw [e]
    clear e
    refine Wcall_K (N := 131) hm hY2 43000 (lst [1000004, 1000006, 1000008, 1000010, 1000012, 1000017, 1000019, 1000021, 1000023, 1000025, 1000027, 1000028]) ok43 Tryd.func43 rfl rfl (by simp) (by kernel_rfl) ?_
    repeat' (first | refine WK_drawV (id := 12) hm hY2 43000 (lst [1000004, 1000006, 1000008, 1000010, 1000012, 1000017, 1000019, 1000021, 1000023, 1000025, 1000027, 1000028]) treeQ12 (by kernel_rfl) (by kernel_rfl) ?_ | refine And.intro ?_ ?_ | exact True.intro | refine rq fun _ => ?_ | simp only [go_sem, k9, eF, treeQ12, zk, zn, zw, zs, form_eta, getD_map_lt, Tryd.f43])
  by_cases k4 : f.kind = 4
  · obtain ⟨g, hg, s0, hbg⟩ := br_one hbr (.inl k4)
    have hgk := vok_eq.1 hbg.v
    have hg1 := hgk.1
    have hg2 := hgk.2.1
    clear hgk
    by_cases j4 : g.kind = 4
    · obtain ⟨a, ha0, t0, ha⟩ := br_one hbg (.inl j4)
      have pa := cn_small ha
      obtain ⟨A, hA⟩ : ∃ A, canonM a [] = A := ⟨_, rfl⟩
      have e : partsM f = (1, [A], zeroF, false) := by
        unfold partsM
        rw [s0, t0, k4, j4, ← hA]; rfl
      rw [e]
      clear e s0 t0 ha
      refine Wcall_K (N := 131) hm hY2 43000 (lst [1000004, 1000006, 1000008, 1000010, 1000012, 1000017, 1000019, 1000021, 1000023, 1000025, 1000027, 1000028]) ok43 Tryd.func43 rfl rfl (by simp) (by kernel_rfl) ?_
      repeat' (first | refine ReqK.i pa fun _ => ?_ | refine WK_drawV (id := 17) hm hY2 43000 (lst [1000004, 1000006, 1000008, 1000010, 1000012, 1000017, 1000019, 1000021, 1000023, 1000025, 1000027, 1000028]) treeQ17 (by kernel_rfl) (by kernel_rfl) ?_ | refine And.intro ?_ ?_ | exact True.intro | refine rq fun _ => ?_ | simp only [go_sem, k4, j4, hg, ha0, hA, treeQ17, zk, zn, zw, zs, form_eta, getD_map_lt, Tryd.f43])
    by_cases j5 : g.kind = 5
    · obtain ⟨a, b, hab, t0, t1, ha, hb⟩ := br_two hbg (by omega)
      have pa := ng_small ha
      have pb := ng_small hb
      obtain ⟨A, hA⟩ : ∃ A, negM a = A := ⟨_, rfl⟩
      obtain ⟨B, hB⟩ : ∃ B, negM b = B := ⟨_, rfl⟩
      have e : partsM f = (2, [A, B], zeroF, false) := by
        unfold partsM
        rw [s0, t0, t1, k4, j5, ← hA, ← hB]; rfl
      rw [e]
      clear e s0 t0 t1 ha hb
      refine Wcall_K (N := 131) hm hY2 43000 (lst [1000004, 1000006, 1000008, 1000010, 1000012, 1000017, 1000019, 1000021, 1000023, 1000025, 1000027, 1000028]) ok43 Tryd.func43 rfl rfl (by simp) (by kernel_rfl) ?_
      repeat' (first | refine ReqK.i pa fun _ => ?_ | refine ReqK.i pb fun _ => ?_ | refine WK_drawV (id := 19) hm hY2 43000 (lst [1000004, 1000006, 1000008, 1000010, 1000012, 1000017, 1000019, 1000021, 1000023, 1000025, 1000027, 1000028]) treeQ19 (by kernel_rfl) (by kernel_rfl) ?_ | refine And.intro ?_ ?_ | exact True.intro | refine rq fun _ => ?_ | simp only [go_sem, k4, j5, hg, hab, hA, hB, treeQ19, zk, zn, zw, zs, form_eta, getD_map_lt, Tryd.f43])
    by_cases j6 : g.kind = 6
    · obtain ⟨a, b, hab, t0, t1, ha, hb⟩ := br_two hbg (by omega)
      have pa := ng_small ha
      have pb := ng_small hb
      obtain ⟨A, hA⟩ : ∃ A, negM a = A := ⟨_, rfl⟩
      obtain ⟨B, hB⟩ : ∃ B, negM b = B := ⟨_, rfl⟩
      have e : partsM f = (1, [A, B], zeroF, false) := by
        unfold partsM
        rw [s0, t0, t1, k4, j6, ← hA, ← hB]; rfl
      rw [e]
      clear e s0 t0 t1 ha hb
      refine Wcall_K (N := 131) hm hY2 43000 (lst [1000004, 1000006, 1000008, 1000010, 1000012, 1000017, 1000019, 1000021, 1000023, 1000025, 1000027, 1000028]) ok43 Tryd.func43 rfl rfl (by simp) (by kernel_rfl) ?_
      repeat' (first | refine ReqK.i pa fun _ => ?_ | refine ReqK.i pb fun _ => ?_ | refine WK_drawV (id := 21) hm hY2 43000 (lst [1000004, 1000006, 1000008, 1000010, 1000012, 1000017, 1000019, 1000021, 1000023, 1000025, 1000027, 1000028]) treeQ21 (by kernel_rfl) (by kernel_rfl) ?_ | refine And.intro ?_ ?_ | exact True.intro | refine rq fun _ => ?_ | simp only [go_sem, k4, j6, hg, hab, hA, hB, treeQ21, zk, zn, zw, zs, form_eta, getD_map_lt, Tryd.f43])
    by_cases j7 : g.kind = 7
    · obtain ⟨a, b, hab, t0, t1, ha, hb⟩ := br_two hbg (by omega)
      have pa := cn_small ha
      have pb := ng_small hb
      obtain ⟨A, hA⟩ : ∃ A, canonM a [] = A := ⟨_, rfl⟩
      obtain ⟨B, hB⟩ : ∃ B, negM b = B := ⟨_, rfl⟩
      have e : partsM f = (1, [A, B], zeroF, false) := by
        unfold partsM
        rw [s0, t0, t1, k4, j7, ← hA, ← hB]; rfl
      rw [e]
      clear e s0 t0 t1 ha hb
      refine Wcall_K (N := 131) hm hY2 43000 (lst [1000004, 1000006, 1000008, 1000010, 1000012, 1000017, 1000019, 1000021, 1000023, 1000025, 1000027, 1000028]) ok43 Tryd.func43 rfl rfl (by simp) (by kernel_rfl) ?_
      repeat' (first | refine ReqK.i pa fun _ => ?_ | refine ReqK.i pb fun _ => ?_ | refine WK_drawV (id := 23) hm hY2 43000 (lst [1000004, 1000006, 1000008, 1000010, 1000012, 1000017, 1000019, 1000021, 1000023, 1000025, 1000027, 1000028]) treeQ23 (by kernel_rfl) (by kernel_rfl) ?_ | refine And.intro ?_ ?_ | exact True.intro | refine rq fun _ => ?_ | simp only [go_sem, k4, j7, hg, hab, hA, hB, treeQ23, zk, zn, zw, zs, form_eta, getD_map_lt, Tryd.f43])
    by_cases j8 : g.kind = 8
    · have eF : Abs.Form.mk 8 g.name g.words g.subs = g := by rw [← j8]; exact form_eta
      have e : partsM f = (4, [], g, true) := by
        unfold partsM
        rw [s0, k4, j8]; rfl
      rw [e]
      clear e s0
      refine Wcall_K (N := 131) hm hY2 43000 (lst [1000004, 1000006, 1000008, 1000010, 1000012, 1000017, 1000019, 1000021, 1000023, 1000025, 1000027, 1000028]) ok43 Tryd.func43 rfl rfl (by simp) (by kernel_rfl) ?_
      repeat' (first | refine WK_drawV (id := 25) hm hY2 43000 (lst [1000004, 1000006, 1000008, 1000010, 1000012, 1000017, 1000019, 1000021, 1000023, 1000025, 1000027, 1000028]) treeQ25 (by kernel_rfl) (by kernel_rfl) ?_ | refine And.intro ?_ ?_ | exact True.intro | refine rq fun _ => ?_ | simp only [go_sem, k4, j8, hg, eF, treeQ25, zk, zn, zw, zs, form_eta, getD_map_lt, Tryd.f43])
    by_cases j9 : g.kind = 9
    · have eF : Abs.Form.mk 9 g.name g.words g.subs = g := by rw [← j9]; exact form_eta
      have e : partsM f = (3, [], g, true) := by
        unfold partsM
        rw [s0, k4, j9]; rfl
      rw [e]
      clear e s0
      refine Wcall_K (N := 131) hm hY2 43000 (lst [1000004, 1000006, 1000008, 1000010, 1000012, 1000017, 1000019, 1000021, 1000023, 1000025, 1000027, 1000028]) ok43 Tryd.func43 rfl rfl (by simp) (by kernel_rfl) ?_
      repeat' (first | refine WK_drawV (id := 27) hm hY2 43000 (lst [1000004, 1000006, 1000008, 1000010, 1000012, 1000017, 1000019, 1000021, 1000023, 1000025, 1000027, 1000028]) treeQ27 (by kernel_rfl) (by kernel_rfl) ?_ | refine And.intro ?_ ?_ | exact True.intro | refine rq fun _ => ?_ | simp only [go_sem, k4, j9, hg, eF, treeQ27, zk, zn, zw, zs, form_eta, getD_map_lt, Tryd.f43])
    have e : partsM f = (0, [], zeroF, false) := by
      unfold partsM
      rw [s0, k4]
      simp only [j4, j5, j6, j7, j8, j9, if_false]
      rfl
    rw [e]
    clear e s0
    refine Wcall_K (N := 131) hm hY2 43000 (lst [1000004, 1000006, 1000008, 1000010, 1000012, 1000017, 1000019, 1000021, 1000023, 1000025, 1000027, 1000028]) ok43 Tryd.func43 rfl rfl (by simp) (by kernel_rfl) ?_
    repeat' (first | refine WK_drawV (id := 28) hm hY2 43000 (lst [1000004, 1000006, 1000008, 1000010, 1000012, 1000017, 1000019, 1000021, 1000023, 1000025, 1000027, 1000028]) treeQ28 (by kernel_rfl) (by kernel_rfl) ?_ | refine And.intro ?_ ?_ | exact True.intro | refine rq fun _ => ?_ | simp only [go_sem, k4, hg, j4, j5, j6, j7, j8, j9, treeQ28, zk, zn, zw, zs, form_eta, getD_map_lt, Tryd.f43])
  have e : partsM f = (0, [], zeroF, false) := by
    unfold partsM
    simp only [k4, k5, k6, k7, k8, k9, if_false]
  rw [e]
  clear e
  refine Wcall_K (N := 131) hm hY2 43000 (lst [1000004, 1000006, 1000008, 1000010, 1000012, 1000017, 1000019, 1000021, 1000023, 1000025, 1000027, 1000028]) ok43 Tryd.func43 rfl rfl (by simp) (by kernel_rfl) ?_
  repeat' (first | refine WK_drawV (id := 28) hm hY2 43000 (lst [1000004, 1000006, 1000008, 1000010, 1000012, 1000017, 1000019, 1000021, 1000023, 1000025, 1000027, 1000028]) treeQ28 (by kernel_rfl) (by kernel_rfl) ?_ | refine And.intro ?_ ?_ | exact True.intro | refine rq fun _ => ?_ | simp only [go_sem, k4, k5, k6, k7, k8, k9, treeQ28, zk, zn, zw, zs, form_eta, getD_map_lt, Tryd.f43])
end Go.Proofs.YtdlioodgfopmfaaDoor

namespace Go.Proofs.YtdlioodgfopmfaaDoor
open Go Go.Abs Go.Proofs

/-! ## the constants of a branch -/
theorem usedM_nilY {f : Abs.Form} (h : (cst f []).isEmpty = true) : usedM f = [] := by
  cases hu : usedM f with
  | nil => rfl
  | cons x l =>
    have := (mem_usedM f x).1 (by rw [hu]; simp)
    rw [List.isEmpty_iff.1 h] at this
    simp at this
def Y4 : Tbl := Y3.add 76 (sp1 usedM brF)
attribute [go_sem] Y4
set_option maxRecDepth 100000 in
set_option maxHeartbeats 1000000 in
theorem hY4 : TblOk Tryd.prog GA Y4 := by
  refine sp1_ok ok76 hY3 fun f hp hw => ?_
  have hl := cst_len hp.ft []
  have hs := hp.s
  refine Wcall_post (f76 hw (by omega) (by omega)) ?_
  rintro d H n ⟨g, hg, rfl, ho⟩
  obtain ⟨U, hU⟩ : ∃ U, usedM f = U := ⟨_, rfl⟩
  have hn : (cst f []).isEmpty = true → U = [] := fun h => by rw [← hU]; exact usedM_nilY h
  rw [hU] at ho ⊢
  refine ⟨.fz (.sl (U.map enc)), H0, n, ?_, rfl⟩
  have e : H0 = hpL [] := rfl
  rw [e]
  refine Weak_g [] [] [((101024, g), U.map enc)] ?_ ?_ ?_ ?_ ?_ <;> simp only [go_sem, ho]
  intro h
  rw [hn h]; rfl
def occM (l : List Abs.Form) (name : Str) : Bool := l.any fun f => decide (name ∈ usedM f)
def Y5 : Tbl := Y4.add 51 (sp2 occM fun l _ => ∀ f ∈ l, brF f)
attribute [go_sem] Y5
set_option maxRecDepth 100000 in
set_option maxHeartbeats 1000000 in
theorem hY5 : TblOk Tryd.prog GA Y5 := by
  refine sp2_ok ok51 hY4 fun l name hbr hwl _ => ?_
  have hsl : l.length ≤ maxL := by
    have := Wf_sl hwl
    simpa using this
  unfold maxL at hsl
  have kb := Kp.mk hbr
  clear hbr hwl
  refine Wcall_K (N := 18) hm hY4 51000 (lst []) ok51 Tryd.func51 rfl rfl (by simp) (by kernel_rfl) ?_
  repeat' (first | refine And.intro ?_ ?_ | exact True.intro | refine rq fun _ => ?_ | simp only [go_sem, Tryd.f51])
  refine WK_loop hm hY4 51000 (lst []) (ι := LoopM l.length 0 fun i => (l.take i).any (fun f => decide (name ∈ usedM f)) = false)
    ⟨fun q => ⟨frL [(1, .fz (.s name.l)), (7, .fz (.sl (l.map enc))), (8, .fz (.i .i64 l.length)), (9, .fz (.i .i64 q.i))], hpL [], q.m⟩, fun q => l.length - q.i⟩
    ⟨0, 0, by omega, by omega, by simp⟩ (by kernel_rfl) ?_ ?_
  · refine Weak_to ?_ ?_ ?_ <;> simp only [go_sem]
    all_goals first | done | rfl | omega | trace_state
  rintro ⟨i, m, hi, _, hp⟩
  try simp only at hi hp
  rcases Nat.lt_or_ge i l.length with h1 | h1
  · obtain ⟨x, hx⟩ : ∃ x, l[i] = x := ⟨_, rfl⟩
    have hxb : brF x := kb.out x (by rw [← hx]; exact List.getElem_mem h1)
    obtain ⟨U, hU⟩ : ∃ U, usedM x = U := ⟨_, rfl⟩
    by_cases hin : name ∈ U
    · have e : occM l name = true := by
        unfold occM
        rw [List.any_eq_true]
        exact ⟨l[i], List.getElem_mem _, by rw [hx, hU]; simpa using hin⟩
      rw [e]
      repeat' (first | refine ReqK.i hxb fun _ => ?_ | refine And.intro ?_ ?_ | exact True.intro | refine rq fun _ => ?_ | simp only [go_sem, h1, hx, hU, hin, getD_map_lt, str_eta, form_eta, Tryd.f51])
    · have hin' : (name ∈ U) = False := eq_false hin
      repeat' (first | refine ReqK.i hxb fun _ => ?_ | refine And.intro ?_ ?_ | exact True.intro | refine rq fun _ => ?_ | simp only [go_sem, h1, hx, hU, hin', getD_map_lt, str_eta, form_eta, Tryd.f51])
      refine ⟨⟨i + 1, m + 1, by omega, by omega, ?_⟩, by simp only; omega, ?_⟩
      · rw [List.take_succ_eq_append_getElem h1, List.any_append, hp, hx, List.any_cons, hU]; simp [hin]
      refine Weak_to ?_ ?_ ?_ <;> simp only [go_sem]
      all_goals first | done | rfl | omega | trace_state
  obtain rfl : i = l.length := by omega
  rw [List.take_length] at hp
  have e : occM l name = false := hp
  rw [e]
  repeat' (first | refine And.intro ?_ ?_ | exact True.intro | refine rq fun _ => ?_ | simp only [go_sem, Nat.lt_irrefl, Tryd.f51])
/-! ## classes of constants -/
structure RootI (c : List Bind) (w0 : Str) where
  w : Str
  i : Nat
  j : Nat
  hi : i ≤ c.length
  hj : j ≤ c.length
  hr : rootM c w = rootM c w0
  h1 : Kp (∀ k (hk : k < c.length), k < i → c[k].fr ≠ w)
  h2 : Kp (∀ k (hk : k < c.length), k < j → c[k].fr ≠ w)
def Y6 : Tbl := Y5.add 83 (sp2 rootM fun c _ => wfC c ∧ c.length ≤ 1000000)
attribute [go_sem] Y6
set_option maxRecDepth 100000 in
set_option maxHeartbeats 1000000 in
theorem hY6 : TblOk Tryd.prog GA Y6 := by
  refine sp2_ok ok83 hY5 fun c w0 hp _ _ => ?_
  obtain ⟨hwf, hcl⟩ := hp
  obtain ⟨R, hR⟩ : ∃ R, rootM c w0 = R := ⟨_, rfl⟩
  rw [hR]
  have kw := Kp.mk hwf
  clear hwf
  refine Wcall_K (N := 25) hm hY5 83000 (lst []) ok83 Tryd.func83 rfl rfl (by simp) (by kernel_rfl) ?_
  repeat' (first | refine And.intro ?_ ?_ | exact True.intro | refine rq fun _ => ?_ | simp only [go_sem, Tryd.f83])
  refine WK_loop hm hY5 83000 (lst []) (ι := RootI c w0)
    ⟨fun q => ⟨frL [(0, .fz (.sl (c.map enc))), (1, .fz (.s q.w.l)), (5, .fz (.i .i64 q.i))], hpL [], 0⟩, fun q => (c.length - q.j) * (c.length + 2) + (c.length - q.i)⟩
    ⟨w0, 0, 0, by omega, by omega, rfl, ⟨fun k hk h => absurd h (by omega)⟩, ⟨fun k hk h => absurd h (by omega)⟩⟩ (by kernel_rfl) ?_ ?_
  · refine Weak_to ?_ ?_ ?_ <;> simp only [go_sem]
    all_goals first | done | rfl | omega | trace_state
  rintro ⟨w, i, j, hi, hj, hr, k1, k2⟩
  try simp only at hi hj hr
  rcases Nat.lt_or_ge i c.length with h6 | h6
  · obtain ⟨x, hx⟩ : ∃ x, c[i] = x := ⟨_, rfl⟩
    by_cases hm2 : x.fr = w
    · have hml : (x.fr.l = w.l) = True := eq_true (by rw [hm2])
      have hij : j ≤ i := by
        rcases Nat.lt_or_ge i j with h | h
        · exact absurd (by rw [hx]; exact hm2) (k2.out i h6 h)
        · exact h
      repeat' (first | refine And.intro ?_ ?_ | exact True.intro | refine rq fun _ => ?_ | simp only [go_sem, h6, hx, hml, getD_map_lt, str_eta, Tryd.f83])
      refine ⟨⟨x.to, 0, i + 1, by omega, by omega, ?_, ⟨fun k hk h => absurd h (by omega)⟩, ⟨fun k hk h => ?_⟩⟩, ?_, ?_⟩
      · have := rootM_jump kw.out h6
        rw [hx, hm2] at this
        rw [← this, hr]
      · rw [← hx]
        exact kw.out.t i k h6 hk (by omega)
      · simp only
        have a1 : (c.length - (i + 1)) + 1 ≤ c.length - j := by omega
        have a2 := Nat.mul_le_mul_right (c.length + 2) a1
        rw [Nat.succ_mul] at a2
        omega
      refine Weak_to ?_ ?_ ?_ <;> simp only [go_sem]
      all_goals first | done | rfl | omega | trace_state
    · have hml : (x.fr.l = w.l) = False := eq_false fun h => hm2 (show (⟨x.fr.l⟩ : Str) = ⟨w.l⟩ by rw [h])
      repeat' (first | refine And.intro ?_ ?_ | exact True.intro | refine rq fun _ => ?_ | simp only [go_sem, h6, hx, hml, getD_map_lt, str_eta, Tryd.f83])
      refine ⟨⟨w, i + 1, j, by omega, by omega, hr, ⟨fun k hk h => ?_⟩, k2⟩, by simp only; omega, ?_⟩
      · rcases Nat.lt_or_ge k i with h7 | h7
        · exact k1.out k hk h7
        · obtain rfl : k = i := by omega
          rw [hx]; exact hm2
      refine Weak_to ?_ ?_ ?_ <;> simp only [go_sem]
      all_goals first | done | rfl | omega | trace_state
  obtain rfl : i = c.length := by omega
  have hw : rootM c w = w := rootM_out fun l hl => by
    obtain ⟨k, hk, rfl⟩ := List.getElem_of_mem hl
    exact k1.out k hk hk
  have hwR : w = R := by rw [← hw, hr, hR]
  subst hwR
  repeat' (first | refine And.intro ?_ ?_ | exact True.intro | refine rq fun _ => ?_ | simp only [go_sem, Nat.lt_irrefl, str_eta, Tryd.f83])
end Go.Proofs.YtdlioodgfopmfaaDoor

namespace Go.Proofs.YtdlioodgfopmfaaDoor
open Go Go.Abs Go.Proofs

/-! ## the classes of a branch -/
def Y7 : Tbl := Y6.add 46 (sp1 clsM fun l => (∀ f ∈ l, brF f) ∧ l.length ≤ 100000)
attribute [go_sem] Y7
set_option maxRecDepth 100000 in
set_option maxHeartbeats 1000000 in
set_option maxHeartbeats 4000000 in
theorem hY7 : TblOk Tryd.prog GA Y7 := by
  refine sp1_ok ok46 hY6 fun l hp _ => ?_
  obtain ⟨hbr, hsl⟩ := hp
  have kb := Kp.mk hbr
  clear hbr
  refine Wcall_K (N := 40) hm hY6 46000 (lsw [37] []) ok46 Tryd.func46 rfl rfl (by simp) (by kernel_rfl) ?_
  repeat' (first | refine And.intro ?_ ?_ | exact True.intro | refine rq fun _ => ?_ | simp only [go_sem, Tryd.f46])
  refine WK_loop hm hY6 46000 (lsw [37] []) (ι := LoopG l.length 1 fun _ => True)
    ⟨fun q => ⟨frL [(3, .ow (46037, q.g) 2 ((clsM (l.take q.i)).map enc)), (8, .fz (.sl (l.map enc))), (9, .fz (.i .i64 l.length)), (10, .fz (.i .i64 q.i))],
      hpL [((46037, q.g), some tok)], q.m⟩, fun q => l.length - q.i⟩
    ⟨0, 0, 1, by omega, by omega, by omega, trivial⟩ (by kernel_rfl) ?_ ?_
  · refine Weak_g [] [(46037, 0)] [] ?_ ?_ ?_ ?_ ?_ <;> simp only [go_sem, clsM]
    all_goals first | done | rfl | omega | trace_state
  rintro ⟨i, g, m, hi, hg, hm1, _⟩
  try simp only at hi hg hm1
  rcases Nat.lt_or_ge i l.length with h1 | h1
  · obtain ⟨x, hx⟩ : ∃ x, l[i] = x := ⟨_, rfl⟩
    have hxb : brF x := kb.out x (by rw [← hx]; exact List.getElem_mem h1)
    have et : clsM (l.take (i + 1)) = lnk1 (clsM (l.take i)) x := by rw [List.take_succ_eq_append_getElem h1, clsM_snoc, hx]
    obtain ⟨hwf, hcl⟩ := cls_wf (l.take i)
    rw [List.length_take] at hcl
    obtain ⟨c, hc⟩ : ∃ c, clsM (l.take i) = c := ⟨_, rfl⟩
    rw [hc] at et hwf hcl
    have hcp : wfC c ∧ c.length ≤ 1000000 := ⟨hwf, by omega⟩
    by_cases hk : x.kind = 3
    · obtain ⟨a, b, hab⟩ : ∃ a b, x.words = [a, b] := by
        have h2 := (vok_eq.1 hxb.v).2.2.2.1 hk
        match h : x.words, h2 with
        | [a, b], _ => exact ⟨a, b, rfl⟩
      have el : lnk1 c x = if rootM c a = rootM c b then c else c ++ [⟨rootM c a, rootM c b⟩] := by
        unfold lnk1
        rw [if_neg (by simp [hk]), hab]; rfl
      rw [el] at et
      obtain ⟨ra, hra⟩ : ∃ r, rootM c a = r := ⟨_, rfl⟩
      obtain ⟨rb, hrb⟩ : ∃ r, rootM c b = r := ⟨_, rfl⟩
      rw [hra, hrb] at et
      clear el hwf hxb
      by_cases hab2 : ra = rb
      · rw [if_pos hab2] at et
        have hl : (ra.l = rb.l) = True := eq_true (by rw [hab2])
        repeat' (first | refine ReqK.i hcp fun _ => ?_ | refine And.intro ?_ ?_ | exact True.intro | refine rq fun _ => ?_ | simp only [go_sem, h1, hx, hc, hk, hab, hra, hrb, hl, getD_map_lt, str_eta, form_eta, Tryd.f46])
        refine ⟨⟨i + 1, g, m + 1, by omega, by omega, by omega, trivial⟩, by simp only; omega, ?_⟩
        refine Weak_to ?_ ?_ ?_ <;> simp only [go_sem, et]
        all_goals first | done | rfl | omega | trace_state
      · rw [if_neg hab2] at et
        have hl : (ra.l = rb.l) = False := eq_false fun h => hab2 (show (⟨ra.l⟩ : Str) = ⟨rb.l⟩ by rw [h])
        repeat' (first | refine ReqK.i hcp fun _ => ?_ | refine ReqK.i (fits_of2 (by first | omega | (simp only [List.length_map, List.length_take, List.length_append, List.length_cons, List.length_nil]; omega)) (by decide)) fun _ => ?_ | refine And.intro ?_ ?_ | exact True.intro | refine rq fun _ => ?_ | simp only [go_sem, h1, hx, hc, hk, hab, hra, hrb, hl, getD_map_lt, str_eta, form_eta, Tryd.f46])
        refine ⟨⟨i + 1, m + 1, m + 2, by omega, by omega, by omega, trivial⟩, by simp only; omega, ?_⟩
        refine Weak_to ?_ ?_ ?_ <;> simp only [go_sem, et, List.map_append]
        all_goals first | done | rfl | omega | trace_state
    · have el : lnk1 c x = c := by unfold lnk1; rw [if_pos hk]
      rw [el] at et
      repeat' (first | refine And.intro ?_ ?_ | exact True.intro | refine rq fun _ => ?_ | simp only [go_sem, h1, hx, hc, hk, getD_map_lt, str_eta, form_eta, Tryd.f46])
      refine ⟨⟨i + 1, g, m + 1, by omega, by omega, by omega, trivial⟩, by simp only; omega, ?_⟩
      refine Weak_to ?_ ?_ ?_ <;> simp only [go_sem, et]
      all_goals first | done | rfl | omega | trace_state
  · obtain rfl : i = l.length := by omega
    repeat' (first | refine And.intro ?_ ?_ | exact True.intro | refine rq fun _ => ?_ | simp only [go_sem, Nat.lt_irrefl, List.take_length, Tryd.f46])
/-! ## predicates that are alike -/
set_option maxRecDepth 100000 in
set_option maxHeartbeats 1000000 in
theorem f86 {c : List Bind} {a b : Str} {id : Abs.Id} {H : Heap} {n : Nat} {R : D → Heap → Nat → Prop} (_hid : id.2 < n) (ho : H id = some ⟨[.fz (.sl (c.map enc))], true, false⟩) (hc : wfC c ∧ c.length ≤ 1000000)
    (hR : ∀ n', n ≤ n' → R (.fz (.b (decide (rootM c a = rootM c b)))) H n') : Wcall Tryd.prog GA 86 [.fz (.s a.l), .fz (.s b.l), .ptr id 0] H n R := by
  refine Wcall_keep ok86 (fun hfr => ?_) hR
  obtain ⟨ra, hra⟩ : ∃ r, rootM c a = r := ⟨_, rfl⟩
  obtain ⟨rb, hrb⟩ : ∃ r, rootM c b = r := ⟨_, rfl⟩
  rw [hra, hrb]
  obtain ⟨Q, hQ⟩ : ∃ Q : D → Heap → Nat → Prop, Q = (fun d' H' n' => d' = .fz (.b (decide (ra = rb))) ∧ n ≤ n' ∧ ∀ id, id.2 < n → H' id = H id) := ⟨_, rfl⟩
  rw [← hQ]
  have e : H = hpX [] H := rfl
  rw [e]
  refine Wcall_K (N := 13) hm hY7 86000 (lst []) ok86 Tryd.func86 rfl rfl (by simp) (by kernel_rfl) ?_
  repeat' (first | refine ReqK.i hc fun _ => ?_ | refine And.intro ?_ ?_ | exact True.intro | refine rq fun _ => ?_ | simp only [go_sem, ho, hra, hrb, str_eta, hpX, Tryd.f86])
  all_goals
    rw [hQ]
    refine ⟨?_, by omega, fun id _ => rfl⟩
    by_cases h : ra = rb
    · simp [h]
    · have : ¬ ra.l = rb.l := fun e => h (show (⟨ra.l⟩ : Str) = ⟨rb.l⟩ by rw [e])
      simp [h, this]
set_option maxRecDepth 100000 in
set_option maxHeartbeats 1000000 in
set_option maxHeartbeats 4000000 in
theorem f85 {c : List Bind} {a b : List Str} {id : Abs.Id} {H : Heap} {n : Nat} {R : D → Heap → Nat → Prop} (hid : id.2 < n) (ho : H id = some ⟨[.fz (.sl (c.map enc))], true, false⟩) (hc : wfC c ∧ c.length ≤ 1000000) (hal : a.length ≤ 1000000)
    (hR : ∀ n', n ≤ n' → R (.fz (.b (decide (a.map (rootM c) = b.map (rootM c))))) H n') : Wcall Tryd.prog GA 85 [.fz (.sl (a.map enc)), .fz (.sl (b.map enc)), .fn 86 [.ptr id 0]] H n R := by
  refine Wcall_keep ok85 (fun hfr => ?_) hR
  obtain ⟨Q, hQ⟩ : ∃ Q : D → Heap → Nat → Prop, Q = (fun d' H' n' => d' = .fz (.b (decide (a.map (rootM c) = b.map (rootM c)))) ∧ n ≤ n' ∧ ∀ id, id.2 < n → H' id = H id) := ⟨_, rfl⟩
  rw [← hQ]
  have hf : a.map (rootM c) ≠ b.map (rootM c) → ∀ {n'}, n ≤ n' → Q (.fz (.b false)) H n' := fun h n' hn => by
    rw [hQ]; exact ⟨by rw [decide_eq_false h], hn, fun _ _ => rfl⟩
  have ht : a.map (rootM c) = b.map (rootM c) → ∀ {n'}, n ≤ n' → Q (.fz (.b true)) H n' := fun h n' hn => by
    rw [hQ]; exact ⟨by rw [decide_eq_true h], hn, fun _ _ => rfl⟩
  have kf := Kp.mk @hf
  have kt := Kp.mk @ht
  clear hf ht hQ
  have e : H = hpX [] H := rfl
  rw [e]
  refine Wcall_K (N := 32) hm hY7 85000 (lst []) ok85 Tryd.func85 rfl rfl (by simp) (by kernel_rfl) ?_
  by_cases hl : a.length = b.length
  rotate_left
  · have hl' : ((a.length : Int) = b.length) = False := eq_false (by omega)
    repeat' (first | refine And.intro ?_ ?_ | exact True.intro | refine rq fun _ => ?_ | simp only [go_sem, hl', Tryd.f85])
    all_goals exact kf.out (fun e => hl (by have := congrArg List.length e; simpa using this)) (Nat.le_refl _)
  have hl' : ((a.length : Int) = b.length) = True := eq_true (by omega)
  repeat' (first | refine And.intro ?_ ?_ | exact True.intro | refine rq fun _ => ?_ | simp only [go_sem, hl', Tryd.f85])
  refine WK_loop hm hY7 85000 (lst []) (ι := LoopM a.length n fun i => (a.take i).map (rootM c) = (b.take i).map (rootM c))
    ⟨fun q => ⟨frL [(1, .fz (.sl (b.map enc))), (2, .fn 86 [.ptr id 0]), (15, .fz (.sl (a.map enc))), (16, .fz (.i .i64 a.length)), (17, .fz (.i .i64 q.i))], hpX [] H, q.m⟩, fun q => a.length - q.i⟩
    ⟨0, n, by omega, Nat.le_refl _, rfl⟩ (by kernel_rfl) ?_ ?_
  · refine Weak_toX ?_ ?_ (fun id2 o2 ho2 => ?_) ?_
    · simp only [go_sem]
    · simp only [go_sem]
    · exact ho2
    · first | omega | (simp only [go_sem]; done) | (simp only [go_sem]; omega)
  rintro ⟨i, m, hi, hm1, hp⟩
  try simp only at hi hm1 hp
  rcases Nat.lt_or_ge i a.length with h1 | h1
  · have h2 : i < b.length := by omega
    obtain ⟨x, hx⟩ : ∃ x, a[i] = x := ⟨_, rfl⟩
    obtain ⟨y, hy⟩ : ∃ y, b[i] = y := ⟨_, rfl⟩
    by_cases hxy : rootM c x = rootM c y
    · have hd : decide (rootM c x = rootM c y) = true := decide_eq_true hxy
      repeat' (first | refine WcallK.i (f86 (c := c) (a := x) (b := y) (by omega) ho hc fun n' hn' => ?_) | refine And.intro ?_ ?_ | exact True.intro | refine rq fun _ => ?_ | simp only [go_sem, h1, h2, hx, hy, hd, getD_map_lt, Tryd.f85])
      all_goals
        refine ⟨⟨i + 1, n', by omega, by omega, ?_⟩, by simp only; omega, ?_⟩
        · rw [List.take_succ_eq_append_getElem h1, List.take_succ_eq_append_getElem h2, List.map_append, List.map_append, hp, hx, hy, List.map_cons, List.map_cons, hxy]
        refine Weak_toX ?_ ?_ (fun id2 o2 ho2 => ?_) ?_
        · simp only [go_sem]
        · simp only [go_sem]
        · exact ho2
        · first | omega | (simp only [go_sem]; done) | (simp only [go_sem]; omega)
    · have hd : decide (rootM c x = rootM c y) = false := decide_eq_false hxy
      repeat' (first | refine WcallK.i (f86 (c := c) (a := x) (b := y) (by omega) ho hc fun n' hn' => ?_) | refine And.intro ?_ ?_ | exact True.intro | refine rq fun _ => ?_ | simp only [go_sem, h1, h2, hx, hy, hd, getD_map_lt, Tryd.f85])
      all_goals
        refine kf.out (fun e => hxy ?_) (by omega)
        have := congrArg (fun l => l[i]?) e
        simp only [List.getElem?_map, List.getElem?_eq_getElem h1, List.getElem?_eq_getElem h2, hx, hy, Option.map_some, Option.some.injEq] at this
        exact this
  · obtain rfl : i = a.length := by omega
    have h1' : ¬ a.length < a.length := by omega
    repeat' (first | refine And.intro ?_ ?_ | exact True.intro | refine rq fun _ => ?_ | simp only [go_sem, Nat.lt_irrefl, h1', Tryd.f85])
    all_goals
      refine kt.out ?_ (by omega)
      rw [List.take_length, hl, List.take_length] at hp
      exact hp
end Go.Proofs.YtdlioodgfopmfaaDoor

namespace Go.Proofs.YtdlioodgfopmfaaDoor
open Go Go.Abs Go.Proofs

/-! ## alike, contradicts -/
def Y8 : Tbl := Y7.add 48 (sp3 alikM fun c f _ => (wfC c ∧ c.length ≤ 1000000) ∧ f.fit = true)
attribute [go_sem] Y8
set_option maxRecDepth 100000 in
set_option maxHeartbeats 1000000 in
theorem hY8 : TblOk Tryd.prog GA Y8 := by
  refine sp3_ok ok48 hY7 fun c f g hp _ _ _ => ?_
  obtain ⟨hcw, hff⟩ := hp
  have hfw : f.words.length ≤ 1000000 := by have := (Form.fit_eq hff).1; omega
  clear hff
  by_cases k1 : f.kind = 2
  rotate_left
  · have e : alikM c f g = false := by unfold alikM; simp [k1]
    rw [e]
    refine Wcall_K (N := 28) hm hY7 48000 (lst []) ok48 Tryd.func48 rfl rfl (by simp) (by kernel_rfl) ?_
    repeat' (first | refine And.intro ?_ ?_ | exact True.intro | refine rq fun _ => ?_ | simp only [go_sem, k1, str_eta, form_eta, Tryd.f48])
  by_cases k2 : g.kind = 2
  rotate_left
  · have e : alikM c f g = false := by unfold alikM; simp [k2]
    rw [e]
    refine Wcall_K (N := 28) hm hY7 48000 (lst []) ok48 Tryd.func48 rfl rfl (by simp) (by kernel_rfl) ?_
    repeat' (first | refine And.intro ?_ ?_ | exact True.intro | refine rq fun _ => ?_ | simp only [go_sem, k1, k2, str_eta, form_eta, Tryd.f48])
  by_cases k3 : f.name = g.name
  rotate_left
  · have e : alikM c f g = false := by unfold alikM; simp [k3]
    have k3' : (f.name.l = g.name.l) = False := eq_false fun h => k3 (show (⟨f.name.l⟩ : Str) = ⟨g.name.l⟩ by rw [h])
    rw [e]
    refine Wcall_K (N := 28) hm hY7 48000 (lst []) ok48 Tryd.func48 rfl rfl (by simp) (by kernel_rfl) ?_
    repeat' (first | refine And.intro ?_ ?_ | exact True.intro | refine rq fun _ => ?_ | simp only [go_sem, k1, k2, k3', str_eta, form_eta, Tryd.f48])
  have k3' : (f.name.l = g.name.l) = True := eq_true (by rw [k3])
  have e : alikM c f g = decide (f.words.map (rootM c) = g.words.map (rootM c)) := by unfold alikM; simp [k1, k2, k3]
  rw [e]
  obtain ⟨b, hb⟩ : ∃ b, decide (f.words.map (rootM c) = g.words.map (rootM c)) = b := ⟨_, rfl⟩
  rw [hb]
  refine Wcall_K (N := 28) hm hY7 48000 (lst []) ok48 Tryd.func48 rfl rfl (by simp) (by kernel_rfl) ?_
  repeat' (first | refine WcallK.i (f85 (c := c) (a := f.words) (b := g.words) (by simp only; omega) (by simp only [go_sem]) hcw hfw fun n' hn' => ?_) | refine And.intro ?_ ?_ | exact True.intro | refine rq fun _ => ?_ | simp only [go_sem, k1, k2, k3', hb, str_eta, form_eta, Tryd.f48])
def conPreY (c : List Bind) (f : Abs.Form) : Prop := (wfC c ∧ c.length ≤ 1000000) ∧ brF f
def Y9 : Tbl := Y8.add 45 (sp2 conM conPreY)
attribute [go_sem] Y9
set_option maxRecDepth 100000 in
set_option maxHeartbeats 1000000 in
theorem hY9 : TblOk Tryd.prog GA Y9 := by
  refine sp2_ok ok45 hY8 fun c f hp _ _ => ?_
  obtain ⟨hcw, hbr⟩ := hp
  by_cases k1 : f.kind = 4
  rotate_left
  · have e : conM c f = false := by unfold conM; simp [k1]
    rw [e]
    refine Wcall_K (N := 36) hm hY8 45000 (lst []) ok45 Tryd.func45 rfl rfl (by simp) (by kernel_rfl) ?_
    repeat' (first | refine And.intro ?_ ?_ | exact True.intro | refine rq fun _ => ?_ | simp only [go_sem, k1, str_eta, form_eta, Tryd.f45])
  obtain ⟨g, hg, s0, hbg⟩ := br_one hbr (.inl k1)
  by_cases k2 : g.kind = 1
  · have e : conM c f = true := by unfold conM; rw [s0]; simp [k1, k2]
    rw [e]
    refine Wcall_K (N := 36) hm hY8 45000 (lst []) ok45 Tryd.func45 rfl rfl (by simp) (by kernel_rfl) ?_
    repeat' (first | refine And.intro ?_ ?_ | exact True.intro | refine rq fun _ => ?_ | simp only [go_sem, k1, hg, k2, str_eta, form_eta, Tryd.f45])
  by_cases k3 : g.kind = 3
  rotate_left
  · have e : conM c f = false := by unfold conM; rw [s0]; simp [k1, k2, k3]
    rw [e]
    refine Wcall_K (N := 36) hm hY8 45000 (lst []) ok45 Tryd.func45 rfl rfl (by simp) (by kernel_rfl) ?_
    repeat' (first | refine And.intro ?_ ?_ | exact True.intro | refine rq fun _ => ?_ | simp only [go_sem, k1, hg, k2, k3, str_eta, form_eta, Tryd.f45])
  obtain ⟨a, b, hab⟩ : ∃ a b, g.words = [a, b] := by
    have h2 := (vok_eq.1 hbg.v).2.2.2.1 k3
    match h : g.words, h2 with
    | [a, b], _ => exact ⟨a, b, rfl⟩
  have e : conM c f = decide (rootM c a = rootM c b) := by unfold conM; rw [s0, hab]; simp [k1, k3]
  rw [e]
  obtain ⟨ra, hra⟩ : ∃ r, rootM c a = r := ⟨_, rfl⟩
  obtain ⟨rb, hrb⟩ : ∃ r, rootM c b = r := ⟨_, rfl⟩
  rw [hra, hrb]
  refine Wcall_K (N := 36) hm hY8 45000 (lst []) ok45 Tryd.func45 rfl rfl (by simp) (by kernel_rfl) ?_
  by_cases hr : ra = rb
  · have hl : (ra.l = rb.l) = True := eq_true (by rw [hr])
    rw [decide_eq_true hr]
    repeat' (first | refine ReqK.i hcw fun _ => ?_ | refine And.intro ?_ ?_ | exact True.intro | refine rq fun _ => ?_ | simp only [go_sem, k1, hg, k3, hab, hra, hrb, hl, str_eta, form_eta, Tryd.f45])
  · have hl : (ra.l = rb.l) = False := eq_false fun h => hr (show (⟨ra.l⟩ : Str) = ⟨rb.l⟩ by rw [h])
    rw [decide_eq_false hr]
    repeat' (first | refine ReqK.i hcw fun _ => ?_ | refine And.intro ?_ ?_ | exact True.intro | refine rq fun _ => ?_ | simp only [go_sem, k1, hg, k3, hab, hra, hrb, hl, str_eta, form_eta, Tryd.f45])
/-! ## a branch with more formulas -/
set_option maxRecDepth 100000 in
set_option maxHeartbeats 1000000 in
theorem f44 {l fs : List Abs.Form} {id : Abs.Id} {H : Heap} {n : Nat} {R : D → Heap → Nat → Prop} {d : D} (hd : d = .full (fs.map enc) ∨ d = .fz (.sl (fs.map enc))) (_hid : id.2 < n) (ho : H id = some ⟨[.fz (.sl (l.map enc))], true, false⟩) (h1 : l.length ≤ 1000000) (h2 : fs.length ≤ 1000000)
    (hR : ∀ n', n ≤ n' → R (.fz (.sl ((l ++ fs).map enc))) H n') : Wcall Tryd.prog GA 44 [d, .ptr id 0] H n R := by
  refine Wcall_keep ok44 (fun hfr => ?_) hR
  obtain ⟨Q, hQ⟩ : ∃ Q : D → Heap → Nat → Prop, Q = (fun d' H' n' => d' = .fz (.sl ((l ++ fs).map enc)) ∧ n ≤ n' ∧ ∀ id, id.2 < n → H' id = H id) := ⟨_, rfl⟩
  rw [← hQ]
  have e : H = hpX [] H := rfl
  rw [e]
  rcases hd with rfl | rfl
  all_goals
    refine Wcall_K (N := 12) hm hY9 44000 (lst []) ok44 Tryd.func44 rfl rfl (by simp) (by kernel_rfl) ?_
    repeat' (first | refine ReqK.i (fits_of2 (by first | omega | (simp only [List.length_map, List.length_take, List.length_append, List.length_cons, List.length_nil]; omega)) (by decide)) fun _ => ?_ | refine And.intro ?_ ?_ | exact True.intro | refine rq fun _ => ?_ | simp only [go_sem, ho, hpX, Tryd.f44, List.map_append])
    all_goals
      rw [hQ]
      exact ⟨by rw [List.map_append], Nat.le_refl _, fun id _ => rfl⟩
end Go.Proofs.YtdlioodgfopmfaaDoor

namespace Go.Proofs.YtdlioodgfopmfaaDoor
open Go Go.Abs Go.Proofs

/-! ## check -/
section
variable {P : Program} {G : Nat → List FD} {T : Tbl}
/-- a recursive function of two arguments, measured at the second, under a condition -/
theorem sp2_recB {α β ρ : Type} [Enc α] [Enc β] [Enc ρ] {f : FuncId} {g : α → β → ρ} {pre : α → β → Prop} (m : β → Nat) (hc : CallOk P f) (hT : TblOk P G T)
    (h : ∀ n, TblOk P G (T.add f (sp2 g fun a b => m b < n ∧ pre a b)) → ∀ a b, m b = n → pre a b → (enc a).Wf → (enc b).Wf → Wcall P G f [.fz (enc a), .fz (enc b)] (hpL []) 0 (fun d _ _ => D.val d = some (.fz (enc (g a b))))) : TblOk P G (T.add f (sp2 g pre)) := by
  have key : ∀ n, TblOk P G (T.add f (sp2 g fun a b => m b < n ∧ pre a b)) := by
    intro n
    induction n with
    | zero => exact sp2_ok hc hT fun a b ha => by omega
    | succ n ih =>
      refine sp2_ok hc hT fun a b ha hw hw2 => ?_
      rcases Nat.lt_or_ge (m b) n with h1 | h1
      · have h2 := ih f (sp2 g fun a b => m b < n ∧ pre a b) [enc a, enc b] _ _ (by simp [Tbl.add]) (k_sp2) ⟨by rw [dec_enc], by rw [dec_enc], by rw [dec_enc, dec_enc]; exact ⟨h1, ha.2⟩⟩
        rw [dec_enc, dec_enc, H0_eq] at h2
        exact h2
      · exact h n ih a b (by omega) ha.2 hw hw2
  exact sp2_ok hc hT fun a b ha hw hw2 => h (m b) (key _) a b rfl ha hw hw2
end
def treeK12 : Tv := (.q 0 (.q 1 (.q 2 (.q 3 (.q 4 .leaf)))))
def treeK14 : Tv := (.q 0 (.q 1 (.q 2 (.q 3 (.q 4 (.q 5 (.q 6 (.q 7 (.q 8 (.q 9 (.q 10 (.q 11 (.q 12 (.q 13 (.q 14 (.q 15 (.q 16 (.q 17 (.q 18 (.q 19 .leaf))))))))))))))))))))
def treeK16 : Tv := (.q 0 (.q 1 (.q 2 (.q 3 (.q 4 (.q 5 (.q 6 (.q 7 (.q 8 (.q 9 (.q 10 (.q 12 (.br [(11, (.q 13 (.q 14 (.q 15 (.q 16 (.q 17 (.q 18 .leaf))))))), (13, (.q 14 (.br [(11, (.q 15 (.q 16 (.q 17 (.q 18 .leaf))))), (15, (.br [(11, (.q 16 (.q 17 (.q 18 .leaf))))]))])))])))))))))))))
def treeK18 : Tv := (.q 0 (.q 1 (.q 2 (.q 3 (.q 4 (.q 5 (.q 6 (.q 7 (.q 8 (.q 9 (.q 10 (.q 11 (.q 12 (.q 13 (.q 15 (.br [(14, (.q 16 (.q 17 (.q 18 (.q 19 (.q 20 (.q 21 (.q 22 (.q 23 (.q 24 (.q 25 (.q 26 (.q 28 (.br [(27, (.q 29 (.q 30 (.q 31 (.q 32 (.q 33 (.q 34 .leaf))))))), (29, (.q 30 (.br [(27, (.q 31 (.q 32 (.q 33 (.q 34 .leaf))))), (31, (.br [(27, (.q 32 (.q 33 (.q 34 .leaf))))]))])))])))))))))))))), (16, (.q 17 (.br [(14, (.q 18 (.q 19 (.q 20 (.q 21 (.q 22 (.q 23 (.q 24 (.q 25 (.q 26 (.q 28 (.br [(27, (.q 29 (.q 30 (.q 31 (.q 32 (.q 33 (.q 34 .leaf))))))), (29, (.q 30 (.br [(27, (.q 31 (.q 32 (.q 33 (.q 34 .leaf))))), (31, (.br [(27, (.q 32 (.q 33 (.q 34 .leaf))))]))])))])))))))))))), (18, (.br [(14, (.q 19 (.q 20 (.q 21 (.q 22 (.q 23 (.q 24 (.q 25 (.q 26 (.q 28 (.br [(27, (.q 29 (.q 30 (.q 31 (.q 32 (.q 33 (.q 34 .leaf))))))), (29, (.q 30 (.br [(27, (.q 31 (.q 32 (.q 33 (.q 34 .leaf))))), (31, (.br [(27, (.q 32 (.q 33 (.q 34 .leaf))))]))])))])))))))))))]))])))]))))))))))))))))
def treeK20 : Tv := (.q 0 (.q 1 (.q 2 (.q 3 (.q 4 (.q 5 (.q 6 (.q 7 (.q 8 (.q 9 (.q 10 (.q 11 (.q 12 (.q 13 (.q 14 (.q 15 (.q 16 (.q 17 (.q 18 (.q 19 (.q 20 (.q 22 (.br [(21, (.q 23 (.q 24 (.q 25 (.q 26 (.q 27 (.q 28 .leaf))))))), (23, (.q 24 (.br [(21, (.q 25 (.q 26 (.q 27 (.q 28 .leaf))))), (25, (.br [(21, (.q 26 (.q 27 (.q 28 .leaf))))]))])))])))))))))))))))))))))))
def treeK22 : Tv := (.q 0 (.q 1 (.q 2 (.q 3 (.q 4 (.q 5 (.q 6 (.q 7 (.q 8 (.q 9 (.q 10 (.q 11 (.q 12 (.q 13 (.q 14 (.q 15 (.q 16 (.q 17 (.q 18 (.q 19 (.q 20 (.q 21 (.q 22 (.q 23 (.q 24 (.q 25 (.q 26 (.q 27 (.q 29 (.br [(28, (.q 30 (.q 31 (.q 32 (.q 33 (.q 34 (.q 35 .leaf))))))), (30, (.q 31 (.br [(28, (.q 32 (.q 33 (.q 34 (.q 35 .leaf))))), (32, (.br [(28, (.q 33 (.q 34 (.q 35 .leaf))))]))])))]))))))))))))))))))))))))))))))
def treeK29 : Tv := (.q 0 (.q 1 (.q 2 (.q 3 (.q 4 (.q 5 (.q 6 (.q 7 (.q 8 (.q 9 (.q 10 (.q 12 (.br [(11, (.q 13 (.q 14 (.q 15 (.q 16 (.q 17 .leaf)))))), (13, (.q 14 (.br [(11, (.q 15 (.q 16 (.q 17 .leaf)))), (15, (.br [(11, (.q 16 (.q 17 .leaf)))]))])))])))))))))))))
def ckPreY (l : List Abs.Form) (p : Prf) : Prop := (∀ f ∈ l, brF f) ∧ l.length + 2 * p.size ≤ 100000
def Y10 : Tbl := Y9.add 18 (sp2 (fun l p => chkM p l) ckPreY)
attribute [go_sem] Y10
theorem in_false {l : List Abs.Form} {i : Int} (h : inL l i = false) : ¬ (0 ≤ i ∧ i < l.length) := by
  unfold inL at h
  intro ⟨h1, h2⟩
  rw [decide_eq_true h1, decide_eq_true h2] at h
  cases h
theorem in_true {l : List Abs.Form} {i : Int} (h : inL l i = true) : 0 ≤ i ∧ i < l.length := by
  unfold inL at h
  simp only [Bool.and_eq_true, decide_eq_true_eq] at h
  exact h
/-! a place that is none of the branch -/
set_option maxRecDepth 100000 in
set_option maxHeartbeats 1000000 in
theorem f42N {l : List Abs.Form} {i : Int} {id : Abs.Id} {H : Heap} {n : Nat} {R : D → Heap → Nat → Prop} (_hid : id.2 < n) (ho : H id = some ⟨[.fz (.sl (l.map enc))], true, false⟩) (h0 : ¬ (0 ≤ i ∧ i < l.length)) (hR : ∀ n', n ≤ n' → R (.fz (.b false)) H n') :
    Wcall Tryd.prog GA 42 [.fz (.i .i64 i), .ptr id 0] H n R := by
  refine Wcall_keep ok42 (fun hfr => ?_) hR
  obtain ⟨Q, hQ⟩ : ∃ Q : D → Heap → Nat → Prop, Q = (fun d' H' n' => d' = .fz (.b false) ∧ n ≤ n' ∧ ∀ id, id.2 < n → H' id = H id) := ⟨_, rfl⟩
  rw [← hQ]
  have e : H = hpX [] H := rfl
  rw [e]
  refine Wcall_K (N := 12) hm hY9 42000 (lst []) ok42 Tryd.func42 rfl rfl (by simp) (by kernel_rfl) ?_
  by_cases h1 : 0 ≤ i
  · have hlt : (i < (l.length : Int)) = False := eq_false fun h => h0 ⟨h1, h⟩
    have hge : (0 ≤ i) = True := eq_true h1
    repeat' (first | refine And.intro ?_ ?_ | exact True.intro | refine rq fun _ => ?_ | simp only [go_sem, ho, hge, hlt, Tryd.f42, hpX])
    all_goals
      rw [hQ]
      exact ⟨rfl, by omega, fun id _ => rfl⟩
  · have hge : (0 ≤ i) = False := eq_false h1
    repeat' (first | refine And.intro ?_ ?_ | exact True.intro | refine rq fun _ => ?_ | simp only [go_sem, ho, hge, Tryd.f42, hpX])
    all_goals
      rw [hQ]
      exact ⟨rfl, by omega, fun id _ => rfl⟩
set_option maxRecDepth 100000 in
set_option maxHeartbeats 1000000 in
set_option maxHeartbeats 16000000 in
theorem hY10 : TblOk Tryd.prog GA Y10 := by
  refine sp2_recB Prf.size ok18 hY9 fun k hT l p hpk hpre _ _ => ?_
  obtain ⟨hbr, hsz⟩ := hpre
  have hlen : l.length ≤ 1000000 := by omega
  have kT := Kp.mk hT
  have kb := Kp.mk hbr
  clear hT hbr
  have ec : chkM p l = chkN p.kind p.form p.other p.name (p.subs.map chkM) l := chkM_eq p l
  unfold chkN at ec
  cases hfi : inL l p.form with
  | false =>
    have hfo := in_false hfi
    rw [if_pos hfi] at ec
    rw [ec]
    refine Wcall_K (N := 259) hm kT.out 18000 (lst [1000012, 1000014, 1000016, 1000018, 1000020, 1000022, 1000029]) ok18 Tryd.func18 rfl rfl (by simp) (by kernel_rfl) ?_
    repeat' (first | refine WcallK.i (f42N (l := l) (by simp only; omega) (by simp only [go_sem]) hfo fun n' hn' => ?_) | refine And.intro ?_ ?_ | exact True.intro | refine rq fun _ => ?_ | simp only [go_sem, prf_eta, form_eta, Tryd.f18])
  | true =>
    have hfo := in_true hfi
    rw [if_neg (by simp [hfi])] at ec
    obtain ⟨fi, hfn⟩ : ∃ n : Nat, p.form = (n : Int) := ⟨p.form.toNat, by omega⟩
    have hfl : fi < l.length := by omega
    obtain ⟨f, hf⟩ : ∃ f, l[fi] = f := ⟨_, rfl⟩
    have hfb : brF f := kb.out f (by rw [← hf]; exact List.getElem_mem hfl)
    have haf : atL l p.form = f := by unfold atL; rw [hfn, Int.toNat_natCast, List.getD_eq_getElem?_getD, List.getElem?_eq_getElem hfl, hf]; rfl
    rw [haf] at ec
    obtain ⟨pb1, pb2, pb3, pb4⟩ := parts_br hfb
    obtain ⟨pk, po, pq, pt, hP⟩ : ∃ a b c d, partsM f = (a, b, c, d) := ⟨_, _, _, _, rfl⟩
    rw [hP] at ec pb1 pb2 pb3 pb4
    simp only at ec pb1 pb2 pb3 pb4
    rw [hfn] at hfo
    by_cases k1 : p.kind = 1
    · rw [if_pos k1] at ec
      by_cases h1 : p.subs.length = 0
      rotate_left
      · have e : chkM p l = false := by rw [ec, List.length_map, decide_eq_false h1]; rfl
        have h1' : ((p.subs.length : Int) = 0) = False := eq_false (by omega)
        rw [e]
        refine Wcall_K (N := 259) hm kT.out 18000 (lst [1000012, 1000014, 1000016, 1000018, 1000020, 1000022, 1000029]) ok18 Tryd.func18 rfl rfl (by simp) (by kernel_rfl) ?_
        repeat' (first | refine WcallK.i (f42 (l := l) (by simp only; omega) (by simp only [go_sem]) hfo.1 hfo.2 hlen fun n' hn' => ?_) | refine ReqK.i hfb fun _ => ?_ | refine And.intro ?_ ?_ | exact True.intro | refine rq fun _ => ?_ | simp only [go_sem, k1, hfn, hfl, hf, hP, h1', getD_map_lt, prf_eta, form_eta, Tryd.f18])
      have h1' : ((p.subs.length : Int) = 0) = True := eq_true (by omega)
      cases hoi : inL l p.other with
      | false =>
        have hoo := in_false hoi
        have e : chkM p l = false := by rw [ec, hoi]; simp
        rw [e]
        refine Wcall_K (N := 259) hm kT.out 18000 (lst [1000012, 1000014, 1000016, 1000018, 1000020, 1000022, 1000029]) ok18 Tryd.func18 rfl rfl (by simp) (by kernel_rfl) ?_
        repeat' (first | refine WcallK.i (f42 (l := l) (by simp only; omega) (by simp only [go_sem]) hfo.1 hfo.2 hlen fun n' hn' => ?_) | refine WcallK.i (f42N (l := l) (by simp only; omega) (by simp only [go_sem, hfn]) hoo fun n' hn' => ?_) | refine ReqK.i hfb fun _ => ?_ | refine And.intro ?_ ?_ | exact True.intro | refine rq fun _ => ?_ | simp only [go_sem, k1, hfn, hfl, hf, hP, h1', getD_map_lt, prf_eta, form_eta, Tryd.f18])
      | true =>
        have hoo := in_true hoi
        obtain ⟨oi, hon⟩ : ∃ n : Nat, p.other = (n : Int) := ⟨p.other.toNat, by omega⟩
        have hol : oi < l.length := by omega
        obtain ⟨g, hg⟩ : ∃ g, l[oi] = g := ⟨_, rfl⟩
        have hgb : brF g := kb.out g (by rw [← hg]; exact List.getElem_mem hol)
        have hag : atL l p.other = g := by unfold atL; rw [hon, Int.toNat_natCast, List.getD_eq_getElem?_getD, List.getElem?_eq_getElem hol, hg]; rfl
        rw [hon] at hoo
        obtain ⟨cw, cl⟩ := cls_wf l
        have hcp : (wfC (clsM l) ∧ (clsM l).length ≤ 1000000) := ⟨cw, by omega⟩
        have hlp : (∀ f ∈ l, brF f) ∧ l.length ≤ 100000 := ⟨kb.out, by omega⟩
        have hcon : conPreY (clsM l) f := ⟨hcp, hfb⟩
        have halk : (wfC (clsM l) ∧ (clsM l).length ≤ 1000000) ∧ f.fit = true := ⟨hcp, hfb.ft⟩
        have hng : f.fit = true ∧ f.size ≤ 900 := ng_small hfb
        rw [hag, hoi] at ec
        have ec : chkM p l = if p.other = p.form then conM (clsM l) f else closeM l f g := by rw [ec, List.length_map, decide_eq_true h1]; rfl
        obtain ⟨C, hC⟩ : ∃ C, clsM l = C := ⟨_, rfl⟩
        by_cases hof : oi = fi
        · have e : chkM p l = conM (clsM l) f := by rw [ec, if_pos (by omega)]
          have hofT : ((oi : Int) = fi) = True := eq_true (by omega)
          rw [hC] at e hcon
          obtain ⟨B, hB⟩ : ∃ B, conM C f = B := ⟨_, rfl⟩
          rw [e, hB]
          clear e ec halk hcp
          refine Wcall_K (N := 259) hm kT.out 18000 (lst [1000012, 1000014, 1000016, 1000018, 1000020, 1000022, 1000029]) ok18 Tryd.func18 rfl rfl (by simp) (by kernel_rfl) ?_
          repeat' (first | refine WcallK.i (f42 (l := l) (by simp only; omega) (by simp only [go_sem]) hfo.1 hfo.2 hlen fun n' hn' => ?_) | refine WcallK.i (f42 (l := l) (by simp only; omega) (by simp only [go_sem, hfn]) hoo.1 hoo.2 hlen fun n' hn' => ?_) | refine ReqK.i hfb fun _ => ?_ | refine ReqK.i hlp fun _ => ?_ | refine ReqK.i hcon fun _ => ?_ | refine WK_drawV (id := 12) hm kT.out 18000 (lst [1000012, 1000014, 1000016, 1000018, 1000020, 1000022, 1000029]) treeK12 (by kernel_rfl) (by kernel_rfl) ?_ | refine And.intro ?_ ?_ | exact True.intro | refine rq fun _ => ?_ | simp only [go_sem, k1, hfn, hon, hfl, hf, hP, h1', hofT, hC, hB, treeK12, getD_map_lt, prf_eta, form_eta, Tryd.f18])
        · have e : chkM p l = closeM l f g := by rw [ec, if_neg (by omega)]
          have hofF : ((oi : Int) = fi) = False := eq_false (by omega)
          unfold closeM at e
          rw [hC] at e halk
          obtain ⟨X, hX⟩ : ∃ X, negM f = X := ⟨_, rfl⟩
          have hXg : ngg f = X := hX
          rw [hXg] at e
          clear ec hcp
          by_cases hs : X = g
          · have e : chkM p l = true := by rw [e, decide_eq_true hs]; rfl
            have hsT : (X = g) = True := eq_true hs
            rw [e]
            refine Wcall_K (N := 259) hm kT.out 18000 (lst [1000012, 1000014, 1000016, 1000018, 1000020, 1000022, 1000029]) ok18 Tryd.func18 rfl rfl (by simp) (by kernel_rfl) ?_
            repeat' (first | refine WcallK.i (f42 (l := l) (by simp only; omega) (by simp only [go_sem]) hfo.1 hfo.2 hlen fun n' hn' => ?_) | refine WcallK.i (f42 (l := l) (by simp only; omega) (by simp only [go_sem, hfn]) hoo.1 hoo.2 hlen fun n' hn' => ?_) | refine ReqK.i hfb fun _ => ?_ | refine ReqK.i hlp fun _ => ?_ | refine ReqK.i hng fun _ => ?_ | refine ReqK.i halk fun _ => ?_ | refine WK_drawV (id := 14) hm kT.out 18000 (lst [1000012, 1000014, 1000016, 1000018, 1000020, 1000022, 1000029]) treeK14 (by kernel_rfl) (by kernel_rfl) ?_ | refine And.intro ?_ ?_ | exact True.intro | refine rq fun _ => ?_ | simp only [go_sem, k1, hfn, hon, hfl, hf, hol, hg, hP, h1', hofF, hC, hX, hsT, treeK14, getD_map_lt, prf_eta, form_eta, Tryd.f18])
          have hsF : (X = g) = False := eq_false hs
          rw [decide_eq_false hs, Bool.false_or] at e
          by_cases hg4 : g.kind = 4
          · obtain ⟨h, hh, s0, _⟩ := br_one hgb (.inl hg4)
            have eG : Abs.Form.mk 4 g.name g.words [h] = g := by rw [← hg4, ← hh]; exact form_eta
            have e : chkM p l = alikM C f h := by rw [e, decide_eq_true hg4, s0]; rfl
            obtain ⟨B, hB⟩ : ∃ B, alikM C f h = B := ⟨_, rfl⟩
            rw [e, hB]
            clear e s0
            refine Wcall_K (N := 259) hm kT.out 18000 (lst [1000012, 1000014, 1000016, 1000018, 1000020, 1000022, 1000029]) ok18 Tryd.func18 rfl rfl (by simp) (by kernel_rfl) ?_
            repeat' (first | refine WcallK.i (f42 (l := l) (by simp only; omega) (by simp only [go_sem]) hfo.1 hfo.2 hlen fun n' hn' => ?_) | refine WcallK.i (f42 (l := l) (by simp only; omega) (by simp only [go_sem, hfn]) hoo.1 hoo.2 hlen fun n' hn' => ?_) | refine ReqK.i hfb fun _ => ?_ | refine ReqK.i hlp fun _ => ?_ | refine ReqK.i hng fun _ => ?_ | refine ReqK.i halk fun _ => ?_ | refine WK_drawV (id := 14) hm kT.out 18000 (lst [1000012, 1000014, 1000016, 1000018, 1000020, 1000022, 1000029]) treeK14 (by kernel_rfl) (by kernel_rfl) ?_ | refine And.intro ?_ ?_ | exact True.intro | refine rq fun _ => ?_ | simp only [go_sem, k1, hfn, hon, hfl, hf, hol, hg, hP, h1', hofF, hC, hX, hsF, hg4, hh, eG, hB, treeK14, getD_map_lt, prf_eta, form_eta, Tryd.f18])
          · have e : chkM p l = false := by rw [e, decide_eq_false hg4]; rfl
            rw [e]
            refine Wcall_K (N := 259) hm kT.out 18000 (lst [1000012, 1000014, 1000016, 1000018, 1000020, 1000022, 1000029]) ok18 Tryd.func18 rfl rfl (by simp) (by kernel_rfl) ?_
            repeat' (first | refine WcallK.i (f42 (l := l) (by simp only; omega) (by simp only [go_sem]) hfo.1 hfo.2 hlen fun n' hn' => ?_) | refine WcallK.i (f42 (l := l) (by simp only; omega) (by simp only [go_sem, hfn]) hoo.1 hoo.2 hlen fun n' hn' => ?_) | refine ReqK.i hfb fun _ => ?_ | refine ReqK.i hlp fun _ => ?_ | refine ReqK.i hng fun _ => ?_ | refine ReqK.i halk fun _ => ?_ | refine WK_drawV (id := 14) hm kT.out 18000 (lst [1000012, 1000014, 1000016, 1000018, 1000020, 1000022, 1000029]) treeK14 (by kernel_rfl) (by kernel_rfl) ?_ | refine And.intro ?_ ?_ | exact True.intro | refine rq fun _ => ?_ | simp only [go_sem, k1, hfn, hon, hfl, hf, hol, hg, hP, h1', hofF, hC, hX, hsF, hg4, treeK14, getD_map_lt, prf_eta, form_eta, Tryd.f18])
    rw [if_neg k1] at ec
    by_cases k2 : p.kind = 2
    · rw [if_pos k2] at ec
      by_cases h1 : pk = 1
      rotate_left
      · have e : chkM p l = false := by rw [ec, decide_eq_false h1]; rfl
        rw [e]
        refine Wcall_K (N := 259) hm kT.out 18000 (lst [1000012, 1000014, 1000016, 1000018, 1000020, 1000022, 1000029]) ok18 Tryd.func18 rfl rfl (by simp) (by kernel_rfl) ?_
        repeat' (first | refine WcallK.i (f42 (l := l) (by simp only; omega) (by simp only [go_sem]) hfo.1 hfo.2 hlen fun n' hn' => ?_) | refine ReqK.i hfb fun _ => ?_ | refine WK_drawV (id := 16) hm kT.out 18000 (lst [1000012, 1000014, 1000016, 1000018, 1000020, 1000022, 1000029]) treeK16 (by kernel_rfl) (by kernel_rfl) ?_ | refine And.intro ?_ ?_ | exact True.intro | refine rq fun _ => ?_ | simp only [go_sem, k2, hfn, hfl, hf, hP, h1, treeK16, getD_map_lt, prf_eta, form_eta, Tryd.f18])
      by_cases h2 : p.subs.length = 1
      rotate_left
      · have e : chkM p l = false := by rw [ec, List.length_map, decide_eq_false h2]; simp
        have h2' : ((p.subs.length : Int) = 1) = False := eq_false (by omega)
        rw [e]
        refine Wcall_K (N := 259) hm kT.out 18000 (lst [1000012, 1000014, 1000016, 1000018, 1000020, 1000022, 1000029]) ok18 Tryd.func18 rfl rfl (by simp) (by kernel_rfl) ?_
        repeat' (first | refine WcallK.i (f42 (l := l) (by simp only; omega) (by simp only [go_sem]) hfo.1 hfo.2 hlen fun n' hn' => ?_) | refine ReqK.i hfb fun _ => ?_ | refine WK_drawV (id := 16) hm kT.out 18000 (lst [1000012, 1000014, 1000016, 1000018, 1000020, 1000022, 1000029]) treeK16 (by kernel_rfl) (by kernel_rfl) ?_ | refine And.intro ?_ ?_ | exact True.intro | refine rq fun _ => ?_ | simp only [go_sem, k2, hfn, hfl, hf, hP, h1, h2', treeK16, getD_map_lt, prf_eta, form_eta, Tryd.f18])
      obtain ⟨s0, hs0⟩ : ∃ s, p.subs = [s] := by
        match h : p.subs, h2 with
        | [s], _ => exact ⟨s, rfl⟩
      have hs0s := Prf.size_sub (f := p) (g := s0) (by rw [hs0]; simp)
      have e : chkM p l = chkM s0 (l ++ po) := by rw [ec, hs0]; simp [h1]
      rw [e]
      have hrec : s0.size < k ∧ ckPreY (l ++ po) s0 := ⟨by omega, fun x hx => by
        rcases List.mem_append.1 hx with hx | hx
        · exact kb.out x hx
        · exact pb1 x hx, by rw [List.length_append]; omega⟩
      obtain ⟨B, hB⟩ : ∃ B, chkM s0 (l ++ po) = B := ⟨_, rfl⟩
      rw [hB]
      have hpl : po.length ≤ 1000000 := by omega
      clear e ec h2 pb1 pb2 pb4
      refine Wcall_K (N := 259) hm kT.out 18000 (lst [1000012, 1000014, 1000016, 1000018, 1000020, 1000022, 1000029]) ok18 Tryd.func18 rfl rfl (by simp) (by kernel_rfl) ?_
      repeat' (first | refine WcallK.i (f42 (l := l) (by simp only; omega) (by simp only [go_sem]) hfo.1 hfo.2 hlen fun n' hn' => ?_) | refine ReqK.i hfb fun _ => ?_ | refine ReqK.i hrec fun _ => ?_ | refine WcallK.i (f44 (l := l) (fs := po) (.inr rfl) (by simp only; omega) (by simp only [go_sem]) hlen hpl fun n' hn' => ?_) | refine WK_drawV (id := 16) hm kT.out 18000 (lst [1000012, 1000014, 1000016, 1000018, 1000020, 1000022, 1000029]) treeK16 (by kernel_rfl) (by kernel_rfl) ?_ | refine And.intro ?_ ?_ | exact True.intro | refine rq fun _ => ?_ | simp only [go_sem, k2, hfn, hfl, hf, hP, h1, hs0, hB, treeK16, getD_map_lt, prf_eta, form_eta, List.map_append, Tryd.f18])
      all_goals trace_state
    rw [if_neg k2] at ec
    by_cases k3 : p.kind = 3
    · rw [if_pos k3] at ec
      by_cases h1 : pk = 2
      rotate_left
      · have e : chkM p l = false := by rw [ec, decide_eq_false h1]; rfl
        rw [e]
        refine Wcall_K (N := 259) hm kT.out 18000 (lst [1000012, 1000014, 1000016, 1000018, 1000020, 1000022, 1000029]) ok18 Tryd.func18 rfl rfl (by simp) (by kernel_rfl) ?_
        repeat' (first | refine WcallK.i (f42 (l := l) (by simp only; omega) (by simp only [go_sem]) hfo.1 hfo.2 hlen fun n' hn' => ?_) | refine ReqK.i hfb fun _ => ?_ | refine WK_drawV (id := 18) hm kT.out 18000 (lst [1000012, 1000014, 1000016, 1000018, 1000020, 1000022, 1000029]) treeK18 (by kernel_rfl) (by kernel_rfl) ?_ | refine And.intro ?_ ?_ | exact True.intro | refine rq fun _ => ?_ | simp only [go_sem, k3, hfn, hfl, hf, hP, h1, treeK18, getD_map_lt, prf_eta, form_eta, Tryd.f18])
      by_cases h2 : p.subs.length = 2
      rotate_left
      · have e : chkM p l = false := by rw [ec, List.length_map, decide_eq_false h2]; simp
        have h2' : ((p.subs.length : Int) = 2) = False := eq_false (by omega)
        rw [e]
        refine Wcall_K (N := 259) hm kT.out 18000 (lst [1000012, 1000014, 1000016, 1000018, 1000020, 1000022, 1000029]) ok18 Tryd.func18 rfl rfl (by simp) (by kernel_rfl) ?_
        repeat' (first | refine WcallK.i (f42 (l := l) (by simp only; omega) (by simp only [go_sem]) hfo.1 hfo.2 hlen fun n' hn' => ?_) | refine ReqK.i hfb fun _ => ?_ | refine WK_drawV (id := 18) hm kT.out 18000 (lst [1000012, 1000014, 1000016, 1000018, 1000020, 1000022, 1000029]) treeK18 (by kernel_rfl) (by kernel_rfl) ?_ | refine And.intro ?_ ?_ | exact True.intro | refine rq fun _ => ?_ | simp only [go_sem, k3, hfn, hfl, hf, hP, h1, h2', treeK18, getD_map_lt, prf_eta, form_eta, Tryd.f18])
      obtain ⟨s0, s1, hs0⟩ : ∃ s t, p.subs = [s, t] := by
        match h : p.subs, h2 with
        | [s, t], _ => exact ⟨s, t, rfl⟩
      obtain ⟨A, B, rfl⟩ : ∃ A B, po = [A, B] := by
        match po, pb2 h1 with
        | [A, B], _ => exact ⟨A, B, rfl⟩
      have hs0s := Prf.size_sub (f := p) (g := s0) (by rw [hs0]; simp)
      have hs1s := Prf.size_sub (f := p) (g := s1) (by rw [hs0]; simp)
      have e : chkM p l = (chkM s0 (l ++ [A]) && chkM s1 (l ++ [B])) := by rw [ec, hs0]; simp [h1]
      rw [e]
      have hA := pb1 A (by simp)
      have hB := pb1 B (by simp)
      have hrec0 : s0.size < k ∧ ckPreY (l ++ [A]) s0 := ⟨by omega, fun x hx => by
        rcases List.mem_append.1 hx with hx | hx
        · exact kb.out x hx
        · rw [List.mem_singleton.1 hx]; exact hA, by rw [List.length_append, List.length_singleton]; omega⟩
      have hrec1 : s1.size < k ∧ ckPreY (l ++ [B]) s1 := ⟨by omega, fun x hx => by
        rcases List.mem_append.1 hx with hx | hx
        · exact kb.out x hx
        · rw [List.mem_singleton.1 hx]; exact hB, by rw [List.length_append, List.length_singleton]; omega⟩
      obtain ⟨B0, hB0⟩ : ∃ b, chkM s0 (l ++ [A]) = b := ⟨_, rfl⟩
      obtain ⟨B1, hB1⟩ : ∃ b, chkM s1 (l ++ [B]) = b := ⟨_, rfl⟩
      rw [hB0, hB1]
      clear e ec h2 pb1 pb2 pb3 pb4 hA hB
      cases B0 with
      | false =>
        refine Wcall_K (N := 259) hm kT.out 18000 (lst [1000012, 1000014, 1000016, 1000018, 1000020, 1000022, 1000029]) ok18 Tryd.func18 rfl rfl (by simp) (by kernel_rfl) ?_
        repeat' (first | refine WcallK.i (f42 (l := l) (by simp only; omega) (by simp only [go_sem]) hfo.1 hfo.2 hlen fun n' hn' => ?_) | refine ReqK.i hfb fun _ => ?_ | refine ReqK.i hrec0 fun _ => ?_ | refine ReqK.i hrec1 fun _ => ?_ | refine WcallK.i (f44 (l := l) (fs := [A]) (.inl (congrArg (fun x => D.full [x]) (enc_form (f := A))).symm) (by simp only; omega) (by simp only [go_sem]) hlen (by simp) fun n' hn' => ?_) | refine WcallK.i (f44 (l := l) (fs := [B]) (.inl (congrArg (fun x => D.full [x]) (enc_form (f := B))).symm) (by simp only; omega) (by simp only [go_sem]) hlen (by simp) fun n' hn' => ?_) | refine WK_drawV (id := 18) hm kT.out 18000 (lst [1000012, 1000014, 1000016, 1000018, 1000020, 1000022, 1000029]) treeK18 (by kernel_rfl) (by kernel_rfl) ?_ | refine And.intro ?_ ?_ | exact True.intro | refine rq fun _ => ?_ | simp only [go_sem, k3, hfn, hfl, hf, hP, h1, hs0, hB0, hB1, treeK18, getD_map_lt, prf_eta, form_eta, List.map_append, List.map_cons, List.map_nil, Tryd.f18])
        all_goals trace_state
      | true =>
        refine Wcall_K (N := 259) hm kT.out 18000 (lst [1000012, 1000014, 1000016, 1000018, 1000020, 1000022, 1000029]) ok18 Tryd.func18 rfl rfl (by simp) (by kernel_rfl) ?_
        repeat' (first | refine WcallK.i (f42 (l := l) (by simp only; omega) (by simp only [go_sem]) hfo.1 hfo.2 hlen fun n' hn' => ?_) | refine ReqK.i hfb fun _ => ?_ | refine ReqK.i hrec0 fun _ => ?_ | refine ReqK.i hrec1 fun _ => ?_ | refine WcallK.i (f44 (l := l) (fs := [A]) (.inl (congrArg (fun x => D.full [x]) (enc_form (f := A))).symm) (by simp only; omega) (by simp only [go_sem]) hlen (by simp) fun n' hn' => ?_) | refine WcallK.i (f44 (l := l) (fs := [B]) (.inl (congrArg (fun x => D.full [x]) (enc_form (f := B))).symm) (by simp only; omega) (by simp only [go_sem]) hlen (by simp) fun n' hn' => ?_) | refine WK_drawV (id := 18) hm kT.out 18000 (lst [1000012, 1000014, 1000016, 1000018, 1000020, 1000022, 1000029]) treeK18 (by kernel_rfl) (by kernel_rfl) ?_ | refine And.intro ?_ ?_ | exact True.intro | refine rq fun _ => ?_ | simp only [go_sem, k3, hfn, hfl, hf, hP, h1, hs0, hB0, hB1, treeK18, getD_map_lt, prf_eta, form_eta, List.map_append, List.map_cons, List.map_nil, Tryd.f18])
        all_goals trace_state
    rw [if_neg k3] at ec
    by_cases k4 : p.kind = 4
    · rw [if_pos k4] at ec
      by_cases h1 : pk = 3
      rotate_left
      · have e : chkM p l = false := by rw [ec, decide_eq_false h1]; rfl
        rw [e]
        refine Wcall_K (N := 259) hm kT.out 18000 (lst [1000012, 1000014, 1000016, 1000018, 1000020, 1000022, 1000029]) ok18 Tryd.func18 rfl rfl (by simp) (by kernel_rfl) ?_
        repeat' (first | refine WcallK.i (f42 (l := l) (by simp only; omega) (by simp only [go_sem]) hfo.1 hfo.2 hlen fun n' hn' => ?_) | refine ReqK.i hfb fun _ => ?_ | refine WK_drawV (id := 20) hm kT.out 18000 (lst [1000012, 1000014, 1000016, 1000018, 1000020, 1000022, 1000029]) treeK20 (by kernel_rfl) (by kernel_rfl) ?_ | refine And.intro ?_ ?_ | exact True.intro | refine rq fun _ => ?_ | simp only [go_sem, k4, hfn, hfl, hf, hP, h1, treeK20, getD_map_lt, prf_eta, form_eta, Tryd.f18])
      cases h3 : isName p.name with
      | false =>
        have e : chkM p l = false := by rw [ec, h3]; simp
        rw [e]
        refine Wcall_K (N := 259) hm kT.out 18000 (lst [1000012, 1000014, 1000016, 1000018, 1000020, 1000022, 1000029]) ok18 Tryd.func18 rfl rfl (by simp) (by kernel_rfl) ?_
        repeat' (first | refine WcallK.i (f42 (l := l) (by simp only; omega) (by simp only [go_sem]) hfo.1 hfo.2 hlen fun n' hn' => ?_) | refine ReqK.i hfb fun _ => ?_ | refine WK_drawV (id := 20) hm kT.out 18000 (lst [1000012, 1000014, 1000016, 1000018, 1000020, 1000022, 1000029]) treeK20 (by kernel_rfl) (by kernel_rfl) ?_ | refine And.intro ?_ ?_ | exact True.intro | refine rq fun _ => ?_ | simp only [go_sem, k4, hfn, hfl, hf, hP, h1, h3, treeK20, getD_map_lt, str_eta, prf_eta, form_eta, Tryd.f18])
      | true =>
        by_cases h2 : p.subs.length = 1
        rotate_left
        · have e : chkM p l = false := by rw [ec, List.length_map, decide_eq_false h2]; simp
          have h2' : ((p.subs.length : Int) = 1) = False := eq_false (by omega)
          rw [e]
          refine Wcall_K (N := 259) hm kT.out 18000 (lst [1000012, 1000014, 1000016, 1000018, 1000020, 1000022, 1000029]) ok18 Tryd.func18 rfl rfl (by simp) (by kernel_rfl) ?_
          repeat' (first | refine WcallK.i (f42 (l := l) (by simp only; omega) (by simp only [go_sem]) hfo.1 hfo.2 hlen fun n' hn' => ?_) | refine ReqK.i hfb fun _ => ?_ | refine WK_drawV (id := 20) hm kT.out 18000 (lst [1000012, 1000014, 1000016, 1000018, 1000020, 1000022, 1000029]) treeK20 (by kernel_rfl) (by kernel_rfl) ?_ | refine And.intro ?_ ?_ | exact True.intro | refine rq fun _ => ?_ | simp only [go_sem, k4, hfn, hfl, hf, hP, h1, h3, h2', treeK20, getD_map_lt, str_eta, prf_eta, form_eta, Tryd.f18])
        obtain ⟨s0, hs0⟩ : ∃ s, p.subs = [s] := by
          match h : p.subs, h2 with
          | [s], _ => exact ⟨s, rfl⟩
        have hs0s := Prf.size_sub (f := p) (g := s0) (by rw [hs0]; simp)
        obtain ⟨a, hqa, hab, has⟩ := pb4 (by omega)
        have hip : instPre pq pt p.name := ⟨a, hqa, hab.ft, by omega⟩
        have hib := inst_br (t := pt) (nm := p.name) hqa hab has
        have e : chkM p l = chkM s0 (l ++ [instG pq pt p.name]) := by rw [ec, hs0, h3]; simp [h1]
        rw [e]
        have hig : instM pq pt p.name = instG pq pt p.name := rfl
        obtain ⟨I, hI⟩ : ∃ I, instG pq pt p.name = I := ⟨_, rfl⟩
        rw [hI] at hib hig
        rw [hI]
        have hrec : s0.size < k ∧ ckPreY (l ++ [I]) s0 := ⟨by omega, fun x hx => by
          rcases List.mem_append.1 hx with hx | hx
          · exact kb.out x hx
          · rw [List.mem_singleton.1 hx]; exact hib, by rw [List.length_append, List.length_singleton]; omega⟩
        obtain ⟨B, hB⟩ : ∃ B, chkM s0 (l ++ [I]) = B := ⟨_, rfl⟩
        rw [hB]
        clear e ec h2 pb1 pb2 pb3 pb4 hib hI
        refine Wcall_K (N := 259) hm kT.out 18000 (lst [1000012, 1000014, 1000016, 1000018, 1000020, 1000022, 1000029]) ok18 Tryd.func18 rfl rfl (by simp) (by kernel_rfl) ?_
        repeat' (first | refine WcallK.i (f42 (l := l) (by simp only; omega) (by simp only [go_sem]) hfo.1 hfo.2 hlen fun n' hn' => ?_) | refine ReqK.i hfb fun _ => ?_ | refine ReqK.i hip fun _ => ?_ | refine ReqK.i hrec fun _ => ?_ | refine WcallK.i (f44 (l := l) (fs := [I]) (.inl (congrArg (fun x => D.full [x]) (enc_form (f := I))).symm) (by simp only; omega) (by simp only [go_sem]) hlen (by simp) fun n' hn' => ?_) | refine WK_drawV (id := 20) hm kT.out 18000 (lst [1000012, 1000014, 1000016, 1000018, 1000020, 1000022, 1000029]) treeK20 (by kernel_rfl) (by kernel_rfl) ?_ | refine And.intro ?_ ?_ | exact True.intro | refine rq fun _ => ?_ | simp only [go_sem, k4, hfn, hfl, hf, hP, h1, h3, hs0, hig, hB, treeK20, getD_map_lt, str_eta, prf_eta, form_eta, List.map_append, List.map_cons, List.map_nil, Tryd.f18])
        all_goals trace_state
    rw [if_neg k4] at ec
    by_cases k5 : p.kind = 5
    · rw [if_pos k5] at ec
      by_cases h1 : pk = 4
      rotate_left
      · have e : chkM p l = false := by rw [ec, decide_eq_false h1]; rfl
        rw [e]
        refine Wcall_K (N := 259) hm kT.out 18000 (lst [1000012, 1000014, 1000016, 1000018, 1000020, 1000022, 1000029]) ok18 Tryd.func18 rfl rfl (by simp) (by kernel_rfl) ?_
        repeat' (first | refine WcallK.i (f42 (l := l) (by simp only; omega) (by simp only [go_sem]) hfo.1 hfo.2 hlen fun n' hn' => ?_) | refine ReqK.i hfb fun _ => ?_ | refine WK_drawV (id := 22) hm kT.out 18000 (lst [1000012, 1000014, 1000016, 1000018, 1000020, 1000022, 1000029]) treeK22 (by kernel_rfl) (by kernel_rfl) ?_ | refine And.intro ?_ ?_ | exact True.intro | refine rq fun _ => ?_ | simp only [go_sem, k5, hfn, hfl, hf, hP, h1, treeK22, getD_map_lt, prf_eta, form_eta, Tryd.f18])
      cases h3 : isName p.name with
      | false =>
        have e : chkM p l = false := by rw [ec, h3]; simp
        rw [e]
        refine Wcall_K (N := 259) hm kT.out 18000 (lst [1000012, 1000014, 1000016, 1000018, 1000020, 1000022, 1000029]) ok18 Tryd.func18 rfl rfl (by simp) (by kernel_rfl) ?_
        repeat' (first | refine WcallK.i (f42 (l := l) (by simp only; omega) (by simp only [go_sem]) hfo.1 hfo.2 hlen fun n' hn' => ?_) | refine ReqK.i hfb fun _ => ?_ | refine WK_drawV (id := 22) hm kT.out 18000 (lst [1000012, 1000014, 1000016, 1000018, 1000020, 1000022, 1000029]) treeK22 (by kernel_rfl) (by kernel_rfl) ?_ | refine And.intro ?_ ?_ | exact True.intro | refine rq fun _ => ?_ | simp only [go_sem, k5, hfn, hfl, hf, hP, h1, h3, treeK22, getD_map_lt, str_eta, prf_eta, form_eta, Tryd.f18])
      | true =>
        have hlb : ∀ f ∈ l, brF f := kb.out
        cases h4 : occM l p.name with
        | true =>
          have h4' : occG l p.name = true := h4
          have e : chkM p l = false := by rw [ec, h4']; simp
          rw [e]
          refine Wcall_K (N := 259) hm kT.out 18000 (lst [1000012, 1000014, 1000016, 1000018, 1000020, 1000022, 1000029]) ok18 Tryd.func18 rfl rfl (by simp) (by kernel_rfl) ?_
          repeat' (first | refine WcallK.i (f42 (l := l) (by simp only; omega) (by simp only [go_sem]) hfo.1 hfo.2 hlen fun n' hn' => ?_) | refine ReqK.i hfb fun _ => ?_ | refine ReqK.i hlb fun _ => ?_ | refine WK_drawV (id := 22) hm kT.out 18000 (lst [1000012, 1000014, 1000016, 1000018, 1000020, 1000022, 1000029]) treeK22 (by kernel_rfl) (by kernel_rfl) ?_ | refine And.intro ?_ ?_ | exact True.intro | refine rq fun _ => ?_ | simp only [go_sem, k5, hfn, hfl, hf, hP, h1, h3, h4, treeK22, getD_map_lt, str_eta, prf_eta, form_eta, Tryd.f18])
        | false =>
          have h4' : occG l p.name = false := h4
          by_cases h2 : p.subs.length = 1
          rotate_left
          · have e : chkM p l = false := by rw [ec, List.length_map, decide_eq_false h2]; simp
            have h2' : ((p.subs.length : Int) = 1) = False := eq_false (by omega)
            rw [e]
            refine Wcall_K (N := 259) hm kT.out 18000 (lst [1000012, 1000014, 1000016, 1000018, 1000020, 1000022, 1000029]) ok18 Tryd.func18 rfl rfl (by simp) (by kernel_rfl) ?_
            repeat' (first | refine WcallK.i (f42 (l := l) (by simp only; omega) (by simp only [go_sem]) hfo.1 hfo.2 hlen fun n' hn' => ?_) | refine ReqK.i hfb fun _ => ?_ | refine ReqK.i hlb fun _ => ?_ | refine WK_drawV (id := 22) hm kT.out 18000 (lst [1000012, 1000014, 1000016, 1000018, 1000020, 1000022, 1000029]) treeK22 (by kernel_rfl) (by kernel_rfl) ?_ | refine And.intro ?_ ?_ | exact True.intro | refine rq fun _ => ?_ | simp only [go_sem, k5, hfn, hfl, hf, hP, h1, h3, h4, h2', treeK22, getD_map_lt, str_eta, prf_eta, form_eta, Tryd.f18])
          obtain ⟨s0, hs0⟩ : ∃ s, p.subs = [s] := by
            match h : p.subs, h2 with
            | [s], _ => exact ⟨s, rfl⟩
          have hs0s := Prf.size_sub (f := p) (g := s0) (by rw [hs0]; simp)
          obtain ⟨a, hqa, hab, has⟩ := pb4 (by omega)
          have hip : instPre pq pt p.name := ⟨a, hqa, hab.ft, by omega⟩
          have hib := inst_br (t := pt) (nm := p.name) hqa hab has
          have e : chkM p l = chkM s0 (l ++ [instG pq pt p.name]) := by rw [ec, hs0, h3, h4']; simp [h1]
          rw [e]
          have hig : instM pq pt p.name = instG pq pt p.name := rfl
          obtain ⟨I, hI⟩ : ∃ I, instG pq pt p.name = I := ⟨_, rfl⟩
          rw [hI] at hib hig
          rw [hI]
          have hrec : s0.size < k ∧ ckPreY (l ++ [I]) s0 := ⟨by omega, fun x hx => by
            rcases List.mem_append.1 hx with hx | hx
            · exact kb.out x hx
            · rw [List.mem_singleton.1 hx]; exact hib, by rw [List.length_append, List.length_singleton]; omega⟩
          obtain ⟨B, hB⟩ : ∃ B, chkM s0 (l ++ [I]) = B := ⟨_, rfl⟩
          rw [hB]
          clear e ec h2 pb1 pb2 pb3 pb4 hib hI
          refine Wcall_K (N := 259) hm kT.out 18000 (lst [1000012, 1000014, 1000016, 1000018, 1000020, 1000022, 1000029]) ok18 Tryd.func18 rfl rfl (by simp) (by kernel_rfl) ?_
          repeat' (first | refine WcallK.i (f42 (l := l) (by simp only; omega) (by simp only [go_sem]) hfo.1 hfo.2 hlen fun n' hn' => ?_) | refine ReqK.i hfb fun _ => ?_ | refine ReqK.i hlb fun _ => ?_ | refine ReqK.i hip fun _ => ?_ | refine ReqK.i hrec fun _ => ?_ | refine WcallK.i (f44 (l := l) (fs := [I]) (.inl (congrArg (fun x => D.full [x]) (enc_form (f := I))).symm) (by simp only; omega) (by simp only [go_sem]) hlen (by simp) fun n' hn' => ?_) | refine WK_drawV (id := 22) hm kT.out 18000 (lst [1000012, 1000014, 1000016, 1000018, 1000020, 1000022, 1000029]) treeK22 (by kernel_rfl) (by kernel_rfl) ?_ | refine And.intro ?_ ?_ | exact True.intro | refine rq fun _ => ?_ | simp only [go_sem, k5, hfn, hfl, hf, hP, h1, h3, h4, hs0, hig, hB, treeK22, getD_map_lt, str_eta, prf_eta, form_eta, List.map_append, List.map_cons, List.map_nil, Tryd.f18])
          all_goals trace_state
    rw [if_neg k5] at ec
    by_cases k6 : p.kind = 6
    · rw [if_pos k6] at ec
      by_cases h1 : f.kind = 3
      rotate_left
      · have e : chkM p l = false := by rw [ec, decide_eq_false h1]; rfl
        rw [e]
        refine Wcall_K (N := 259) hm kT.out 18000 (lst [1000012, 1000014, 1000016, 1000018, 1000020, 1000022, 1000029]) ok18 Tryd.func18 rfl rfl (by simp) (by kernel_rfl) ?_
        repeat' (first | refine WcallK.i (f42 (l := l) (by simp only; omega) (by simp only [go_sem]) hfo.1 hfo.2 hlen fun n' hn' => ?_) | refine ReqK.i hfb fun _ => ?_ | refine And.intro ?_ ?_ | exact True.intro | refine rq fun _ => ?_ | simp only [go_sem, k6, hfn, hfl, hf, hP, h1, getD_map_lt, prf_eta, form_eta, Tryd.f18])
      have eF : Abs.Form.mk 3 f.name f.words f.subs = f := by rw [← h1]; exact form_eta
      cases hoi : inL l p.other with
      | false =>
        have hoo := in_false hoi
        have e : chkM p l = false := by rw [ec, hoi]; simp
        rw [e]
        refine Wcall_K (N := 259) hm kT.out 18000 (lst [1000012, 1000014, 1000016, 1000018, 1000020, 1000022, 1000029]) ok18 Tryd.func18 rfl rfl (by simp) (by kernel_rfl) ?_
        repeat' (first | refine WcallK.i (f42 (l := l) (by simp only; omega) (by simp only [go_sem]) hfo.1 hfo.2 hlen fun n' hn' => ?_) | refine WcallK.i (f42N (l := l) (by simp only; omega) (by simp only [go_sem, hfn]) hoo fun n' hn' => ?_) | refine ReqK.i hfb fun _ => ?_ | refine And.intro ?_ ?_ | exact True.intro | refine rq fun _ => ?_ | simp only [go_sem, k6, hfn, hfl, hf, hP, h1, eF, getD_map_lt, prf_eta, form_eta, Tryd.f18])
      | true =>
        have hoo := in_true hoi
        obtain ⟨oi, hon⟩ : ∃ n : Nat, p.other = (n : Int) := ⟨p.other.toNat, by omega⟩
        have hol : oi < l.length := by omega
        obtain ⟨g, hg⟩ : ∃ g, l[oi] = g := ⟨_, rfl⟩
        have hgb : brF g := kb.out g (by rw [← hg]; exact List.getElem_mem hol)
        have hag : atL l p.other = g := by unfold atL; rw [hon, Int.toNat_natCast, List.getD_eq_getElem?_getD, List.getElem?_eq_getElem hol, hg]; rfl
        rw [hon] at hoo
        rw [hag, hoi] at ec
        by_cases h2 : p.subs.length = 1
        rotate_left
        · have e : chkM p l = false := by rw [ec, List.length_map, decide_eq_false h2]; simp
          have h2' : ((p.subs.length : Int) = 1) = False := eq_false (by omega)
          rw [e]
          refine Wcall_K (N := 259) hm kT.out 18000 (lst [1000012, 1000014, 1000016, 1000018, 1000020, 1000022, 1000029]) ok18 Tryd.func18 rfl rfl (by simp) (by kernel_rfl) ?_
          repeat' (first | refine WcallK.i (f42 (l := l) (by simp only; omega) (by simp only [go_sem]) hfo.1 hfo.2 hlen fun n' hn' => ?_) | refine WcallK.i (f42 (l := l) (by simp only; omega) (by simp only [go_sem, hfn]) hoo.1 hoo.2 hlen fun n' hn' => ?_) | refine ReqK.i hfb fun _ => ?_ | refine And.intro ?_ ?_ | exact True.intro | refine rq fun _ => ?_ | simp only [go_sem, k6, hfn, hon, hfl, hf, hP, h1, eF, h2', getD_map_lt, str_eta, prf_eta, form_eta, Tryd.f18])
        obtain ⟨a, b, hab⟩ : ∃ a b, f.words = [a, b] := by
          have h2 := (vok_eq.1 hfb.v).2.2.2.1 h1
          match h : f.words, h2 with
          | [a, b], _ => exact ⟨a, b, rfl⟩
        by_cases h3 : p.name ∈ f.words
        rotate_left
        · have e : chkM p l = false := by rw [ec, decide_eq_false h3]; simp
          have h3' : (p.name ∈ f.words) = False := eq_false h3
          rw [e]
          refine Wcall_K (N := 259) hm kT.out 18000 (lst [1000012, 1000014, 1000016, 1000018, 1000020, 1000022, 1000029]) ok18 Tryd.func18 rfl rfl (by simp) (by kernel_rfl) ?_
          repeat' (first | refine WcallK.i (f42 (l := l) (by simp only; omega) (by simp only [go_sem]) hfo.1 hfo.2 hlen fun n' hn' => ?_) | refine WcallK.i (f42 (l := l) (by simp only; omega) (by simp only [go_sem, hfn]) hoo.1 hoo.2 hlen fun n' hn' => ?_) | refine ReqK.i hfb fun _ => ?_ | refine And.intro ?_ ?_ | exact True.intro | refine rq fun _ => ?_ | simp only [go_sem, k6, hfn, hon, hfl, hf, hP, h1, eF, h2, h3', getD_map_lt, str_eta, prf_eta, form_eta, Int.ofNat_one, Tryd.f18])
          all_goals trace_state
        obtain ⟨s0, hs0⟩ : ∃ s, p.subs = [s] := by
          match h : p.subs, h2 with
          | [s], _ => exact ⟨s, rfl⟩
        have hs0s := Prf.size_sub (f := p) (g := s0) (by rw [hs0]; simp)
        obtain ⟨T, hT0⟩ : ∃ T, swapTo f p.name = T := ⟨_, rfl⟩
        have hib : brF (canonM g [⟨p.name, T⟩]) := hgb.cn
        have e : chkM p l = chkM s0 (l ++ [canonM g [⟨p.name, T⟩]]) := by rw [ec, hs0, hT0]; simp [h1, h3]
        rw [e]
        obtain ⟨I, hI⟩ : ∃ I, canonM g [⟨p.name, T⟩] = I := ⟨_, rfl⟩
        rw [hI] at hib
        rw [hI]
        have hrec : s0.size < k ∧ ckPreY (l ++ [I]) s0 := ⟨by omega, fun x hx => by
          rcases List.mem_append.1 hx with hx | hx
          · exact kb.out x hx
          · rw [List.mem_singleton.1 hx]; exact hib, by rw [List.length_append, List.length_singleton]; omega⟩
        obtain ⟨B, hB⟩ : ∃ B, chkM s0 (l ++ [I]) = B := ⟨_, rfl⟩
        rw [hB]
        have hput : g.fit = true ∧ g.size ≤ 1000 := cn_small hgb
        rw [hab] at h3 eF
        have h3T : (p.name ∈ [a, b]) = True := eq_true h3
        clear e ec h2 pb1 pb2 pb3 pb4 hib h3
        unfold swapTo at hT0
        rw [hab] at hT0
        simp only [List.getD_cons_zero, List.getD_cons_succ] at hT0
        by_cases haN : a = p.name
        · rw [if_pos haN] at hT0
          subst hT0
          have hal : (a.l = p.name.l) = True := eq_true (by rw [haN])
          refine Wcall_K (N := 259) hm kT.out 18000 (lst [1000012, 1000014, 1000016, 1000018, 1000020, 1000022, 1000029]) ok18 Tryd.func18 rfl rfl (by simp) (by kernel_rfl) ?_
          repeat' (first | refine WcallK.i (f42 (l := l) (by simp only; omega) (by simp only [go_sem]) hfo.1 hfo.2 hlen fun n' hn' => ?_) | refine WcallK.i (f42 (l := l) (by simp only; omega) (by simp only [go_sem, hfn]) hoo.1 hoo.2 hlen fun n' hn' => ?_) | refine ReqK.i hfb fun _ => ?_ | refine ReqK.i hput fun _ => ?_ | refine ReqK.i hrec fun _ => ?_ | refine WcallK.i (f44 (l := l) (fs := [I]) (.inl (congrArg (fun x => D.full [x]) (enc_form (f := I))).symm) (by simp only; omega) (by simp only [go_sem]) hlen (by simp) fun n' hn' => ?_) | refine WK_drawV (id := 29) hm kT.out 18000 (lst [1000012, 1000014, 1000016, 1000018, 1000020, 1000022, 1000029]) treeK29 (by kernel_rfl) (by kernel_rfl) ?_ | refine And.intro ?_ ?_ | exact True.intro | refine rq fun _ => ?_ | simp only [go_sem, k6, hfn, hon, hfl, hf, hol, hg, hP, h1, eF, hab, h3T, hal, hs0, hI, hB, treeK29, getD_map_lt, str_eta, prf_eta, form_eta, List.map_append, List.map_cons, List.map_nil, Tryd.f18])
          all_goals trace_state
        · rw [if_neg haN] at hT0
          subst hT0
          have hal : (a.l = p.name.l) = False := eq_false fun h => haN (show (⟨a.l⟩ : Str) = ⟨p.name.l⟩ by rw [h])
          refine Wcall_K (N := 259) hm kT.out 18000 (lst [1000012, 1000014, 1000016, 1000018, 1000020, 1000022, 1000029]) ok18 Tryd.func18 rfl rfl (by simp) (by kernel_rfl) ?_
          repeat' (first | refine WcallK.i (f42 (l := l) (by simp only; omega) (by simp only [go_sem]) hfo.1 hfo.2 hlen fun n' hn' => ?_) | refine WcallK.i (f42 (l := l) (by simp only; omega) (by simp only [go_sem, hfn]) hoo.1 hoo.2 hlen fun n' hn' => ?_) | refine ReqK.i hfb fun _ => ?_ | refine ReqK.i hput fun _ => ?_ | refine ReqK.i hrec fun _ => ?_ | refine WcallK.i (f44 (l := l) (fs := [I]) (.inl (congrArg (fun x => D.full [x]) (enc_form (f := I))).symm) (by simp only; omega) (by simp only [go_sem]) hlen (by simp) fun n' hn' => ?_) | refine WK_drawV (id := 29) hm kT.out 18000 (lst [1000012, 1000014, 1000016, 1000018, 1000020, 1000022, 1000029]) treeK29 (by kernel_rfl) (by kernel_rfl) ?_ | refine And.intro ?_ ?_ | exact True.intro | refine rq fun _ => ?_ | simp only [go_sem, k6, hfn, hon, hfl, hf, hol, hg, hP, h1, eF, hab, h3T, hal, hs0, hI, hB, treeK29, getD_map_lt, str_eta, prf_eta, form_eta, List.map_append, List.map_cons, List.map_nil, Tryd.f18])
          all_goals trace_state
    rw [if_neg k6] at ec
    rw [ec]
    refine Wcall_K (N := 259) hm kT.out 18000 (lst [1000012, 1000014, 1000016, 1000018, 1000020, 1000022, 1000029]) ok18 Tryd.func18 rfl rfl (by simp) (by kernel_rfl) ?_
    repeat' (first | refine WcallK.i (f42 (l := l) (by simp only; omega) (by simp only [go_sem]) hfo.1 hfo.2 hlen fun n' hn' => ?_) | refine ReqK.i hfb fun _ => ?_ | refine And.intro ?_ ?_ | exact True.intro | refine rq fun _ => ?_ | simp only [go_sem, k1, k2, k3, k4, k5, k6, hfn, hfl, hf, hP, getD_map_lt, prf_eta, form_eta, Tryd.f18])
    all_goals trace_state
end Go.Proofs.YtdlioodgfopmfaaDoor

namespace Go.Proofs.YtdlioodgfopmfaaDoor
open Go Go.Abs Go.Proofs

/-! ## Check -/
mutual
theorem cntK_size : ∀ (p : Prf) (n : Int), cntK p n ≤ 2000 → n + p.size = cntK p n
  | .mk k f o nm s, n, h => by
    rw [cntK] at h ⊢
    have := cntKs_size s (n + 1) h
    rw [Prf.size]
    omega
theorem cntKs_size : ∀ (s : List Prf) (n : Int), cntKs s n ≤ 2000 → n + Prf.sizes s = cntKs s n
  | [], n, h => by rw [cntKs, Prf.sizes]; simp
  | x :: xs, n, h => by
    rw [cntKs] at h ⊢
    by_cases h1 : 2000 < n
    · rw [if_pos h1] at h; omega
    · rw [if_neg h1] at h ⊢
      have i2 := cntKs_size xs (cntK x n) h
      have i1 := cntK_size x n (by omega)
      rw [Prf.sizes]
      omega
end
def branch1 (ax : List Abs.Form) (g : Abs.Form) : List Abs.Form := canL ax ++ [negM g]
def chkP (ax : List Abs.Form) (g : Abs.Form) (p : Prf) : Bool × Fault :=
  if (beginP ax g).2.code ≠ 0 then (false, (beginP ax g).2) else if 2000 < cntK p 0 then (false, ⟨1, -3⟩) else (chkM p (branch1 ax g), ⟨0, 0⟩)
theorem br_valid {f : Abs.Form} (h : (checkM false f).code = 0) : brF f := ⟨checkM_vok h, checkM_fit h, by have := checkM_size h; omega⟩
theorem begin_ok {ax : List Abs.Form} {g : Abs.Form} (h : (beginP ax g).2.code = 0) : beginP ax g = (branch1 ax g, ⟨0, 0⟩) ∧ ax.length ≤ 40 ∧ (∀ f ∈ ax, (checkM false f).code = 0) ∧ (checkM false g).code = 0 := by
  unfold beginP at h ⊢
  split at h
  · exact absurd h (by decide)
  rename_i h1
  split at h
  · rename_i h2; exact absurd h h2
  rename_i h2
  split at h
  · rename_i h3; exact absurd h h3
  rename_i h3
  rw [if_neg h1, if_neg h2, if_neg h3]
  refine ⟨rfl, by omega, fun f hf => ?_, Decidable.not_not.1 h3⟩
  have h4 := Decidable.not_not.1 h2
  clear h h2 h3 h1
  by_cases hc : (checkM false f).code = 0
  · exact hc
  · exfalso
    have : ∀ (l : List Abs.Form) (k : Nat), f ∈ l → (badA l k).code ≠ 0 := by
      intro l
      induction l with
      | nil => intro k h; simp at h
      | cons x l ih =>
        intro k hm
        rw [badA]
        by_cases hx : (checkM false x).code = 0
        · rw [if_neg (by simp [hx])]
          rcases List.mem_cons.1 hm with rfl | hm
          · exact absurd hx hc
          · exact ih _ hm
        · rw [if_pos hx]; exact hx
    exact this ax 0 hf h4
theorem branch1_br {ax : List Abs.Form} {g : Abs.Form} (h1 : ∀ f ∈ ax, (checkM false f).code = 0) (h2 : (checkM false g).code = 0) : ∀ f ∈ branch1 ax g, brF f := fun f hf => by
  unfold branch1 canL at hf
  rcases List.mem_append.1 hf with hf | hf
  · obtain ⟨a, ha, rfl⟩ := List.mem_map.1 hf
    exact (br_valid (h1 a ha)).cn
  · rw [List.mem_singleton.1 hf]
    exact (br_valid h2).ng (by have := checkM_size h2; omega)
def treeCk : Tv := (.q 0 (.q 1 (.br [(2, .leaf)])))
def Y11 : Tbl := Y10.add 8 (sp3p chkP fun _ _ _ => True)
attribute [go_sem] Y11
set_option maxRecDepth 100000 in
set_option maxHeartbeats 1000000 in
set_option maxHeartbeats 4000000 in
theorem hY11 : TblOk Tryd.prog GA Y11 := by
  refine sp3p_ok ok8 hY10 fun ax g p _ _ _ _ => ?_
  by_cases h0 : (beginP ax g).2.code = 0
  rotate_left
  · have e : chkP ax g p = (false, (beginP ax g).2) := by unfold chkP; rw [if_pos h0]
    obtain ⟨a, X, hX⟩ : ∃ a X, beginP ax g = (a, X) := ⟨_, _, rfl⟩
    rw [hX] at e h0
    simp only at e h0
    rw [e]
    refine Wcall_K (N := 28) hm hY10 8000 (lst [1000003]) ok8 Tryd.func8 rfl rfl (by simp) (by kernel_rfl) ?_
    repeat' (first | refine WK_drawV (id := 3) hm hY10 8000 (lst [1000003]) treeCk (by kernel_rfl) (by kernel_rfl) ?_ | refine And.intro ?_ ?_ | exact True.intro | refine rq fun _ => ?_ | simp only [go_sem, hX, h0, form_eta, prf_eta, treeCk, Tryd.f8])
  obtain ⟨hb, hl, hax, hg⟩ := begin_ok h0
  have hcn : (0 : Int) ≤ 0 ∧ (0 : Int) ≤ 2000 := by decide
  obtain ⟨c, hcc⟩ : ∃ c, cntK p 0 = c := ⟨_, rfl⟩
  have hbd : c ≤ 2001 := by rw [← hcc]; exact (cntK_le p 0 (by decide)).2
  have hb0 : 1 ≤ c := by rw [← hcc]; have := (cntK_le p 0 (by decide)).1; omega
  by_cases h : 2000 < c
  · have e : chkP ax g p = (false, ⟨1, -3⟩) := by unfold chkP; rw [if_neg (by simp [h0]), hcc, if_pos h]
    rw [e]
    refine Wcall_K (N := 28) hm hY10 8000 (lst [1000003]) ok8 Tryd.func8 rfl rfl (by simp) (by kernel_rfl) ?_
    repeat' (first | refine ReqK.i hcn fun _ => ?_ | refine And.intro ?_ ?_ | exact True.intro | refine rq fun _ => ?_ | simp only [go_sem, hb, hcc, h, form_eta, prf_eta, Tryd.f8])
  · have e : chkP ax g p = (chkM p (branch1 ax g), ⟨0, 0⟩) := by unfold chkP; rw [if_neg (by simp [h0]), hcc, if_neg h]
    have hpre : ckPreY (branch1 ax g) p := ⟨branch1_br hax hg, by
      have hz := cntK_size p 0 (by rw [hcc]; omega)
      unfold branch1
      rw [List.length_append, canL_len, List.length_singleton]
      omega⟩
    obtain ⟨L, hL⟩ : ∃ L, branch1 ax g = L := ⟨_, rfl⟩
    rw [hL] at e hb hpre
    obtain ⟨B, hB⟩ : ∃ B, chkM p L = B := ⟨_, rfl⟩
    rw [hB] at e
    rw [e]
    refine Wcall_K (N := 28) hm hY10 8000 (lst [1000003]) ok8 Tryd.func8 rfl rfl (by simp) (by kernel_rfl) ?_
    repeat' (first | refine ReqK.i hcn fun _ => ?_ | refine ReqK.i hpre fun _ => ?_ | refine And.intro ?_ ?_ | exact True.intro | refine rq fun _ => ?_ | simp only [go_sem, hb, hcc, h, hB, form_eta, prf_eta, Tryd.f8])
end Go.Proofs.YtdlioodgfopmfaaDoor

namespace Go.Proofs.YtdlioodgfopmfaaDoor
open Go Go.Abs Go.Proofs

/-! ## does a proof close a branch? -/
def treeC4 : Tv := (.q 0 (.q 1 (.q 2 (.q 3 (.q 4 (.q 5 (.q 6 (.q 7 (.q 8 .leaf)))))))))
def treeC17 : Tv := (.q 0 (.q 1 (.q 2 (.q 3 .leaf))))
def treeC23 : Tv := (.q 0 (.q 1 (.q 2 (.q 3 (.q 4 (.q 5 (.q 6 (.q 7 (.q 8 (.q 9 (.q 10 (.q 11 (.q 12 (.q 13 .leaf))))))))))))))
def treeC28 : Tv := (.q 0 (.q 1 (.q 2 (.q 3 (.q 4 (.q 5 (.q 6 (.q 7 (.q 8 (.q 9 (.q 10 (.q 11 (.q 12 (.q 13 (.q 14 (.q 15 (.q 16 (.q 17 (.q 18 (.q 19 (.q 20 (.q 21 .leaf))))))))))))))))))))))
def treeC30 : Tv := (.q 0 (.q 1 (.q 2 (.q 3 (.q 4 (.q 5 (.q 10 (.r 7 (.r 11 (.q 12 (.r 13 (.br [(6, (.q 8 (.br [(9, (.q 14 (.q 15 (.q 16 .leaf))))])))]))))))))))))
def treeC37 : Tv := (.q 0 (.q 1 (.q 6 (.q 8 (.r 3 (.q 4 (.r 7 (.q 9 (.r 10 (.br [(2, (.br [(5, (.q 11 (.q 12 .leaf)))]))]))))))))))
def treeC43 : Tv := (.q 0 (.q 1 (.q 2 (.q 3 (.q 4 (.q 5 (.q 6 (.q 7 (.q 8 (.q 9 (.q 10 (.q 11 (.q 12 (.q 13 (.q 14 (.q 15 (.q 16 (.q 17 (.q 18 (.q 19 (.q 20 (.q 21 (.q 22 (.q 23 .leaf))))))))))))))))))))))))
def treeC45 : Tv := (.q 0 (.q 1 (.q 4 (.q 9 (.r 3 (.r 5 (.r 10 (.q 11 (.r 12 (.br [(2, (.q 6 (.q 7 (.br [(8, (.q 13 (.q 14 .leaf)))]))))]))))))))))
def treeC46 : Tv := (.q 0 (.q 1 (.q 2 (.q 3 (.q 4 (.q 5 (.q 6 (.q 7 (.q 8 (.q 9 (.q 10 (.q 11 (.q 12 (.q 13 (.q 14 (.q 15 (.q 16 (.q 17 (.q 18 (.q 19 (.q 20 .leaf)))))))))))))))))))))
def treeC51 : Tv := (.q 0 (.q 1 (.q 3 (.q 4 (.q 8 (.q 11 (.q 12 (.q 16 (.r 5 (.q 6 (.r 7 (.r 9 (.q 10 (.r 17 (.q 18 (.r 19 (.br [(2, (.q 13 (.q 14 (.br [(15, (.q 20 (.q 21 .leaf)))]))))])))))))))))))))))
def treeC30F : Tv := (.q 0 (.q 1 (.q 2 (.q 3 (.q 4 (.q 5 (.q 10 (.r 7 (.br [(6, (.q 8 (.br [(9, (.q 11 (.q 12 (.q 13 (.q 14 (.q 15 (.q 16 .leaf))))))), (11, (.q 12 (.br [(9, (.q 13 (.q 14 (.q 15 (.q 16 .leaf))))), (13, (.br [(9, (.q 14 (.q 15 (.q 16 .leaf))))]))])))]))), (11, (.q 12 (.br [(6, (.q 8 (.br [(9, (.q 13 (.q 14 (.q 15 (.q 16 .leaf))))), (13, (.br [(9, (.q 14 (.q 15 (.q 16 .leaf))))]))]))), (13, (.br [(6, (.q 8 (.br [(9, (.q 14 (.q 15 (.q 16 .leaf))))])))]))])))])))))))))
def clP (l : List Abs.Form) (p : Prf) : Prop := (∀ f ∈ l, BF f) ∧ l.length + 2 * p.size ≤ 100000
def O14n (n : Nat) : Tbl := O13.add 11 (sp2 (fun l p => chkM p l) fun l p => p.size < n ∧ clP l p)
theorem bf_cl {f : Abs.Form} (h : BF f) : clB f := ⟨h.o.b, h.o.clean⟩
/-- what is expanded may stand on a branch -/
theorem sub_bf {f a : Abs.Form} (h : BF f) (ha : a ∈ f.subs) : BF0 a ∧ a.size + 1 ≤ 800 := ⟨h.o.sub ha, by have := Form.size_sub ha; have := h.o.b.s; omega⟩
theorem sub2_bf {f g a : Abs.Form} (h : BF f) (hg : g ∈ f.subs) (ha : a ∈ g.subs) : BF0 a ∧ a.size + 1 ≤ 800 := ⟨(h.o.sub hg).sub ha, by have := Form.size_sub hg; have := Form.size_sub ha; have := h.o.b.s; omega⟩
theorem getD_sub {f : Abs.Form} {i : Nat} (h : i < f.subs.length) : f.subs.getD i zeroF ∈ f.subs := by
  rw [List.getD_eq_getElem?_getD, List.getElem?_eq_getElem h]; exact List.getElem_mem h
theorem parts_bf {f : Abs.Form} (h : BF f) : ∀ g ∈ (partsM f).2.1, BF g := by
  have hv := vok_eq.1 h.o.b.v
  have one : ∀ {x : Abs.Form}, vok x → (x.kind = 4 ∨ x.kind = 8 ∨ x.kind = 9) → sub0 x ∈ x.subs := fun {x} hx hk => getD_sub (f := x) (i := 0) (by rw [(vok_eq.1 hx).2.2.2.2.1 hk]; omega)
  have two0 : ∀ {x : Abs.Form}, vok x → (x.kind = 5 ∨ x.kind = 6 ∨ x.kind = 7) → sub0 x ∈ x.subs := fun {x} hx hk => getD_sub (f := x) (i := 0) (by rw [(vok_eq.1 hx).2.2.2.2.2.1 hk]; omega)
  have two1 : ∀ {x : Abs.Form}, vok x → (x.kind = 5 ∨ x.kind = 6 ∨ x.kind = 7) → sub1 x ∈ x.subs := fun {x} hx hk => getD_sub (f := x) (i := 1) (by rw [(vok_eq.1 hx).2.2.2.2.2.1 hk]; omega)
  have C : ∀ {a : Abs.Form}, BF0 a ∧ a.size + 1 ≤ 800 → BF (cnn a) := fun h => h.1.cn
  have N : ∀ {a : Abs.Form}, BF0 a ∧ a.size + 1 ≤ 800 → BF (ngg a) := fun h => h.1.ng h.2
  have fv := h.o.b.v
  intro g hg
  unfold partsM at hg
  by_cases k5 : f.kind = 5
  · rw [if_pos k5] at hg
    simp only [List.mem_cons, List.not_mem_nil, or_false] at hg
    rcases hg with rfl | rfl
    · exact C (sub_bf h (two0 fv (by omega)))
    · exact C (sub_bf h (two1 fv (by omega)))
  rw [if_neg k5] at hg
  by_cases k6 : f.kind = 6
  · rw [if_pos k6] at hg
    simp only [List.mem_cons, List.not_mem_nil, or_false] at hg
    rcases hg with rfl | rfl
    · exact C (sub_bf h (two0 fv (by omega)))
    · exact C (sub_bf h (two1 fv (by omega)))
  rw [if_neg k6] at hg
  by_cases k7 : f.kind = 7
  · rw [if_pos k7] at hg
    simp only [List.mem_cons, List.not_mem_nil, or_false] at hg
    rcases hg with rfl | rfl
    · exact N (sub_bf h (two0 fv (by omega)))
    · exact C (sub_bf h (two1 fv (by omega)))
  rw [if_neg k7] at hg
  by_cases k8 : f.kind = 8
  · rw [if_pos k8] at hg
    exact absurd hg List.not_mem_nil
  rw [if_neg k8] at hg
  by_cases k9 : f.kind = 9
  · rw [if_pos k9] at hg
    exact absurd hg List.not_mem_nil
  rw [if_neg k9] at hg
  by_cases k4 : f.kind = 4
  rotate_left
  · rw [if_neg k4] at hg
    exact absurd hg List.not_mem_nil
  rw [if_pos k4] at hg
  have hs := one fv (.inl k4)
  have gv : vok (sub0 f) := (h.o.sub hs).b.v
  by_cases j4 : (sub0 f).kind = 4
  · rw [if_pos j4] at hg
    simp only [List.mem_cons, List.not_mem_nil, or_false] at hg
    rw [hg]
    exact C (sub2_bf h hs (one gv (.inl j4)))
  rw [if_neg j4] at hg
  by_cases j5 : (sub0 f).kind = 5
  · rw [if_pos j5] at hg
    simp only [List.mem_cons, List.not_mem_nil, or_false] at hg
    rcases hg with rfl | rfl
    · exact N (sub2_bf h hs (two0 gv (by omega)))
    · exact N (sub2_bf h hs (two1 gv (by omega)))
  rw [if_neg j5] at hg
  by_cases j6 : (sub0 f).kind = 6
  · rw [if_pos j6] at hg
    simp only [List.mem_cons, List.not_mem_nil, or_false] at hg
    rcases hg with rfl | rfl
    · exact N (sub2_bf h hs (two0 gv (by omega)))
    · exact N (sub2_bf h hs (two1 gv (by omega)))
  rw [if_neg j6] at hg
  by_cases j7 : (sub0 f).kind = 7
  · rw [if_pos j7] at hg
    simp only [List.mem_cons, List.not_mem_nil, or_false] at hg
    rcases hg with rfl | rfl
    · exact C (sub2_bf h hs (two0 gv (by omega)))
    · exact N (sub2_bf h hs (two1 gv (by omega)))
  rw [if_neg j7] at hg
  by_cases j8 : (sub0 f).kind = 8
  · rw [if_pos j8] at hg
    exact absurd hg List.not_mem_nil
  rw [if_neg j8] at hg
  by_cases j9 : (sub0 f).kind = 9
  · rw [if_pos j9] at hg
    exact absurd hg List.not_mem_nil
  rw [if_neg j9] at hg
  exact absurd hg List.not_mem_nil
theorem inst_bf {f : Abs.Form} {nm : Str} (h : BF f) (hs : sortM f = 3 ∨ sortM f = 4) (hn : isName nm = true) : BF (forG f nm) := by
  have hq := sort_gd h.o.b hs
  have key : ∀ {q : Abs.Form}, BF0 q → (q.kind = 8 ∨ q.kind = 9) → BF (bodyG q nm) := fun {q} hq0 hk => by
    have hl := (vok_eq.1 hq0.b.v).2.2.2.2.1 (.inr hk)
    have hm : sub0 q ∈ q.subs := getD_sub (f := q) (i := 0) (by omega)
    exact (hq0.sub hm).can (by simp) fun b hb => by rw [List.mem_singleton.1 hb]; exact hn
  by_cases k4 : f.kind = 4
  · have hl := (vok_eq.1 h.o.b.v).2.2.2.2.1 (.inl k4)
    have hm : sub0 f ∈ f.subs := getD_sub (f := f) (i := 0) (by omega)
    have hqk : (sub0 f).kind = 8 ∨ (sub0 f).kind = 9 := by omega
    have e : forG f nm = ngg (bodyG (sub0 f) nm) := by
      unfold forG partsM
      rcases hqk with j | j <;> (rw [k4, j]; rfl)
    have hb := key (h.o.sub hm) hqk
    rw [e]
    refine hb.o.ng ?_
    have h2 := (vok_eq.1 (h.o.sub hm).b.v).2.2.2.2.1 (.inr hqk)
    have hm2 : sub0 (sub0 f) ∈ (sub0 f).subs := getD_sub (f := sub0 f) (i := 0) (by omega)
    have := Form.size_sub hm
    have := Form.size_sub hm2
    have := h.o.b.s
    unfold bodyG
    rw [canonM_size]; omega
  · have hqk : f.kind = 8 ∨ f.kind = 9 := by omega
    have e : forG f nm = bodyG f nm := by
      unfold forG partsM
      rcases hqk with j | j <;> (rw [j]; rfl)
    rw [e]
    exact key h.o hqk
end Go.Proofs.YtdlioodgfopmfaaDoor

namespace Go.Proofs.YtdlioodgfopmfaaDoor
open Go Go.Abs Go.Proofs
set_option maxRecDepth 100000 in
set_option maxHeartbeats 1000000 in
theorem clo_out {n : Nat} (hT : TblOk Tryd.prog GA (O14n n)) {l : List Abs.Form} {p : Prf} (hpre : clP l p) (hfi : inL l p.form = false) : Wcall Tryd.prog GA 11 [.fz (enc l), .fz (enc p)] (hpL []) 0 (fun d _ _ => D.val d = some (.fz (enc (chkM p l)))) := by
  have hfo := in_false hfi
  have hlen : l.length ≤ 1000000 := by have := hpre.2; omega
  have e : chkM p l = false := by rw [chkM_eq]; unfold chkN; rw [if_pos hfi]
  have kT := Kp.mk hT
  rw [e]
  by_cases h1 : p.form < 0
  · have h1' : (p.form < 0) = True := eq_true h1
    refine Wcall_K (N := 313) hm kT.out 11000 (lsw [181, 184, 206, 209, 247, 253, 294, 307] [1000004, 1000017, 1000023, 1000028, 1000030, 1000037, 1000043, 1000045, 1000046, 1000051]) ok11 Tryd.func11 rfl rfl (by simp) (by kernel_rfl) ?_
    repeat' (first | refine And.intro ?_ ?_ | exact True.intro | refine rq fun _ => ?_ | refine ReqK.i ⟨by decide, by decide, rfl⟩ fun _ => ?_ | simp only [go_sem, h1', Tryd.f11, prf_eta, form_eta, str_eta, getD_map_lt, List.nil_append, O14n])
  · have h1' : (p.form < 0) = False := eq_false h1
    have h2' : ((l.length : Int) ≤ p.form) = True := eq_true (by omega)
    refine Wcall_K (N := 313) hm kT.out 11000 (lsw [181, 184, 206, 209, 247, 253, 294, 307] [1000004, 1000017, 1000023, 1000028, 1000030, 1000037, 1000043, 1000045, 1000046, 1000051]) ok11 Tryd.func11 rfl rfl (by simp) (by kernel_rfl) ?_
    repeat' (first | refine And.intro ?_ ?_ | exact True.intro | refine rq fun _ => ?_ | refine ReqK.i ⟨by decide, by decide, rfl⟩ fun _ => ?_ | simp only [go_sem, h1', h2', Tryd.f11, prf_eta, form_eta, str_eta, getD_map_lt, List.nil_append, O14n])
set_option maxRecDepth 100000 in
set_option maxHeartbeats 1000000 in
set_option maxHeartbeats 16000000 in
theorem clo_kind {n : Nat} (hT : TblOk Tryd.prog GA (O14n n)) {l : List Abs.Form} {p : Prf} (hpn : p.size = n) (hpre : clP l p) (hfi : inL l p.form = true) (hk : p.kind < 1 ∨ 6 < p.kind) : Wcall Tryd.prog GA 11 [.fz (enc l), .fz (enc p)] (hpL []) 0 (fun d _ _ => D.val d = some (.fz (enc (chkM p l)))) := by
  obtain ⟨hbr, hsz⟩ := hpre
  have hlen : l.length ≤ 1000000 := by omega
  have kT := Kp.mk hT
  have kb := Kp.mk hbr
  clear hT hbr
  have ec : chkM p l = chkN p.kind p.form p.other p.name (p.subs.map chkM) l := chkM_eq p l
  unfold chkN at ec
  have hfo := in_true hfi
  rw [if_neg (by simp [hfi])] at ec
  obtain ⟨fi, hfn⟩ : ∃ n : Nat, p.form = (n : Int) := ⟨p.form.toNat, by omega⟩
  have hfl : fi < l.length := by omega
  obtain ⟨f, hf⟩ : ∃ f, l[fi] = f := ⟨_, rfl⟩
  have hfB : BF f := kb.out f (by rw [← hf]; exact List.getElem_mem hfl)
  have hfb : brF f := hfB.o.b
  have haf : atL l p.form = f := by unfold atL; rw [hfn, Int.toNat_natCast, List.getD_eq_getElem?_getD, List.getElem?_eq_getElem hfl, hf]; rfl
  rw [haf] at ec
  have h00 : ((fi : Int) < 0) = False := eq_false (by omega)
  have hge1 : ((l.length : Int) ≤ fi) = False := eq_false (by omega)
  have hge2 : (l.length ≤ fi) = False := eq_false (by omega)
  rw [if_neg (by omega), if_neg (by omega), if_neg (by omega), if_neg (by omega), if_neg (by omega), if_neg (by omega)] at ec
  rw [ec]
  by_cases h1 : p.kind < 1
  · have h1' : (p.kind < 1) = True := eq_true h1
    refine Wcall_K (N := 313) hm kT.out 11000 (lsw [181, 184, 206, 209, 247, 253, 294, 307] [1000004, 1000017, 1000023, 1000028, 1000030, 1000037, 1000043, 1000045, 1000046, 1000051]) ok11 Tryd.func11 rfl rfl (by simp) (by kernel_rfl) ?_
    repeat' (first | refine And.intro ?_ ?_ | exact True.intro | refine rq fun _ => ?_ | refine ReqK.i ⟨by decide, by decide, rfl⟩ fun _ => ?_ | simp only [go_sem, h1', hfn, h00, hge1, hge2, hfl, hf, treeC4, Tryd.f11, prf_eta, form_eta, str_eta, getD_map_lt, List.nil_append, O14n])
  · have h1' : (p.kind < 1) = False := eq_false h1
    have h2' : (6 < p.kind) = True := eq_true (by omega)
    refine Wcall_K (N := 313) hm kT.out 11000 (lsw [181, 184, 206, 209, 247, 253, 294, 307] [1000004, 1000017, 1000023, 1000028, 1000030, 1000037, 1000043, 1000045, 1000046, 1000051]) ok11 Tryd.func11 rfl rfl (by simp) (by kernel_rfl) ?_
    repeat' (first | refine And.intro ?_ ?_ | exact True.intro | refine rq fun _ => ?_ | refine ReqK.i ⟨by decide, by decide, rfl⟩ fun _ => ?_ | simp only [go_sem, h1', h2', hfn, h00, hge1, hge2, hfl, hf, treeC4, Tryd.f11, prf_eta, form_eta, str_eta, getD_map_lt, List.nil_append, O14n])
end Go.Proofs.YtdlioodgfopmfaaDoor

namespace Go.Proofs.YtdlioodgfopmfaaDoor
open Go Go.Abs Go.Proofs
set_option maxRecDepth 100000 in
set_option maxHeartbeats 1000000 in
set_option maxHeartbeats 16000000 in
theorem clo_1 {n : Nat} (hT : TblOk Tryd.prog GA (O14n n)) {l : List Abs.Form} {p : Prf} (hpn : p.size = n) (hpre : clP l p) (hfi : inL l p.form = true) (kk : p.kind = 1) : Wcall Tryd.prog GA 11 [.fz (enc l), .fz (enc p)] (hpL []) 0 (fun d _ _ => D.val d = some (.fz (enc (chkM p l)))) := by
  obtain ⟨hbr, hsz⟩ := hpre
  have hlen : l.length ≤ 1000000 := by omega
  have kT := Kp.mk hT
  have kb := Kp.mk hbr
  clear hT hbr
  have ec : chkM p l = chkN p.kind p.form p.other p.name (p.subs.map chkM) l := chkM_eq p l
  unfold chkN at ec
  have hfo := in_true hfi
  rw [if_neg (by simp [hfi])] at ec
  obtain ⟨fi, hfn⟩ : ∃ n : Nat, p.form = (n : Int) := ⟨p.form.toNat, by omega⟩
  have hfl : fi < l.length := by omega
  obtain ⟨f, hf⟩ : ∃ f, l[fi] = f := ⟨_, rfl⟩
  have hfB : BF f := kb.out f (by rw [← hf]; exact List.getElem_mem hfl)
  have hfb : brF f := hfB.o.b
  have haf : atL l p.form = f := by unfold atL; rw [hfn, Int.toNat_natCast, List.getD_eq_getElem?_getD, List.getElem?_eq_getElem hfl, hf]; rfl
  rw [haf] at ec
  have h00 : ((fi : Int) < 0) = False := eq_false (by omega)
  have hge1 : ((l.length : Int) ≤ fi) = False := eq_false (by omega)
  have hge2 : (l.length ≤ fi) = False := eq_false (by omega)
  rw [if_pos kk] at ec
  by_cases hn : p.subs.length = 0
  rotate_left
  · have e : chkM p l = false := by rw [ec, List.length_map, decide_eq_false hn]; rfl
    have hn' : ((p.subs.length : Int) = 0) = False := eq_false (by omega)
    rw [e]
    refine Wcall_K (N := 313) hm kT.out 11000 (lsw [181, 184, 206, 209, 247, 253, 294, 307] [1000004, 1000017, 1000023, 1000028, 1000030, 1000037, 1000043, 1000045, 1000046, 1000051]) ok11 Tryd.func11 rfl rfl (by simp) (by kernel_rfl) ?_
    repeat' (first | refine WK_drawV (id := 4) hm kT.out 11000 (lsw [181, 184, 206, 209, 247, 253, 294, 307] [1000004, 1000017, 1000023, 1000028, 1000030, 1000037, 1000043, 1000045, 1000046, 1000051]) treeC4 (by kernel_rfl) (by kernel_rfl) ?_ | refine And.intro ?_ ?_ | exact True.intro | refine rq fun _ => ?_ | refine ReqK.i ⟨by decide, by decide, rfl⟩ fun _ => ?_ | simp only [go_sem, kk, hn', hfn, h00, hge1, hge2, hfl, hf, treeC4, Tryd.f11, prf_eta, form_eta, str_eta, getD_map_lt, List.nil_append, O14n])
  have hs0 : p.subs = [] := List.eq_nil_of_length_eq_zero hn
  cases hoi : inL l p.other with
  | false =>
    have hoo := in_false hoi
    have e : chkM p l = false := by rw [ec, hoi]; simp
    rw [e]
    by_cases h1 : p.other < 0
    · have h1' : (p.other < 0) = True := eq_true h1
      refine Wcall_K (N := 313) hm kT.out 11000 (lsw [181, 184, 206, 209, 247, 253, 294, 307] [1000004, 1000017, 1000023, 1000028, 1000030, 1000037, 1000043, 1000045, 1000046, 1000051]) ok11 Tryd.func11 rfl rfl (by simp) (by kernel_rfl) ?_
      repeat' (first | refine WK_drawV (id := 4) hm kT.out 11000 (lsw [181, 184, 206, 209, 247, 253, 294, 307] [1000004, 1000017, 1000023, 1000028, 1000030, 1000037, 1000043, 1000045, 1000046, 1000051]) treeC4 (by kernel_rfl) (by kernel_rfl) ?_ | refine And.intro ?_ ?_ | exact True.intro | refine rq fun _ => ?_ | refine ReqK.i ⟨by decide, by decide, rfl⟩ fun _ => ?_ | simp only [go_sem, kk, hs0, h1', hfn, h00, hge1, hge2, hfl, hf, treeC4, Tryd.f11, prf_eta, form_eta, str_eta, getD_map_lt, List.nil_append, O14n])
    · have h1' : (p.other < 0) = False := eq_false h1
      have h2' : ((l.length : Int) ≤ p.other) = True := eq_true (by omega)
      refine Wcall_K (N := 313) hm kT.out 11000 (lsw [181, 184, 206, 209, 247, 253, 294, 307] [1000004, 1000017, 1000023, 1000028, 1000030, 1000037, 1000043, 1000045, 1000046, 1000051]) ok11 Tryd.func11 rfl rfl (by simp) (by kernel_rfl) ?_
      repeat' (first | refine WK_drawV (id := 4) hm kT.out 11000 (lsw [181, 184, 206, 209, 247, 253, 294, 307] [1000004, 1000017, 1000023, 1000028, 1000030, 1000037, 1000043, 1000045, 1000046, 1000051]) treeC4 (by kernel_rfl) (by kernel_rfl) ?_ | refine And.intro ?_ ?_ | exact True.intro | refine rq fun _ => ?_ | refine ReqK.i ⟨by decide, by decide, rfl⟩ fun _ => ?_ | simp only [go_sem, kk, hs0, h1', h2', hfn, h00, hge1, hge2, hfl, hf, treeC4, Tryd.f11, prf_eta, form_eta, str_eta, getD_map_lt, List.nil_append, O14n])
  | true =>
    have hoo := in_true hoi
    obtain ⟨oi, hon⟩ : ∃ n : Nat, p.other = (n : Int) := ⟨p.other.toNat, by omega⟩
    have hol : oi < l.length := by omega
    obtain ⟨g, hg⟩ : ∃ g, l[oi] = g := ⟨_, rfl⟩
    have hgB : BF g := kb.out g (by rw [← hg]; exact List.getElem_mem hol)
    have hag : atL l p.other = g := by unfold atL; rw [hon, Int.toNat_natCast, List.getD_eq_getElem?_getD, List.getElem?_eq_getElem hol, hg]; rfl
    have o00 : ((oi : Int) < 0) = False := eq_false (by omega)
    have oge1 : ((l.length : Int) ≤ oi) = False := eq_false (by omega)
    have oge2 : (l.length ≤ oi) = False := eq_false (by omega)
    rw [hag, hoi] at ec
    have hlp : (∀ f ∈ l, brF f) ∧ l.length ≤ 100000 := ⟨fun f hf => (kb.out f hf).o.b, by omega⟩
    have hcd := clD_len l l.length (Nat.le_refl _)
    rw [List.take_length] at hcd
    have hclp : (clD l).1.length = (clD l).2.length ∧ (clD l).1.length ≤ 1000000 := ⟨hcd.1, by omega⟩
    have heq := eqR_root l
    have ec : chkM p l = if p.other = p.form then conM (clsM l) f else closeM l f g := by rw [ec, hs0]; rfl
    obtain ⟨C, hC⟩ : ∃ C, clD l = C := ⟨_, rfl⟩
    rw [hC] at hclp heq
    have ke := Kp.mk heq
    clear heq hcd
    by_cases hof : oi = fi
    · have hofT : ((fi : Int) = oi) = True := eq_true (by omega)
      have hofT2 : (fi = oi) = True := eq_true hof.symm
      have e : chkM p l = conM (clsM l) f := by rw [ec, if_pos (by omega)]
      by_cases h4 : f.kind = 4
      rotate_left
      · have e : chkM p l = false := by rw [e]; unfold conM; rw [decide_eq_false h4]; rfl
        rw [e]
        refine Wcall_K (N := 313) hm kT.out 11000 (lsw [181, 184, 206, 209, 247, 253, 294, 307] [1000004, 1000017, 1000023, 1000028, 1000030, 1000037, 1000043, 1000045, 1000046, 1000051]) ok11 Tryd.func11 rfl rfl (by simp) (by kernel_rfl) ?_
        repeat' (first | refine WK_drawV (id := 4) hm kT.out 11000 (lsw [181, 184, 206, 209, 247, 253, 294, 307] [1000004, 1000017, 1000023, 1000028, 1000030, 1000037, 1000043, 1000045, 1000046, 1000051]) treeC4 (by kernel_rfl) (by kernel_rfl) ?_ | refine ReqK.i hlp fun _ => ?_ | refine ReqK.i hclp fun _ => ?_ | refine And.intro ?_ ?_ | exact True.intro | refine rq fun _ => ?_ | refine ReqK.i ⟨by decide, by decide, rfl⟩ fun _ => ?_ | simp only [go_sem, kk, hs0, hofT, hofT2, h4, hC, hfn, h00, hge1, hge2, hfl, hf, treeC4, hon, o00, oge1, oge2, hol, hg, Tryd.f11, prf_eta, form_eta, str_eta, getD_map_lt, List.nil_append, O14n])
      obtain ⟨h, hh, s0, hhb⟩ := br_one hfb (.inl h4)
      have e : chkM p l = (decide (h.kind = 1) || decide (h.kind = 3) && decide (rootM (clsM l) (h.words.getD 0 ⟨[]⟩) = rootM (clsM l) (h.words.getD 1 ⟨[]⟩))) := by rw [e]; unfold conM; rw [decide_eq_true h4, s0]; rfl
      by_cases j1 : h.kind = 1
      · have e : chkM p l = true := by rw [e, decide_eq_true j1]; rfl
        rw [e]
        refine Wcall_K (N := 313) hm kT.out 11000 (lsw [181, 184, 206, 209, 247, 253, 294, 307] [1000004, 1000017, 1000023, 1000028, 1000030, 1000037, 1000043, 1000045, 1000046, 1000051]) ok11 Tryd.func11 rfl rfl (by simp) (by kernel_rfl) ?_
        repeat' (first | refine WK_drawV (id := 4) hm kT.out 11000 (lsw [181, 184, 206, 209, 247, 253, 294, 307] [1000004, 1000017, 1000023, 1000028, 1000030, 1000037, 1000043, 1000045, 1000046, 1000051]) treeC4 (by kernel_rfl) (by kernel_rfl) ?_ | refine ReqK.i hlp fun _ => ?_ | refine ReqK.i hclp fun _ => ?_ | refine WK_drawV (id := 28) hm kT.out 11000 (lsw [181, 184, 206, 209, 247, 253, 294, 307] [1000004, 1000017, 1000023, 1000028, 1000030, 1000037, 1000043, 1000045, 1000046, 1000051]) treeC28 (by kernel_rfl) (by kernel_rfl) ?_ | refine And.intro ?_ ?_ | exact True.intro | refine rq fun _ => ?_ | refine ReqK.i ⟨by decide, by decide, rfl⟩ fun _ => ?_ | simp only [go_sem, kk, hs0, hofT, hofT2, h4, hh, j1, hC, treeC28, hfn, h00, hge1, hge2, hfl, hf, treeC4, hon, o00, oge1, oge2, hol, hg, Tryd.f11, prf_eta, form_eta, str_eta, getD_map_lt, List.nil_append, O14n])
      by_cases j3 : h.kind = 3
      rotate_left
      · have e : chkM p l = false := by rw [e, decide_eq_false j1, decide_eq_false j3]; rfl
        rw [e]
        refine Wcall_K (N := 313) hm kT.out 11000 (lsw [181, 184, 206, 209, 247, 253, 294, 307] [1000004, 1000017, 1000023, 1000028, 1000030, 1000037, 1000043, 1000045, 1000046, 1000051]) ok11 Tryd.func11 rfl rfl (by simp) (by kernel_rfl) ?_
        repeat' (first | refine WK_drawV (id := 4) hm kT.out 11000 (lsw [181, 184, 206, 209, 247, 253, 294, 307] [1000004, 1000017, 1000023, 1000028, 1000030, 1000037, 1000043, 1000045, 1000046, 1000051]) treeC4 (by kernel_rfl) (by kernel_rfl) ?_ | refine ReqK.i hlp fun _ => ?_ | refine ReqK.i hclp fun _ => ?_ | refine WK_drawV (id := 28) hm kT.out 11000 (lsw [181, 184, 206, 209, 247, 253, 294, 307] [1000004, 1000017, 1000023, 1000028, 1000030, 1000037, 1000043, 1000045, 1000046, 1000051]) treeC28 (by kernel_rfl) (by kernel_rfl) ?_ | refine And.intro ?_ ?_ | exact True.intro | refine rq fun _ => ?_ | refine ReqK.i ⟨by decide, by decide, rfl⟩ fun _ => ?_ | simp only [go_sem, kk, hs0, hofT, hofT2, h4, hh, j1, j3, hC, treeC28, hfn, h00, hge1, hge2, hfl, hf, treeC4, hon, o00, oge1, oge2, hol, hg, Tryd.f11, prf_eta, form_eta, str_eta, getD_map_lt, List.nil_append, O14n])
      obtain ⟨a, b, hab⟩ : ∃ a b, h.words = [a, b] := by
        have h2 := (vok_eq.1 hhb.v).2.2.2.1 j3
        match h : h.words, h2 with
        | [a, b], _ => exact ⟨a, b, rfl⟩
      have e : chkM p l = eqR C.1 C.2 a b := by rw [e, decide_eq_false j1, decide_eq_true j3, hab, ke.out]; rfl
      obtain ⟨B, hB⟩ : ∃ B, eqR C.1 C.2 a b = B := ⟨_, rfl⟩
      rw [e, hB]
      clear e ec
      refine Wcall_K (N := 313) hm kT.out 11000 (lsw [181, 184, 206, 209, 247, 253, 294, 307] [1000004, 1000017, 1000023, 1000028, 1000030, 1000037, 1000043, 1000045, 1000046, 1000051]) ok11 Tryd.func11 rfl rfl (by simp) (by kernel_rfl) ?_
      repeat' (first | refine WK_drawV (id := 4) hm kT.out 11000 (lsw [181, 184, 206, 209, 247, 253, 294, 307] [1000004, 1000017, 1000023, 1000028, 1000030, 1000037, 1000043, 1000045, 1000046, 1000051]) treeC4 (by kernel_rfl) (by kernel_rfl) ?_ | refine ReqK.i hlp fun _ => ?_ | refine ReqK.i hclp fun _ => ?_ | refine WK_drawV (id := 28) hm kT.out 11000 (lsw [181, 184, 206, 209, 247, 253, 294, 307] [1000004, 1000017, 1000023, 1000028, 1000030, 1000037, 1000043, 1000045, 1000046, 1000051]) treeC28 (by kernel_rfl) (by kernel_rfl) ?_ | refine And.intro ?_ ?_ | exact True.intro | refine rq fun _ => ?_ | refine ReqK.i ⟨by decide, by decide, rfl⟩ fun _ => ?_ | simp only [go_sem, kk, hs0, hofT, hofT2, h4, hh, j1, j3, hab, hC, hB, treeC28, hfn, h00, hge1, hge2, hfl, hf, treeC4, hon, o00, oge1, oge2, hol, hg, Tryd.f11, prf_eta, form_eta, str_eta, getD_map_lt, List.nil_append, O14n])
    · have hofF : ((fi : Int) = oi) = False := eq_false (by omega)
      have hofF2 : (fi = oi) = False := eq_false fun h => hof h.symm
      have e : chkM p l = closeM l f g := by rw [ec, if_neg (by omega)]
      by_cases h4 : g.kind = 4
      rotate_left
      · have e : chkM p l = false := by rw [e, close_doc0 h4]
        rw [e]
        refine Wcall_K (N := 313) hm kT.out 11000 (lsw [181, 184, 206, 209, 247, 253, 294, 307] [1000004, 1000017, 1000023, 1000028, 1000030, 1000037, 1000043, 1000045, 1000046, 1000051]) ok11 Tryd.func11 rfl rfl (by simp) (by kernel_rfl) ?_
        repeat' (first | refine WK_drawV (id := 4) hm kT.out 11000 (lsw [181, 184, 206, 209, 247, 253, 294, 307] [1000004, 1000017, 1000023, 1000028, 1000030, 1000037, 1000043, 1000045, 1000046, 1000051]) treeC4 (by kernel_rfl) (by kernel_rfl) ?_ | refine ReqK.i hlp fun _ => ?_ | refine ReqK.i hclp fun _ => ?_ | refine And.intro ?_ ?_ | exact True.intro | refine rq fun _ => ?_ | refine ReqK.i ⟨by decide, by decide, rfl⟩ fun _ => ?_ | simp only [go_sem, kk, hs0, hofF, hofF2, h4, hC, hfn, h00, hge1, hge2, hfl, hf, treeC4, hon, o00, oge1, oge2, hol, hg, Tryd.f11, prf_eta, form_eta, str_eta, getD_map_lt, List.nil_append, O14n])
      obtain ⟨h, hh, s0, hhb⟩ := br_one hgB.o.b (.inl h4)
      have hh0 : BF0 h := hgB.o.sub (by rw [hh]; simp)
      have hcn : h.fit = true ∧ h.size ≤ 1000 := ⟨hh0.b.ft, by have := hh0.b.s; omega⟩
      have ewt : wthM h [] = cnn h := wth_cnn hh0.clean
      have e : chkM p l = (sameR (cnn h) f || alikM (clsM l) f h) := by rw [e, close_doc hfB hgB h4 hh]
      have hsm : txP (cnn h) ∧ txP f := ⟨hh0.cn.o.tx, hfB.o.tx⟩
      obtain ⟨N, hN⟩ : ∃ N, cnn h = N := ⟨_, rfl⟩
      rw [hN] at e ewt hsm
      cases hS : sameR N f with
      | true =>
        have e : chkM p l = true := by rw [e, hS]; rfl
        rw [e]
        refine Wcall_K (N := 313) hm kT.out 11000 (lsw [181, 184, 206, 209, 247, 253, 294, 307] [1000004, 1000017, 1000023, 1000028, 1000030, 1000037, 1000043, 1000045, 1000046, 1000051]) ok11 Tryd.func11 rfl rfl (by simp) (by kernel_rfl) ?_
        repeat' (first | refine WK_drawV (id := 4) hm kT.out 11000 (lsw [181, 184, 206, 209, 247, 253, 294, 307] [1000004, 1000017, 1000023, 1000028, 1000030, 1000037, 1000043, 1000045, 1000046, 1000051]) treeC4 (by kernel_rfl) (by kernel_rfl) ?_ | refine ReqK.i hlp fun _ => ?_ | refine ReqK.i hclp fun _ => ?_ | refine ReqK.i hcn fun _ => ?_ | refine ReqK.i hsm fun _ => ?_ | refine WK_drawV (id := 17) hm kT.out 11000 (lsw [181, 184, 206, 209, 247, 253, 294, 307] [1000004, 1000017, 1000023, 1000028, 1000030, 1000037, 1000043, 1000045, 1000046, 1000051]) treeC17 (by kernel_rfl) (by kernel_rfl) ?_ | refine And.intro ?_ ?_ | exact True.intro | refine rq fun _ => ?_ | refine ReqK.i ⟨by decide, by decide, rfl⟩ fun _ => ?_ | simp only [go_sem, kk, hs0, hofF, hofF2, h4, hh, hC, ewt, hS, treeC17, hfn, h00, hge1, hge2, hfl, hf, treeC4, hon, o00, oge1, oge2, hol, hg, Tryd.f11, prf_eta, form_eta, str_eta, getD_map_lt, List.nil_append, O14n])
      | false =>
        have e : chkM p l = alikM (clsM l) f h := by rw [e, hS]; rfl
        rw [alik_doc] at e
        clear ec
        obtain ⟨R, hR⟩ : ∃ R : Nat → Bool, R = fun j => eqR C.1 C.2 (f.words.getD j ⟨[]⟩) (h.words.getD j ⟨[]⟩) := ⟨_, rfl⟩
        have hRj : ∀ j (h1 : j < f.words.length) (h2 : j < h.words.length), eqR C.1 C.2 f.words[j] h.words[j] = R j := fun j h1 h2 => by
          rw [hR]
          simp only
          rw [List.getD_eq_getElem?_getD, List.getElem?_eq_getElem h1, List.getD_eq_getElem?_getD, List.getElem?_eq_getElem h2]; rfl
        have hRt : ∀ j (h1 : j < f.words.length) (h2 : j < h.words.length), R j = decide (rootM (clsM l) f.words[j] = rootM (clsM l) h.words[j]) := fun j h1 h2 => by rw [← hRj j h1 h2, ke.out]
        obtain ⟨okF, hok⟩ : ∃ okF : Bool → Nat → Bool, okF = fun b i => if i = 0 then b else R (i - 1) := ⟨_, rfl⟩
        have hok0 : ∀ b, okF b 0 = b := fun b => by rw [hok]; rfl
        have hoks : ∀ b i, okF b (i + 1) = R i := fun b i => by rw [hok]; rfl
        have kr := Kp.mk hRj
        have krt := Kp.mk hRt
        have kok := Kp.mk hoks
        have hfw : f.words.length ≤ 1000 := by
          have hf := hfb.ft
          cases f with
          | mk a b c d =>
            rw [Form.fit] at hf
            simp only [Bool.and_eq_true, decide_eq_true_eq] at hf
            exact hf.1.1
        clear hR hRj hRt hok hoks
        by_cases h2k : f.kind = 2
        rotate_left
        · have e : chkM p l = false := by rw [e, decide_eq_false h2k]; rfl
          rw [e]
          refine Wcall_K (N := 313) hm kT.out 11000 (lsw [181, 184, 206, 209, 247, 253, 294, 307] [1000004, 1000017, 1000023, 1000028, 1000030, 1000037, 1000043, 1000045, 1000046, 1000051]) ok11 Tryd.func11 rfl rfl (by simp) (by kernel_rfl) ?_
          repeat' (first | (refine WK_weak2 (Weak_rpL (id := (11003, 0)) (t := 3) (b := true) (ys := [.i .i64 p.kind, .i .i64 p.form, .i .i64 p.other, .s p.name.l, .sl (p.subs.map enc)]) ?_ ?_) ?_; (focus (simp only [go_sem, kk, hs0, hfn, hon, h4, h2k]; done)); (focus (simp only [go_sem]; done))) | (refine WK_weak2 (Weak_rpL (id := (11005, 1)) (t := 5) (b := true) (ys := [.i .i64 f.kind, .s f.name.l, .sl (f.words.map enc), .sl (f.subs.map enc)]) ?_ ?_) ?_; (focus (simp only [go_sem, kk, hs0, hfn, hon, h4, h2k]; done)); (focus (simp only [go_sem]; done))) | refine WK_drawV (id := 4) hm kT.out 11000 (lsw [181, 184, 206, 209, 247, 253, 294, 307] [1000004, 1000017, 1000023, 1000028, 1000030, 1000037, 1000043, 1000045, 1000046, 1000051]) treeC4 (by kernel_rfl) (by kernel_rfl) ?_ | refine ReqK.i hlp fun _ => ?_ | refine ReqK.i hclp fun _ => ?_ | refine ReqK.i hcn fun _ => ?_ | refine ReqK.i hsm fun _ => ?_ | refine WK_drawV (id := 17) hm kT.out 11000 (lsw [181, 184, 206, 209, 247, 253, 294, 307] [1000004, 1000017, 1000023, 1000028, 1000030, 1000037, 1000043, 1000045, 1000046, 1000051]) treeC17 (by kernel_rfl) (by kernel_rfl) ?_ | refine And.intro ?_ ?_ | exact True.intro | refine rq fun _ => ?_ | refine ReqK.i ⟨by decide, by decide, rfl⟩ fun _ => ?_ | simp only [go_sem, h2k, kk, hs0, hofF, hofF2, h4, hh, hC, ewt, hS, treeC17, hfn, h00, hge1, hge2, hfl, hf, treeC4, hon, o00, oge1, oge2, hol, hg, Tryd.f11, prf_eta, form_eta, str_eta, getD_map_lt, List.nil_append, O14n])
          refine WK_loop hm kT.out 11000 (lsw [181, 184, 206, 209, 247, 253, 294, 307] [1000004, 1000017, 1000023, 1000028, 1000030, 1000037, 1000043, 1000045, 1000046, 1000051]) (ι := LoopI 0 fun i => ∀ j, j + 1 < i → R j = true)
            ⟨fun q => ⟨frL [(3, .rp [.i .i64 p.kind, .i .i64 p.form, .i .i64 p.other, .s p.name.l, .sl (p.subs.map enc)]), (5, .rp [.i .i64 f.kind, .s f.name.l, .sl (f.words.map enc), .sl (f.subs.map enc)]), (6, .fz (.sl (C.1.map enc))), (7, .fz (.sl (C.2.map enc))), (8, .ptr (11008, 2) 0), (9, .fz (.b (okF false q.i))), (10, .fz (.i .i64 q.i))],
              hpL [((11008, 2), some ⟨[.fz (.i .i64 h.kind), .fz (.s h.name.l), .fz (.sl (h.words.map enc)), .fz (.sl (h.subs.map enc))], true, false⟩)], 3⟩, fun q => 0 - q.i⟩
            ⟨0, by omega, fun j h => by omega⟩ (by kernel_rfl) ?_ ?_
          · refine Weak_to ?_ ?_ ?_ <;> simp only [go_sem, hok0, kk, hs0, hfn, hon, h2k]
            all_goals first | done | rfl | omega | trace_state
          rintro ⟨i, hi, hP⟩
          try simp only at hi hP
          obtain rfl : i = 0 := by omega
          repeat' (first | refine And.intro ?_ ?_ | exact True.intro | refine rq fun _ => ?_ | refine ReqK.i ⟨by decide, by decide, rfl⟩ fun _ => ?_ | simp only [go_sem, hok0, Tryd.f11, prf_eta, form_eta, str_eta, getD_map_lt, List.nil_append, O14n])
        have eF : Abs.Form.mk 2 f.name f.words f.subs = f := by rw [← h2k]; exact form_eta
        by_cases h2h : h.kind = 2
        rotate_left
        · have e : chkM p l = false := by rw [e, decide_eq_false h2h]; simp
          rw [e]
          refine Wcall_K (N := 313) hm kT.out 11000 (lsw [181, 184, 206, 209, 247, 253, 294, 307] [1000004, 1000017, 1000023, 1000028, 1000030, 1000037, 1000043, 1000045, 1000046, 1000051]) ok11 Tryd.func11 rfl rfl (by simp) (by kernel_rfl) ?_
          repeat' (first | (refine WK_weak2 (Weak_rpL (id := (11003, 0)) (t := 3) (b := true) (ys := [.i .i64 p.kind, .i .i64 p.form, .i .i64 p.other, .s p.name.l, .sl (p.subs.map enc)]) ?_ ?_) ?_; (focus (simp only [go_sem, kk, hs0, hfn, hon, h4, h2k, eF, h2h]; done)); (focus (simp only [go_sem]; done))) | (refine WK_weak2 (Weak_rpL (id := (11005, 1)) (t := 5) (b := true) (ys := [.i .i64 f.kind, .s f.name.l, .sl (f.words.map enc), .sl (f.subs.map enc)]) ?_ ?_) ?_; (focus (simp only [go_sem, kk, hs0, hfn, hon, h4, h2k, eF, h2h]; done)); (focus (simp only [go_sem]; done))) | refine WK_drawV (id := 4) hm kT.out 11000 (lsw [181, 184, 206, 209, 247, 253, 294, 307] [1000004, 1000017, 1000023, 1000028, 1000030, 1000037, 1000043, 1000045, 1000046, 1000051]) treeC4 (by kernel_rfl) (by kernel_rfl) ?_ | refine ReqK.i hlp fun _ => ?_ | refine ReqK.i hclp fun _ => ?_ | refine ReqK.i hcn fun _ => ?_ | refine ReqK.i hsm fun _ => ?_ | refine WK_drawV (id := 17) hm kT.out 11000 (lsw [181, 184, 206, 209, 247, 253, 294, 307] [1000004, 1000017, 1000023, 1000028, 1000030, 1000037, 1000043, 1000045, 1000046, 1000051]) treeC17 (by kernel_rfl) (by kernel_rfl) ?_ | refine And.intro ?_ ?_ | exact True.intro | refine rq fun _ => ?_ | refine ReqK.i ⟨by decide, by decide, rfl⟩ fun _ => ?_ | simp only [go_sem, h2k, eF, h2h, kk, hs0, hofF, hofF2, h4, hh, hC, ewt, hS, treeC17, hfn, h00, hge1, hge2, hfl, hf, treeC4, hon, o00, oge1, oge2, hol, hg, Tryd.f11, prf_eta, form_eta, str_eta, getD_map_lt, List.nil_append, O14n])
          refine WK_loop hm kT.out 11000 (lsw [181, 184, 206, 209, 247, 253, 294, 307] [1000004, 1000017, 1000023, 1000028, 1000030, 1000037, 1000043, 1000045, 1000046, 1000051]) (ι := LoopI 0 fun i => ∀ j, j + 1 < i → R j = true)
            ⟨fun q => ⟨frL [(3, .rp [.i .i64 p.kind, .i .i64 p.form, .i .i64 p.other, .s p.name.l, .sl (p.subs.map enc)]), (5, .rp [.i .i64 f.kind, .s f.name.l, .sl (f.words.map enc), .sl (f.subs.map enc)]), (6, .fz (.sl (C.1.map enc))), (7, .fz (.sl (C.2.map enc))), (8, .ptr (11008, 2) 0), (9, .fz (.b (okF false q.i))), (10, .fz (.i .i64 q.i))],
              hpL [((11008, 2), some ⟨[.fz (.i .i64 h.kind), .fz (.s h.name.l), .fz (.sl (h.words.map enc)), .fz (.sl (h.subs.map enc))], true, false⟩)], 3⟩, fun q => 0 - q.i⟩
            ⟨0, by omega, fun j h => by omega⟩ (by kernel_rfl) ?_ ?_
          · refine Weak_to ?_ ?_ ?_ <;> simp only [go_sem, hok0, kk, hs0, hfn, hon, h2k, eF, h2h]
            all_goals first | done | rfl | omega | trace_state
          rintro ⟨i, hi, hP⟩
          try simp only at hi hP
          obtain rfl : i = 0 := by omega
          repeat' (first | refine And.intro ?_ ?_ | exact True.intro | refine rq fun _ => ?_ | refine ReqK.i ⟨by decide, by decide, rfl⟩ fun _ => ?_ | simp only [go_sem, hok0, Tryd.f11, prf_eta, form_eta, str_eta, getD_map_lt, List.nil_append, O14n])
        have eH : Abs.Form.mk 2 h.name h.words h.subs = h := by rw [← h2h]; exact form_eta
        by_cases hnm : f.name = h.name
        rotate_left
        · have e : chkM p l = false := by rw [e, decide_eq_false hnm]; simp
          have hnl : (f.name.l = h.name.l) = False := eq_false fun e0 => hnm (show f.name = h.name from str_of e0)
          rw [e]
          refine Wcall_K (N := 313) hm kT.out 11000 (lsw [181, 184, 206, 209, 247, 253, 294, 307] [1000004, 1000017, 1000023, 1000028, 1000030, 1000037, 1000043, 1000045, 1000046, 1000051]) ok11 Tryd.func11 rfl rfl (by simp) (by kernel_rfl) ?_
          repeat' (first | (refine WK_weak2 (Weak_rpL (id := (11003, 0)) (t := 3) (b := true) (ys := [.i .i64 p.kind, .i .i64 p.form, .i .i64 p.other, .s p.name.l, .sl (p.subs.map enc)]) ?_ ?_) ?_; (focus (simp only [go_sem, kk, hs0, hfn, hon, h4, h2k, eF, h2h, eH, hnl]; done)); (focus (simp only [go_sem]; done))) | (refine WK_weak2 (Weak_rpL (id := (11005, 1)) (t := 5) (b := true) (ys := [.i .i64 f.kind, .s f.name.l, .sl (f.words.map enc), .sl (f.subs.map enc)]) ?_ ?_) ?_; (focus (simp only [go_sem, kk, hs0, hfn, hon, h4, h2k, eF, h2h, eH, hnl]; done)); (focus (simp only [go_sem]; done))) | refine WK_drawV (id := 4) hm kT.out 11000 (lsw [181, 184, 206, 209, 247, 253, 294, 307] [1000004, 1000017, 1000023, 1000028, 1000030, 1000037, 1000043, 1000045, 1000046, 1000051]) treeC4 (by kernel_rfl) (by kernel_rfl) ?_ | refine ReqK.i hlp fun _ => ?_ | refine ReqK.i hclp fun _ => ?_ | refine ReqK.i hcn fun _ => ?_ | refine ReqK.i hsm fun _ => ?_ | refine WK_drawV (id := 17) hm kT.out 11000 (lsw [181, 184, 206, 209, 247, 253, 294, 307] [1000004, 1000017, 1000023, 1000028, 1000030, 1000037, 1000043, 1000045, 1000046, 1000051]) treeC17 (by kernel_rfl) (by kernel_rfl) ?_ | refine And.intro ?_ ?_ | exact True.intro | refine rq fun _ => ?_ | refine ReqK.i ⟨by decide, by decide, rfl⟩ fun _ => ?_ | simp only [go_sem, h2k, eF, h2h, eH, hnl, kk, hs0, hofF, hofF2, h4, hh, hC, ewt, hS, treeC17, hfn, h00, hge1, hge2, hfl, hf, treeC4, hon, o00, oge1, oge2, hol, hg, Tryd.f11, prf_eta, form_eta, str_eta, getD_map_lt, List.nil_append, O14n])
          refine WK_loop hm kT.out 11000 (lsw [181, 184, 206, 209, 247, 253, 294, 307] [1000004, 1000017, 1000023, 1000028, 1000030, 1000037, 1000043, 1000045, 1000046, 1000051]) (ι := LoopI 0 fun i => ∀ j, j + 1 < i → R j = true)
            ⟨fun q => ⟨frL [(3, .rp [.i .i64 p.kind, .i .i64 p.form, .i .i64 p.other, .s p.name.l, .sl (p.subs.map enc)]), (5, .rp [.i .i64 f.kind, .s f.name.l, .sl (f.words.map enc), .sl (f.subs.map enc)]), (6, .fz (.sl (C.1.map enc))), (7, .fz (.sl (C.2.map enc))), (8, .ptr (11008, 2) 0), (9, .fz (.b (okF false q.i))), (10, .fz (.i .i64 q.i))],
              hpL [((11008, 2), some ⟨[.fz (.i .i64 h.kind), .fz (.s h.name.l), .fz (.sl (h.words.map enc)), .fz (.sl (h.subs.map enc))], true, false⟩)], 3⟩, fun q => 0 - q.i⟩
            ⟨0, by omega, fun j h => by omega⟩ (by kernel_rfl) ?_ ?_
          · refine Weak_to ?_ ?_ ?_ <;> simp only [go_sem, hok0, kk, hs0, hfn, hon, h2k, eF, h2h, eH, hnl]
            all_goals first | done | rfl | omega | trace_state
          rintro ⟨i, hi, hP⟩
          try simp only at hi hP
          obtain rfl : i = 0 := by omega
          repeat' (first | refine And.intro ?_ ?_ | exact True.intro | refine rq fun _ => ?_ | refine ReqK.i ⟨by decide, by decide, rfl⟩ fun _ => ?_ | simp only [go_sem, hok0, Tryd.f11, prf_eta, form_eta, str_eta, getD_map_lt, List.nil_append, O14n])
        have hnl : (f.name.l = h.name.l) = True := eq_true (by rw [hnm])
        by_cases hwl : f.words.length = h.words.length
        rotate_left
        · have e : chkM p l = false := by rw [e, decide_eq_false (show ¬ (f.words.map (rootM (clsM l)) = h.words.map (rootM (clsM l))) from fun h0 => hwl (by have := congrArg List.length h0; simpa using this))]; simp
          have hwl' : ((f.words.length : Int) = h.words.length) = False := eq_false (by omega)
          rw [e]
          refine Wcall_K (N := 313) hm kT.out 11000 (lsw [181, 184, 206, 209, 247, 253, 294, 307] [1000004, 1000017, 1000023, 1000028, 1000030, 1000037, 1000043, 1000045, 1000046, 1000051]) ok11 Tryd.func11 rfl rfl (by simp) (by kernel_rfl) ?_
          repeat' (first | (refine WK_weak2 (Weak_rpL (id := (11003, 0)) (t := 3) (b := true) (ys := [.i .i64 p.kind, .i .i64 p.form, .i .i64 p.other, .s p.name.l, .sl (p.subs.map enc)]) ?_ ?_) ?_; (focus (simp only [go_sem, kk, hs0, hfn, hon, h4, h2k, eF, h2h, eH, hnl, hwl']; done)); (focus (simp only [go_sem]; done))) | (refine WK_weak2 (Weak_rpL (id := (11005, 1)) (t := 5) (b := true) (ys := [.i .i64 f.kind, .s f.name.l, .sl (f.words.map enc), .sl (f.subs.map enc)]) ?_ ?_) ?_; (focus (simp only [go_sem, kk, hs0, hfn, hon, h4, h2k, eF, h2h, eH, hnl, hwl']; done)); (focus (simp only [go_sem]; done))) | refine WK_drawV (id := 4) hm kT.out 11000 (lsw [181, 184, 206, 209, 247, 253, 294, 307] [1000004, 1000017, 1000023, 1000028, 1000030, 1000037, 1000043, 1000045, 1000046, 1000051]) treeC4 (by kernel_rfl) (by kernel_rfl) ?_ | refine ReqK.i hlp fun _ => ?_ | refine ReqK.i hclp fun _ => ?_ | refine ReqK.i hcn fun _ => ?_ | refine ReqK.i hsm fun _ => ?_ | refine WK_drawV (id := 17) hm kT.out 11000 (lsw [181, 184, 206, 209, 247, 253, 294, 307] [1000004, 1000017, 1000023, 1000028, 1000030, 1000037, 1000043, 1000045, 1000046, 1000051]) treeC17 (by kernel_rfl) (by kernel_rfl) ?_ | refine And.intro ?_ ?_ | exact True.intro | refine rq fun _ => ?_ | refine ReqK.i ⟨by decide, by decide, rfl⟩ fun _ => ?_ | simp only [go_sem, h2k, eF, h2h, eH, hnl, hwl', kk, hs0, hofF, hofF2, h4, hh, hC, ewt, hS, treeC17, hfn, h00, hge1, hge2, hfl, hf, treeC4, hon, o00, oge1, oge2, hol, hg, Tryd.f11, prf_eta, form_eta, str_eta, getD_map_lt, List.nil_append, O14n])
          refine WK_loop hm kT.out 11000 (lsw [181, 184, 206, 209, 247, 253, 294, 307] [1000004, 1000017, 1000023, 1000028, 1000030, 1000037, 1000043, 1000045, 1000046, 1000051]) (ι := LoopI 0 fun i => ∀ j, j + 1 < i → R j = true)
            ⟨fun q => ⟨frL [(3, .rp [.i .i64 p.kind, .i .i64 p.form, .i .i64 p.other, .s p.name.l, .sl (p.subs.map enc)]), (5, .rp [.i .i64 f.kind, .s f.name.l, .sl (f.words.map enc), .sl (f.subs.map enc)]), (6, .fz (.sl (C.1.map enc))), (7, .fz (.sl (C.2.map enc))), (8, .ptr (11008, 2) 0), (9, .fz (.b (okF false q.i))), (10, .fz (.i .i64 q.i))],
              hpL [((11008, 2), some ⟨[.fz (.i .i64 h.kind), .fz (.s h.name.l), .fz (.sl (h.words.map enc)), .fz (.sl (h.subs.map enc))], true, false⟩)], 3⟩, fun q => 0 - q.i⟩
            ⟨0, by omega, fun j h => by omega⟩ (by kernel_rfl) ?_ ?_
          · refine Weak_to ?_ ?_ ?_ <;> simp only [go_sem, hok0, kk, hs0, hfn, hon, h2k, eF, h2h, eH, hnl, hwl']
            all_goals first | done | rfl | omega | trace_state
          rintro ⟨i, hi, hP⟩
          try simp only at hi hP
          obtain rfl : i = 0 := by omega
          repeat' (first | refine And.intro ?_ ?_ | exact True.intro | refine rq fun _ => ?_ | refine ReqK.i ⟨by decide, by decide, rfl⟩ fun _ => ?_ | simp only [go_sem, hok0, Tryd.f11, prf_eta, form_eta, str_eta, getD_map_lt, List.nil_append, O14n])
        have hwl' : ((f.words.length : Int) = h.words.length) = True := eq_true (by omega)
        have eal : (∀ j, j < f.words.length → R j = true) → chkM p l = true := fun h0 => by
          rw [e, decide_eq_true h2k, decide_eq_true h2h, decide_eq_true hnm]
          refine decide_eq_true (List.ext_getElem (by simpa using hwl) fun j h1 h2 => ?_)
          rw [List.length_map] at h1 h2
          rw [List.getElem_map, List.getElem_map]
          have := h0 j h1
          rw [krt.out j h1 h2] at this
          exact of_decide_eq_true this
        have eno : ∀ j, j < f.words.length → R j = false → chkM p l = false := fun j h1 h0 => by
          have h2 : j < h.words.length := by omega
          have hne : ¬ (f.words.map (rootM (clsM l)) = h.words.map (rootM (clsM l))) := fun h3 => by
            have h4 := congrArg (fun l : List Str => l[j]?) h3
            simp only [List.getElem?_map, List.getElem?_eq_getElem h1, List.getElem?_eq_getElem h2, Option.map_some, Option.some.injEq] at h4
            rw [krt.out j h1 h2, decide_eq_true h4] at h0
            cases h0
          rw [e, decide_eq_false hne]
          simp
        have keal := Kp.mk eal
        have keno := Kp.mk eno
        clear eal eno e
        obtain ⟨B, hB⟩ : ∃ B, chkM p l = B := ⟨_, rfl⟩
        rw [hB]
        refine Wcall_K (N := 313) hm kT.out 11000 (lsw [181, 184, 206, 209, 247, 253, 294, 307] [1000004, 1000017, 1000023, 1000028, 1000030, 1000037, 1000043, 1000045, 1000046, 1000051]) ok11 Tryd.func11 rfl rfl (by simp) (by kernel_rfl) ?_
        repeat' (first | (refine WK_weak2 (Weak_rpL (id := (11003, 0)) (t := 3) (b := true) (ys := [.i .i64 p.kind, .i .i64 p.form, .i .i64 p.other, .s p.name.l, .sl (p.subs.map enc)]) ?_ ?_) ?_; (focus (simp only [go_sem, kk, hs0, hfn, hon, h4, h2k, eF, h2h, eH, hnl, hwl']; done)); (focus (simp only [go_sem]; done))) | (refine WK_weak2 (Weak_rpL (id := (11005, 1)) (t := 5) (b := true) (ys := [.i .i64 f.kind, .s f.name.l, .sl (f.words.map enc), .sl (f.subs.map enc)]) ?_ ?_) ?_; (focus (simp only [go_sem, kk, hs0, hfn, hon, h4, h2k, eF, h2h, eH, hnl, hwl']; done)); (focus (simp only [go_sem]; done))) | refine WK_drawV (id := 4) hm kT.out 11000 (lsw [181, 184, 206, 209, 247, 253, 294, 307] [1000004, 1000017, 1000023, 1000028, 1000030, 1000037, 1000043, 1000045, 1000046, 1000051]) treeC4 (by kernel_rfl) (by kernel_rfl) ?_ | refine ReqK.i hlp fun _ => ?_ | refine ReqK.i hclp fun _ => ?_ | refine ReqK.i hcn fun _ => ?_ | refine ReqK.i hsm fun _ => ?_ | refine WK_drawV (id := 17) hm kT.out 11000 (lsw [181, 184, 206, 209, 247, 253, 294, 307] [1000004, 1000017, 1000023, 1000028, 1000030, 1000037, 1000043, 1000045, 1000046, 1000051]) treeC17 (by kernel_rfl) (by kernel_rfl) ?_ | refine And.intro ?_ ?_ | exact True.intro | refine rq fun _ => ?_ | refine ReqK.i ⟨by decide, by decide, rfl⟩ fun _ => ?_ | simp only [go_sem, h2k, eF, h2h, eH, hnl, hwl', kk, hs0, hofF, hofF2, h4, hh, hC, ewt, hS, treeC17, hfn, h00, hge1, hge2, hfl, hf, treeC4, hon, o00, oge1, oge2, hol, hg, Tryd.f11, prf_eta, form_eta, str_eta, getD_map_lt, List.nil_append, O14n])
        refine WK_loop hm kT.out 11000 (lsw [181, 184, 206, 209, 247, 253, 294, 307] [1000004, 1000017, 1000023, 1000028, 1000030, 1000037, 1000043, 1000045, 1000046, 1000051]) (ι := LoopI f.words.length fun i => ∀ j, j + 1 < i → R j = true)
          ⟨fun q => ⟨frL [(3, .rp [.i .i64 p.kind, .i .i64 p.form, .i .i64 p.other, .s p.name.l, .sl (p.subs.map enc)]), (5, .rp [.i .i64 f.kind, .s f.name.l, .sl (f.words.map enc), .sl (f.subs.map enc)]), (6, .fz (.sl (C.1.map enc))), (7, .fz (.sl (C.2.map enc))), (8, .ptr (11008, 2) 0), (9, .fz (.b (okF true q.i))), (10, .fz (.i .i64 q.i))],
            hpL [((11008, 2), some ⟨[.fz (.i .i64 h.kind), .fz (.s h.name.l), .fz (.sl (h.words.map enc)), .fz (.sl (h.subs.map enc))], true, false⟩)], 3⟩, fun q => f.words.length - q.i⟩
          ⟨0, by omega, fun j h => by omega⟩ (by kernel_rfl) ?_ ?_
        · refine Weak_to ?_ ?_ ?_ <;> simp only [go_sem, hok0, kk, hs0, hfn, hon, h2k, eF, h2h, eH, hnl, hwl']
          all_goals first | done | rfl | omega | trace_state
        rintro ⟨i, hi, hP⟩
        try simp only at hi hP
        cases hoi2 : okF true i with
        | false =>
          have hi0 : i ≠ 0 := fun h0 => by rw [h0, hok0] at hoi2; cases hoi2
          obtain ⟨i', rfl⟩ : ∃ i', i = i' + 1 := ⟨i - 1, by omega⟩
          rw [kok.out] at hoi2
          have hBf : B = false := by rw [← hB]; exact keno.out i' (by omega) hoi2
          rw [hBf]
          repeat' (first | refine And.intro ?_ ?_ | exact True.intro | refine rq fun _ => ?_ | refine ReqK.i ⟨by decide, by decide, rfl⟩ fun _ => ?_ | simp only [go_sem, kok.out, hoi2, Tryd.f11, prf_eta, form_eta, str_eta, getD_map_lt, List.nil_append, O14n])
        | true =>
          have hall : ∀ j, j < i → R j = true := fun j hj => by
            rcases Nat.lt_or_ge (j + 1) i with h1 | h1
            · exact hP j h1
            · obtain rfl : i = j + 1 := by omega
              rw [kok.out] at hoi2; exact hoi2
          rcases Nat.lt_or_ge i f.words.length with h1 | h1
          · have h2 : i < h.words.length := by omega
            have hrj := kr.out i h1 h2
            obtain ⟨u, hu⟩ : ∃ u, f.words[i] = u := ⟨_, rfl⟩
            obtain ⟨v, hv⟩ : ∃ u, h.words[i] = u := ⟨_, rfl⟩
            rw [hu, hv] at hrj
            repeat' (first | refine ReqK.i hlp fun _ => ?_ | refine ReqK.i hclp fun _ => ?_ | refine WK_drawV (id := 23) hm kT.out 11000 (lsw [181, 184, 206, 209, 247, 253, 294, 307] [1000004, 1000017, 1000023, 1000028, 1000030, 1000037, 1000043, 1000045, 1000046, 1000051]) treeC23 (by kernel_rfl) (by kernel_rfl) ?_ | refine And.intro ?_ ?_ | exact True.intro | refine rq fun _ => ?_ | refine ReqK.i ⟨by decide, by decide, rfl⟩ fun _ => ?_ | simp only [go_sem, hoi2, h1, h2, hu, hv, hrj, treeC23, Tryd.f11, prf_eta, form_eta, str_eta, getD_map_lt, List.nil_append, O14n])
            all_goals refine ⟨⟨i + 1, by omega, fun j hj => hall j (by omega)⟩, by simp only; omega, ?_⟩
            all_goals refine Weak_to ?_ ?_ ?_ <;> simp only [go_sem, kok.out]
            all_goals first | done | rfl | omega | trace_state
          · obtain rfl : i = f.words.length := by omega
            have hBt : B = true := by rw [← hB]; exact keal.out hall
            rw [hBt]
            repeat' (first | refine And.intro ?_ ?_ | exact True.intro | refine rq fun _ => ?_ | refine ReqK.i ⟨by decide, by decide, rfl⟩ fun _ => ?_ | simp only [go_sem, hoi2, Nat.lt_irrefl, Tryd.f11, prf_eta, form_eta, str_eta, getD_map_lt, List.nil_append, O14n])
end Go.Proofs.YtdlioodgfopmfaaDoor

namespace Go.Proofs.YtdlioodgfopmfaaDoor
open Go Go.Abs Go.Proofs
set_option maxRecDepth 100000 in
set_option maxHeartbeats 1000000 in
set_option maxHeartbeats 16000000 in
theorem clo_2 {n : Nat} (hT : TblOk Tryd.prog GA (O14n n)) {l : List Abs.Form} {p : Prf} (hpn : p.size = n) (hpre : clP l p) (hfi : inL l p.form = true) (kk : p.kind = 2) : Wcall Tryd.prog GA 11 [.fz (enc l), .fz (enc p)] (hpL []) 0 (fun d _ _ => D.val d = some (.fz (enc (chkM p l)))) := by
  obtain ⟨hbr, hsz⟩ := hpre
  have hlen : l.length ≤ 1000000 := by omega
  have kT := Kp.mk hT
  have kb := Kp.mk hbr
  clear hT hbr
  have ec : chkM p l = chkN p.kind p.form p.other p.name (p.subs.map chkM) l := chkM_eq p l
  unfold chkN at ec
  have hfo := in_true hfi
  rw [if_neg (by simp [hfi])] at ec
  obtain ⟨fi, hfn⟩ : ∃ n : Nat, p.form = (n : Int) := ⟨p.form.toNat, by omega⟩
  have hfl : fi < l.length := by omega
  obtain ⟨f, hf⟩ : ∃ f, l[fi] = f := ⟨_, rfl⟩
  have hfB : BF f := kb.out f (by rw [← hf]; exact List.getElem_mem hfl)
  have hfb : brF f := hfB.o.b
  have haf : atL l p.form = f := by unfold atL; rw [hfn, Int.toNat_natCast, List.getD_eq_getElem?_getD, List.getElem?_eq_getElem hfl, hf]; rfl
  rw [haf] at ec
  have h00 : ((fi : Int) < 0) = False := eq_false (by omega)
  have hge1 : ((l.length : Int) ≤ fi) = False := eq_false (by omega)
  have hge2 : (l.length ≤ fi) = False := eq_false (by omega)
  rw [if_neg (by omega), if_pos kk] at ec
  by_cases hn : p.subs.length = 1
  rotate_left
  · have e : chkM p l = false := by rw [ec, List.length_map, decide_eq_false hn]; simp
    have hn' : ((p.subs.length : Int) = 1) = False := eq_false (by omega)
    rw [e]
    refine Wcall_K (N := 313) hm kT.out 11000 (lsw [181, 184, 206, 209, 247, 253, 294, 307] [1000004, 1000017, 1000023, 1000028, 1000030, 1000037, 1000043, 1000045, 1000046, 1000051]) ok11 Tryd.func11 rfl rfl (by simp) (by kernel_rfl) ?_
    repeat' (first | refine WK_drawV (id := 4) hm kT.out 11000 (lsw [181, 184, 206, 209, 247, 253, 294, 307] [1000004, 1000017, 1000023, 1000028, 1000030, 1000037, 1000043, 1000045, 1000046, 1000051]) treeC4 (by kernel_rfl) (by kernel_rfl) ?_ | refine And.intro ?_ ?_ | exact True.intro | refine rq fun _ => ?_ | refine ReqK.i ⟨by decide, by decide, rfl⟩ fun _ => ?_ | simp only [go_sem, kk, hn', hfn, h00, hge1, hge2, hfl, hf, treeC4, Tryd.f11, prf_eta, form_eta, str_eta, getD_map_lt, List.nil_append, O14n])
  obtain ⟨s0, hs0⟩ : ∃ s, p.subs = [s] := by
    match h : p.subs, hn with
    | [s], _ => exact ⟨s, rfl⟩
  have hs0s := Prf.size_sub (f := p) (g := s0) (by rw [hs0]; simp)
  have hst : sortM f = (partsM f).1 := rfl
  obtain ⟨pk, hpk⟩ : ∃ k, sortM f = k := ⟨_, rfl⟩
  rw [hpk] at hst
  rw [← hst] at ec
  by_cases h1 : pk = 1
  rotate_left
  · have e : chkM p l = false := by rw [ec, decide_eq_false h1]; rfl
    rw [e]
    refine Wcall_K (N := 313) hm kT.out 11000 (lsw [181, 184, 206, 209, 247, 253, 294, 307] [1000004, 1000017, 1000023, 1000028, 1000030, 1000037, 1000043, 1000045, 1000046, 1000051]) ok11 Tryd.func11 rfl rfl (by simp) (by kernel_rfl) ?_
    repeat' (first | (refine WK_weak2 (Weak_rpL (id := (11003, 0)) (t := 3) (b := true) (ys := [.i .i64 p.kind, .i .i64 p.form, .i .i64 p.other, .s p.name.l, .sl (p.subs.map enc)]) ?_ ?_) ?_; (focus (simp only [go_sem, kk, hs0, hfn]; done)); (focus (simp only [go_sem]; done))) | (refine WK_weak2 (Weak_rpL (id := (11005, 1)) (t := 5) (b := true) (ys := [.i .i64 f.kind, .s f.name.l, .sl (f.words.map enc), .sl (f.subs.map enc)]) ?_ ?_) ?_; (focus (simp only [go_sem, kk, hs0, hfn]; done)); (focus (simp only [go_sem]; done))) | refine WK_drawV (id := 4) hm kT.out 11000 (lsw [181, 184, 206, 209, 247, 253, 294, 307] [1000004, 1000017, 1000023, 1000028, 1000030, 1000037, 1000043, 1000045, 1000046, 1000051]) treeC4 (by kernel_rfl) (by kernel_rfl) ?_ | refine ReqK.i hfb fun _ => ?_ | refine WK_drawV (id := 30) hm kT.out 11000 (lsw [181, 184, 206, 209, 247, 253, 294, 307] [1000004, 1000017, 1000023, 1000028, 1000030, 1000037, 1000043, 1000045, 1000046, 1000051]) treeC30F (by kernel_rfl) (by kernel_rfl) ?_ | refine And.intro ?_ ?_ | exact True.intro | refine rq fun _ => ?_ | refine ReqK.i ⟨by decide, by decide, rfl⟩ fun _ => ?_ | simp only [go_sem, kk, hs0, hpk, h1, treeC30F, hfn, h00, hge1, hge2, hfl, hf, treeC4, List.map_append, Tryd.f11, prf_eta, form_eta, str_eta, getD_map_lt, List.nil_append, O14n])
  have e : chkM p l = chkM s0 (l ++ piecesG f) := by rw [ec, hs0]; simp [h1, piecesG]
  have hpc : clB f ∧ (sortM f = 1 ∨ sortM f = 2) := ⟨bf_cl hfB, by omega⟩
  have hrec : s0.size < n ∧ clP (l ++ piecesG f) s0 := ⟨by omega, fun x hx => by
      rcases List.mem_append.1 hx with hx | hx
      · exact kb.out x hx
      · exact parts_bf hfB x hx, by
      have := (parts_br hfb).2.2.1
      rw [List.length_append]
      unfold piecesG
      omega⟩
  have hpl : (piecesG f).length ≤ 2 := (parts_br hfb).2.2.1
  obtain ⟨P, hP⟩ : ∃ P, piecesG f = P := ⟨_, rfl⟩
  rw [hP] at e hrec hpl
  obtain ⟨B, hB⟩ : ∃ B, chkM s0 (l ++ P) = B := ⟨_, rfl⟩
  rw [e, hB]
  clear e ec
  refine Wcall_K (N := 313) hm kT.out 11000 (lsw [181, 184, 206, 209, 247, 253, 294, 307] [1000004, 1000017, 1000023, 1000028, 1000030, 1000037, 1000043, 1000045, 1000046, 1000051]) ok11 Tryd.func11 rfl rfl (by simp) (by kernel_rfl) ?_
  repeat' (first | (refine WK_weak2 (Weak_rpL (id := (11003, 0)) (t := 3) (b := true) (ys := [.i .i64 p.kind, .i .i64 p.form, .i .i64 p.other, .s p.name.l, .sl (p.subs.map enc)]) ?_ ?_) ?_; (focus (simp only [go_sem, kk, hs0, hfn]; done)); (focus (simp only [go_sem]; done))) | (refine WK_weak2 (Weak_rpL (id := (11005, 1)) (t := 5) (b := true) (ys := [.i .i64 f.kind, .s f.name.l, .sl (f.words.map enc), .sl (f.subs.map enc)]) ?_ ?_) ?_; (focus (simp only [go_sem, kk, hs0, hfn]; done)); (focus (simp only [go_sem]; done))) | refine WK_drawV (id := 4) hm kT.out 11000 (lsw [181, 184, 206, 209, 247, 253, 294, 307] [1000004, 1000017, 1000023, 1000028, 1000030, 1000037, 1000043, 1000045, 1000046, 1000051]) treeC4 (by kernel_rfl) (by kernel_rfl) ?_ | refine ReqK.i hfb fun _ => ?_ | refine ReqK.i hpc fun _ => ?_ | refine ReqK.i (bf_cl hfB) fun _ => ?_ | refine ReqK.i hrec fun _ => ?_ | refine WK_drawV (id := 30) hm kT.out 11000 (lsw [181, 184, 206, 209, 247, 253, 294, 307] [1000004, 1000017, 1000023, 1000028, 1000030, 1000037, 1000043, 1000045, 1000046, 1000051]) treeC30 (by kernel_rfl) (by kernel_rfl) ?_ | refine ReqK.i (fits_of2 (by first | omega | (simp only [List.length_map, List.length_take, List.length_append, List.length_cons, List.length_nil]; omega)) (by decide)) fun _ => ?_ | refine ReqK.i (by simp only [List.length_map, List.length_take, List.length_append, List.length_cons, List.length_nil]; omega) fun _ => ?_ | refine And.intro ?_ ?_ | exact True.intro | refine rq fun _ => ?_ | refine ReqK.i ⟨by decide, by decide, rfl⟩ fun _ => ?_ | simp only [go_sem, kk, hs0, hpk, h1, hP, hB, treeC30, hfn, h00, hge1, hge2, hfl, hf, treeC4, List.map_append, O14n, Tryd.f11, prf_eta, form_eta, str_eta, getD_map_lt, List.nil_append, O14n])
  all_goals first | done | rfl | omega | trace_state
set_option maxRecDepth 100000 in
set_option maxHeartbeats 1000000 in
set_option maxHeartbeats 16000000 in
theorem clo_3 {n : Nat} (hT : TblOk Tryd.prog GA (O14n n)) {l : List Abs.Form} {p : Prf} (hpn : p.size = n) (hpre : clP l p) (hfi : inL l p.form = true) (kk : p.kind = 3) : Wcall Tryd.prog GA 11 [.fz (enc l), .fz (enc p)] (hpL []) 0 (fun d _ _ => D.val d = some (.fz (enc (chkM p l)))) := by
  obtain ⟨hbr, hsz⟩ := hpre
  have hlen : l.length ≤ 1000000 := by omega
  have kT := Kp.mk hT
  have kb := Kp.mk hbr
  clear hT hbr
  have ec : chkM p l = chkN p.kind p.form p.other p.name (p.subs.map chkM) l := chkM_eq p l
  unfold chkN at ec
  have hfo := in_true hfi
  rw [if_neg (by simp [hfi])] at ec
  obtain ⟨fi, hfn⟩ : ∃ n : Nat, p.form = (n : Int) := ⟨p.form.toNat, by omega⟩
  have hfl : fi < l.length := by omega
  obtain ⟨f, hf⟩ : ∃ f, l[fi] = f := ⟨_, rfl⟩
  have hfB : BF f := kb.out f (by rw [← hf]; exact List.getElem_mem hfl)
  have hfb : brF f := hfB.o.b
  have haf : atL l p.form = f := by unfold atL; rw [hfn, Int.toNat_natCast, List.getD_eq_getElem?_getD, List.getElem?_eq_getElem hfl, hf]; rfl
  rw [haf] at ec
  have h00 : ((fi : Int) < 0) = False := eq_false (by omega)
  have hge1 : ((l.length : Int) ≤ fi) = False := eq_false (by omega)
  have hge2 : (l.length ≤ fi) = False := eq_false (by omega)
  rw [if_neg (by omega), if_neg (by omega), if_pos kk] at ec
  by_cases hn : p.subs.length = 2
  rotate_left
  · have e : chkM p l = false := by rw [ec, List.length_map, decide_eq_false hn]; simp
    have hn' : ((p.subs.length : Int) = 2) = False := eq_false (by omega)
    rw [e]
    refine Wcall_K (N := 313) hm kT.out 11000 (lsw [181, 184, 206, 209, 247, 253, 294, 307] [1000004, 1000017, 1000023, 1000028, 1000030, 1000037, 1000043, 1000045, 1000046, 1000051]) ok11 Tryd.func11 rfl rfl (by simp) (by kernel_rfl) ?_
    repeat' (first | refine WK_drawV (id := 4) hm kT.out 11000 (lsw [181, 184, 206, 209, 247, 253, 294, 307] [1000004, 1000017, 1000023, 1000028, 1000030, 1000037, 1000043, 1000045, 1000046, 1000051]) treeC4 (by kernel_rfl) (by kernel_rfl) ?_ | refine And.intro ?_ ?_ | exact True.intro | refine rq fun _ => ?_ | refine ReqK.i ⟨by decide, by decide, rfl⟩ fun _ => ?_ | simp only [go_sem, kk, hn', hfn, h00, hge1, hge2, hfl, hf, treeC4, Tryd.f11, prf_eta, form_eta, str_eta, getD_map_lt, List.nil_append, O14n])
  obtain ⟨s0, s1, hs0⟩ : ∃ s t, p.subs = [s, t] := by
    match h : p.subs, hn with
    | [s, t], _ => exact ⟨s, t, rfl⟩
  have hs0s := Prf.size_sub (f := p) (g := s0) (by rw [hs0]; simp)
  have hs1s := Prf.size_sub (f := p) (g := s1) (by rw [hs0]; simp)
  have hst : sortM f = (partsM f).1 := rfl
  obtain ⟨pk, hpk⟩ : ∃ k, sortM f = k := ⟨_, rfl⟩
  rw [hpk] at hst
  rw [← hst] at ec
  by_cases h1 : pk = 2
  rotate_left
  · have e : chkM p l = false := by rw [ec, decide_eq_false h1]; rfl
    rw [e]
    refine Wcall_K (N := 313) hm kT.out 11000 (lsw [181, 184, 206, 209, 247, 253, 294, 307] [1000004, 1000017, 1000023, 1000028, 1000030, 1000037, 1000043, 1000045, 1000046, 1000051]) ok11 Tryd.func11 rfl rfl (by simp) (by kernel_rfl) ?_
    repeat' (first | refine WK_drawV (id := 4) hm kT.out 11000 (lsw [181, 184, 206, 209, 247, 253, 294, 307] [1000004, 1000017, 1000023, 1000028, 1000030, 1000037, 1000043, 1000045, 1000046, 1000051]) treeC4 (by kernel_rfl) (by kernel_rfl) ?_ | refine ReqK.i hfb fun _ => ?_ | refine And.intro ?_ ?_ | exact True.intro | refine rq fun _ => ?_ | refine ReqK.i ⟨by decide, by decide, rfl⟩ fun _ => ?_ | simp only [go_sem, kk, hs0, hpk, h1, hfn, h00, hge1, hge2, hfl, hf, treeC4, Tryd.f11, prf_eta, form_eta, str_eta, getD_map_lt, List.nil_append, O14n])
  have hpc : clB f ∧ (sortM f = 1 ∨ sortM f = 2) := ⟨bf_cl hfB, by omega⟩
  obtain ⟨A, B, hP⟩ : ∃ A B, piecesG f = [A, B] := by
    have h2 := (parts_br hfb).2.1 (by omega)
    unfold piecesG
    match h : (partsM f).2.1, h2 with
    | [A, B], _ => exact ⟨A, B, rfl⟩
  have hA : BF A := parts_bf hfB A (by show A ∈ piecesG f; rw [hP]; simp)
  have hB : BF B := parts_bf hfB B (by show B ∈ piecesG f; rw [hP]; simp)
  have e : chkM p l = (chkM s0 (l ++ [A]) && chkM s1 (l ++ [B])) := by
    rw [ec, hs0]
    have hP2 : (partsM f).2.1 = [A, B] := hP
    rw [hP2]; simp [h1]
  have hrec0 : s0.size < n ∧ clP (l ++ [A]) s0 := ⟨by omega, fun x hx => by
      rcases List.mem_append.1 hx with hx | hx
      · exact kb.out x hx
      · rw [List.mem_singleton.1 hx]; exact hA, by rw [List.length_append, List.length_singleton]; omega⟩
  have hrec1 : s1.size < n ∧ clP (l ++ [B]) s1 := ⟨by omega, fun x hx => by
      rcases List.mem_append.1 hx with hx | hx
      · exact kb.out x hx
      · rw [List.mem_singleton.1 hx]; exact hB, by rw [List.length_append, List.length_singleton]; omega⟩
  obtain ⟨B0, hB0⟩ : ∃ b, chkM s0 (l ++ [A]) = b := ⟨_, rfl⟩
  obtain ⟨B1, hB1⟩ : ∃ b, chkM s1 (l ++ [B]) = b := ⟨_, rfl⟩
  rw [e, hB0, hB1]
  clear e ec hA hB
  obtain ⟨R, hR⟩ : ∃ b, (B0 && B1) = b := ⟨_, rfl⟩
  rw [hR]
  refine Wcall_K (N := 313) hm kT.out 11000 (lsw [181, 184, 206, 209, 247, 253, 294, 307] [1000004, 1000017, 1000023, 1000028, 1000030, 1000037, 1000043, 1000045, 1000046, 1000051]) ok11 Tryd.func11 rfl rfl (by simp) (by kernel_rfl) ?_
  repeat' (first | (refine WK_weak2 (Weak_rpL (id := (11003, 0)) (t := 3) (b := true) (ys := [.i .i64 p.kind, .i .i64 p.form, .i .i64 p.other, .s p.name.l, .sl (p.subs.map enc)]) ?_ ?_) ?_; (focus (simp only [go_sem, kk, hs0, hfn]; done)); (focus (simp only [go_sem]; done))) | (refine WK_weak2 (Weak_rpL (id := (11005, 1)) (t := 5) (b := true) (ys := [.i .i64 f.kind, .s f.name.l, .sl (f.words.map enc), .sl (f.subs.map enc)]) ?_ ?_) ?_; (focus (simp only [go_sem, kk, hs0, hfn]; done)); (focus (simp only [go_sem]; done))) | refine WK_drawV (id := 4) hm kT.out 11000 (lsw [181, 184, 206, 209, 247, 253, 294, 307] [1000004, 1000017, 1000023, 1000028, 1000030, 1000037, 1000043, 1000045, 1000046, 1000051]) treeC4 (by kernel_rfl) (by kernel_rfl) ?_ | refine ReqK.i hfb fun _ => ?_ | refine ReqK.i hpc fun _ => ?_ | refine ReqK.i (bf_cl hfB) fun _ => ?_ | refine And.intro ?_ ?_ | exact True.intro | refine rq fun _ => ?_ | refine ReqK.i ⟨by decide, by decide, rfl⟩ fun _ => ?_ | simp only [go_sem, kk, hs0, hpk, h1, hP, hfn, h00, hge1, hge2, hfl, hf, treeC4, List.map_cons, List.map_nil, Tryd.f11, prf_eta, form_eta, str_eta, getD_map_lt, List.nil_append, O14n])
  refine WK_loop hm kT.out 11000 (lsw [181, 184, 206, 209, 247, 253, 294, 307] [1000004, 1000017, 1000023, 1000028, 1000030, 1000037, 1000043, 1000045, 1000046, 1000051]) (ι := LoopM 2 2 fun i => (0 < i → B0 = true) ∧ (1 < i → B1 = true))
    ⟨fun q => ⟨frL [(0, .fz (.sl (l.map enc))), (3, .rp [.i .i64 p.kind, .i .i64 p.form, .i .i64 p.other, .s p.name.l, .sl (p.subs.map enc)]), (197, .fz (.sl ([A, B].map enc))), (198, .fz (.i .i64 2)), (199, .fz (.i .i64 q.i))], hpL [], q.m⟩, fun q => 2 - q.i⟩
    ⟨0, 2, by omega, by omega, fun h => by omega, fun h => by omega⟩ (by kernel_rfl) ?_ ?_
  · refine Weak_to ?_ ?_ ?_ <;> simp only [go_sem, kk, hs0, hfn, List.map_cons, List.map_nil]
    all_goals first | done | rfl | omega | trace_state
  rintro ⟨i, m, hi, hm1, hq1, hq2⟩
  try simp only at hi hm1 hq1 hq2
  by_cases i0 : i = 0
  · subst i0
    by_cases hv : B0 = true
    rotate_left
    · have hv : B0 = false := by simpa using hv
      have hRf : R = false := by rw [← hR, hv]; rfl
      rw [hRf]
      repeat' (first | (refine WK_weak2 (Weak_rpL (id := (11013, m)) (t := 13) (b := true) (ys := [.i .i64 A.kind, .s A.name.l, .sl (A.words.map enc), .sl (A.subs.map enc)]) ?_ ?_) ?_; (focus (simp only [go_sem, kk]; done)); (focus (simp only [go_sem]; done))) | refine ReqK.i hrec0 fun _ => ?_ | refine WK_drawV (id := 37) hm kT.out 11000 (lsw [181, 184, 206, 209, 247, 253, 294, 307] [1000004, 1000017, 1000023, 1000028, 1000030, 1000037, 1000043, 1000045, 1000046, 1000051]) treeC37 (by kernel_rfl) (by kernel_rfl) ?_ | refine ReqK.i (fits_of2 (by first | omega | (simp only [List.length_map, List.length_take, List.length_append, List.length_cons, List.length_nil]; omega)) (by decide)) fun _ => ?_ | refine ReqK.i (by simp only [List.length_map, List.length_take, List.length_append, List.length_cons, List.length_nil]; omega) fun _ => ?_ | refine And.intro ?_ ?_ | exact True.intro | refine rq fun _ => ?_ | refine ReqK.i ⟨by decide, by decide, rfl⟩ fun _ => ?_ | simp only [go_sem, kk, hs0, hfn, hB0, hB1, hv, treeC37, List.map_cons, List.map_nil, List.map_append, Tryd.f11, prf_eta, form_eta, str_eta, getD_map_lt, List.nil_append, O14n])
      all_goals first | done | rfl | omega | trace_state
    · repeat' (first | (refine WK_weak2 (Weak_rpL (id := (11013, m)) (t := 13) (b := true) (ys := [.i .i64 A.kind, .s A.name.l, .sl (A.words.map enc), .sl (A.subs.map enc)]) ?_ ?_) ?_; (focus (simp only [go_sem, kk]; done)); (focus (simp only [go_sem]; done))) | refine ReqK.i hrec0 fun _ => ?_ | refine WK_drawV (id := 37) hm kT.out 11000 (lsw [181, 184, 206, 209, 247, 253, 294, 307] [1000004, 1000017, 1000023, 1000028, 1000030, 1000037, 1000043, 1000045, 1000046, 1000051]) treeC37 (by kernel_rfl) (by kernel_rfl) ?_ | refine ReqK.i (fits_of2 (by first | omega | (simp only [List.length_map, List.length_take, List.length_append, List.length_cons, List.length_nil]; omega)) (by decide)) fun _ => ?_ | refine ReqK.i (by simp only [List.length_map, List.length_take, List.length_append, List.length_cons, List.length_nil]; omega) fun _ => ?_ | refine And.intro ?_ ?_ | exact True.intro | refine rq fun _ => ?_ | refine ReqK.i ⟨by decide, by decide, rfl⟩ fun _ => ?_ | simp only [go_sem, kk, hs0, hfn, hB0, hB1, hv, treeC37, List.map_cons, List.map_nil, List.map_append, Tryd.f11, prf_eta, form_eta, str_eta, getD_map_lt, List.nil_append, O14n])
      all_goals refine ⟨⟨1, m + 3, by omega, by omega, fun _ => hv, fun h => by omega⟩, by simp only; omega, ?_⟩
      all_goals refine Weak_to ?_ ?_ ?_ <;> simp only [go_sem, kk, hs0, hfn]
      all_goals first | done | rfl | omega | trace_state
  by_cases i1 : i = 1
  · subst i1
    by_cases hv : B1 = true
    rotate_left
    · have hv : B1 = false := by simpa using hv
      have hRf : R = false := by rw [← hR, hv]; simp
      rw [hRf]
      repeat' (first | (refine WK_weak2 (Weak_rpL (id := (11013, m)) (t := 13) (b := true) (ys := [.i .i64 B.kind, .s B.name.l, .sl (B.words.map enc), .sl (B.subs.map enc)]) ?_ ?_) ?_; (focus (simp only [go_sem, kk]; done)); (focus (simp only [go_sem]; done))) | refine ReqK.i hrec1 fun _ => ?_ | refine WK_drawV (id := 37) hm kT.out 11000 (lsw [181, 184, 206, 209, 247, 253, 294, 307] [1000004, 1000017, 1000023, 1000028, 1000030, 1000037, 1000043, 1000045, 1000046, 1000051]) treeC37 (by kernel_rfl) (by kernel_rfl) ?_ | refine ReqK.i (fits_of2 (by first | omega | (simp only [List.length_map, List.length_take, List.length_append, List.length_cons, List.length_nil]; omega)) (by decide)) fun _ => ?_ | refine ReqK.i (by simp only [List.length_map, List.length_take, List.length_append, List.length_cons, List.length_nil]; omega) fun _ => ?_ | refine And.intro ?_ ?_ | exact True.intro | refine rq fun _ => ?_ | refine ReqK.i ⟨by decide, by decide, rfl⟩ fun _ => ?_ | simp only [go_sem, kk, hs0, hfn, hB0, hB1, hv, treeC37, List.map_cons, List.map_nil, List.map_append, Tryd.f11, prf_eta, form_eta, str_eta, getD_map_lt, List.nil_append, O14n])
      all_goals first | done | rfl | omega | trace_state
    · repeat' (first | (refine WK_weak2 (Weak_rpL (id := (11013, m)) (t := 13) (b := true) (ys := [.i .i64 B.kind, .s B.name.l, .sl (B.words.map enc), .sl (B.subs.map enc)]) ?_ ?_) ?_; (focus (simp only [go_sem, kk]; done)); (focus (simp only [go_sem]; done))) | refine ReqK.i hrec1 fun _ => ?_ | refine WK_drawV (id := 37) hm kT.out 11000 (lsw [181, 184, 206, 209, 247, 253, 294, 307] [1000004, 1000017, 1000023, 1000028, 1000030, 1000037, 1000043, 1000045, 1000046, 1000051]) treeC37 (by kernel_rfl) (by kernel_rfl) ?_ | refine ReqK.i (fits_of2 (by first | omega | (simp only [List.length_map, List.length_take, List.length_append, List.length_cons, List.length_nil]; omega)) (by decide)) fun _ => ?_ | refine ReqK.i (by simp only [List.length_map, List.length_take, List.length_append, List.length_cons, List.length_nil]; omega) fun _ => ?_ | refine And.intro ?_ ?_ | exact True.intro | refine rq fun _ => ?_ | refine ReqK.i ⟨by decide, by decide, rfl⟩ fun _ => ?_ | simp only [go_sem, kk, hs0, hfn, hB0, hB1, hv, treeC37, List.map_cons, List.map_nil, List.map_append, Tryd.f11, prf_eta, form_eta, str_eta, getD_map_lt, List.nil_append, O14n])
      all_goals refine ⟨⟨2, m + 3, by omega, by omega, fun _ => hq1 (by omega), fun h => hv⟩, by simp only; omega, ?_⟩
      all_goals refine Weak_to ?_ ?_ ?_ <;> simp only [go_sem, kk, hs0, hfn]
      all_goals first | done | rfl | omega | trace_state
  obtain rfl : i = 2 := by omega
  have hRt : R = true := by rw [← hR, hq1 (by omega), hq2 (by omega)]; rfl
  rw [hRt]
  repeat' (first | refine And.intro ?_ ?_ | exact True.intro | refine rq fun _ => ?_ | refine ReqK.i ⟨by decide, by decide, rfl⟩ fun _ => ?_ | simp only [go_sem, Nat.lt_irrefl, Tryd.f11, prf_eta, form_eta, str_eta, getD_map_lt, List.nil_append, O14n])
end Go.Proofs.YtdlioodgfopmfaaDoor

namespace Go.Proofs.YtdlioodgfopmfaaDoor
open Go Go.Abs Go.Proofs
set_option maxRecDepth 100000 in
set_option maxHeartbeats 1000000 in
set_option maxHeartbeats 16000000 in
theorem clo_4 {n : Nat} (hT : TblOk Tryd.prog GA (O14n n)) {l : List Abs.Form} {p : Prf} (hpn : p.size = n) (hpre : clP l p) (hfi : inL l p.form = true) (kk : p.kind = 4) : Wcall Tryd.prog GA 11 [.fz (enc l), .fz (enc p)] (hpL []) 0 (fun d _ _ => D.val d = some (.fz (enc (chkM p l)))) := by
  obtain ⟨hbr, hsz⟩ := hpre
  have hlen : l.length ≤ 1000000 := by omega
  have kT := Kp.mk hT
  have kb := Kp.mk hbr
  clear hT hbr
  have ec : chkM p l = chkN p.kind p.form p.other p.name (p.subs.map chkM) l := chkM_eq p l
  unfold chkN at ec
  have hfo := in_true hfi
  rw [if_neg (by simp [hfi])] at ec
  obtain ⟨fi, hfn⟩ : ∃ n : Nat, p.form = (n : Int) := ⟨p.form.toNat, by omega⟩
  have hfl : fi < l.length := by omega
  obtain ⟨f, hf⟩ : ∃ f, l[fi] = f := ⟨_, rfl⟩
  have hfB : BF f := kb.out f (by rw [← hf]; exact List.getElem_mem hfl)
  have hfb : brF f := hfB.o.b
  have haf : atL l p.form = f := by unfold atL; rw [hfn, Int.toNat_natCast, List.getD_eq_getElem?_getD, List.getElem?_eq_getElem hfl, hf]; rfl
  rw [haf] at ec
  have h00 : ((fi : Int) < 0) = False := eq_false (by omega)
  have hge1 : ((l.length : Int) ≤ fi) = False := eq_false (by omega)
  have hge2 : (l.length ≤ fi) = False := eq_false (by omega)
  rw [if_neg (by omega), if_neg (by omega), if_neg (by omega), if_pos kk] at ec
  by_cases hn : p.subs.length = 1
  rotate_left
  · have e : chkM p l = false := by rw [ec, List.length_map, decide_eq_false hn]; simp
    have hn' : ((p.subs.length : Int) = 1) = False := eq_false (by omega)
    rw [e]
    refine Wcall_K (N := 313) hm kT.out 11000 (lsw [181, 184, 206, 209, 247, 253, 294, 307] [1000004, 1000017, 1000023, 1000028, 1000030, 1000037, 1000043, 1000045, 1000046, 1000051]) ok11 Tryd.func11 rfl rfl (by simp) (by kernel_rfl) ?_
    repeat' (first | refine WK_drawV (id := 4) hm kT.out 11000 (lsw [181, 184, 206, 209, 247, 253, 294, 307] [1000004, 1000017, 1000023, 1000028, 1000030, 1000037, 1000043, 1000045, 1000046, 1000051]) treeC4 (by kernel_rfl) (by kernel_rfl) ?_ | refine And.intro ?_ ?_ | exact True.intro | refine rq fun _ => ?_ | refine ReqK.i ⟨by decide, by decide, rfl⟩ fun _ => ?_ | simp only [go_sem, kk, hn', hfn, h00, hge1, hge2, hfl, hf, treeC4, Tryd.f11, prf_eta, form_eta, str_eta, getD_map_lt, List.nil_append, O14n])
  obtain ⟨s0, hs0⟩ : ∃ s, p.subs = [s] := by
    match h : p.subs, hn with
    | [s], _ => exact ⟨s, rfl⟩
  have hs0s := Prf.size_sub (f := p) (g := s0) (by rw [hs0]; simp)
  have hst : sortM f = (partsM f).1 := rfl
  obtain ⟨pk, hpk⟩ : ∃ k, sortM f = k := ⟨_, rfl⟩
  rw [hpk] at hst
  rw [← hst] at ec
  have hac : (∀ f ∈ l, acP f) ∧ l.length ≤ 100000 := ⟨fun f hf => bf_ac (kb.out f hf).o, by omega⟩
  have hk1 : ((pk : Int) = 4 - 1) = (pk = 3) := rfl
  cases h3 : isName p.name with
  | false =>
    have e : chkM p l = false := by rw [ec, h3]; simp
    rw [e]
    refine Wcall_K (N := 313) hm kT.out 11000 (lsw [181, 184, 206, 209, 247, 253, 294, 307] [1000004, 1000017, 1000023, 1000028, 1000030, 1000037, 1000043, 1000045, 1000046, 1000051]) ok11 Tryd.func11 rfl rfl (by simp) (by kernel_rfl) ?_
    repeat' (first | refine WK_drawV (id := 4) hm kT.out 11000 (lsw [181, 184, 206, 209, 247, 253, 294, 307] [1000004, 1000017, 1000023, 1000028, 1000030, 1000037, 1000043, 1000045, 1000046, 1000051]) treeC4 (by kernel_rfl) (by kernel_rfl) ?_ | refine ReqK.i hfb fun _ => ?_ | refine ReqK.i hac fun _ => ?_ | refine WK_drawV (id := 43) hm kT.out 11000 (lsw [181, 184, 206, 209, 247, 253, 294, 307] [1000004, 1000017, 1000023, 1000028, 1000030, 1000037, 1000043, 1000045, 1000046, 1000051]) treeC43 (by kernel_rfl) (by kernel_rfl) ?_ | refine And.intro ?_ ?_ | exact True.intro | refine rq fun _ => ?_ | refine ReqK.i ⟨by decide, by decide, rfl⟩ fun _ => ?_ | simp only [go_sem, kk, hs0, hpk, h3, treeC43, hfn, h00, hge1, hge2, hfl, hf, treeC4, Tryd.f11, prf_eta, form_eta, str_eta, getD_map_lt, List.nil_append, O14n])
  | true =>
    by_cases h1 : pk = 3
    rotate_left
    · have e : chkM p l = false := by rw [ec, decide_eq_false h1]; rfl
      have h1' : ((pk : Int) = 4 - 1) = False := eq_false h1
      rw [e]
      refine Wcall_K (N := 313) hm kT.out 11000 (lsw [181, 184, 206, 209, 247, 253, 294, 307] [1000004, 1000017, 1000023, 1000028, 1000030, 1000037, 1000043, 1000045, 1000046, 1000051]) ok11 Tryd.func11 rfl rfl (by simp) (by kernel_rfl) ?_
      repeat' (first | refine WK_drawV (id := 4) hm kT.out 11000 (lsw [181, 184, 206, 209, 247, 253, 294, 307] [1000004, 1000017, 1000023, 1000028, 1000030, 1000037, 1000043, 1000045, 1000046, 1000051]) treeC4 (by kernel_rfl) (by kernel_rfl) ?_ | refine ReqK.i hfb fun _ => ?_ | refine ReqK.i hac fun _ => ?_ | refine WK_drawV (id := 43) hm kT.out 11000 (lsw [181, 184, 206, 209, 247, 253, 294, 307] [1000004, 1000017, 1000023, 1000028, 1000030, 1000037, 1000043, 1000045, 1000046, 1000051]) treeC43 (by kernel_rfl) (by kernel_rfl) ?_ | refine And.intro ?_ ?_ | exact True.intro | refine rq fun _ => ?_ | refine ReqK.i ⟨by decide, by decide, rfl⟩ fun _ => ?_ | simp only [go_sem, kk, hs0, hpk, h3, h1', treeC43, hfn, h00, hge1, hge2, hfl, hf, treeC4, Tryd.f11, prf_eta, form_eta, str_eta, getD_map_lt, List.nil_append, O14n])
    have h1' : ((pk : Int) = 4 - 1) = True := eq_true h1
    have hfp : forPre f p.name := ⟨bf_cl hfB, by omega, h3⟩
    have hib := inst_bf hfB (nm := p.name) (by omega) h3
    have e : chkM p l = chkM s0 (l ++ [forG f p.name]) := by rw [ec, hs0, h3]; simp [h1, forG]
    obtain ⟨I, hI⟩ : ∃ I, forG f p.name = I := ⟨_, rfl⟩
    rw [hI] at hib e
    have hrec : s0.size < n ∧ clP (l ++ [I]) s0 := ⟨by omega, fun x hx => by
          rcases List.mem_append.1 hx with hx | hx
          · exact kb.out x hx
          · rw [List.mem_singleton.1 hx]; exact hib, by rw [List.length_append, List.length_singleton]; omega⟩
    obtain ⟨B, hB⟩ : ∃ B, chkM s0 (l ++ [I]) = B := ⟨_, rfl⟩
    rw [e, hB]
    clear e ec hib
    refine Wcall_K (N := 313) hm kT.out 11000 (lsw [181, 184, 206, 209, 247, 253, 294, 307] [1000004, 1000017, 1000023, 1000028, 1000030, 1000037, 1000043, 1000045, 1000046, 1000051]) ok11 Tryd.func11 rfl rfl (by simp) (by kernel_rfl) ?_
    repeat' (first | (refine WK_weak2 (Weak_rpL (id := (11003, 0)) (t := 3) (b := true) (ys := [.i .i64 p.kind, .i .i64 p.form, .i .i64 p.other, .s p.name.l, .sl (p.subs.map enc)]) ?_ ?_) ?_; (focus (simp only [go_sem, kk, hs0, hfn]; done)); (focus (simp only [go_sem]; done))) | (refine WK_weak2 (Weak_rpL (id := (11005, 1)) (t := 5) (b := true) (ys := [.i .i64 f.kind, .s f.name.l, .sl (f.words.map enc), .sl (f.subs.map enc)]) ?_ ?_) ?_; (focus (simp only [go_sem, kk, hs0, hfn]; done)); (focus (simp only [go_sem]; done))) | refine WK_drawV (id := 4) hm kT.out 11000 (lsw [181, 184, 206, 209, 247, 253, 294, 307] [1000004, 1000017, 1000023, 1000028, 1000030, 1000037, 1000043, 1000045, 1000046, 1000051]) treeC4 (by kernel_rfl) (by kernel_rfl) ?_ | refine ReqK.i hfb fun _ => ?_ | refine ReqK.i hac fun _ => ?_ | refine ReqK.i hfp fun _ => ?_ | refine ReqK.i hrec fun _ => ?_ | refine WK_drawV (id := 43) hm kT.out 11000 (lsw [181, 184, 206, 209, 247, 253, 294, 307] [1000004, 1000017, 1000023, 1000028, 1000030, 1000037, 1000043, 1000045, 1000046, 1000051]) treeC43 (by kernel_rfl) (by kernel_rfl) ?_ | refine WK_drawV (id := 45) hm kT.out 11000 (lsw [181, 184, 206, 209, 247, 253, 294, 307] [1000004, 1000017, 1000023, 1000028, 1000030, 1000037, 1000043, 1000045, 1000046, 1000051]) treeC45 (by kernel_rfl) (by kernel_rfl) ?_ | refine ReqK.i (fits_of2 (by first | omega | (simp only [List.length_map, List.length_take, List.length_append, List.length_cons, List.length_nil]; omega)) (by decide)) fun _ => ?_ | refine ReqK.i (by simp only [List.length_map, List.length_take, List.length_append, List.length_cons, List.length_nil]; omega) fun _ => ?_ | refine And.intro ?_ ?_ | exact True.intro | refine rq fun _ => ?_ | refine ReqK.i ⟨by decide, by decide, rfl⟩ fun _ => ?_ | simp only [go_sem, kk, hs0, hpk, h3, h1', hI, hB, treeC43, treeC45, hfn, h00, hge1, hge2, hfl, hf, treeC4, List.map_append, List.map_cons, List.map_nil, O14n, Tryd.f11, prf_eta, form_eta, str_eta, getD_map_lt, List.nil_append, O14n])
    all_goals first | done | rfl | omega | trace_state
set_option maxRecDepth 100000 in
set_option maxHeartbeats 1000000 in
set_option maxHeartbeats 16000000 in
theorem clo_5 {n : Nat} (hT : TblOk Tryd.prog GA (O14n n)) {l : List Abs.Form} {p : Prf} (hpn : p.size = n) (hpre : clP l p) (hfi : inL l p.form = true) (kk : p.kind = 5) : Wcall Tryd.prog GA 11 [.fz (enc l), .fz (enc p)] (hpL []) 0 (fun d _ _ => D.val d = some (.fz (enc (chkM p l)))) := by
  obtain ⟨hbr, hsz⟩ := hpre
  have hlen : l.length ≤ 1000000 := by omega
  have kT := Kp.mk hT
  have kb := Kp.mk hbr
  clear hT hbr
  have ec : chkM p l = chkN p.kind p.form p.other p.name (p.subs.map chkM) l := chkM_eq p l
  unfold chkN at ec
  have hfo := in_true hfi
  rw [if_neg (by simp [hfi])] at ec
  obtain ⟨fi, hfn⟩ : ∃ n : Nat, p.form = (n : Int) := ⟨p.form.toNat, by omega⟩
  have hfl : fi < l.length := by omega
  obtain ⟨f, hf⟩ : ∃ f, l[fi] = f := ⟨_, rfl⟩
  have hfB : BF f := kb.out f (by rw [← hf]; exact List.getElem_mem hfl)
  have hfb : brF f := hfB.o.b
  have haf : atL l p.form = f := by unfold atL; rw [hfn, Int.toNat_natCast, List.getD_eq_getElem?_getD, List.getElem?_eq_getElem hfl, hf]; rfl
  rw [haf] at ec
  have h00 : ((fi : Int) < 0) = False := eq_false (by omega)
  have hge1 : ((l.length : Int) ≤ fi) = False := eq_false (by omega)
  have hge2 : (l.length ≤ fi) = False := eq_false (by omega)
  rw [if_neg (by omega), if_neg (by omega), if_neg (by omega), if_neg (by omega), if_pos kk] at ec
  by_cases hn : p.subs.length = 1
  rotate_left
  · have e : chkM p l = false := by rw [ec, List.length_map, decide_eq_false hn]; simp
    have hn' : ((p.subs.length : Int) = 1) = False := eq_false (by omega)
    rw [e]
    refine Wcall_K (N := 313) hm kT.out 11000 (lsw [181, 184, 206, 209, 247, 253, 294, 307] [1000004, 1000017, 1000023, 1000028, 1000030, 1000037, 1000043, 1000045, 1000046, 1000051]) ok11 Tryd.func11 rfl rfl (by simp) (by kernel_rfl) ?_
    repeat' (first | refine WK_drawV (id := 4) hm kT.out 11000 (lsw [181, 184, 206, 209, 247, 253, 294, 307] [1000004, 1000017, 1000023, 1000028, 1000030, 1000037, 1000043, 1000045, 1000046, 1000051]) treeC4 (by kernel_rfl) (by kernel_rfl) ?_ | refine And.intro ?_ ?_ | exact True.intro | refine rq fun _ => ?_ | refine ReqK.i ⟨by decide, by decide, rfl⟩ fun _ => ?_ | simp only [go_sem, kk, hn', hfn, h00, hge1, hge2, hfl, hf, treeC4, Tryd.f11, prf_eta, form_eta, str_eta, getD_map_lt, List.nil_append, O14n])
  obtain ⟨s0, hs0⟩ : ∃ s, p.subs = [s] := by
    match h : p.subs, hn with
    | [s], _ => exact ⟨s, rfl⟩
  have hs0s := Prf.size_sub (f := p) (g := s0) (by rw [hs0]; simp)
  have hst : sortM f = (partsM f).1 := rfl
  obtain ⟨pk, hpk⟩ : ∃ k, sortM f = k := ⟨_, rfl⟩
  rw [hpk] at hst
  rw [← hst] at ec
  have hac : (∀ f ∈ l, acP f) ∧ l.length ≤ 100000 := ⟨fun f hf => bf_ac (kb.out f hf).o, by omega⟩
  have hk1 : ((pk : Int) = 5 - 1) = (pk = 4) := rfl
  cases h3 : isName p.name with
  | false =>
    have e : chkM p l = false := by rw [ec, h3]; simp
    rw [e]
    refine Wcall_K (N := 313) hm kT.out 11000 (lsw [181, 184, 206, 209, 247, 253, 294, 307] [1000004, 1000017, 1000023, 1000028, 1000030, 1000037, 1000043, 1000045, 1000046, 1000051]) ok11 Tryd.func11 rfl rfl (by simp) (by kernel_rfl) ?_
    repeat' (first | refine WK_drawV (id := 4) hm kT.out 11000 (lsw [181, 184, 206, 209, 247, 253, 294, 307] [1000004, 1000017, 1000023, 1000028, 1000030, 1000037, 1000043, 1000045, 1000046, 1000051]) treeC4 (by kernel_rfl) (by kernel_rfl) ?_ | refine ReqK.i hfb fun _ => ?_ | refine ReqK.i hac fun _ => ?_ | refine WK_drawV (id := 43) hm kT.out 11000 (lsw [181, 184, 206, 209, 247, 253, 294, 307] [1000004, 1000017, 1000023, 1000028, 1000030, 1000037, 1000043, 1000045, 1000046, 1000051]) treeC43 (by kernel_rfl) (by kernel_rfl) ?_ | refine And.intro ?_ ?_ | exact True.intro | refine rq fun _ => ?_ | refine ReqK.i ⟨by decide, by decide, rfl⟩ fun _ => ?_ | simp only [go_sem, kk, hs0, hpk, h3, treeC43, hfn, h00, hge1, hge2, hfl, hf, treeC4, Tryd.f11, prf_eta, form_eta, str_eta, getD_map_lt, List.nil_append, O14n])
  | true =>
    by_cases h1 : pk = 4
    rotate_left
    · have e : chkM p l = false := by rw [ec, decide_eq_false h1]; rfl
      have h1' : ((pk : Int) = 5 - 1) = False := eq_false h1
      rw [e]
      refine Wcall_K (N := 313) hm kT.out 11000 (lsw [181, 184, 206, 209, 247, 253, 294, 307] [1000004, 1000017, 1000023, 1000028, 1000030, 1000037, 1000043, 1000045, 1000046, 1000051]) ok11 Tryd.func11 rfl rfl (by simp) (by kernel_rfl) ?_
      repeat' (first | refine WK_drawV (id := 4) hm kT.out 11000 (lsw [181, 184, 206, 209, 247, 253, 294, 307] [1000004, 1000017, 1000023, 1000028, 1000030, 1000037, 1000043, 1000045, 1000046, 1000051]) treeC4 (by kernel_rfl) (by kernel_rfl) ?_ | refine ReqK.i hfb fun _ => ?_ | refine ReqK.i hac fun _ => ?_ | refine WK_drawV (id := 43) hm kT.out 11000 (lsw [181, 184, 206, 209, 247, 253, 294, 307] [1000004, 1000017, 1000023, 1000028, 1000030, 1000037, 1000043, 1000045, 1000046, 1000051]) treeC43 (by kernel_rfl) (by kernel_rfl) ?_ | refine And.intro ?_ ?_ | exact True.intro | refine rq fun _ => ?_ | refine ReqK.i ⟨by decide, by decide, rfl⟩ fun _ => ?_ | simp only [go_sem, kk, hs0, hpk, h3, h1', treeC43, hfn, h00, hge1, hge2, hfl, hf, treeC4, Tryd.f11, prf_eta, form_eta, str_eta, getD_map_lt, List.nil_append, O14n])
    have h1' : ((pk : Int) = 5 - 1) = True := eq_true h1
    cases h4 : occG l p.name with
    | true =>
      have e : chkM p l = false := by rw [ec, h4]; simp
      have h4' : (p.name ∈ acM l) = True := eq_true (of_decide_eq_true (by rw [← occ_has]; exact h4))
      rw [e]
      refine Wcall_K (N := 313) hm kT.out 11000 (lsw [181, 184, 206, 209, 247, 253, 294, 307] [1000004, 1000017, 1000023, 1000028, 1000030, 1000037, 1000043, 1000045, 1000046, 1000051]) ok11 Tryd.func11 rfl rfl (by simp) (by kernel_rfl) ?_
      repeat' (first | refine WK_drawV (id := 4) hm kT.out 11000 (lsw [181, 184, 206, 209, 247, 253, 294, 307] [1000004, 1000017, 1000023, 1000028, 1000030, 1000037, 1000043, 1000045, 1000046, 1000051]) treeC4 (by kernel_rfl) (by kernel_rfl) ?_ | refine ReqK.i hfb fun _ => ?_ | refine ReqK.i hac fun _ => ?_ | refine WK_drawV (id := 43) hm kT.out 11000 (lsw [181, 184, 206, 209, 247, 253, 294, 307] [1000004, 1000017, 1000023, 1000028, 1000030, 1000037, 1000043, 1000045, 1000046, 1000051]) treeC43 (by kernel_rfl) (by kernel_rfl) ?_ | refine And.intro ?_ ?_ | exact True.intro | refine rq fun _ => ?_ | refine ReqK.i ⟨by decide, by decide, rfl⟩ fun _ => ?_ | simp only [go_sem, kk, hs0, hpk, h3, h1', h4', treeC43, hfn, h00, hge1, hge2, hfl, hf, treeC4, Tryd.f11, prf_eta, form_eta, str_eta, getD_map_lt, List.nil_append, O14n])
    | false =>
      have h4' : (p.name ∈ acM l) = False := eq_false (of_decide_eq_false (by rw [← occ_has]; exact h4))
      have hfp : forPre f p.name := ⟨bf_cl hfB, by omega, h3⟩
      have hib := inst_bf hfB (nm := p.name) (by omega) h3
      have e : chkM p l = chkM s0 (l ++ [forG f p.name]) := by rw [ec, hs0, h3, h4]; simp [h1, forG]
      obtain ⟨I, hI⟩ : ∃ I, forG f p.name = I := ⟨_, rfl⟩
      rw [hI] at hib e
      have hrec : s0.size < n ∧ clP (l ++ [I]) s0 := ⟨by omega, fun x hx => by
            rcases List.mem_append.1 hx with hx | hx
            · exact kb.out x hx
            · rw [List.mem_singleton.1 hx]; exact hib, by rw [List.length_append, List.length_singleton]; omega⟩
      obtain ⟨B, hB⟩ : ∃ B, chkM s0 (l ++ [I]) = B := ⟨_, rfl⟩
      rw [e, hB]
      clear e ec hib
      refine Wcall_K (N := 313) hm kT.out 11000 (lsw [181, 184, 206, 209, 247, 253, 294, 307] [1000004, 1000017, 1000023, 1000028, 1000030, 1000037, 1000043, 1000045, 1000046, 1000051]) ok11 Tryd.func11 rfl rfl (by simp) (by kernel_rfl) ?_
      repeat' (first | (refine WK_weak2 (Weak_rpL (id := (11003, 0)) (t := 3) (b := true) (ys := [.i .i64 p.kind, .i .i64 p.form, .i .i64 p.other, .s p.name.l, .sl (p.subs.map enc)]) ?_ ?_) ?_; (focus (simp only [go_sem, kk, hs0, hfn]; done)); (focus (simp only [go_sem]; done))) | (refine WK_weak2 (Weak_rpL (id := (11005, 1)) (t := 5) (b := true) (ys := [.i .i64 f.kind, .s f.name.l, .sl (f.words.map enc), .sl (f.subs.map enc)]) ?_ ?_) ?_; (focus (simp only [go_sem, kk, hs0, hfn]; done)); (focus (simp only [go_sem]; done))) | refine WK_drawV (id := 4) hm kT.out 11000 (lsw [181, 184, 206, 209, 247, 253, 294, 307] [1000004, 1000017, 1000023, 1000028, 1000030, 1000037, 1000043, 1000045, 1000046, 1000051]) treeC4 (by kernel_rfl) (by kernel_rfl) ?_ | refine ReqK.i hfb fun _ => ?_ | refine ReqK.i hac fun _ => ?_ | refine ReqK.i hfp fun _ => ?_ | refine ReqK.i hrec fun _ => ?_ | refine WK_drawV (id := 43) hm kT.out 11000 (lsw [181, 184, 206, 209, 247, 253, 294, 307] [1000004, 1000017, 1000023, 1000028, 1000030, 1000037, 1000043, 1000045, 1000046, 1000051]) treeC43 (by kernel_rfl) (by kernel_rfl) ?_ | refine WK_drawV (id := 45) hm kT.out 11000 (lsw [181, 184, 206, 209, 247, 253, 294, 307] [1000004, 1000017, 1000023, 1000028, 1000030, 1000037, 1000043, 1000045, 1000046, 1000051]) treeC45 (by kernel_rfl) (by kernel_rfl) ?_ | refine ReqK.i (fits_of2 (by first | omega | (simp only [List.length_map, List.length_take, List.length_append, List.length_cons, List.length_nil]; omega)) (by decide)) fun _ => ?_ | refine ReqK.i (by simp only [List.length_map, List.length_take, List.length_append, List.length_cons, List.length_nil]; omega) fun _ => ?_ | refine And.intro ?_ ?_ | exact True.intro | refine rq fun _ => ?_ | refine ReqK.i ⟨by decide, by decide, rfl⟩ fun _ => ?_ | simp only [go_sem, kk, hs0, hpk, h3, h1', h4', hI, hB, treeC43, treeC45, hfn, h00, hge1, hge2, hfl, hf, treeC4, List.map_append, List.map_cons, List.map_nil, O14n, Tryd.f11, prf_eta, form_eta, str_eta, getD_map_lt, List.nil_append, O14n])
      all_goals first | done | rfl | omega | trace_state
end Go.Proofs.YtdlioodgfopmfaaDoor

namespace Go.Proofs.YtdlioodgfopmfaaDoor
open Go Go.Abs Go.Proofs
set_option maxRecDepth 100000 in
set_option maxHeartbeats 1000000 in
set_option maxHeartbeats 16000000 in
theorem clo_6 {n : Nat} (hT : TblOk Tryd.prog GA (O14n n)) {l : List Abs.Form} {p : Prf} (hpn : p.size = n) (hpre : clP l p) (hfi : inL l p.form = true) (kk : p.kind = 6) : Wcall Tryd.prog GA 11 [.fz (enc l), .fz (enc p)] (hpL []) 0 (fun d _ _ => D.val d = some (.fz (enc (chkM p l)))) := by
  obtain ⟨hbr, hsz⟩ := hpre
  have hlen : l.length ≤ 1000000 := by omega
  have kT := Kp.mk hT
  have kb := Kp.mk hbr
  clear hT hbr
  have ec : chkM p l = chkN p.kind p.form p.other p.name (p.subs.map chkM) l := chkM_eq p l
  unfold chkN at ec
  have hfo := in_true hfi
  rw [if_neg (by simp [hfi])] at ec
  obtain ⟨fi, hfn⟩ : ∃ n : Nat, p.form = (n : Int) := ⟨p.form.toNat, by omega⟩
  have hfl : fi < l.length := by omega
  obtain ⟨f, hf⟩ : ∃ f, l[fi] = f := ⟨_, rfl⟩
  have hfB : BF f := kb.out f (by rw [← hf]; exact List.getElem_mem hfl)
  have hfb : brF f := hfB.o.b
  have haf : atL l p.form = f := by unfold atL; rw [hfn, Int.toNat_natCast, List.getD_eq_getElem?_getD, List.getElem?_eq_getElem hfl, hf]; rfl
  rw [haf] at ec
  have h00 : ((fi : Int) < 0) = False := eq_false (by omega)
  have hge1 : ((l.length : Int) ≤ fi) = False := eq_false (by omega)
  have hge2 : (l.length ≤ fi) = False := eq_false (by omega)
  rw [if_neg (by omega), if_neg (by omega), if_neg (by omega), if_neg (by omega), if_neg (by omega), if_pos kk] at ec
  by_cases hn : p.subs.length = 1
  rotate_left
  · have e : chkM p l = false := by rw [ec, List.length_map, decide_eq_false hn]; simp
    have hn' : ((p.subs.length : Int) = 1) = False := eq_false (by omega)
    rw [e]
    refine Wcall_K (N := 313) hm kT.out 11000 (lsw [181, 184, 206, 209, 247, 253, 294, 307] [1000004, 1000017, 1000023, 1000028, 1000030, 1000037, 1000043, 1000045, 1000046, 1000051]) ok11 Tryd.func11 rfl rfl (by simp) (by kernel_rfl) ?_
    repeat' (first | refine WK_drawV (id := 4) hm kT.out 11000 (lsw [181, 184, 206, 209, 247, 253, 294, 307] [1000004, 1000017, 1000023, 1000028, 1000030, 1000037, 1000043, 1000045, 1000046, 1000051]) treeC4 (by kernel_rfl) (by kernel_rfl) ?_ | refine And.intro ?_ ?_ | exact True.intro | refine rq fun _ => ?_ | refine ReqK.i ⟨by decide, by decide, rfl⟩ fun _ => ?_ | simp only [go_sem, kk, hn', hfn, h00, hge1, hge2, hfl, hf, treeC4, Tryd.f11, prf_eta, form_eta, str_eta, getD_map_lt, List.nil_append, O14n])
  obtain ⟨s0, hs0⟩ : ∃ s, p.subs = [s] := by
    match h : p.subs, hn with
    | [s], _ => exact ⟨s, rfl⟩
  have hs0s := Prf.size_sub (f := p) (g := s0) (by rw [hs0]; simp)
  cases hoi : inL l p.other with
  | false =>
    have hoo := in_false hoi
    have e : chkM p l = false := by rw [ec, hoi]; simp
    rw [e]
    by_cases h1 : p.other < 0
    · have h1' : (p.other < 0) = True := eq_true h1
      refine Wcall_K (N := 313) hm kT.out 11000 (lsw [181, 184, 206, 209, 247, 253, 294, 307] [1000004, 1000017, 1000023, 1000028, 1000030, 1000037, 1000043, 1000045, 1000046, 1000051]) ok11 Tryd.func11 rfl rfl (by simp) (by kernel_rfl) ?_
      repeat' (first | refine WK_drawV (id := 4) hm kT.out 11000 (lsw [181, 184, 206, 209, 247, 253, 294, 307] [1000004, 1000017, 1000023, 1000028, 1000030, 1000037, 1000043, 1000045, 1000046, 1000051]) treeC4 (by kernel_rfl) (by kernel_rfl) ?_ | refine And.intro ?_ ?_ | exact True.intro | refine rq fun _ => ?_ | refine ReqK.i ⟨by decide, by decide, rfl⟩ fun _ => ?_ | simp only [go_sem, kk, hs0, h1', hfn, h00, hge1, hge2, hfl, hf, treeC4, Tryd.f11, prf_eta, form_eta, str_eta, getD_map_lt, List.nil_append, O14n])
    · have h1' : (p.other < 0) = False := eq_false h1
      have h2' : ((l.length : Int) ≤ p.other) = True := eq_true (by omega)
      refine Wcall_K (N := 313) hm kT.out 11000 (lsw [181, 184, 206, 209, 247, 253, 294, 307] [1000004, 1000017, 1000023, 1000028, 1000030, 1000037, 1000043, 1000045, 1000046, 1000051]) ok11 Tryd.func11 rfl rfl (by simp) (by kernel_rfl) ?_
      repeat' (first | refine WK_drawV (id := 4) hm kT.out 11000 (lsw [181, 184, 206, 209, 247, 253, 294, 307] [1000004, 1000017, 1000023, 1000028, 1000030, 1000037, 1000043, 1000045, 1000046, 1000051]) treeC4 (by kernel_rfl) (by kernel_rfl) ?_ | refine And.intro ?_ ?_ | exact True.intro | refine rq fun _ => ?_ | refine ReqK.i ⟨by decide, by decide, rfl⟩ fun _ => ?_ | simp only [go_sem, kk, hs0, h1', h2', hfn, h00, hge1, hge2, hfl, hf, treeC4, Tryd.f11, prf_eta, form_eta, str_eta, getD_map_lt, List.nil_append, O14n])
  | true =>
    have hoo := in_true hoi
    obtain ⟨oi, hon⟩ : ∃ n : Nat, p.other = (n : Int) := ⟨p.other.toNat, by omega⟩
    have hol : oi < l.length := by omega
    obtain ⟨g, hg⟩ : ∃ g, l[oi] = g := ⟨_, rfl⟩
    have hgB : BF g := kb.out g (by rw [← hg]; exact List.getElem_mem hol)
    have hag : atL l p.other = g := by unfold atL; rw [hon, Int.toNat_natCast, List.getD_eq_getElem?_getD, List.getElem?_eq_getElem hol, hg]; rfl
    have o00 : ((oi : Int) < 0) = False := eq_false (by omega)
    have oge1 : ((l.length : Int) ≤ oi) = False := eq_false (by omega)
    have oge2 : (l.length ≤ oi) = False := eq_false (by omega)
    rw [hag, hoi] at ec
    by_cases h1 : f.kind = 3
    rotate_left
    · have e : chkM p l = false := by rw [ec, decide_eq_false h1]; rfl
      rw [e]
      refine Wcall_K (N := 313) hm kT.out 11000 (lsw [181, 184, 206, 209, 247, 253, 294, 307] [1000004, 1000017, 1000023, 1000028, 1000030, 1000037, 1000043, 1000045, 1000046, 1000051]) ok11 Tryd.func11 rfl rfl (by simp) (by kernel_rfl) ?_
      repeat' (first | refine WK_drawV (id := 4) hm kT.out 11000 (lsw [181, 184, 206, 209, 247, 253, 294, 307] [1000004, 1000017, 1000023, 1000028, 1000030, 1000037, 1000043, 1000045, 1000046, 1000051]) treeC4 (by kernel_rfl) (by kernel_rfl) ?_ | refine WK_drawV (id := 46) hm kT.out 11000 (lsw [181, 184, 206, 209, 247, 253, 294, 307] [1000004, 1000017, 1000023, 1000028, 1000030, 1000037, 1000043, 1000045, 1000046, 1000051]) treeC46 (by kernel_rfl) (by kernel_rfl) ?_ | refine And.intro ?_ ?_ | exact True.intro | refine rq fun _ => ?_ | refine ReqK.i ⟨by decide, by decide, rfl⟩ fun _ => ?_ | simp only [go_sem, kk, hs0, h1, treeC46, hfn, h00, hge1, hge2, hfl, hf, treeC4, hon, o00, oge1, oge2, hol, hg, Tryd.f11, prf_eta, form_eta, str_eta, getD_map_lt, List.nil_append, O14n])
    obtain ⟨a, b, hab⟩ : ∃ a b, f.words = [a, b] := by
      have h2 := (vok_eq.1 hfb.v).2.2.2.1 h1
      match h : f.words, h2 with
      | [a, b], _ => exact ⟨a, b, rfl⟩
    have hnm : isName a = true ∧ isName b = true := by
      have hw := hfB.o.aw
      cases f with
      | mk k nm ws s =>
        rw [allW] at hw
        rw [form_words] at hab
        subst hab
        exact ⟨hw.1 a (by simp), hw.1 b (by simp)⟩
    by_cases h3 : p.name ∈ f.words
    rotate_left
    · have e : chkM p l = false := by rw [ec, decide_eq_false h3]; simp
      rw [hab] at h3
      simp only [List.mem_cons, List.not_mem_nil, or_false, not_or] at h3
      have hna : (p.name.l = a.l) = False := eq_false fun h => h3.1 (str_of h)
      have hnb : (p.name.l = b.l) = False := eq_false fun h => h3.2 (str_of h)
      rw [e]
      refine Wcall_K (N := 313) hm kT.out 11000 (lsw [181, 184, 206, 209, 247, 253, 294, 307] [1000004, 1000017, 1000023, 1000028, 1000030, 1000037, 1000043, 1000045, 1000046, 1000051]) ok11 Tryd.func11 rfl rfl (by simp) (by kernel_rfl) ?_
      repeat' (first | refine WK_drawV (id := 4) hm kT.out 11000 (lsw [181, 184, 206, 209, 247, 253, 294, 307] [1000004, 1000017, 1000023, 1000028, 1000030, 1000037, 1000043, 1000045, 1000046, 1000051]) treeC4 (by kernel_rfl) (by kernel_rfl) ?_ | refine WK_drawV (id := 46) hm kT.out 11000 (lsw [181, 184, 206, 209, 247, 253, 294, 307] [1000004, 1000017, 1000023, 1000028, 1000030, 1000037, 1000043, 1000045, 1000046, 1000051]) treeC46 (by kernel_rfl) (by kernel_rfl) ?_ | refine And.intro ?_ ?_ | exact True.intro | refine rq fun _ => ?_ | refine ReqK.i ⟨by decide, by decide, rfl⟩ fun _ => ?_ | simp only [go_sem, kk, hs0, h1, hab, hna, hnb, treeC46, hfn, h00, hge1, hge2, hfl, hf, treeC4, hon, o00, oge1, oge2, hol, hg, Tryd.f11, prf_eta, form_eta, str_eta, getD_map_lt, List.nil_append, O14n])
    obtain ⟨T, hT0⟩ : ∃ T, swapTo f p.name = T := ⟨_, rfl⟩
    have e : chkM p l = chkM s0 (l ++ [canonM g [⟨p.name, T⟩]]) := by rw [ec, hs0, hT0]; simp [h1, h3]
    rw [hab] at h3
    unfold swapTo at hT0
    rw [hab] at hT0
    simp only [List.getD_cons_zero, List.getD_cons_succ] at hT0
    have hTn : isName T = true := by
      rw [← hT0]
      split
      · exact hnm.2
      · exact hnm.1
    have hgB' : BF (canonM g [⟨p.name, T⟩]) := hgB.o.can (by simp) fun b hb => by rw [List.mem_singleton.1 hb]; exact hTn
    have e2 : wthM g [⟨p.name, T⟩] = canonM g [⟨p.name, T⟩] := (canon_with hgB.o.clean (by simp) (fun b hb => by rw [List.mem_singleton.1 hb]; exact name_bang hTn)).symm
    have zW : List.zipWith Abs.Bind.mk [p.name] [T] = [⟨p.name, T⟩] := rfl
    have hw : wthPre g [p.name] [T] := ⟨hgB.o.b.ft, by have := hgB.o.b.s; omega, rfl, by simp⟩
    obtain ⟨I, hI⟩ : ∃ I, canonM g [⟨p.name, T⟩] = I := ⟨_, rfl⟩
    rw [hI] at hgB' e e2
    have hrec : s0.size < n ∧ clP (l ++ [I]) s0 := ⟨by omega, fun x hx => by
      rcases List.mem_append.1 hx with hx | hx
      · exact kb.out x hx
      · rw [List.mem_singleton.1 hx]; exact hgB', by rw [List.length_append, List.length_singleton]; omega⟩
    obtain ⟨B, hB⟩ : ∃ B, chkM s0 (l ++ [I]) = B := ⟨_, rfl⟩
    rw [e, hB]
    clear e ec hgB' hI
    by_cases hna : a = p.name
    · have hn1 : (p.name.l = a.l) = True := eq_true (by rw [hna])
      rw [if_pos hna] at hT0
      subst hT0
      by_cases hbn : b = p.name
      · have hn2 : (p.name.l = b.l) = True := eq_true (by rw [hbn])
        have hbaE : b = a := hbn.trans hna.symm
        subst hbaE
        refine Wcall_K (N := 313) hm kT.out 11000 (lsw [181, 184, 206, 209, 247, 253, 294, 307] [1000004, 1000017, 1000023, 1000028, 1000030, 1000037, 1000043, 1000045, 1000046, 1000051]) ok11 Tryd.func11 rfl rfl (by simp) (by kernel_rfl) ?_
        repeat' (first | (refine WK_weak2 (Weak_rpL (id := (11003, 0)) (t := 3) (b := true) (ys := [.i .i64 p.kind, .i .i64 p.form, .i .i64 p.other, .s p.name.l, .sl (p.subs.map enc)]) ?_ ?_) ?_; (focus (simp only [go_sem, kk, hs0, hfn, hon, h1, hab]; done)); (focus (simp only [go_sem]; done))) | (refine WK_weak2 (Weak_rpL (id := (11005, 1)) (t := 5) (b := true) (ys := [.i .i64 f.kind, .s f.name.l, .sl (f.words.map enc), .sl (f.subs.map enc)]) ?_ ?_) ?_; (focus (simp only [go_sem, kk, hs0, hfn, hon, h1, hab]; done)); (focus (simp only [go_sem]; done))) | refine WK_drawV (id := 4) hm kT.out 11000 (lsw [181, 184, 206, 209, 247, 253, 294, 307] [1000004, 1000017, 1000023, 1000028, 1000030, 1000037, 1000043, 1000045, 1000046, 1000051]) treeC4 (by kernel_rfl) (by kernel_rfl) ?_ | refine WK_drawV (id := 46) hm kT.out 11000 (lsw [181, 184, 206, 209, 247, 253, 294, 307] [1000004, 1000017, 1000023, 1000028, 1000030, 1000037, 1000043, 1000045, 1000046, 1000051]) treeC46 (by kernel_rfl) (by kernel_rfl) ?_ | refine WK_drawV (id := 51) hm kT.out 11000 (lsw [181, 184, 206, 209, 247, 253, 294, 307] [1000004, 1000017, 1000023, 1000028, 1000030, 1000037, 1000043, 1000045, 1000046, 1000051]) treeC51 (by kernel_rfl) (by kernel_rfl) ?_ | refine ReqK.i hw fun _ => ?_ | refine ReqK.i ⟨rfl, rfl, hw⟩ fun _ => ?_ | refine ReqK.i ⟨rfl, hw⟩ fun _ => ?_ | refine ReqK.i hrec fun _ => ?_ | refine ReqK.i (fits_of2 (by first | omega | (simp only [List.length_map, List.length_take, List.length_append, List.length_cons, List.length_nil]; omega)) (by decide)) fun _ => ?_ | refine ReqK.i (by simp only [List.length_map, List.length_take, List.length_append, List.length_cons, List.length_nil]; omega) fun _ => ?_ | refine And.intro ?_ ?_ | exact True.intro | refine rq fun _ => ?_ | refine ReqK.i ⟨by decide, by decide, rfl⟩ fun _ => ?_ | simp only [go_sem, kk, hs0, h1, hab, hn1, hn2, zW, e2, hB, dec_sl_cons, dec_sl_nil, treeC46, treeC51, hfn, h00, hge1, hge2, hfl, hf, treeC4, hon, o00, oge1, oge2, hol, hg, List.map_append, List.map_cons, List.map_nil, O14n, Tryd.f11, prf_eta, form_eta, str_eta, getD_map_lt, List.nil_append, O14n])
        all_goals first | done | rfl | omega | trace_state
      · have hn2 : (p.name.l = b.l) = False := eq_false fun h => hbn (str_of h).symm
        refine Wcall_K (N := 313) hm kT.out 11000 (lsw [181, 184, 206, 209, 247, 253, 294, 307] [1000004, 1000017, 1000023, 1000028, 1000030, 1000037, 1000043, 1000045, 1000046, 1000051]) ok11 Tryd.func11 rfl rfl (by simp) (by kernel_rfl) ?_
        repeat' (first | (refine WK_weak2 (Weak_rpL (id := (11003, 0)) (t := 3) (b := true) (ys := [.i .i64 p.kind, .i .i64 p.form, .i .i64 p.other, .s p.name.l, .sl (p.subs.map enc)]) ?_ ?_) ?_; (focus (simp only [go_sem, kk, hs0, hfn, hon, h1, hab]; done)); (focus (simp only [go_sem]; done))) | (refine WK_weak2 (Weak_rpL (id := (11005, 1)) (t := 5) (b := true) (ys := [.i .i64 f.kind, .s f.name.l, .sl (f.words.map enc), .sl (f.subs.map enc)]) ?_ ?_) ?_; (focus (simp only [go_sem, kk, hs0, hfn, hon, h1, hab]; done)); (focus (simp only [go_sem]; done))) | refine WK_drawV (id := 4) hm kT.out 11000 (lsw [181, 184, 206, 209, 247, 253, 294, 307] [1000004, 1000017, 1000023, 1000028, 1000030, 1000037, 1000043, 1000045, 1000046, 1000051]) treeC4 (by kernel_rfl) (by kernel_rfl) ?_ | refine WK_drawV (id := 46) hm kT.out 11000 (lsw [181, 184, 206, 209, 247, 253, 294, 307] [1000004, 1000017, 1000023, 1000028, 1000030, 1000037, 1000043, 1000045, 1000046, 1000051]) treeC46 (by kernel_rfl) (by kernel_rfl) ?_ | refine WK_drawV (id := 51) hm kT.out 11000 (lsw [181, 184, 206, 209, 247, 253, 294, 307] [1000004, 1000017, 1000023, 1000028, 1000030, 1000037, 1000043, 1000045, 1000046, 1000051]) treeC51 (by kernel_rfl) (by kernel_rfl) ?_ | refine ReqK.i hw fun _ => ?_ | refine ReqK.i ⟨rfl, rfl, hw⟩ fun _ => ?_ | refine ReqK.i ⟨rfl, hw⟩ fun _ => ?_ | refine ReqK.i hrec fun _ => ?_ | refine ReqK.i (fits_of2 (by first | omega | (simp only [List.length_map, List.length_take, List.length_append, List.length_cons, List.length_nil]; omega)) (by decide)) fun _ => ?_ | refine ReqK.i (by simp only [List.length_map, List.length_take, List.length_append, List.length_cons, List.length_nil]; omega) fun _ => ?_ | refine And.intro ?_ ?_ | exact True.intro | refine rq fun _ => ?_ | refine ReqK.i ⟨by decide, by decide, rfl⟩ fun _ => ?_ | simp only [go_sem, kk, hs0, h1, hab, hn1, hn2, zW, e2, hB, dec_sl_cons, dec_sl_nil, treeC46, treeC51, hfn, h00, hge1, hge2, hfl, hf, treeC4, hon, o00, oge1, oge2, hol, hg, List.map_append, List.map_cons, List.map_nil, O14n, Tryd.f11, prf_eta, form_eta, str_eta, getD_map_lt, List.nil_append, O14n])
        all_goals first | done | rfl | omega | trace_state
    · have hn1 : (p.name.l = a.l) = False := eq_false fun h => hna (str_of h).symm
      rw [if_neg hna] at hT0
      subst hT0
      have hbn : b = p.name := by
        simp only [List.mem_cons, List.not_mem_nil, or_false] at h3
        rcases h3 with h3 | h3
        · exact absurd h3.symm hna
        · exact h3.symm
      have hn2 : (p.name.l = b.l) = True := eq_true (by rw [hbn])
      refine Wcall_K (N := 313) hm kT.out 11000 (lsw [181, 184, 206, 209, 247, 253, 294, 307] [1000004, 1000017, 1000023, 1000028, 1000030, 1000037, 1000043, 1000045, 1000046, 1000051]) ok11 Tryd.func11 rfl rfl (by simp) (by kernel_rfl) ?_
      repeat' (first | (refine WK_weak2 (Weak_rpL (id := (11003, 0)) (t := 3) (b := true) (ys := [.i .i64 p.kind, .i .i64 p.form, .i .i64 p.other, .s p.name.l, .sl (p.subs.map enc)]) ?_ ?_) ?_; (focus (simp only [go_sem, kk, hs0, hfn, hon, h1, hab]; done)); (focus (simp only [go_sem]; done))) | (refine WK_weak2 (Weak_rpL (id := (11005, 1)) (t := 5) (b := true) (ys := [.i .i64 f.kind, .s f.name.l, .sl (f.words.map enc), .sl (f.subs.map enc)]) ?_ ?_) ?_; (focus (simp only [go_sem, kk, hs0, hfn, hon, h1, hab]; done)); (focus (simp only [go_sem]; done))) | refine WK_drawV (id := 4) hm kT.out 11000 (lsw [181, 184, 206, 209, 247, 253, 294, 307] [1000004, 1000017, 1000023, 1000028, 1000030, 1000037, 1000043, 1000045, 1000046, 1000051]) treeC4 (by kernel_rfl) (by kernel_rfl) ?_ | refine WK_drawV (id := 46) hm kT.out 11000 (lsw [181, 184, 206, 209, 247, 253, 294, 307] [1000004, 1000017, 1000023, 1000028, 1000030, 1000037, 1000043, 1000045, 1000046, 1000051]) treeC46 (by kernel_rfl) (by kernel_rfl) ?_ | refine WK_drawV (id := 51) hm kT.out 11000 (lsw [181, 184, 206, 209, 247, 253, 294, 307] [1000004, 1000017, 1000023, 1000028, 1000030, 1000037, 1000043, 1000045, 1000046, 1000051]) treeC51 (by kernel_rfl) (by kernel_rfl) ?_ | refine ReqK.i hw fun _ => ?_ | refine ReqK.i ⟨rfl, rfl, hw⟩ fun _ => ?_ | refine ReqK.i ⟨rfl, hw⟩ fun _ => ?_ | refine ReqK.i hrec fun _ => ?_ | refine ReqK.i (fits_of2 (by first | omega | (simp only [List.length_map, List.length_take, List.length_append, List.length_cons, List.length_nil]; omega)) (by decide)) fun _ => ?_ | refine ReqK.i (by simp only [List.length_map, List.length_take, List.length_append, List.length_cons, List.length_nil]; omega) fun _ => ?_ | refine And.intro ?_ ?_ | exact True.intro | refine rq fun _ => ?_ | refine ReqK.i ⟨by decide, by decide, rfl⟩ fun _ => ?_ | simp only [go_sem, kk, hs0, h1, hab, hn1, hn2, zW, e2, hB, dec_sl_cons, dec_sl_nil, treeC46, treeC51, hfn, h00, hge1, hge2, hfl, hf, treeC4, hon, o00, oge1, oge2, hol, hg, List.map_append, List.map_cons, List.map_nil, O14n, Tryd.f11, prf_eta, form_eta, str_eta, getD_map_lt, List.nil_append, O14n])
      all_goals first | done | rfl | omega | trace_state
end Go.Proofs.YtdlioodgfopmfaaDoor

namespace Go.Proofs.YtdlioodgfopmfaaDoor
open Go Go.Abs Go.Proofs

/-! ## Closes, all kinds of steps -/
def O14 : Tbl := O13.add 11 (sp2 (fun l p => chkM p l) clP)
attribute [go_sem] O14
theorem hO14 : TblOk Tryd.prog GA O14 := by
  refine sp2_recB Prf.size ok11 hO13 fun n hT l p hpn hpre _ _ => ?_
  have hT : TblOk Tryd.prog GA (O14n n) := hT
  cases hfi : inL l p.form with
  | false => exact clo_out hT hpre hfi
  | true =>
    by_cases k1 : p.kind = 1
    · exact clo_1 hT hpn hpre hfi k1
    by_cases k2 : p.kind = 2
    · exact clo_2 hT hpn hpre hfi k2
    by_cases k3 : p.kind = 3
    · exact clo_3 hT hpn hpre hfi k3
    by_cases k4 : p.kind = 4
    · exact clo_4 hT hpn hpre hfi k4
    by_cases k5 : p.kind = 5
    · exact clo_5 hT hpn hpre hfi k5
    by_cases k6 : p.kind = 6
    · exact clo_6 hT hpn hpre hfi k6
    exact clo_kind hT hpn hpre hfi (by omega)
/-! ## how many steps a proof has -/
def psM (p : Prf) (most : Int) : Int := min (p.size : Int) most
theorem prf_sizes_take {l : List Prf} {i : Nat} (h : i < l.length) : Prf.sizes (l.take (i + 1)) = Prf.sizes (l.take i) + l[i].size := by
  induction l generalizing i with
  | nil => simp at h
  | cons x l ih =>
    cases i with
    | zero => simp [Prf.sizes]
    | succ i =>
      have h2 : i < l.length := by simpa using h
      rw [List.take_succ_cons, List.take_succ_cons, Prf.sizes, Prf.sizes, ih h2]
      simp only [List.getElem_cons_succ]
      omega
theorem prf_size_eq (p : Prf) : p.size = Prf.sizes p.subs + 1 := by cases p; rw [Prf.size]; rfl
def O15 : Tbl := O14.add 10 (sp2 psM fun _ most => 1 ≤ most ∧ most ≤ 2001)
attribute [go_sem] O15
set_option maxRecDepth 100000 in
set_option maxHeartbeats 1000000 in
set_option maxHeartbeats 4000000 in
theorem hO15 : TblOk Tryd.prog GA O15 := by
  refine sp2_recpN Prf.size ok10 hO14 fun n hT p most hpn hpre hwp _ => ?_
  obtain ⟨hm1, hm2⟩ := hpre
  have hsl : p.subs.length ≤ maxL := by
    have h := Wf_agg (by have h := hwp; rw [enc_prf] at h; exact h) (FD.sl (p.subs.map enc)) (by simp)
    have := Wf_sl h
    simpa using this
  unfold maxL at hsl
  have hr : ∀ g ∈ p.subs, g.size < n := fun g hg => by have := Prf.size_sub hg; omega
  obtain ⟨S, hS⟩ : ∃ S : Nat → Nat, S = fun j => Prf.sizes (p.subs.take j) + 1 := ⟨_, rfl⟩
  have hS0 : S 0 = 1 := by rw [hS]; rfl
  have hSs : ∀ j (h : j < p.subs.length), S (j + 1) = S j + p.subs[j].size := fun j h => by rw [hS]; simp only [prf_sizes_take h]; omega
  have hSe : p.size = S p.subs.length := by rw [hS, prf_size_eq]; simp only [List.take_length]
  obtain ⟨M, hM⟩ : ∃ M : Nat → Int, M = fun j => min (S j : Int) most := ⟨_, rfl⟩
  have hM0 : M 0 = 1 := by rw [hM]; simp only [hS0]; omega
  have hMb : ∀ j, M j ≤ 2001 ∧ 0 ≤ M j := fun j => by rw [hM]; simp only; omega
  have hMs : ∀ j (h : j < p.subs.length), M j < most → M j + psM p.subs[j] (most - M j) = M (j + 1) := fun j h h2 => by
    rw [hM] at h2 ⊢
    simp only at h2 ⊢
    unfold psM
    rw [hSs j h]; omega
  have hMe : psM p most = M p.subs.length := by unfold psM; rw [hM, hSe]
  have hMx : ∀ j, most ≤ M j → j ≤ p.subs.length → psM p most = M j := fun j h h2 => by
    have hle : ∀ k, k ≤ p.subs.length → j ≤ k → S j ≤ S k := by
      intro k
      induction k with
      | zero => intro _ h; rw [Nat.le_zero.1 h]; exact Nat.le_refl _
      | succ k ih =>
        intro hk hjk
        rcases Nat.lt_or_ge k j with h3 | h3
        · have : j = k + 1 := by omega
          rw [this]; exact Nat.le_refl _
        · have h4 := ih (by omega) h3
          have h5 := hSs k (by omega)
          omega
    have h3 := hle _ (Nat.le_refl _) h2
    rw [hMe]
    rw [hM] at h ⊢
    simp only at h ⊢
    omega
  have kT := Kp.mk hT
  have kr := Kp.mk hr
  have kM := Kp.mk hMs
  have kB := Kp.mk hMb
  have kE := Kp.mk hMe
  have kX := Kp.mk hMx
  obtain ⟨V, hV⟩ : ∃ V, psM p most = V := ⟨_, rfl⟩
  rw [hV]
  clear hT hr hS hS0 hSs hSe hM hMs hMb hMe hMx
  refine Wcall_K (N := 31) hm kT.out 10000 (lst []) ok10 Tryd.func10 rfl rfl (by simp) (by kernel_rfl) ?_
  repeat' (first | refine And.intro ?_ ?_ | exact True.intro | refine rq fun _ => ?_ | refine ReqK.i ⟨by decide, by decide, rfl⟩ fun _ => ?_ | simp only [go_sem, Tryd.f10])
  refine WK_loop hm kT.out 10000 (lst []) (ι := LoopI p.subs.length fun _ => True)
    ⟨fun q => ⟨frL [(1, .fz (.i .i64 most)), (2, .ptr (10002, 0) 0), (5, .fz (.i .i64 (M q.i))), (6, .fz (.i .i64 q.i))],
      hpL [((10002, 0), some ⟨[.fz (.i .i64 p.kind), .fz (.i .i64 p.form), .fz (.i .i64 p.other), .fz (.s p.name.l), .fz (.sl (p.subs.map enc))], true, false⟩)], 1⟩, fun q => p.subs.length - q.i⟩
    ⟨0, by omega, trivial⟩ (by kernel_rfl) ?_ ?_
  · refine Weak_to ?_ ?_ ?_ <;> simp only [go_sem, hM0]
    all_goals first | done | rfl | omega | trace_state
  rintro ⟨i, hi, _⟩
  try simp only at hi
  have hb := kB.out i
  by_cases hlt : M i < most
  · rcases Nat.lt_or_ge i p.subs.length with h1 | h1
    · have hs := kM.out i h1 hlt
      have hg := kr.out _ (List.getElem_mem h1)
      have hb2 := kB.out (i + 1)
      obtain ⟨x, hx⟩ : ∃ x, p.subs[i] = x := ⟨_, rfl⟩
      rw [hx] at hs hg
      obtain ⟨m, hm'⟩ : ∃ m, M i = m := ⟨_, rfl⟩
      rw [hm'] at hs hb hlt
      obtain ⟨r, hr⟩ : ∃ r, psM x (most - m) = r := ⟨_, rfl⟩
      rw [hr] at hs
      have hrec : x.size < n ∧ 1 ≤ most - m ∧ most - m ≤ 2001 := ⟨hg, by omega, by omega⟩
      repeat' (first | refine ReqK.i hrec fun _ => ?_ | refine And.intro ?_ ?_ | exact True.intro | refine rq fun _ => ?_ | refine ReqK.i ⟨by decide, by decide, rfl⟩ fun _ => ?_ | simp only [go_sem, h1, hm', hlt, hx, hr, hs, prf_eta, str_eta, getD_map_lt, Tryd.f10])
      all_goals refine ⟨⟨i + 1, by omega, trivial⟩, by simp only; omega, ?_⟩
      all_goals refine Weak_to ?_ ?_ ?_ <;> simp only [go_sem, hs]
      all_goals first | done | rfl | omega | trace_state
    · obtain rfl : i = p.subs.length := by omega
      have he := kE.out
      rw [hV] at he
      rw [he]
      repeat' (first | refine And.intro ?_ ?_ | exact True.intro | refine rq fun _ => ?_ | refine ReqK.i ⟨by decide, by decide, rfl⟩ fun _ => ?_ | simp only [go_sem, Nat.lt_irrefl, Tryd.f10])
      all_goals first | done | rfl | omega | trace_state
  · have he := kX.out i (by omega) hi
    rw [hV] at he
    rw [he]
    have hlt' : (M i < most) = False := eq_false hlt
    rcases Nat.lt_or_ge i p.subs.length with h1 | h1
    · repeat' (first | refine And.intro ?_ ?_ | exact True.intro | refine rq fun _ => ?_ | refine ReqK.i ⟨by decide, by decide, rfl⟩ fun _ => ?_ | simp only [go_sem, h1, hlt', Tryd.f10])
      all_goals first | done | rfl | omega | trace_state
    · obtain rfl : i = p.subs.length := by omega
      repeat' (first | refine And.intro ?_ ?_ | exact True.intro | refine rq fun _ => ?_ | refine ReqK.i ⟨by decide, by decide, rfl⟩ fun _ => ?_ | simp only [go_sem, Nat.lt_irrefl, hlt', Tryd.f10])
      all_goals first | done | rfl | omega | trace_state
end Go.Proofs.YtdlioodgfopmfaaDoor

namespace Go.Proofs.YtdlioodgfopmfaaDoor
open Go Go.Abs Go.Proofs

/-! ## the law TableauCheckMatchesSpec -/
def P1 : Tbl := Tbl.or O15 Y11
attribute [go_sem] P1
theorem hP1 : TblOk Tryd.prog GA P1 := TblOk_or hO15 hY11
def treeL11 : Tv := (.q 0 (.q 1 (.q 2 (.q 3 (.q 4 (.q 5 (.q 6 (.q 7 (.q 8 (.q 9 (.q 10 (.q 11 (.q 12 .leaf)))))))))))))
mutual
theorem cntK_of : ∀ (p : Prf) (n : Int), n + p.size ≤ 2000 → cntK p n = n + p.size
  | .mk k f o nm s, n, h => by
    rw [Prf.size] at h ⊢
    rw [cntK, cntKs_of s (n + 1) (by omega)]
    omega
theorem cntKs_of : ∀ (s : List Prf) (n : Int), n + Prf.sizes s ≤ 2000 → cntKs s n = n + Prf.sizes s
  | [], n, h => by rw [cntKs, Prf.sizes]; simp
  | x :: xs, n, h => by
    rw [Prf.sizes] at h ⊢
    rw [cntKs, if_neg (by omega), cntK_of x n (by omega), cntKs_of xs _ (by omega)]
    omega
end
theorem bf_valid {f : Abs.Form} (h : (checkM false f).code = 0) : BF0 f := ⟨br_valid h, checkM_shp h, checkM_allW h⟩
theorem branch1_bf {ax : List Abs.Form} {g : Abs.Form} (h1 : ∀ f ∈ ax, (checkM false f).code = 0) (h2 : (checkM false g).code = 0) : ∀ f ∈ branch1 ax g, BF f := fun f hf => by
  unfold branch1 canL at hf
  rcases List.mem_append.1 hf with hf | hf
  · obtain ⟨a, ha, rfl⟩ := List.mem_map.1 hf
    exact (bf_valid (h1 a ha)).cn
  · rw [List.mem_singleton.1 hf]
    exact (bf_valid h2).ng (by have := checkM_size h2; omega)
def dogN : Str := ⟨[100, 111, 103]⟩
def kimN : Str := ⟨[107, 105, 109]⟩
def dogF : Abs.Form := predM dogN [kimN]
theorem dog_can : canonM dogF [] = dogF := by
  unfold canonM dogF predM
  rw [ren, if_neg (by decide), rens]
  rfl
theorem dog_chk : chkP [dogF] dogF (.mk 1 0 1 ⟨[]⟩ []) = (true, ⟨0, 0⟩) := by
  have hcv : (checkM false dogF).code = 0 := by kernel_rfl
  have hb : beginP [dogF] dogF = ([dogF, negM dogF], ⟨0, 0⟩) := by
    unfold beginP
    rw [if_neg (by simp), badA_zero [dogF] 0 (by simpa using hcv), if_neg (by decide), if_neg (by simp [hcv])]
    unfold canL
    rw [List.map_cons, List.map_nil, dog_can]; rfl
  have hbr : branch1 [dogF] dogF = [dogF, negM dogF] := by
    unfold branch1 canL
    rw [List.map_cons, List.map_nil, dog_can]; rfl
  unfold chkP
  rw [hb, if_neg (by decide), if_neg (by decide), hbr, chkM_eq]
  have e : chkN 1 0 1 ⟨[]⟩ [] [dogF, negM dogF] = closeM [dogF, negM dogF] dogF (negM dogF) := by
    unfold chkN inL atL
    simp
  have e2 : closeM [dogF, negM dogF] dogF (negM dogF) = true := by
    unfold closeM
    have : ngg dogF = negM dogF := rfl
    rw [decide_eq_true this]; rfl
  have e3 := e.trans e2
  exact congrArg (fun b => (b, (⟨0, 0⟩ : Fault))) e3
set_option maxRecDepth 100000 in
set_option maxHeartbeats 1000000 in
set_option maxHeartbeats 8000000 in
theorem lawCheckSpec (hT : TblOk Tryd.prog GA P1) (ax : List Abs.Form) (g : Abs.Form) (p : Prf) (_ : (enc ax).Wf) (_ : (enc g).Wf) (_ : (enc p).Wf) : Wcall Tryd.prog GA 3 [.fz (enc ax), .fz (enc g), .fz (enc p)] (hpL []) 0 (fun d _ _ => d = .fz (.b true)) := by
  have dD : Str.mk [100, 111, 103] = dogN := rfl
  have dK : Str.mk [107, 105, 109] = kimN := rfl
  have dF : predM dogN [kimN] = dogF := rfl
  have kF : dogF.kind = 2 := rfl
  have eF : Abs.Form.mk 2 dogF.name dogF.words dogF.subs = dogF := rfl
  have c0 := dog_chk
  have hps : (1 : Int) ≤ 2001 ∧ (2001 : Int) ≤ 2001 := by decide
  have eP : chkP ax g p = if (qfS ax g).code ≠ 0 then (false, qfS ax g) else if 2000 < cntK p 0 then (false, ⟨1, -3⟩) else (chkM p (branch1 ax g), ⟨0, 0⟩) := by
    unfold chkP
    rw [qfS_begin]
  obtain ⟨r, hP⟩ : ∃ r, chkP ax g p = r := ⟨_, rfl⟩
  obtain ⟨q, hQ⟩ : ∃ q, qfS ax g = q := ⟨_, rfl⟩
  rw [hP, hQ] at eP
  by_cases hq : q.code = 0
  rotate_left
  · rw [if_pos hq] at eP
    subst eP
    have hq0 : (q.code = 0) = False := eq_false hq
    refine Wcall_K (N := 72) hm hT 3000 (lst [1000011]) ok3 Tryd.func3 rfl rfl (by simp) (by kernel_rfl) ?_
    repeat' (first | refine WK_drawV (id := 11) hm hT 3000 (lst [1000011]) treeL11 (by kernel_rfl) (by kernel_rfl) ?_ | refine And.intro ?_ ?_ | exact True.intro | refine rq fun _ => ?_ | refine ReqK.i ⟨by decide, by decide, rfl⟩ fun _ => ?_ | simp only [go_sem, hq0, Tryd.f3, GA, str_eta, form_eta, prf_eta, dD, dK, dF, kF, eF, c0, hP, hQ, treeL11, Y11, Y10, Y9, Y8, Y7, Y6, Y5, Y4, Y3, Y2, Y1, N5, N4, N3, N2, N1])
    all_goals first | done | rfl | omega | trace_state
  have hbz : (beginP ax g).2.code = 0 := by rw [qfS_begin, hQ]; exact hq
  obtain ⟨hbg, hlen, hva, hvg⟩ := begin_ok hbz
  have hq2 : q = ⟨0, 0⟩ := by rw [← hQ, ← qfS_begin, hbg]
  subst hq2
  rw [if_neg (by simp)] at eP
  clear hq
  obtain ⟨z, hz⟩ : ∃ z, psM p 2001 = z := ⟨_, rfl⟩
  have hzv : z = min (p.size : Int) 2001 := by rw [← hz]; rfl
  by_cases hc : 2000 < cntK p 0
  · rw [if_pos hc] at eP
    subst eP
    have hsz : 2000 < z := by
      rw [hzv]
      rcases Nat.lt_or_ge 2000 p.size with h | h
      · omega
      · have := cntK_of p 0 (by omega)
        omega
    have hsz' : (2000 < z) = True := eq_true hsz
    refine Wcall_K (N := 72) hm hT 3000 (lst [1000011]) ok3 Tryd.func3 rfl rfl (by simp) (by kernel_rfl) ?_
    repeat' (first | refine ReqK.i hps fun _ => ?_ | refine WK_drawV (id := 11) hm hT 3000 (lst [1000011]) treeL11 (by kernel_rfl) (by kernel_rfl) ?_ | refine And.intro ?_ ?_ | exact True.intro | refine rq fun _ => ?_ | refine ReqK.i ⟨by decide, by decide, rfl⟩ fun _ => ?_ | simp only [go_sem, hz, hsz', Tryd.f3, GA, str_eta, form_eta, prf_eta, dD, dK, dF, kF, eF, c0, hP, hQ, treeL11, Y11, Y10, Y9, Y8, Y7, Y6, Y5, Y4, Y3, Y2, Y1, N5, N4, N3, N2, N1])
    all_goals first | done | rfl | omega | trace_state
  rw [if_neg hc] at eP
  have hsz := cntK_size p 0 (by omega)
  have hzl : ¬ 2000 < z := by rw [hzv]; omega
  have hzl' : (2000 < z) = False := eq_false hzl
  have hfp : (∀ f ∈ ax, clB f) ∧ clB g ∧ ax.length ≤ 1000 := ⟨fun f hf => ⟨(bf_valid (hva f hf)).b, (bf_valid (hva f hf)).clean⟩, ⟨(bf_valid hvg).b, (bf_valid hvg).clean⟩, by omega⟩
  have hfr : firstR ax g = branch1 ax g := rfl
  have hbl : (branch1 ax g).length = ax.length + 1 := by unfold branch1 canL; simp
  have hcl : clP (branch1 ax g) p := ⟨branch1_bf hva hvg, by rw [hbl]; omega⟩
  obtain ⟨B, hB⟩ : ∃ B, branch1 ax g = B := ⟨_, rfl⟩
  rw [hB] at eP hfr hcl
  obtain ⟨c, hC⟩ : ∃ c, chkM p B = c := ⟨_, rfl⟩
  rw [hC] at eP
  subst eP
  refine Wcall_K (N := 72) hm hT 3000 (lst [1000011]) ok3 Tryd.func3 rfl rfl (by simp) (by kernel_rfl) ?_
  repeat' (first | refine ReqK.i hps fun _ => ?_ | refine ReqK.i hfp fun _ => ?_ | refine ReqK.i hcl fun _ => ?_ | refine WK_drawV (id := 11) hm hT 3000 (lst [1000011]) treeL11 (by kernel_rfl) (by kernel_rfl) ?_ | refine And.intro ?_ ?_ | exact True.intro | refine rq fun _ => ?_ | refine ReqK.i ⟨by decide, by decide, rfl⟩ fun _ => ?_ | simp only [go_sem, hz, hzl', hfr, hC, Tryd.f3, GA, str_eta, form_eta, prf_eta, dD, dK, dF, kF, eF, c0, hP, hQ, treeL11, Y11, Y10, Y9, Y8, Y7, Y6, Y5, Y4, Y3, Y2, Y1, N5, N4, N3, N2, N1])
  all_goals first | done | rfl | omega | trace_state
end Go.Proofs.YtdlioodgfopmfaaDoor
