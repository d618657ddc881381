import Derived.Test.YtdlioodgfopmfaaDoorY14
import Derived.Test.YtdlioodgfopmfaaDoorAL
set_option linter.unusedSimpArgs false
namespace Go.Abs
open Go

def cnn (f : Form) : Form := canonM f []
def ngg (f : Form) : Form := canonM (notF f) []
def sub0 (f : Form) : Form := f.subs.getD 0 (.mk 0 ⟨[]⟩ [] [])
def sub1 (f : Form) : Form := f.subs.getD 1 (.mk 0 ⟨[]⟩ [] [])
def partsM (f : Form) : Int × List Form × Form × Bool :=
  if f.kind = 5 then (1, [cnn (sub0 f), cnn (sub1 f)], zeroF, false)
  else if f.kind = 6 then (2, [cnn (sub0 f), cnn (sub1 f)], zeroF, false)
  else if f.kind = 7 then (2, [ngg (sub0 f), cnn (sub1 f)], zeroF, false)
  else if f.kind = 8 then (3, [], f, false)
  else if f.kind = 9 then (4, [], f, false)
  else if f.kind = 4 then
    if (sub0 f).kind = 4 then (1, [cnn (sub0 (sub0 f))], zeroF, false)
    else if (sub0 f).kind = 5 then (2, [ngg (sub0 (sub0 f)), ngg (sub1 (sub0 f))], zeroF, false)
    else if (sub0 f).kind = 6 then (1, [ngg (sub0 (sub0 f)), ngg (sub1 (sub0 f))], zeroF, false)
    else if (sub0 f).kind = 7 then (1, [cnn (sub0 (sub0 f)), ngg (sub1 (sub0 f))], zeroF, false)
    else if (sub0 f).kind = 8 then (4, [], sub0 f, true)
    else if (sub0 f).kind = 9 then (3, [], sub0 f, true)
    else (0, [], zeroF, false)
  else (0, [], zeroF, false)
structure brF (f : Form) : Prop where
  v : vok f
  ft : f.fit = true
  s : f.size ≤ 800
theorem brF.sub {f g : Form} (h : brF f) (hg : g ∈ f.subs) : brF g := by
  have hv := h.v
  obtain ⟨k, nm, ws, s⟩ := f
  rw [vok] at hv
  have hf := h.ft
  rw [Form.fit] at hf
  simp only [Bool.and_eq_true] at hf
  exact ⟨(voks_mem s).1 hv.2.2.2.2.2.2 g hg, Form.fits_mem hf.2 hg, by have := Form.size_sub hg; have := h.s; omega⟩
theorem br_one {f : Form} (h : brF f) (hk : f.kind = 4 ∨ f.kind = 8 ∨ f.kind = 9) : ∃ a, f.subs = [a] ∧ sub0 f = a ∧ brF a := by
  have h1 := (vok_eq.1 h.v).2.2.2.2.1 hk
  match hs : f.subs, h1 with
  | [a], _ => exact ⟨a, rfl, by unfold sub0; rw [hs]; rfl, h.sub (by rw [hs]; simp)⟩
theorem br_two {f : Form} (h : brF f) (hk : f.kind = 5 ∨ f.kind = 6 ∨ f.kind = 7) : ∃ a b, f.subs = [a, b] ∧ sub0 f = a ∧ sub1 f = b ∧ brF a ∧ brF b := by
  have h1 := (vok_eq.1 h.v).2.2.2.2.2.1 hk
  match hs : f.subs, h1 with
  | [a, b], _ => exact ⟨a, b, rfl, by unfold sub0; rw [hs]; rfl, by unfold sub1; rw [hs]; rfl, h.sub (by rw [hs]; simp), h.sub (by rw [hs]; simp)⟩
def rootM (c : List Bind) (w : Str) : Str := c.foldl (fun r l => if r = l.fr then l.to else r) w
structure wfC (c : List Bind) : Prop where
  d : ∀ i j (hi : i < c.length) (hj : j < c.length), j < i → c[j].fr ≠ c[i].fr
  t : ∀ i j (hi : i < c.length) (hj : j < c.length), j ≤ i → c[j].fr ≠ c[i].to
theorem rootM_snoc (c : List Bind) (l : Bind) (w : Str) : rootM (c ++ [l]) w = if rootM c w = l.fr then l.to else rootM c w := by
  unfold rootM; rw [List.foldl_append]; rfl
theorem rootM_app (a b : List Bind) (w : Str) : rootM (a ++ b) w = rootM b (rootM a w) := by unfold rootM; rw [List.foldl_append]
theorem rootM_out : ∀ {c : List Bind} {w : Str}, (∀ l ∈ c, l.fr ≠ w) → rootM c w = w
  | [], w, _ => rfl
  | l :: c, w, h => by
    have h1 : ¬ w = l.fr := fun e => h l (by simp) e.symm
    show rootM c (if w = l.fr then l.to else w) = w
    rw [if_neg h1, rootM_out fun x hx => h x (by simp [hx])]
theorem wfC_app {a b : List Bind} (h : wfC (a ++ b)) : wfC a := by
  refine ⟨fun i j hi hj hij => ?_, fun i j hi hj hij => ?_⟩
  · have := h.d i j (by rw [List.length_append]; omega) (by rw [List.length_append]; omega) hij
    rwa [List.getElem_append_left hj, List.getElem_append_left hi] at this
  · have := h.t i j (by rw [List.length_append]; omega) (by rw [List.length_append]; omega) hij
    rwa [List.getElem_append_left hj, List.getElem_append_left hi] at this
theorem wfC_snoc {c : List Bind} {l : Bind} (h : wfC c) (h1 : ∀ x ∈ c, x.fr ≠ l.fr) (h2 : ∀ x ∈ c, x.fr ≠ l.to) (h3 : l.fr ≠ l.to) : wfC (c ++ [l]) := by
  have hl : (c ++ [l]).length = c.length + 1 := by simp
  refine ⟨fun i j hi hj hij => ?_, fun i j hi hj hij => ?_⟩
  · rw [hl] at hi
    have hj2 : j < c.length := by omega
    rw [List.getElem_append_left hj2]
    rcases Nat.lt_or_ge i c.length with h4 | h4
    · rw [List.getElem_append_left h4]; exact h.d i j h4 hj2 hij
    · have : i = c.length := by omega
      subst this
      rw [List.getElem_append_right (Nat.le_refl _)]
      simpa using h1 _ (List.getElem_mem hj2)
  · rw [hl] at hi
    rcases Nat.lt_or_ge i c.length with h4 | h4
    · have hj2 : j < c.length := by omega
      rw [List.getElem_append_left hj2, List.getElem_append_left h4]; exact h.t i j h4 hj2 hij
    · have : i = c.length := by omega
      subst this
      rw [List.getElem_append_right (Nat.le_refl _)]
      rcases Nat.lt_or_ge j c.length with h5 | h5
      · rw [List.getElem_append_left h5]
        simpa using h2 _ (List.getElem_mem h5)
      · have : j = c.length := by rw [hl] at hj; omega
        subst this
        rw [List.getElem_append_right (Nat.le_refl _)]
        simpa using h3
theorem list_snoc {α : Type} : ∀ (l : List α), l = [] ∨ ∃ a x, l = a ++ [x]
  | [] => .inl rfl
  | x :: l => .inr (by
    rcases list_snoc l with rfl | ⟨a, y, rfl⟩
    · exact ⟨[], x, rfl⟩
    · exact ⟨x :: a, y, rfl⟩)
theorem rootM_root : ∀ (n : Nat) (c : List Bind), c.length = n → wfC c → ∀ w, ∀ l ∈ c, l.fr ≠ rootM c w
  | 0, c, hn, _, w, l, hl => by rw [List.eq_nil_of_length_eq_zero hn] at hl; simp at hl
  | n + 1, c, hn, h, w, l, hl => by
    rcases list_snoc c with rfl | ⟨a, x, rfl⟩
    · simp at hn
    have hla : a.length = n := by simpa using hn
    have ih := rootM_root n a hla (wfC_app h) w
    have hxa : (a ++ [x])[a.length]'(by simp) = x := by rw [List.getElem_append_right (Nat.le_refl _)]; simp
    rw [rootM_snoc]
    by_cases e : rootM a w = x.fr
    · rw [if_pos e]
      obtain ⟨j, hj, rfl⟩ := List.getElem_of_mem hl
      have := h.t a.length j (by simp) hj (by simp at hj; omega)
      rwa [hxa] at this
    · rw [if_neg e]
      rcases List.mem_append.1 hl with hl | hl
      · exact ih l hl
      · rw [List.mem_singleton.1 hl]; exact fun h => e h.symm
theorem rootM_jump {c : List Bind} (h : wfC c) {i : Nat} (hi : i < c.length) : rootM c c[i].fr = rootM c c[i].to := by
  have hc : c = c.take i ++ c[i] :: c.drop (i + 1) := by rw [← List.drop_eq_getElem_cons hi, List.take_append_drop]
  have h1 : rootM (c.take i) c[i].fr = c[i].fr := rootM_out fun l hl => by
    obtain ⟨j, hj, rfl⟩ := List.getElem_of_mem hl
    rw [List.length_take] at hj
    rw [List.getElem_take]
    exact h.d i j hi (by omega) (by omega)
  have h2 : rootM (c.take i ++ [c[i]]) c[i].to = c[i].to := rootM_out fun l hl => by
    rcases List.mem_append.1 hl with hl | hl
    · obtain ⟨j, hj, rfl⟩ := List.getElem_of_mem hl
      rw [List.length_take] at hj
      rw [List.getElem_take]
      exact h.t i j hi (by omega) (by omega)
    · rw [List.mem_singleton.1 hl]; exact h.t i i hi hi (Nat.le_refl _)
  have h3 : rootM (c.take i ++ [c[i]]) c[i].fr = c[i].to := by rw [rootM_snoc, h1, if_pos rfl]
  have e : c = (c.take i ++ [c[i]]) ++ c.drop (i + 1) := by rw [List.append_assoc]; exact hc
  have k1 := rootM_app (c.take i ++ [c[i]]) (c.drop (i + 1)) c[i].fr
  have k2 := rootM_app (c.take i ++ [c[i]]) (c.drop (i + 1)) c[i].to
  rw [← e] at k1 k2
  rw [k1, k2, h2, h3]
def lnk1 (c : List Bind) (f : Form) : List Bind :=
  if f.kind ≠ 3 then c
  else if rootM c (f.words.getD 0 ⟨[]⟩) = rootM c (f.words.getD 1 ⟨[]⟩) then c
  else c ++ [⟨rootM c (f.words.getD 0 ⟨[]⟩), rootM c (f.words.getD 1 ⟨[]⟩)⟩]
def clsM (l : List Form) : List Bind := l.foldl lnk1 []
theorem clsM_snoc (l : List Form) (f : Form) : clsM (l ++ [f]) = lnk1 (clsM l) f := by unfold clsM; rw [List.foldl_append]; rfl
theorem lnk1_wf {c : List Bind} (h : wfC c) (f : Form) : wfC (lnk1 c f) := by
  unfold lnk1
  split
  · exact h
  · split
    · exact h
    · rename_i h1
      exact wfC_snoc h (rootM_root _ c rfl h _) (rootM_root _ c rfl h _) h1
theorem lnk1_len (c : List Bind) (f : Form) : (lnk1 c f).length ≤ c.length + 1 := by
  unfold lnk1
  split
  · omega
  · split
    · omega
    · simp
theorem cls_wf (l : List Form) : wfC (clsM l) ∧ (clsM l).length ≤ l.length := by
  unfold clsM
  suffices h : ∀ (l : List Form) (c : List Bind), wfC c → wfC (l.foldl lnk1 c) ∧ (l.foldl lnk1 c).length ≤ c.length + l.length by
    have := h l [] ⟨fun i j hi => by simp at hi, fun i j hi => by simp at hi⟩
    simpa using this
  intro l
  induction l with
  | nil => intro c h; exact ⟨h, by simp⟩
  | cons f l ih =>
    intro c h
    rw [List.foldl_cons]
    obtain ⟨h1, h2⟩ := ih _ (lnk1_wf h f)
    have := lnk1_len c f
    exact ⟨h1, by rw [List.length_cons]; omega⟩
def alikM (c : List Bind) (f g : Form) : Bool := decide (f.kind = 2) && decide (g.kind = 2) && decide (f.name = g.name) && decide (f.words.map (rootM c) = g.words.map (rootM c))
def conM (c : List Bind) (f : Form) : Bool := decide (f.kind = 4) && (decide ((sub0 f).kind = 1) || decide ((sub0 f).kind = 3) && decide (rootM c ((sub0 f).words.getD 0 ⟨[]⟩) = rootM c ((sub0 f).words.getD 1 ⟨[]⟩)))
end Go.Abs
