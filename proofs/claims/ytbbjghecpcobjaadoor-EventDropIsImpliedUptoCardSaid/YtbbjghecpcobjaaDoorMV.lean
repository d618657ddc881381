import Derived.Test.YtbbjghecpcobjaaDoorVP
import Derived.Test.YtbbjghecpcobjaaDoorMU
import Derived.Test.YtbbjghecpcobjaaDoorZQ89QC1
set_option linter.unusedSimpArgs false
namespace Go.Abs
open Go

/-! ## what an event formula says without a modifier -/
theorem vok_sub {f : Form} (h : vok f) : ∀ g ∈ f.subs, vok g := by
  cases f with
  | mk k nm ws s => rw [vok] at h; exact (voks_mem _).1 h.2.2.2.2.2.2
theorem listM_vok {f : Form} (h : vok f) : ∀ g ∈ listM f, vok g := listM_all (fun _ h => vok_sub h) f.size f (Nat.le_refl _) h
theorem change_simple {by' : Form → Form} (hk : keeps by') : ∀ (n : Nat) (a : Form), a.size ≤ n → shp false a → (∀ x ∈ listM a, x.kind = 2) → changeM by' a = a := by
  have h2 : ∀ a : Form, shp false a → a.kind = 2 → changeM by' a = a := fun a h e => by
    obtain ⟨k, nm, ws, s⟩ := a
    obtain rfl : k = 2 := e
    obtain rfl := shp_two h
    rw [keeps_mk hk (by decide)]; rfl
  intro n
  induction n with
  | zero => intro a h; have := a.size_pos; omega
  | succ n ih =>
    intro a hn h hp
    by_cases h5 : a.kind = 5 ∧ a.subs.length = 2
    · obtain ⟨b, c, hs⟩ := two_of h5.2
      have hl := listM_and h5.1 hs
      have hb := Form.size_sub (f := a) (g := b) (by rw [hs]; simp)
      have e1 := ih b (by omega) (shp_sub h b (by rw [hs]; simp)) fun x hx => hp x (by rw [hl]; exact List.mem_append_left _ hx)
      have e2 := h2 c (shp_sub h c (by rw [hs]; simp)) (hp c (by rw [hl]; simp))
      obtain ⟨k, nm, ws, s⟩ := a
      simp only [form_kind, form_subs] at h5 hs
      obtain ⟨rfl, _⟩ := h5
      subst hs
      rw [keeps_mk hk (by decide), List.map_cons, List.map_cons, List.map_nil, e1, e2]
    · exact h2 a h (hp a (by rw [listM_one h5]; simp))
/-- a formula of one word bound, with less parts -/
theorem less_says {m : Model} {x : Str} {a : Form} {l : List Form} (hs : shp false a) (hv : vok a) (hl : l ≠ []) (hsub : ∀ y ∈ l, y ∈ listM a) :
    (valM m (.mk 9 x [] [a]) [] = true → valM m (.mk 9 x [] [joinM 5 l]) [] = true) ∧ ((truthE m (.mk 9 x [] [a])).code = 0 → (truthE m (.mk 9 x [] [joinM 5 l])).code = 0) ∧ vok (.mk 9 x [] [joinM 5 l]) := by
  have ha := join_list a.size a (Nat.le_refl _) hs
  have hne := listM_ne a
  refine ⟨fun h => ?_, fun h => ?_, ?_⟩
  · rw [val_some, List.any_eq_true] at h ⊢
    obtain ⟨v, h1, h2⟩ := h
    refine ⟨v, h1, ?_⟩
    rw [← ha, join_and hne, List.all_eq_true] at h2
    rw [join_and hl, List.all_eq_true]
    exact fun y hy => h2 y (hsub y hy)
  · rw [truthE_ok, lacks_ok] at h ⊢
    have hq : isQ 9 := .inr rfl
    rw [nestM, nestMs, nestMs, if_pos hq, cst, if_pos hq, csts, csts, hasR, hasRs, hasRs] at h ⊢
    rw [← ha, join_nest (by decide) hne, join_cst (by decide) hne, join_hasR (by decide) hne] at h
    rw [join_nest (by decide) hl, join_cst (by decide) hl, join_hasR (by decide) hl]
    obtain ⟨h1, h2, h3⟩ := h
    have hn : nestMs l ≤ nestMs (listM a) := by
      clear h1 h2 h3 hl
      induction l with
      | nil => rw [nestMs]; omega
      | cons y l ih =>
        rw [nestMs]
        have := nestMs_mem (hsub y (by simp))
        have := ih fun z hz => hsub z (List.mem_cons_of_mem _ hz)
        omega
    refine ⟨by omega, fun c hc => ?_, ?_⟩
    · rcases List.mem_append.1 hc with hc | hc
      · simp at hc
      · refine h2 c (List.mem_append_right _ ?_)
        rw [List.append_nil] at hc ⊢
        obtain ⟨y, hy, hc⟩ := csts_mem.1 hc
        exact csts_mem.2 ⟨y, hsub y hy, hc⟩
    · simp only [Bool.and_eq_true, Bool.and_true, Bool.or_eq_true] at h3 ⊢
      refine ⟨.inl (by decide), ?_⟩
      exact hasRs_mem.2 fun y hy => hasRs_mem.1 h3.2 y (hsub y hy)
  · rw [vok, voks, voks]
    exact ⟨by decide, by decide, fun e => absurd e (by decide), fun e => absurd e (by decide), fun _ => rfl, fun e => by omega, join_vok (.inl rfl) hl fun y hy => listM_vok hv y (hsub y hy), trivial⟩
/-- an event formula implies the one without a modifier -/
theorem drop_implied {m : Model} {f : Form} {nm mod : Str} (hc : (checkM false f).code = 0) (hE : isE nm f = true) (hp : ∀ x ∈ partsE f, x.kind = 2) (ht : (truthE m f).code = 0) (hv : valM m f [] = true) :
    fitsM (changeM (dropBy nm mod) f) = true ∧ (checkM false (canonM (changeM (dropBy nm mod) f) [])).code = 0 ∧ (truthE m (canonM (changeM (dropBy nm mod) f) [])).code = 0 ∧ valM m (canonM (changeM (dropBy nm mod) f) []) [] = true := by
  have hd := drop_valid (e := nm) (mod := mod) hc
  refine ⟨hd.1, by rw [hd.2], ?_⟩
  have hk := (okE_kind (isE_ok hE).1).1
  have hs := checkM_shp hc
  have hvk := checkM_vok hc
  obtain ⟨k, x, ws, s⟩ := f
  obtain rfl : k = 9 := hk
  obtain ⟨rfl, a, rfl, hsa⟩ := shp_nine hs
  have e1 : changeM (dropBy nm mod) a = a := change_simple (drop_keeps nm mod) a.size a (Nat.le_refl _) hsa hp
  have e2 : changeM (dropBy nm mod) (.mk 9 x [] [a]) = .mk 9 x [] [joinM 5 (keepE mod (.mk 9 x [] [a]))] := by
    rw [changeM_eq]
    show dropBy nm mod (.mk 9 x [] [changeM (dropBy nm mod) a]) = _
    rw [e1, dropBy_pos hE]; rfl
  obtain ⟨g1, g2, g3⟩ := less_says (m := m) (x := x) (l := keepE mod (.mk 9 x [] [a])) hsa (vok_sub hvk a (by simp [form_subs])) (by unfold keepE; exact List.cons_ne_nil _ _) fun y hy => keep_mem hy
  rw [canon_truthE, canon_val (by rw [e2]; exact g3), e2]
  exact ⟨g2 ht, g1 hv⟩
end Go.Abs
