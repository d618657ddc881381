import Derived.Test.YtoicheicnbjfeaaDoorVS
set_option linter.unusedSimpArgs false
namespace Go.Abs
open Go

/-! ## what is said of groups -/
mutual
theorem ren_vok (g : Nat → Str × Nat) : ∀ (f : Form) (env : List Bind) (n : Nat), vok f → vok (ren g f env n).1
  | .mk k nm ws s, env, n, h => by
    rw [vok] at h
    rw [ren]
    split
    · rw [vok, List.length_map, rens_len]
      exact ⟨h.1, h.2.1, h.2.2.1, h.2.2.2.1, h.2.2.2.2.1, h.2.2.2.2.2.1, rens_vok g s _ _ h.2.2.2.2.2.2⟩
    · rw [vok, List.length_map, rens_len]
      exact ⟨h.1, h.2.1, h.2.2.1, h.2.2.2.1, h.2.2.2.2.1, h.2.2.2.2.2.1, rens_vok g s _ _ h.2.2.2.2.2.2⟩
theorem rens_vok (g : Nat → Str × Nat) : ∀ (fs : List Form) (env : List Bind) (n : Nat), voks fs → voks (rens g fs env n).1
  | [], env, n, _ => by rw [rens, voks]; trivial
  | f :: fs, env, n, h => by
    rw [voks] at h
    rw [rens, voks]
    exact ⟨ren_vok g f env n h.1, rens_vok g fs env _ h.2⟩
end
theorem canon_vok {f : Form} {env : List Bind} (h : vok f) : vok (canonM f env) := ren_vok _ f env 0 h
theorem fold_vok {k : Int} (hk : k = 5 ∨ k = 6) : ∀ (l : List Form) (f : Form), voks l → vok f → vok (l.foldl (fun a x => Form.mk k ⟨[]⟩ [] [a, x]) f)
  | [], f, _, h => h
  | x :: l, f, hl, h => by
    rw [voks] at hl
    rw [List.foldl_cons]
    refine fold_vok hk l _ hl.2 ?_
    rw [vok, voks, voks, voks]
    exact ⟨by omega, by omega, fun e => by omega, fun e => by omega, fun e => by omega, fun _ => rfl, h, hl.1, trivial⟩
theorem join_vok {k : Int} (hk : k = 5 ∨ k = 6) {l : List Form} (h : l ≠ []) (hl : ∀ f ∈ l, vok f) : vok (joinM k l) := by
  cases l with
  | nil => exact absurd rfl h
  | cons f l => exact fold_vok hk l f ((voks_mem l).2 fun x hx => hl x (List.mem_cons_of_mem _ hx)) (hl f (by simp))
theorem cst_names' {f : Form} (h : (checkM false f).code = 0) (bd : List Str) : ∀ x ∈ cst f bd, isName x = true := fun x hx => cst_allW f bd x (checkM_allW h) hx
/-- a valid formula with a name in the place of a word is valid -/
theorem put_valid {f : Form} {nm g : Str} (h : (checkM false f).code = 0) (hg : isName g = true) : checkM false (canonM f [⟨nm, g⟩]) = ⟨0, 0⟩ := by
  have hs := checkM_shp h
  have hf := checkM_fit h
  have hsz := checkM_size h
  have hl := checkM_fitsM h
  have h1 := cst_len f [] hf
  have h2 := usedM_len f
  have h3 := replM_len [⟨nm, g⟩] (usedM f)
  have e : ∀ w, lkp [⟨nm, g⟩] w = if nm = w then g else w := fun w => by
    have := lkp_snoc [] ⟨nm, g⟩ w
    rw [List.nil_append, lkp_nil] at this
    exact this
  refine checkM_ok (ren_shp _ f _ 0 hs) (ren_names (B := 10 ^ 20) (fun j hj => vnum_name hj) f [⟨nm, g⟩] [nm] 0 ?_ (fun w hw => ?_) (fun w hw => ?_) (cst_names' h [nm])) ?_
  · have h4 : ((replM [⟨nm, g⟩] (usedM f)).length + 1) * f.size ≤ 200001 * 200 := Nat.mul_le_mul (by omega) hsz
    omega
  · rw [List.mem_singleton.1 hw, e, if_pos rfl]; exact hg
  · rw [e, if_neg (fun h => hw (List.mem_singleton.2 h.symm))]
  · rw [canonM_fits]
    exact hl
theorem eachM_one (f : Form) (nm a : Str) : eachM f nm [a] = canonM f [⟨nm, a⟩] := rfl
/-- the formula for a group is true just if that of each member is; what is asked of a model is asked for each member, too -/
theorem each_one {m : Model} {f : Form} {nm : Str} {l : List Str} (h : (checkM false f).code = 0) (hn : ∀ a ∈ l, isName a = true) (hl : l ≠ []) :
    (valM m (canonM (eachM f nm l) []) [] = l.all fun a => valM m (canonM (eachM f nm [a]) []) []) ∧
    ((truthE m (canonM (eachM f nm l) [])).code = 0 → ∀ a ∈ l, (truthE m (canonM (eachM f nm [a]) [])).code = 0) ∧
    ∀ a ∈ l, fitsM (eachM f nm [a]) = true ∧ checkM false (canonM (eachM f nm [a]) []) = ⟨0, 0⟩ := by
  have hv := checkM_vok h
  have hm : ∀ a : Str, vok (canonM f [⟨nm, a⟩]) := fun a => canon_vok hv
  have hne : (l.map fun g => canonM f [(⟨nm, g⟩ : Bind)]) ≠ [] := by cases l <;> simp_all
  refine ⟨?_, fun ht a ha => ?_, fun a ha => ?_⟩
  · unfold eachM
    rw [canon_val (join_vok (.inl rfl) hne fun x hx => by obtain ⟨a, _, rfl⟩ := List.mem_map.1 hx; exact hm a), join_and hne, List.all_map]
    refine List.all_congr rfl fun a => ?_
    show valM m (canonM f [⟨nm, a⟩]) [] = valM m (canonM (canonM f [⟨nm, a⟩]) []) []
    rw [canon_val (hm a)]
  · rw [canon_truthE] at ht
    rw [canon_truthE, eachM_one]
    exact join_truthE (by decide) (by decide) hne ht _ (List.mem_map_of_mem ha)
  · have h2 := put_valid (nm := nm) h (hn a ha)
    rw [eachM_one]
    exact ⟨checkM_fitsM (by rw [h2]), canon_valid (by rw [h2])⟩

/-! the cumulative formula -/
theorem holds_valid {p x y : Str} (hp : isName p = true) (hx : isName x = true) (hy : isName y = true) : checkM false (holdsM p x y) = ⟨0, 0⟩ := by
  refine checkM_ok ?_ ?_ (by unfold fitsM holdsM; simp [Form.size, Form.sizes, Form.depth, Form.depths])
  · unfold holdsM
    rw [shp, shps]
    refine ⟨⟨rfl, rfl, fun _ _ => hp, fun h => ?_⟩, trivial⟩
    exact absurd h (by simp [named, form_kind])
  · unfold holdsM
    rw [allW, allWs]
    refine ⟨fun w hw => ?_, fun hq => absurd hq (by decide), trivial⟩
    simp only [List.mem_cons, List.not_mem_nil, or_false] at hw
    rcases hw with rfl | rfl
    · exact hx
    · exact hy
theorem holds_vok (p x y : Str) : vok (holdsM p x y) := by
  unfold holdsM
  rw [vok, voks]
  exact ⟨by decide, by decide, fun _ => by simp, fun e => absurd e (by decide), fun e => by omega, fun e => by omega, trivial⟩
/-- the cumulative formula is true just if each member of a group is related to some member of the other one -/
theorem cum_val {m : Model} {p : Str} {a b : List Str} (ha : a ≠ []) (hb : b ≠ []) :
    (valM m (canonM (cumM p a b) []) [] = ((a.all fun x => b.any fun y => valM m (holdsM p x y) []) && (b.all fun y => a.any fun x => valM m (holdsM p x y) []))) ∧
    ((truthE m (canonM (cumM p a b) [])).code = 0 → ∀ x ∈ a, ∀ y ∈ b, (truthE m (holdsM p x y)).code = 0) := by
  have h1 : ∀ x, (b.map fun y => holdsM p x y) ≠ [] := fun x => by cases b <;> simp_all
  have h2 : ∀ y, (a.map fun x => holdsM p x y) ≠ [] := fun y => by cases a <;> simp_all
  have h3 : (a.map (rowA p b) ++ b.map (rowB p a)) ≠ [] := by cases a <;> simp_all
  have v1 : ∀ x, vok (rowA p b x) := fun x => join_vok (.inr rfl) (h1 x) fun f hf => by obtain ⟨y, _, rfl⟩ := List.mem_map.1 hf; exact holds_vok p x y
  have v2 : ∀ y, vok (rowB p a y) := fun y => join_vok (.inr rfl) (h2 y) fun f hf => by obtain ⟨x, _, rfl⟩ := List.mem_map.1 hf; exact holds_vok p x y
  have v3 : ∀ f ∈ a.map (rowA p b) ++ b.map (rowB p a), vok f := fun f hf => by
    rcases List.mem_append.1 hf with hf | hf
    · obtain ⟨x, _, rfl⟩ := List.mem_map.1 hf; exact v1 x
    · obtain ⟨x, _, rfl⟩ := List.mem_map.1 hf; exact v2 x
  refine ⟨?_, fun ht x hx y hy => ?_⟩
  · unfold cumM
    rw [canon_val (join_vok (.inl rfl) h3 v3), join_and h3, List.all_append, List.all_map, List.all_map]
    congr 1
    · refine List.all_congr rfl fun x => ?_
      show valM m (joinM 6 (b.map fun y => holdsM p x y)) [] = _
      rw [join_or (h1 x), List.any_map]; rfl
    · refine List.all_congr rfl fun y => ?_
      show valM m (joinM 6 (a.map fun x => holdsM p x y)) [] = _
      rw [join_or (h2 y), List.any_map]; rfl
  · rw [canon_truthE] at ht
    have h4 := join_truthE (by decide) (by decide) h3 ht (rowA p b x) (List.mem_append_left _ (List.mem_map_of_mem hx))
    exact join_truthE (by decide) (by decide) (h1 x) h4 _ (List.mem_map_of_mem hy)
end Go.Abs
