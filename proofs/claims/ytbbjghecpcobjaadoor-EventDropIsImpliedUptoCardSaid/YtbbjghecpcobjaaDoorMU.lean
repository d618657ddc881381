import Derived.Test.YtbbjghecpcobjaaDoorMO
set_option linter.unusedSimpArgs false
namespace Go.Abs
open Go

/-! ## Drop undoes Modify -/
/-- a change that keeps what is no quantifier, and makes quantifiers of quantifiers -/
structure keeps (by' : Form → Form) : Prop where
  o : ∀ f : Form, f.kind ≠ 9 → by' f = f
  k : ∀ f : Form, f.kind = 9 → (by' f).kind = 9 ∧ (by' f).name = f.name
theorem drop_keeps (nm mod : Str) : keeps (dropBy nm mod) := by
  constructor
  · intro f h; unfold dropBy; rw [isE_other h]; rfl
  · intro f h; unfold dropBy; split
    · exact ⟨rfl, rfl⟩
    · exact ⟨h, rfl⟩
theorem mod_keeps (nm mod : Str) : keeps (modBy nm mod) := by
  constructor
  · intro f h; unfold modBy; rw [isE_other h]; rfl
  · intro f h; unfold modBy; split
    · exact ⟨rfl, rfl⟩
    · exact ⟨h, rfl⟩
theorem keeps_kind {by' : Form → Form} (h : keeps by') (f : Form) : (changeM by' f).kind = f.kind := by
  rw [changeM_eq]
  by_cases hk : f.kind = 9
  · exact (h.k (.mk f.kind f.name f.words (f.subs.map (changeM by'))) hk).1.trans hk.symm
  · rw [h.o (.mk f.kind f.name f.words (f.subs.map (changeM by'))) hk]; rfl
theorem keeps_other {by' : Form → Form} (h : keeps by') {f : Form} (hk : f.kind ≠ 9) : changeM by' f = .mk f.kind f.name f.words (f.subs.map (changeM by')) := by
  rw [changeM_eq, h.o (.mk f.kind f.name f.words (f.subs.map (changeM by'))) hk]
theorem keeps_mk {by' : Form → Form} (h : keeps by') {k : Int} {nm : Str} {ws : List Str} {s : List Form} (hk : k ≠ 9) : changeM by' (.mk k nm ws s) = .mk k nm ws (s.map (changeM by')) := keeps_other h (f := .mk k nm ws s) hk
theorem isE_mk {e : Str} {k : Int} {nm : Str} {ws : List Str} {s : List Form} (hk : k ≠ 9) : isE e (.mk k nm ws s) = false := isE_other (f := .mk k nm ws s) hk
theorem modBy_pos {e mod : Str} {f : Form} (h : isE e f = true) : modBy e mod f = .mk 9 f.name [] [.mk 5 ⟨[]⟩ [] [f.subs.getD 0 defF, modP mod f]] := by unfold modBy; rw [if_pos h]
theorem modBy_neg {e mod : Str} {f : Form} (h : ¬ isE e f = true) : modBy e mod f = f := by unfold modBy; rw [if_neg h]
theorem dropBy_pos {e mod : Str} {f : Form} (h : isE e f = true) : dropBy e mod f = .mk 9 f.name [] [joinM 5 (keepE mod f)] := by unfold dropBy; rw [if_pos h]
theorem dropBy_neg {e mod : Str} {f : Form} (h : ¬ isE e f = true) : dropBy e mod f = f := by unfold dropBy; rw [if_neg h]
theorem list_change {by' : Form → Form} (h : keeps by') : ∀ (n : Nat) (f : Form), f.size ≤ n → listM (changeM by' f) = (listM f).map (changeM by') := by
  intro n
  induction n with
  | zero => intro f h; have := f.size_pos; omega
  | succ n ih =>
    intro f hn
    by_cases hk : f.kind = 5 ∧ f.subs.length = 2
    · obtain ⟨a, b, hs⟩ := two_of hk.2
      have h1 := Form.size_sub (f := f) (g := a) (by rw [hs]; simp)
      have h2 := ih a (by omega)
      rw [listM_and hk.1 hs, keeps_other h (by omega), hs]
      rw [listM_and (f := .mk f.kind f.name f.words ([a, b].map (changeM by'))) (a := changeM by' a) (b := changeM by' b) hk.1 rfl, h2, List.map_append]
      rfl
    · rw [listM_one hk, listM_one (f := changeM by' f) ?_]
      · rfl
      · rw [keeps_kind h]
        intro h3
        refine hk ⟨h3.1, ?_⟩
        have h4 := h3.2
        rw [keeps_other h (by omega)] at h4
        simpa [form_subs] using h4
/-- the parts of a node whose parts are changed -/
theorem parts_change {by' : Form → Form} (h : keeps by') (k : Int) (nm : Str) (ws : List Str) (a : Form) (s : List Form) : partsE (.mk k nm ws ((a :: s).map (changeM by'))) = (partsE (.mk k nm ws (a :: s))).map (changeM by') := by
  unfold partsE
  exact list_change h a.size a (Nat.le_refl _)
theorem head_change {by' : Form → Form} (h : keeps by') (k : Int) (nm : Str) (ws : List Str) (a : Form) (s : List Form) : headE (.mk k nm ws ((a :: s).map (changeM by'))) = changeM by' (headE (.mk k nm ws (a :: s))) := by
  have h1 := parts_cons (.mk k nm ws (a :: s))
  have h2 := parts_cons (.mk k nm ws ((a :: s).map (changeM by')))
  rw [parts_change h, h1, List.map_cons] at h2
  exact (List.cons.inj h2).1.symm
theorem isE_change {by' : Form → Form} (h : keeps by') (e : Str) (k : Int) (nm : Str) (ws : List Str) (s : List Form) : isE e (.mk k nm ws (s.map (changeM by'))) = isE e (.mk k nm ws s) := by
  cases s with
  | nil => rfl
  | cons a s =>
    unfold isE okE
    rw [head_change h, keeps_kind h]
    by_cases hk : (headE (.mk k nm ws (a :: s))).kind = 2
    · rw [keeps_other h (by omega)]
      rfl
    · simp [hk]
/-! no event of the name has the modifier -/
mutual
def noMod (e mod : Str) : Form → Prop
  | .mk k nm ws s => (isE e (.mk k nm ws s) = true → ∀ x ∈ (partsE (.mk k nm ws s)).drop 1, x ≠ modP mod (.mk k nm ws s)) ∧ noMods e mod s
def noMods (e mod : Str) : List Form → Prop
  | [] => True
  | f :: fs => noMod e mod f ∧ noMods e mod fs
end
theorem noMods_mem {e mod : Str} : ∀ l : List Form, noMods e mod l ↔ ∀ f ∈ l, noMod e mod f
  | [] => by rw [noMods]; simp
  | f :: l => by rw [noMods, noMods_mem l]; simp
theorem noMod_sub {e mod : Str} {f : Form} (h : noMod e mod f) : ∀ g ∈ f.subs, noMod e mod g := by
  cases f; rw [noMod] at h; exact (noMods_mem _).1 h.2
theorem noMod_fold {e mod : Str} : ∀ (l : List Form) (f : Form), noMods e mod l → noMod e mod f → noMod e mod (l.foldl (fun a x => Form.mk 5 ⟨[]⟩ [] [a, x]) f)
  | [], f, _, h => h
  | x :: l, f, hl, h => by
    rw [noMods] at hl
    rw [List.foldl_cons]
    refine noMod_fold l _ hl.2 ?_
    rw [noMod, noMods, noMods, noMods]
    exact ⟨fun hi => absurd hi (by rw [isE_mk (by decide)]; decide), h, hl.1, trivial⟩
/-- what is left of an event -/
theorem drop_parts (mod : Str) (f : Form) (nm : Str) (ws : List Str) : partsE (.mk 9 nm ws [joinM 5 (keepE mod f)]) = keepE mod f := by
  unfold partsE
  exact list_join _ _ (listM_head5 _ _ (Nat.le_refl _))
theorem noMod_dropBy {e mod : Str} {f : Form} (h : noMods e mod f.subs) : noMod e mod (dropBy e mod f) := by
  unfold dropBy
  split
  · rename_i hi
    obtain ⟨a, s, hs⟩ := ok_sub (isE_ok hi).1
    have hp : ∀ x ∈ partsE f, noMod e mod x := by
      unfold partsE
      rw [hs]
      exact listM_all (fun f h => noMod_sub h) a.size a (Nat.le_refl _) ((noMods_mem _).1 h a (by rw [hs]; simp))
    rw [noMod, noMods, noMods]
    refine ⟨fun _ x hx => ?_, ?_, trivial⟩
    · rw [drop_parts] at hx
      have := (List.mem_filter.1 (show x ∈ ((partsE f).drop 1).filter _ from hx)).2
      simp only [Bool.not_eq_true', decide_eq_false_iff_not] at this
      exact this
    · exact noMod_fold _ _ ((noMods_mem _).2 fun x hx => hp x (keep_mem (List.mem_cons_of_mem _ hx))) (hp _ (keep_mem (mod := mod) (List.mem_cons_self ..)))
  · rename_i hi
    cases f with
    | mk k n w s => rw [noMod]; exact ⟨fun h2 => absurd h2 hi, h⟩
mutual
theorem noMod_drop {e mod : Str} : ∀ f : Form, noMod e mod (changeM (dropBy e mod) f)
  | .mk k nm ws s => by rw [changeM]; exact noMod_dropBy (noMods_drop s)
theorem noMods_drop {e mod : Str} : ∀ fs : List Form, noMods e mod (changeMs (dropBy e mod) fs)
  | [] => by rw [changeMs, noMods]; trivial
  | f :: fs => by rw [changeMs, noMods]; exact ⟨noMod_drop f, noMods_drop fs⟩
end
theorem change_mod {by' : Form → Form} (h : keeps by') (mod : Str) (f : Form) : changeM by' (modP mod f) = modP mod f := by
  unfold modP; rw [keeps_mk h (by decide)]; rfl
mutual
theorem drop_mod {e mod : Str} : ∀ f : Form, shp false f → noMod e mod f → changeM (dropBy e mod) (changeM (modBy e mod) f) = f
  | .mk k nm ws s, hs, hn => by
    have hsh := hs
    rw [shp] at hs
    rw [noMod] at hn
    have ih := drops_mod s hs.2 hn.2
    rw [changeMs_map, changeMs_map, List.map_map] at ih
    rw [changeM, changeMs_map]
    by_cases hi : isE e (.mk k nm ws s) = true
    · have hk : k = 9 := (okE_kind (isE_ok hi).1).1
      subst hk
      obtain ⟨rfl, a, rfl, ha⟩ := shp_nine hsh
      have iha : changeM (dropBy e mod) (changeM (modBy e mod) a) = a := by simpa using ih
      have hg : isE e (.mk 9 nm [] ([a].map (changeM (modBy e mod)))) = true := by rw [isE_change (mod_keeps e mod)]; exact hi
      have e1 : modBy e mod (.mk 9 nm [] ([a].map (changeM (modBy e mod)))) = .mk 9 nm [] [.mk 5 ⟨[]⟩ [] [changeM (modBy e mod) a, modP mod (.mk 9 nm [] [a])]] := by
        rw [modBy_pos hg]; rfl
      rw [e1, changeM, changeMs, changeMs]
      have e2 : changeM (dropBy e mod) (.mk 5 ⟨[]⟩ [] [changeM (modBy e mod) a, modP mod (.mk 9 nm [] [a])]) = .mk 5 ⟨[]⟩ [] [a, modP mod (.mk 9 nm [] [a])] := by
        rw [keeps_mk (drop_keeps e mod) (by decide)]
        simp only [List.map_cons, List.map_nil, iha, change_mod (drop_keeps e mod)]
      rw [e2]
      have hp : partsE (.mk 9 nm [] [.mk 5 ⟨[]⟩ [] [a, modP mod (.mk 9 nm [] [a])]]) = listM a ++ [modP mod (.mk 9 nm [] [a])] := by
        unfold partsE
        exact listM_and (f := .mk 5 ⟨[]⟩ [] [a, modP mod (.mk 9 nm [] [a])]) rfl rfl
      have hp0 : partsE (.mk 9 nm [] [a]) = listM a := rfl
      have hh : headE (.mk 9 nm [] [.mk 5 ⟨[]⟩ [] [a, modP mod (.mk 9 nm [] [a])]]) = headE (.mk 9 nm [] [a]) := by
        unfold headE
        rw [hp, hp0, listM_cons a]; rfl
      have hi2 : isE e (.mk 9 nm [] [.mk 5 ⟨[]⟩ [] [a, modP mod (.mk 9 nm [] [a])]]) = true := by
        rw [← hi]
        unfold isE okE
        rw [hh]; rfl
      have hkp : keepE mod (.mk 9 nm [] [.mk 5 ⟨[]⟩ [] [a, modP mod (.mk 9 nm [] [a])]]) = listM a := by
        unfold keepE
        rw [hh, hp]
        have h3 : (listM a ++ [modP mod (.mk 9 nm [] [a])]).drop 1 = (listM a).drop 1 ++ [modP mod (.mk 9 nm [] [a])] := by
          rw [listM_cons a]; rfl
        rw [h3, List.filter_append, List.filter_eq_self.2 fun x hx => ?_]
        · have h4 : modP mod (.mk 9 nm [] [.mk 5 ⟨[]⟩ [] [a, modP mod (.mk 9 nm [] [a])]]) = modP mod (.mk 9 nm [] [a]) := rfl
          rw [h4]
          simp only [List.filter_cons, decide_true, Bool.not_true, Bool.false_eq_true, if_false, List.filter_nil, List.append_nil]
          exact (parts_cons (.mk 9 nm [] [a])).symm
        · have := hn.1 hi x hx
          simp only [Bool.not_eq_true', decide_eq_false_iff_not]
          exact this
      rw [dropBy_pos hi2, hkp, join_list a.size a (Nat.le_refl _) ha]
      rfl
    · have hg : ¬ isE e (.mk k nm ws (s.map (changeM (modBy e mod)))) = true := by rw [isE_change (mod_keeps e mod)]; exact hi
      have e1 : modBy e mod (.mk k nm ws (s.map (changeM (modBy e mod)))) = .mk k nm ws (s.map (changeM (modBy e mod))) := modBy_neg hg
      rw [e1, changeM, changeMs_map, List.map_map, ih, dropBy_neg hi]
theorem drops_mod {e mod : Str} : ∀ fs : List Form, shps false fs → noMods e mod fs → changeMs (dropBy e mod) (changeMs (modBy e mod) fs) = fs
  | [], _, _ => by rw [changeMs, changeMs]
  | f :: fs, hs, hn => by
    rw [shps] at hs
    rw [noMods] at hn
    rw [changeMs, changeMs, drop_mod f hs.1 hn.1, drops_mod fs hs.2 hn.2]
end

/-! formulas that differ in bound names alone -/
/-! names -/
theorem dropBy_allW {p : Str → Prop} {e mod : Str} {f : Form} (hw : wfE f) (h : allW p f) : allW p (dropBy e mod f) := by
  unfold dropBy
  split
  · rename_i hi
    have hk := (okE_kind (isE_ok hi).1).1
    obtain ⟨a, ha⟩ := one_of ((wfE_eq.1 hw).2.1 hk)
    have hl := listM_allW (allW_sub h a (by rw [ha]; simp))
    have hp : partsE f = listM a := by unfold partsE; rw [ha]; rfl
    have hn : p f.name := by
      cases f with
      | mk k n w s => rw [allW] at h; exact h.2.1 (.inr hk)
    rw [allW, allWs, allWs]
    exact ⟨by simp, fun _ => hn, joinM_allW _ 5 (by decide) ((allWs_mem _ _).2 fun x hx => hl x (by rw [← hp]; exact keep_mem hx)), trivial⟩
  · exact h
theorem drop_fits {e mod : Str} {f : Form} (h : fitsM f = true) : fitsM (changeM (dropBy e mod) f) = true := by
  have h1 := of_decide_eq_true (show decide (f.size ≤ 200 ∧ f.depth ≤ 40) = true from h)
  have h2 := changeM_size (c := 0) (fun f => dropBy_size e mod f) f
  have h3 := changeM_depth (fun f => dropBy_depth e mod f) f
  unfold fitsM
  exact decide_eq_true ⟨by omega, by omega⟩
/-- the constants of a changed formula are names -/
theorem cst_names {f : Form} (h : allW (fun w => isName w = true) f) : ∀ x ∈ cst f [], isName x = true := fun x hx => cst_allW f [] x h hx
/-- what Drop makes is valid, and it is never too large -/
theorem drop_valid {e mod : Str} {f : Form} (h : (checkM false f).code = 0) : fitsM (changeM (dropBy e mod) f) = true ∧ checkM false (canonM (changeM (dropBy e mod) f) []) = ⟨0, 0⟩ := by
  have hf := drop_fits (e := e) (mod := mod) (checkM_fitsM h)
  exact ⟨hf, canon_ok (changeM_shp (fun _ h => dropBy_shp h) f (checkM_shp h)) (changeM_fit (fun _ h => dropBy_fit h) f (checkM_fit h)) hf (cst_names (changeM_allW (fun _ hw h => dropBy_allW hw h) (fun _ h => dropBy_wfE h) f (checkM_wfE h) (checkM_allW h)))⟩
end Go.Abs
