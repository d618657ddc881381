import Derived.Test.YtdlioodgfopmfaaDoorY13
import Derived.Test.YtdlioodgfopmfaaDoorY14
set_option linter.unusedSimpArgs false
namespace Go.Abs
open Go

def satE (m : Model) (ev : List Const) (l : List Form) : Prop := ∀ f ∈ l, valM m f ev = true
def evIn (m : Model) (ev : List Const) : Prop := ∀ w, wordV m ev w ∈ indiv m
mutual
theorem cst_bdZ : ∀ (f : Form) (bd bd' : List Str) (x : Str), x ∈ cst f bd → x ∉ bd' → x ∈ cst f bd'
  | .mk k nm ws s, bd, bd', x, h, hx => by
    rw [cst] at h ⊢
    rcases List.mem_append.1 h with h | h
    · exact List.mem_append_left _ (List.mem_filter.2 ⟨(List.mem_filter.1 h).1, by simpa using hx⟩)
    · refine List.mem_append_right _ (csts_bdZ s _ _ x h ?_)
      split
      · rename_i hq
        rw [if_pos hq] at h
        have h2 := csts_notin s _ x h
        simp only [List.mem_append, not_or] at h2 ⊢
        exact ⟨hx, h2.2⟩
      · exact hx
theorem csts_bdZ : ∀ (fs : List Form) (bd bd' : List Str) (x : Str), x ∈ csts fs bd → x ∉ bd' → x ∈ csts fs bd'
  | [], bd, bd', x, h, hx => by rw [csts] at h; cases h
  | f :: fs, bd, bd', x, h, hx => by
    rw [csts] at h ⊢
    rcases List.mem_append.1 h with h | h
    · exact List.mem_append_left _ (cst_bdZ f _ _ x h hx)
    · exact List.mem_append_right _ (csts_bdZ fs _ _ x h hx)
end
theorem used_body {q a : Form} {w : Str} (hk : q.kind = 8 ∨ q.kind = 9) (hq : q.subs = [a]) (hw : w ∈ usedM a) (hn : w ≠ q.name) : w ∈ usedM q := by
  rw [mem_usedM] at hw ⊢
  cases q with
  | mk k nm ws s =>
    rw [form_kind] at hk; rw [form_subs] at hq; rw [form_name] at hn; subst hq
    rw [cst, if_pos (show isQ k from hk), csts, csts, List.append_nil]
    exact List.mem_append_right _ (cst_bdZ a _ _ w hw (by simpa using hn))
theorem used_notZ {f a : Form} {w : Str} (hk : f.kind = 4) (hq : f.subs = [a]) (hw : w ∈ usedM a) : w ∈ usedM f := by
  rw [mem_usedM] at hw ⊢
  cases f with
  | mk k nm ws s =>
    rw [form_kind] at hk; rw [form_subs] at hq; subst hq hk
    rw [cst, if_neg (show ¬ isQ 4 by decide), csts, csts, List.append_nil]
    exact List.mem_append_right _ hw
theorem parts_used {f : Form} (h : brF f) (hs : (partsM f).1 = 3 ∨ (partsM f).1 = 4) {a : Form} (ha : (partsM f).2.2.1.subs = [a]) {w : Str} (hw : w ∈ usedM a) (hn : w ≠ (partsM f).2.2.1.name) : w ∈ usedM f := by
  by_cases k4 : f.kind = 4
  · obtain ⟨g, hg, s0, hbg⟩ := br_one h (.inl k4)
    have e : g.kind = 8 ∨ g.kind = 9 := by
      rw [partsM_not k4 s0 rfl] at hs
      repeat' (first | omega | split at hs)
    have e2 : (partsM f).2.2.1 = g := by
      unfold partsM
      rw [s0]
      rcases e with j | j <;> (rw [k4, j]; rfl)
    rw [e2] at ha hn
    exact used_notZ k4 hg (used_body e ha hw hn)
  · have e : f.kind = 8 ∨ f.kind = 9 := by
      rw [partsM_kind k4 rfl] at hs
      repeat' (first | omega | split at hs)
    have e2 : (partsM f).2.2.1 = f := by
      unfold partsM
      rcases e with j | j <;> (rw [j]; rfl)
    rw [e2] at ha hn
    exact used_body e ha hw hn
section
variable {m : Model} {ev ev' : List Const}
theorem cvalE {f : Form} (hv : vok f) (h : ∀ w ∈ usedM f, wordV m ev w = wordV m ev' w) : valM m (canonM f []) ev' = valM m f ev := by
  refine ren_val m (U := usedM f) f [] [] 0 ev ev' hv (fun w hw => ?_) fun x hx => (mem_usedM f x).2 hx
  rw [lkp_nil]
  rcases hw with h1 | h1
  · simp at h1
  · exact ⟨h w h1, .inl h1⟩
theorem cnnE {f : Form} (hv : vok f) : valM m (cnn f) ev = valM m f ev := cvalE hv fun _ _ => rfl
theorem agreeE {f : Form} (hv : vok f) (h : ∀ w ∈ usedM f, wordV m ev w = wordV m ev' w) : valM m f ev' = valM m f ev :=
  (cvalE hv fun _ _ => rfl).symm.trans (cvalE hv h)
theorem freshE {f : Form} {nm : Str} {d : Int} (hv : vok f) (h : nm ∉ usedM f) : valM m f (ev ++ [(⟨nm, d⟩ : Const)]) = valM m f ev :=
  (cvalE hv fun _ _ => rfl).symm.trans (cvalE hv fun w hw => by rw [wordV_snoc, if_neg (by rintro rfl; exact h hw)])
theorem putE {f : Form} {nm g : Str} (hv : vok f) : valM m (canonM f [⟨nm, g⟩]) ev = valM m f (ev ++ [(⟨nm, wordV m ev g⟩ : Const)]) := by
  refine ren_val m (U := usedM f) f [⟨nm, g⟩] [] 0 (ev ++ [(⟨nm, wordV m ev g⟩ : Const)]) ev hv (fun w hw => ?_) fun x hx => (mem_usedM f x).2 hx
  have e : lkp [⟨nm, g⟩] w = if nm = w then g else w := by
    have := lkp_snoc [] ⟨nm, g⟩ w
    rw [List.nil_append, lkp_nil] at this
    exact this
  rw [e, wordV_snoc]
  rcases hw with h | h
  · simp at h
  refine ⟨?_, .inl ?_⟩
  · by_cases h : nm = w
    · rw [if_pos h, if_pos h]
    · rw [if_neg h, if_neg h]
  · rw [repl_look (by simp), ← e]
    exact List.mem_map_of_mem h
theorem vok_notZ {f : Form} (h : vok f) : vok (notF f) := by
  unfold notF
  rw [vok, voks, voks]
  exact ⟨by decide, by decide, fun e => absurd e (by decide), fun e => absurd e (by decide), fun _ => rfl, fun e => by omega, h, trivial⟩
theorem val4 {f a : Form} (hk : f.kind = 4) (hs : f.subs = [a]) : valM m f ev = !valM m a ev := by
  cases f with
  | mk k nm ws s =>
    rw [form_kind] at hk; rw [form_subs] at hs; subst hk hs
    rw [valM, valMs_map]; rfl
theorem val5 {f a b : Form} (hk : f.kind = 5) (hs : f.subs = [a, b]) : valM m f ev = (valM m a ev && valM m b ev) := by
  cases f with
  | mk k nm ws s =>
    rw [form_kind] at hk; rw [form_subs] at hs; subst hk hs
    rw [valM, valMs_map]; rfl
theorem val6 {f a b : Form} (hk : f.kind = 6) (hs : f.subs = [a, b]) : valM m f ev = (valM m a ev || valM m b ev) := by
  cases f with
  | mk k nm ws s =>
    rw [form_kind] at hk; rw [form_subs] at hs; subst hk hs
    rw [valM, valMs_map]; rfl
theorem val7 {f a b : Form} (hk : f.kind = 7) (hs : f.subs = [a, b]) : valM m f ev = (!valM m a ev || valM m b ev) := by
  cases f with
  | mk k nm ws s =>
    rw [form_kind] at hk; rw [form_subs] at hs; subst hk hs
    rw [valM, valMs_map]; rfl
theorem val8 {f a : Form} (hk : f.kind = 8) (hs : f.subs = [a]) : valM m f ev = (indiv m).all fun v => valM m a (ev ++ [(⟨f.name, v⟩ : Const)]) := by
  cases f with
  | mk k nm ws s =>
    rw [form_kind] at hk; rw [form_subs] at hs; subst hk hs
    rw [valM]
    simp only [valMs_map]
    rfl
theorem val9 {f a : Form} (hk : f.kind = 9) (hs : f.subs = [a]) : valM m f ev = (indiv m).any fun v => valM m a (ev ++ [(⟨f.name, v⟩ : Const)]) := by
  cases f with
  | mk k nm ws s =>
    rw [form_kind] at hk; rw [form_subs] at hs; subst hk hs
    rw [valM]
    simp only [valMs_map]
    rfl
theorem val1 {f : Form} (hk : f.kind = 1) : valM m f ev = true := by
  cases f with
  | mk k nm ws s => rw [form_kind] at hk; subst hk; rw [valM]; rfl
theorem val2 {f : Form} (hk : f.kind = 2) : valM m f ev = decide (f.words.map (wordV m ev) ∈ tupsV m f.name f.words.length) := by
  cases f with
  | mk k nm ws s => rw [form_kind] at hk; subst hk; rw [valM]; rfl
theorem val3 {f : Form} (hk : f.kind = 3) : valM m f ev = decide (wordV m ev (f.words.getD 0 ⟨[]⟩) = wordV m ev (f.words.getD 1 ⟨[]⟩)) := by
  cases f with
  | mk k nm ws s => rw [form_kind] at hk; subst hk; rw [valM]; rfl
theorem nggE {f : Form} (hv : vok f) : valM m (ngg f) ev = !valM m f ev := by
  unfold ngg
  rw [cvalE (ev := ev) (vok_notZ hv) fun _ _ => rfl]
  exact val4 rfl rfl
def expE (m : Model) (ev : List Const) (P : Int × List Form × Form × Bool) : Prop :=
  (P.1 = 1 → ∀ g ∈ P.2.1, valM m g ev = true) ∧ (P.1 = 2 → ∃ g ∈ P.2.1, valM m g ev = true) ∧
  (P.1 = 3 → ∃ a, P.2.2.1.subs = [a] ∧ brF a ∧ ∀ v ∈ indiv m, valM m a (ev ++ [(⟨P.2.2.1.name, v⟩ : Const)]) = !P.2.2.2) ∧
  (P.1 = 4 → ∃ a, P.2.2.1.subs = [a] ∧ brF a ∧ ∃ v ∈ indiv m, valM m a (ev ++ [(⟨P.2.2.1.name, v⟩ : Const)]) = !P.2.2.2)
theorem exp1 {l : List Form} {q : Form} {t : Bool} (h : ∀ g ∈ l, valM m g ev = true) : expE m ev (1, l, q, t) := ⟨fun _ => h, fun e => absurd (show ((1 : Int) = 2) from e) (by decide), fun e => absurd (show ((1 : Int) = 3) from e) (by decide), fun e => absurd (show ((1 : Int) = 4) from e) (by decide)⟩
theorem exp2 {l : List Form} {q : Form} {t : Bool} (h : ∃ g ∈ l, valM m g ev = true) : expE m ev (2, l, q, t) := ⟨fun e => absurd (show ((2 : Int) = 1) from e) (by decide), fun _ => h, fun e => absurd (show ((2 : Int) = 3) from e) (by decide), fun e => absurd (show ((2 : Int) = 4) from e) (by decide)⟩
theorem exp3 {l : List Form} {q a : Form} {t : Bool} (ha : q.subs = [a]) (hb : brF a) (h : ∀ v ∈ indiv m, valM m a (ev ++ [(⟨q.name, v⟩ : Const)]) = !t) : expE m ev (3, l, q, t) := ⟨fun e => absurd (show ((3 : Int) = 1) from e) (by decide), fun e => absurd (show ((3 : Int) = 2) from e) (by decide), fun _ => ⟨a, ha, hb, h⟩, fun e => absurd (show ((3 : Int) = 4) from e) (by decide)⟩
theorem exp4 {l : List Form} {q a : Form} {t : Bool} (ha : q.subs = [a]) (hb : brF a) (h : ∃ v ∈ indiv m, valM m a (ev ++ [(⟨q.name, v⟩ : Const)]) = !t) : expE m ev (4, l, q, t) := ⟨fun e => absurd (show ((4 : Int) = 1) from e) (by decide), fun e => absurd (show ((4 : Int) = 2) from e) (by decide), fun e => absurd (show ((4 : Int) = 3) from e) (by decide), fun _ => ⟨a, ha, hb, h⟩⟩
theorem exp0 {l : List Form} {q : Form} {t : Bool} : expE m ev (0, l, q, t) := ⟨fun e => absurd (show ((0 : Int) = 1) from e) (by decide), fun e => absurd (show ((0 : Int) = 2) from e) (by decide), fun e => absurd (show ((0 : Int) = 3) from e) (by decide), fun e => absurd (show ((0 : Int) = 4) from e) (by decide)⟩
theorem parts_exp {f : Form} (h : brF f) (hv : valM m f ev = true) : expE m ev (partsM f) := by
  by_cases k5 : f.kind = 5
  · obtain ⟨a, b, hab, s0, s1, ha, hb⟩ := br_two h (by omega)
    have e : partsM f = (1, [cnn a, cnn b], zeroF, false) := by unfold partsM; rw [s0, s1, k5]; rfl
    rw [e]
    rw [val5 k5 hab, Bool.and_eq_true] at hv
    refine exp1 fun g hg => ?_
    simp only [List.mem_cons, List.not_mem_nil, or_false] at hg
    rcases hg with rfl | rfl
    · rw [cnnE ha.v]; exact hv.1
    · rw [cnnE hb.v]; exact hv.2
  by_cases k6 : f.kind = 6
  · obtain ⟨a, b, hab, s0, s1, ha, hb⟩ := br_two h (by omega)
    have e : partsM f = (2, [cnn a, cnn b], zeroF, false) := by unfold partsM; rw [s0, s1, k6]; rfl
    rw [e]
    rw [val6 k6 hab, Bool.or_eq_true] at hv
    refine exp2 ?_
    rcases hv with hv | hv
    · exact ⟨cnn a, by simp, by rw [cnnE ha.v]; exact hv⟩
    · exact ⟨cnn b, by simp, by rw [cnnE hb.v]; exact hv⟩
  by_cases k7 : f.kind = 7
  · obtain ⟨a, b, hab, s0, s1, ha, hb⟩ := br_two h (by omega)
    have e : partsM f = (2, [ngg a, cnn b], zeroF, false) := by unfold partsM; rw [s0, s1, k7]; rfl
    rw [e]
    rw [val7 k7 hab, Bool.or_eq_true] at hv
    refine exp2 ?_
    rcases hv with hv | hv
    · exact ⟨ngg a, by simp, by rw [nggE ha.v]; exact hv⟩
    · exact ⟨cnn b, by simp, by rw [cnnE hb.v]; exact hv⟩
  by_cases k8 : f.kind = 8
  · obtain ⟨a, ha, s0, hb⟩ := br_one h (by omega)
    have e : partsM f = (3, [], f, false) := by unfold partsM; rw [k8]; rfl
    rw [e]
    rw [val8 k8 ha, List.all_eq_true] at hv
    exact exp3 ha hb fun v hv2 => by rw [hv v hv2]; rfl
  by_cases k9 : f.kind = 9
  · obtain ⟨a, ha, s0, hb⟩ := br_one h (by omega)
    have e : partsM f = (4, [], f, false) := by unfold partsM; rw [k9]; rfl
    rw [e]
    rw [val9 k9 ha, List.any_eq_true] at hv
    obtain ⟨v, h1, h2⟩ := hv
    exact exp4 ha hb ⟨v, h1, by rw [h2]; rfl⟩
  by_cases k4 : f.kind = 4
  · obtain ⟨g, hg, s0, hbg⟩ := br_one h (.inl k4)
    rw [val4 k4 hg, Bool.not_eq_true'] at hv
    by_cases j4 : g.kind = 4
    · obtain ⟨a, ha, t0, hb⟩ := br_one hbg (.inl j4)
      have e : partsM f = (1, [cnn a], zeroF, false) := by unfold partsM; rw [s0, t0, k4, j4]; rfl
      rw [e]
      rw [val4 j4 ha] at hv
      refine exp1 fun x hx => ?_
      rw [List.mem_singleton.1 hx, cnnE hb.v]
      simpa using hv
    by_cases j5 : g.kind = 5
    · obtain ⟨a, b, hab, t0, t1, ha, hb⟩ := br_two hbg (by omega)
      have e : partsM f = (2, [ngg a, ngg b], zeroF, false) := by unfold partsM; rw [s0, t0, t1, k4, j5]; rfl
      rw [e]
      rw [val5 j5 hab, Bool.and_eq_false_iff] at hv
      refine exp2 ?_
      rcases hv with hv | hv
      · exact ⟨ngg a, by simp, by rw [nggE ha.v, hv]; rfl⟩
      · exact ⟨ngg b, by simp, by rw [nggE hb.v, hv]; rfl⟩
    by_cases j6 : g.kind = 6
    · obtain ⟨a, b, hab, t0, t1, ha, hb⟩ := br_two hbg (by omega)
      have e : partsM f = (1, [ngg a, ngg b], zeroF, false) := by unfold partsM; rw [s0, t0, t1, k4, j6]; rfl
      rw [e]
      rw [val6 j6 hab, Bool.or_eq_false_iff] at hv
      refine exp1 fun x hx => ?_
      simp only [List.mem_cons, List.not_mem_nil, or_false] at hx
      rcases hx with rfl | rfl
      · rw [nggE ha.v, hv.1]; rfl
      · rw [nggE hb.v, hv.2]; rfl
    by_cases j7 : g.kind = 7
    · obtain ⟨a, b, hab, t0, t1, ha, hb⟩ := br_two hbg (by omega)
      have e : partsM f = (1, [cnn a, ngg b], zeroF, false) := by unfold partsM; rw [s0, t0, t1, k4, j7]; rfl
      rw [e]
      rw [val7 j7 hab, Bool.or_eq_false_iff] at hv
      refine exp1 fun x hx => ?_
      simp only [List.mem_cons, List.not_mem_nil, or_false] at hx
      rcases hx with rfl | rfl
      · rw [cnnE ha.v]; simpa using hv.1
      · rw [nggE hb.v, hv.2]; rfl
    by_cases j8 : g.kind = 8
    · obtain ⟨a, ha, t0, hb⟩ := br_one hbg (by omega)
      have e : partsM f = (4, [], g, true) := by unfold partsM; rw [s0, k4, j8]; rfl
      rw [e]
      rw [val8 j8 ha, List.all_eq_false] at hv
      obtain ⟨v, h1, h2⟩ := hv
      exact exp4 ha hb ⟨v, h1, by simpa using h2⟩
    by_cases j9 : g.kind = 9
    · obtain ⟨a, ha, t0, hb⟩ := br_one hbg (by omega)
      have e : partsM f = (3, [], g, true) := by unfold partsM; rw [s0, k4, j9]; rfl
      rw [e]
      rw [val9 j9 ha, List.any_eq_false] at hv
      exact exp3 ha hb fun v hv2 => by simpa using hv v hv2
    have e : partsM f = (0, [], zeroF, false) := by
      unfold partsM
      rw [if_neg k5, if_neg k6, if_neg k7, if_neg k8, if_neg k9, if_pos k4, s0, if_neg j4, if_neg j5, if_neg j6, if_neg j7, if_neg j8, if_neg j9]
    rw [e]; exact exp0
  · have e : partsM f = (0, [], zeroF, false) := by
      unfold partsM
      rw [if_neg k5, if_neg k6, if_neg k7, if_neg k8, if_neg k9, if_neg k4]
    rw [e]; exact exp0
theorem instE {q a : Form} {t : Bool} {w : Str} (hq : q.subs = [a]) (ha : brF a) : valM m (instG q t w) ev = (valM m a (ev ++ [(⟨q.name, wordV m ev w⟩ : Const)]) != t) := by
  have e : bodyG q w = canonM a [⟨q.name, w⟩] := by unfold bodyG sub0; rw [hq]; rfl
  unfold instG
  rw [e]
  cases t with
  | false =>
    simp only [Bool.false_eq_true, if_false]
    rw [putE ha.v]
    cases valM m a (ev ++ [(⟨q.name, wordV m ev w⟩ : Const)]) <;> rfl
  | true =>
    simp only [if_true]
    rw [nggE (canon_vok ha.v), putE ha.v]
    cases valM m a (ev ++ [(⟨q.name, wordV m ev w⟩ : Const)]) <;> rfl
theorem root_val0 : ∀ (l : List Form) (c : List Bind), (∀ w, wordV m ev (rootM c w) = wordV m ev w) → (∀ f ∈ l, valM m f ev = true) → ∀ w, wordV m ev (rootM (l.foldl lnk1 c) w) = wordV m ev w
  | [], c, hc, _, w => hc w
  | f :: l, c, hc, hs, w => by
    rw [List.foldl_cons]
    refine root_val0 l _ (fun w => ?_) (fun g hg => hs g (List.mem_cons_of_mem _ hg)) w
    have hf := hs f (by simp)
    unfold lnk1
    split
    · exact hc w
    · rename_i hk
      split
      · exact hc w
      · rw [rootM_snoc]
        split
        · rename_i h1
          rw [val3 (Decidable.not_not.1 hk)] at hf
          have h2 := of_decide_eq_true hf
          rw [← hc w, h1]
          exact ((hc _).trans h2.symm).trans (hc _).symm
        · exact hc w
theorem root_val {l : List Form} (hs : satE m ev l) (w : Str) : wordV m ev (rootM (clsM l) w) = wordV m ev w := root_val0 l [] (fun _ => rfl) hs w
theorem alik_val {l : List Form} {f g : Form} (hs : satE m ev l) (h : alikM (clsM l) f g = true) : valM m f ev = valM m g ev := by
  unfold alikM at h
  simp only [Bool.and_eq_true, decide_eq_true_eq] at h
  obtain ⟨⟨⟨h1, h2⟩, h3⟩, h4⟩ := h
  have hw : f.words.map (wordV m ev) = g.words.map (wordV m ev) := by
    have e : ∀ ws : List Str, (ws.map (rootM (clsM l))).map (wordV m ev) = ws.map (wordV m ev) := fun ws => by
      rw [List.map_map]
      exact List.map_congr_left fun w _ => root_val hs w
    rw [← e f.words, h4, e]
  have hl : f.words.length = g.words.length := by
    have := congrArg List.length h4
    simpa using this
  rw [val2 h1, val2 h2, hw, h3, hl]
theorem con_unsat {l : List Form} {f : Form} (hs : satE m ev l) (hm : f ∈ l) (hb : brF f) (h : conM (clsM l) f = true) : False := by
  unfold conM at h
  simp only [Bool.and_eq_true, Bool.or_eq_true, decide_eq_true_eq] at h
  obtain ⟨h4, h⟩ := h
  obtain ⟨g, hg, s0, hbg⟩ := br_one hb (.inl h4)
  have hv := hs f hm
  rw [val4 h4 hg] at hv
  rw [s0] at h
  rcases h with h | ⟨h, h2⟩
  · rw [val1 h] at hv; cases hv
  · rw [val3 h, ← root_val hs, h2, root_val hs] at hv
    simp at hv
theorem close_unsat {l : List Form} {f g : Form} (hs : satE m ev l) (hf : f ∈ l) (hg : g ∈ l) (hbf : brF f) (hbg : brF g) (h : closeM l f g = true) : False := by
  unfold closeM at h
  simp only [Bool.and_eq_true, Bool.or_eq_true, decide_eq_true_eq] at h
  have v1 := hs f hf
  have v2 := hs g hg
  rcases h with h | ⟨h4, h⟩
  · rw [← h, nggE hbf.v, v1] at v2
    cases v2
  · obtain ⟨a, ha, s0, _⟩ := br_one hbg (.inl h4)
    rw [val4 h4 ha] at v2
    rw [s0] at h
    rw [← alik_val hs h, v1] at v2
    cases v2
theorem satE_app {l k : List Form} (h1 : satE m ev l) (h2 : ∀ f ∈ k, valM m f ev = true) : satE m ev (l ++ k) := fun f hf => by
  rcases List.mem_append.1 hf with h | h
  · exact h1 f h
  · exact h2 f h
theorem in_mem {l : List Form} {i : Int} (h : inL l i = true) : atL l i ∈ l := by
  unfold inL at h
  simp only [Bool.and_eq_true, decide_eq_true_eq] at h
  unfold atL
  rw [List.getD_eq_getElem?_getD, List.getElem?_eq_getElem (show i.toNat < l.length by omega)]
  exact List.getElem_mem _
theorem occ_not {l : List Form} {w : Str} (h : occG l w = false) : ∀ f ∈ l, w ∉ usedM f := fun f hf hw => by
  unfold occG at h
  rw [List.any_eq_false] at h
  exact h f hf (by simpa using hw)
theorem br_app {l k : List Form} (h1 : ∀ f ∈ l, brF f) (h2 : ∀ f ∈ k, brF f) : ∀ f ∈ l ++ k, brF f := fun f hf => by
  rcases List.mem_append.1 hf with h | h
  · exact h1 f h
  · exact h2 f h
theorem br_app1 {l : List Form} {g : Form} (h1 : ∀ f ∈ l, brF f) (h2 : brF g) : ∀ f ∈ l ++ [g], brF f := br_app h1 fun f hf => by rw [List.mem_singleton.1 hf]; exact h2
theorem sat_app1 {l : List Form} {g : Form} (h1 : satE m ev l) (h2 : valM m g ev = true) : satE m ev (l ++ [g]) := satE_app h1 fun f hf => by rw [List.mem_singleton.1 hf]; exact h2
end
theorem chk_sound {m : Model} : ∀ (n : Nat) (p : Prf), p.size ≤ n → ∀ (l : List Form) (ev : List Const), evIn m ev → (∀ f ∈ l, brF f) → satE m ev l → chkM p l = true → False
  | 0, p, hn, _, _, _, _, _, _ => by cases p; rw [Prf.size] at hn; omega
  | n + 1, p, hn, l, ev, hev, hbr, hs, hc => by
    cases p with
    | mk k fo ot nm s =>
    rw [Prf.size] at hn
    have hsz : ∀ (s : List Prf), ∀ q ∈ s, q.size ≤ Prf.sizes s := by
      intro s
      induction s with
      | nil => intro q hq; cases hq
      | cons x s ih =>
        intro q hq
        rw [Prf.sizes]
        rcases List.mem_cons.1 hq with h | h
        · rw [h]; omega
        · have := ih q h; omega
    have ih := fun (q : Prf) (hq : q ∈ s) => chk_sound (m := m) n q (by have := hsz s q hq; omega)
    rw [chkM_eq] at hc
    simp only [prf_kind, prf_form, prf_other, prf_name, prf_subs] at hc
    unfold chkN at hc
    split at hc
    · cases hc
    rename_i hin
    have hfm := in_mem (by simpa using hin)
    obtain ⟨f, hf⟩ : ∃ f, atL l fo = f := ⟨_, rfl⟩
    rw [hf] at hc hfm
    have hbf := hbr f hfm
    have hvf := hs f hfm
    obtain ⟨q1, q2, q3, q4⟩ := parts_br hbf
    have hx := parts_exp hbf hvf
    have one : (s.map chkM).length = 1 → ∃ q, q ∈ s ∧ (s.map chkM).getD 0 (fun _ => false) = chkM q := fun h => by
      match s, h with
      | [q], _ => exact ⟨q, by simp, rfl⟩
    split at hc
    · simp only [Bool.and_eq_true] at hc
      obtain ⟨⟨_, ho⟩, hc⟩ := hc
      split at hc
      · exact con_unsat hs hfm hbf hc
      · exact close_unsat hs hfm (in_mem ho) hbf (hbr _ (in_mem ho)) hc
    split at hc
    · simp only [Bool.and_eq_true, decide_eq_true_eq] at hc
      obtain ⟨⟨h1, h2⟩, hc⟩ := hc
      obtain ⟨q, hq, e⟩ := one h2
      rw [e] at hc
      exact ih q hq _ ev hev (br_app hbr q1) (satE_app hs (hx.1 h1)) hc
    split at hc
    · simp only [Bool.and_eq_true, decide_eq_true_eq] at hc
      obtain ⟨⟨⟨h1, h2⟩, hc1⟩, hc2⟩ := hc
      obtain ⟨x, y, hxy⟩ : ∃ x y, (partsM f).2.1 = [x, y] := by
        match h : (partsM f).2.1, q2 h1 with
        | [x, y], _ => exact ⟨x, y, rfl⟩
      obtain ⟨g, hg, hv⟩ := hx.2.1 h1
      rw [hxy] at hc1 hc2 hg q1
      obtain ⟨p1, p2, hp⟩ : ∃ p1 p2, s = [p1, p2] := by
        match s, h2 with
        | [p1, p2], _ => exact ⟨p1, p2, rfl⟩
      rw [hp] at hc1 hc2 ih
      simp only [List.mem_cons, List.not_mem_nil, or_false] at hg
      rcases hg with rfl | rfl
      · exact ih p1 (by simp) _ ev hev (br_app1 hbr (q1 _ (by simp))) (sat_app1 hs hv) hc1
      · exact ih p2 (by simp) _ ev hev (br_app1 hbr (q1 _ (by simp))) (sat_app1 hs hv) hc2
    split at hc
    · simp only [Bool.and_eq_true, decide_eq_true_eq] at hc
      obtain ⟨⟨⟨h1, _⟩, h2⟩, hc⟩ := hc
      obtain ⟨q, hq, e⟩ := one h2
      rw [e] at hc
      obtain ⟨a, ha, hba, hv⟩ := hx.2.2.1 h1
      obtain ⟨b, hb, _, hb3⟩ := q4 (.inl h1)
      have hab : a = b := by rw [ha] at hb; exact (List.cons.inj hb).1
      subst hab
      refine ih q hq _ ev hev (br_app1 hbr (inst_br ha hba hb3)) (sat_app1 hs ?_) hc
      rw [instE ha hba, hv _ (hev nm)]
      cases (partsM f).2.2.2 <;> rfl
    split at hc
    · simp only [Bool.and_eq_true, decide_eq_true_eq, Bool.not_eq_true'] at hc
      obtain ⟨⟨⟨⟨h1, _⟩, h3⟩, h2⟩, hc⟩ := hc
      obtain ⟨q, hq, e⟩ := one h2
      rw [e] at hc
      obtain ⟨a, ha, hba, v, hv1, hv⟩ := hx.2.2.2 h1
      obtain ⟨b, hb, _, hb3⟩ := q4 (.inr h1)
      have hab : a = b := by rw [ha] at hb; exact (List.cons.inj hb).1
      subst hab
      have hno := occ_not h3
      obtain ⟨ev2, hev2⟩ : ∃ ev2, ev ++ [(⟨nm, v⟩ : Const)] = ev2 := ⟨_, rfl⟩
      have hw2 : ∀ w, wordV m ev2 w = if nm = w then v else wordV m ev w := fun w => by rw [← hev2, wordV_snoc]
      have hin2 : evIn m ev2 := fun w => by
        rw [hw2]
        split
        · exact hv1
        · exact hev w
      have hs2 : satE m ev2 l := fun x hx => by rw [← hev2, freshE (hbr x hx).v (hno x hx)]; exact hs x hx
      refine ih q hq _ ev2 hin2 (br_app1 hbr (inst_br ha hba hb3)) (sat_app1 hs2 ?_) hc
      rw [instE ha hba, hw2, if_pos rfl]
      have e3 : valM m a (ev2 ++ [(⟨(partsM f).2.2.1.name, v⟩ : Const)]) = valM m a (ev ++ [(⟨(partsM f).2.2.1.name, v⟩ : Const)]) := agreeE hba.v fun w hw => by
        rw [wordV_snoc, wordV_snoc, hw2]
        split
        · rfl
        · rename_i hn
          rw [if_neg]
          rintro rfl
          exact hno f hfm (parts_used hbf (.inr h1) ha hw fun e => hn e.symm)
      rw [e3, hv]
      cases (partsM f).2.2.2 <;> rfl
    split at hc
    · simp only [Bool.and_eq_true, decide_eq_true_eq] at hc
      obtain ⟨⟨⟨⟨h1, ho⟩, h2⟩, h3⟩, hc⟩ := hc
      obtain ⟨q, hq, e⟩ := one h2
      rw [e] at hc
      obtain ⟨g, hg⟩ : ∃ g, atL l ot = g := ⟨_, rfl⟩
      have hgm := in_mem ho
      rw [hg] at hc hgm
      refine ih q hq _ ev hev (br_app1 hbr (hbr g hgm).cn) (sat_app1 hs ?_) hc
      rw [putE (hbr g hgm).v]
      rw [val3 h1] at hvf
      have hvf := of_decide_eq_true hvf
      have hl := (vok_eq.1 hbf.v).2.2.2.1 h1
      obtain ⟨a, b, hab⟩ : ∃ a b, f.words = [a, b] := by
        match h : f.words, hl with
        | [a, b], _ => exact ⟨a, b, rfl⟩
      rw [hab] at hvf h3
      have hsw : wordV m ev (swapTo f nm) = wordV m ev nm := by
        unfold swapTo
        rw [hab]
        simp only [List.getD_cons_zero, List.getD_cons_succ] at hvf ⊢
        simp only [List.mem_cons, List.not_mem_nil, or_false] at h3
        split
        · rename_i h; rw [← h]; exact hvf.symm
        · rename_i h
          rcases h3 with h3 | h3
          · exact absurd h3.symm h
          · rw [h3]; exact hvf
      rw [hsw]
      rw [← hs g hgm]
      refine agreeE (hbr g hgm).v fun w hw => ?_
      rw [wordV_snoc]
      split
      · rename_i h; rw [h]
      · rfl
    · cases hc
theorem restC_in {size : Int} : ∀ (l : List Const) (p : Option Const) (i : Nat), (restC size p l i).code = 0 → ∀ c ∈ l, 0 ≤ c.value ∧ c.value < size
  | [], p, i, _, c, hc => by cases hc
  | x :: l, p, i, h, c, hc => by
    rw [restC] at h
    split at h
    · rename_i h1; exact absurd h h1
    · rename_i h1
      rcases List.mem_cons.1 hc with rfl | hc
      · have h2 := Decidable.not_not.1 h1
        unfold constC at h2
        repeat' (first | omega | split at h2)
      · exact restC_in l _ _ h c hc
theorem evIn_nil {m : Model} (h : (modelM m).code = 0) : evIn m [] := fun w => by
  unfold modelM at h
  split at h
  · exact absurd h (by decide)
  rename_i hs
  split at h
  · exact absurd h (by decide)
  split at h
  · rename_i h1; exact absurd h h1
  rename_i hr
  have hin := restC_in m.consts none 0 (Decidable.not_not.1 hr)
  show constV m w ∈ indiv m
  have key : ∀ v : Int, 0 ≤ v → v < m.size → v ∈ indiv m := fun v h1 h2 => by
    have := indiv_mem (m := m) (v := v.toNat) (by omega)
    rwa [Int.toNat_of_nonneg h1] at this
  unfold constV
  split
  · rename_i c hc
    have := hin c (List.mem_of_find?_eq_some hc)
    exact key _ this.1 this.2
  · exact key 0 (by omega) (by omega)
end Go.Abs
