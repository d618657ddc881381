import Derived.Test.YtbbjghecpcobjaaDoorDS
import Derived.Test.YtbbjghecpcobjaaDoorZQ89QC1
set_option linter.unusedSimpArgs false
namespace Go.Abs
open Go

/-! ## what two boxes say, and the one that they make -/
/-- a formula that is well shaped, with names for words -/
structure Gd (f : Form) : Prop where
  s : shp false f
  w : allW (fun w => isName w = true) f
  v : vok f
theorem Gd.of {f : Form} (h : (checkM false f).code = 0) : Gd f := ⟨checkM_shp h, checkM_allW h, checkM_vok h⟩
theorem Gd.tru : Gd dTru := by
  unfold dTru
  refine ⟨?_, ?_, ?_⟩
  · rw [shp, shps]; exact ⟨⟨rfl, rfl, fun h => absurd h (by decide), fun _ => rfl⟩, trivial⟩
  · rw [allW, allWs]; exact ⟨by simp, fun h => absurd h (by decide), trivial⟩
  · rw [vok, voks]; exact ⟨by decide, by decide, fun e => absurd e (by decide), fun e => absurd e (by decide), fun e => by omega, fun e => by omega, trivial⟩
theorem Gd.not {f : Form} (h : Gd f) : Gd (dNot f) := by
  unfold dNot
  refine ⟨?_, ?_, not_vok h.v⟩
  · rw [shp, shps, shps]; exact ⟨⟨rfl, rfl, fun h => Bool.noConfusion (show false = true from h), fun _ => rfl⟩, h.s, trivial⟩
  · rw [allW, allWs, allWs]; exact ⟨by simp, fun h => absurd h (by decide), h.w, trivial⟩
theorem Gd.two {k : Int} {f g : Form} (hk : k = 5 ∨ k = 6 ∨ k = 7) (h : Gd f) (h' : Gd g) : Gd (dTwo k f g) := by
  unfold dTwo
  rcases hk with rfl | rfl | rfl
  all_goals
    refine ⟨?_, ?_, ?_⟩
    · rw [shp, shps, shps, shps]; exact ⟨⟨rfl, rfl, fun h => Bool.noConfusion (show false = true from h), fun _ => rfl⟩, h.s, h'.s, trivial⟩
    · rw [allW, allWs, allWs, allWs]; exact ⟨by simp, fun h => absurd h (by decide), h.w, h'.w, trivial⟩
    · rw [vok, voks, voks, voks]
      exact ⟨by decide, by decide, fun e => absurd e (by decide), fun e => absurd e (by decide), fun e => by omega, fun _ => rfl, h.v, h'.v, trivial⟩
theorem Gd.bind {k : Int} {x : Str} {f : Form} (hk : k = 8 ∨ k = 9) (hx : isName x = true) (h : Gd f) : Gd (.mk k x [] [f]) := by
  rcases hk with rfl | rfl
  all_goals
    refine ⟨?_, ?_, ?_⟩
    · rw [shp, shps, shps]; exact ⟨⟨rfl, rfl, fun _ h => absurd (by first | exact (.inl rfl : isQ 8) | exact (.inr rfl : isQ 9)) h, fun h => Bool.noConfusion (show true = false from h)⟩, h.s, trivial⟩
    · rw [allW, allWs, allWs]; exact ⟨by simp, fun _ => hx, h.w, trivial⟩
    · rw [vok, voks, voks]
      exact ⟨by decide, by decide, fun e => absurd e (by decide), fun e => absurd e (by decide), fun _ => rfl, fun e => by omega, h.v, trivial⟩
theorem Gd.within {k : Int} {f : Form} (hk : k = 8 ∨ k = 9) (h : Gd f) : ∀ {l : List Str}, (∀ x ∈ l, isName x = true) → Gd (withinM k l f)
  | [], _ => h
  | x :: l, hl => by rw [withinM]; exact Gd.bind hk (hl x (by simp)) (Gd.within hk h fun y hy => hl y (by simp [hy]))
theorem Gd.fold : ∀ (l : List Form) (f : Form), (∀ g ∈ l, Gd g) → Gd f → Gd (l.foldl (fun a x => Form.mk 5 ⟨[]⟩ [] [a, x]) f)
  | [], _, _, h => h
  | x :: l, f, hl, h => by rw [List.foldl_cons]; exact Gd.fold l _ (fun g hg => hl g (by simp [hg])) (Gd.two (.inl rfl) h (hl x (by simp)))
theorem Gd.join {l : List Form} (hl : ∀ g ∈ l, Gd g) : Gd (joinE l) := by
  cases l with
  | nil => exact Gd.tru
  | cons f l => exact Gd.fold l f (fun g hg => hl g (by simp [hg])) (hl f (by simp))
/-! the names of a box's referents -/
theorem refsGo_names : ∀ (refs l : List Str), (refsGo refs l).1 = 0 → (∀ x ∈ l, isName x = true) ∧ (∀ x ∈ l, x ∉ refs) ∧ l.Pairwise (· ≠ ·)
  | refs, [], _ => ⟨by simp, by simp, .nil⟩
  | refs, x :: l, h => by
    rw [refsGo] at h
    split at h
    · simp at h
    rename_i h1
    split at h
    · simp at h
    rename_i h2
    obtain ⟨i1, i2, i3⟩ := refsGo_names (refs ++ [x]) l h
    refine ⟨fun y hy => ?_, fun y hy => ?_, List.pairwise_cons.2 ⟨fun y hy e => ?_, i3⟩⟩
    · rcases List.mem_cons.1 hy with rfl | hy
      · simpa using h1
      · exact i1 y hy
    · rcases List.mem_cons.1 hy with rfl | hy
      · exact h2
      · exact fun h => i2 y hy (List.mem_append_left _ h)
    · exact i2 y hy (by rw [e]; simp)
mutual
def nmC : Cond → Prop
  | .mk _ _ _ bs => nmBs bs
def nmB : Box → Prop
  | .mk r cs => (∀ x ∈ r, isName x = true) ∧ nmCs cs
def nmBs : List Box → Prop
  | [] => True
  | b :: bs => nmB b ∧ nmBs bs
def nmCs : List Cond → Prop
  | [] => True
  | c :: cs => nmC c ∧ nmCs cs
end
theorem nmBs_mem : ∀ {bs : List Box} {b : Box}, nmBs bs → b ∈ bs → nmB b
  | c :: bs, b, h, hm => by
    rw [nmBs] at h
    rcases List.mem_cons.1 hm with rfl | hm
    · exact h.1
    · exact nmBs_mem h.2 hm
theorem nmCs_mem : ∀ {cs : List Cond} {c : Cond}, nmCs cs → c ∈ cs → nmC c
  | d :: cs, c, h, hm => by
    rw [nmCs] at h
    rcases List.mem_cons.1 hm with rfl | hm
    · exact h.1
    · exact nmCs_mem h.2 hm
theorem nmB_eq {b : Box} (h : nmB b) : (∀ x ∈ b.refs, isName x = true) ∧ nmCs b.conds := by cases b; rw [nmB] at h; exact h
theorem nmC_eq {c : Cond} (h : nmC c) : nmBs c.boxes := by cases c; rw [nmC] at h; exact h
mutual
theorem boxW_nm : ∀ (b : Box) (d m : Int) (n : Nat) (refs : List Str), (boxW b d m n refs).e.code = 0 → nmB b
  | .mk r cs, d, m, n, refs, h => by
    rw [boxW] at h
    rw [nmB]
    split at h
    · simp at h
    split at h
    · simp at h
    split at h
    · rename_i h3; exact absurd h h3
    rename_i h3
    exact ⟨(refsGo_names _ _ (Decidable.not_not.1 h3)).1, condsW_nm r cs d _ _ h⟩
theorem condsW_nm : ∀ (r : List Str) (cs : List Cond) (d : Int) (n : Nat) (refs : List Str), (condsW r cs d n refs).e.code = 0 → nmCs cs
  | r, [], d, n, refs, _ => by rw [nmCs]; trivial
  | r, c :: cs, d, n, refs, h => by
    rw [condsW] at h
    rw [nmCs]
    split at h
    · rename_i h3; exact absurd h h3
    rename_i h3
    exact ⟨condW_nm r c d n refs (Decidable.not_not.1 h3), condsW_nm r cs d _ _ h⟩
theorem condW_nm : ∀ (r : List Str) (c : Cond) (d : Int) (n : Nat) (refs : List Str), (condW r c d n refs).e.code = 0 → nmC c
  | r, .mk k nm f bs, d, n, refs, h => by
    rw [condW] at h
    rw [nmC]
    split at h
    · simp at h
    split at h
    · rename_i h4; exact absurd h h4
    exact boxsW_nm bs _ _ _ _ h
theorem boxsW_nm : ∀ (bs : List Box) (d m : Int) (n : Nat) (refs : List Str), (boxsW bs d m n refs).e.code = 0 → nmBs bs
  | [], d, m, n, refs, _ => by rw [nmBs]; trivial
  | b :: bs, d, m, n, refs, h => by
    rw [boxsW] at h
    rw [nmBs]
    split at h
    · rename_i h3; exact absurd h h3
    rename_i h3
    exact ⟨boxW_nm b d m n refs (Decidable.not_not.1 h3), boxsW_nm bs d m _ _ h⟩
end
theorem boxM_nm {b : Box} (h : (boxM b).code = 0) : nmB b := boxW_nm b 1 200 0 [] h
theorem boxM_distinct {b : Box} (h : (boxM b).code = 0) : b.refs.Pairwise (· ≠ ·) := by
  obtain ⟨r, cs⟩ := b
  unfold boxM at h
  rw [boxW] at h
  split at h
  · simp at h
  split at h
  · simp at h
  split at h
  · rename_i h3; exact absurd h h3
  rename_i h3
  exact (refsGo_names _ _ (Decidable.not_not.1 h3)).2.2
/-! what a box says is well shaped -/
theorem condL_gd {c : Cond} (hc : okCn c) (hn : nmC c) (ih : ∀ b ∈ c.boxes, Gd (bodyM b)) : ∀ f ∈ condL c, Gd f := by
  obtain ⟨⟨h1, h2, h3, h4⟩, _⟩ := okC_eq hc
  have hn := nmC_eq hn
  obtain ⟨k, n, f, bs⟩ := c
  simp only [cond_kind, cond_boxes, cond_form] at h1 h2 h3 h4 ih hn
  rw [condL_eq]
  simp only [cond_kind, cond_boxes, cond_form]
  have hk : k = 1 ∨ k = 2 ∨ k = 3 ∨ k = 4 ∨ k = 5 ∨ k = 6 := by omega
  have hsay : ∀ b ∈ bs, Gd (withinM 9 b.refs (bodyM b)) := fun b hb => Gd.within (.inr rfl) (ih b hb) (nmB_eq (nmBs_mem hn hb)).1
  rcases hk with rfl | rfl | rfl | rfl | rfl | rfl
  · intro g hg
    have hg : g = f := by simpa [condR] using hg
    subst hg
    exact Gd.of (h4 rfl)
  · obtain ⟨a, rfl⟩ := len1 h3
    intro g hg
    have hg : g = dNot (withinM 9 a.refs (bodyM a)) := by simpa [condR, bvM, BV.whole] using hg
    subst hg
    exact (hsay a (by simp)).not
  · obtain ⟨a, b, rfl⟩ := len2 h3
    intro g hg
    have hg : g = withinM 8 a.refs (dTwo 7 (bodyM a) (withinM 9 b.refs (bodyM b))) := by simpa [condR, bvM, BV.whole] using hg
    subst hg
    exact Gd.within (.inl rfl) (Gd.two (.inr (.inr rfl)) (ih a (by simp)) (hsay b (by simp))) (nmB_eq (nmBs_mem hn (by simp))).1
  · obtain ⟨a, b, rfl⟩ := len2 h3
    intro g hg
    have hg : g = dTwo 6 (withinM 9 a.refs (bodyM a)) (withinM 9 b.refs (bodyM b)) := by simpa [condR, bvM, BV.whole] using hg
    subst hg
    exact Gd.two (.inr (.inl rfl)) (hsay a (by simp)) (hsay b (by simp))
  · intro g hg; simp [condR] at hg
  · intro g hg; simp [condR] at hg
theorem condsL_mem {f : Form} : ∀ {cs : List Cond}, f ∈ condsL cs ↔ ∃ c ∈ cs, f ∈ condL c
  | [] => by rw [condsL]; simp
  | c :: cs => by rw [condsL, List.mem_append, condsL_mem (cs := cs)]; simp
theorem condsL_app (a b : List Cond) : condsL (a ++ b) = condsL a ++ condsL b := by
  induction a with
  | nil => rw [List.nil_append, condsL, List.nil_append]
  | cons c cs ih => rw [List.cons_append, condsL, condsL, ih, List.append_assoc]
theorem bodyM_gd : ∀ n (b : Box), b.size ≤ n → okB b → nmB b → Gd (bodyM b)
  | 0, b, hn, _, _ => by cases b; rw [Box.size] at hn; omega
  | n + 1, b, hn, hb, hm => by
    have hcs := okB_conds hb
    have hms := (nmB_eq hm).2
    rw [bodyM_eq]
    refine Gd.join fun g hg => ?_
    obtain ⟨c, hc, hg⟩ := condsL_mem.1 hg
    refine condL_gd (okCs_mem hcs hc) (nmCs_mem hms hc) (fun d hd => ?_) g hg
    have h1 := Box.size_sub hc
    have h2 := Cond.size_sub hd
    exact bodyM_gd n d (by omega) (okBs_mem (okC_eq (okCs_mem hcs hc)).2 hd) (nmBs_mem (nmC_eq (nmCs_mem hms hc)) hd)
theorem sayM_gd {b : Box} (h : (boxM b).code = 0) : Gd (sayM b) :=
  Gd.within (.inr rfl) (bodyM_gd b.size b (Nat.le_refl _) (boxM_shape h) (boxM_nm h)) (nmB_eq (boxM_nm h)).1
theorem conds_gd {b : Box} (h : (boxM b).code = 0) : ∀ f ∈ condsL b.conds, Gd f := fun f hf => by
  obtain ⟨c, hc, hf⟩ := condsL_mem.1 hf
  have hcs := okB_conds (boxM_shape h)
  have hms := (nmB_eq (boxM_nm h)).2
  exact condL_gd (okCs_mem hcs hc) (nmCs_mem hms hc) (fun d hd => bodyM_gd d.size d (Nat.le_refl _) (okBs_mem (okC_eq (okCs_mem hcs hc)).2 hd) (nmBs_mem (nmC_eq (nmCs_mem hms hc)) hd)) f hf
/-- what a box says, in canonical form, is valid -/
theorem say_valid {b : Box} (h : (boxM b).code = 0) (hf : fitsM (sayM b) = true) : checkM false (canonM (sayM b) []) = ⟨0, 0⟩ :=
  canon_ok (sayM_gd h).s (sayM_sm (boxM_shape h)).fit hf fun x hx => cst_allW _ [] x (sayM_gd h).w hx
/-! a formula's value depends on its free words alone -/
mutual
theorem val_congr (m : Model) {U : List Str} : ∀ (f : Form) (bd : List Str) (ev ev' : List Const), vok f →
    (∀ w, w ∈ bd ∨ w ∈ U → wordV m ev w = wordV m ev' w) → (∀ x ∈ cst f bd, x ∈ U) → valM m f ev = valM m f ev'
  | .mk k nm ws s, bd, ev, ev', hv, he, hc => by
    rw [vok] at hv
    rw [cst] at hc
    have hw1 : ∀ w ∈ ws, wordV m ev w = wordV m ev' w := fun w hw => by
      refine he w ?_
      by_cases hb : w ∈ bd
      · exact .inl hb
      · exact .inr (hc w (List.mem_append_left _ (List.mem_filter.2 ⟨hw, by simpa using hb⟩)))
    have hw : ws.map (wordV m ev) = ws.map (wordV m ev') := List.map_congr_left hw1
    by_cases hq : isQ k
    · have hs : ∀ v : Int, valMs m s (ev ++ [(⟨nm, v⟩ : Const)]) = valMs m s (ev' ++ [(⟨nm, v⟩ : Const)]) := fun v => by
        rw [if_pos hq] at hc
        refine vals_congr m s (bd ++ [nm]) _ _ hv.2.2.2.2.2.2 (fun w hw2 => ?_) fun x hx => hc x (List.mem_append_right _ hx)
        rw [wordV_snoc, wordV_snoc]
        by_cases e : nm = w
        · rw [if_pos e, if_pos e]
        · rw [if_neg e, if_neg e]
          refine he w ?_
          rcases hw2 with h | h
          · rcases List.mem_append.1 h with h | h
            · exact .inl h
            · exact absurd (List.mem_singleton.1 h).symm e
          · exact .inr h
      rw [valM, valM]
      simp only [hs, hw]
      rcases hq with rfl | rfl <;> simp only [show ¬ ((8 : Int) = 1) by decide, show ¬ ((8 : Int) = 2) by decide, show ¬ ((8 : Int) = 3) by decide, show ¬ ((8 : Int) = 4) by decide, show ¬ ((8 : Int) = 5) by decide, show ¬ ((8 : Int) = 6) by decide, show ¬ ((8 : Int) = 7) by decide,
        show ¬ ((9 : Int) = 1) by decide, show ¬ ((9 : Int) = 2) by decide, show ¬ ((9 : Int) = 3) by decide, show ¬ ((9 : Int) = 4) by decide, show ¬ ((9 : Int) = 5) by decide, show ¬ ((9 : Int) = 6) by decide, show ¬ ((9 : Int) = 7) by decide, show ¬ ((9 : Int) = 8) by decide, if_false]
    · rw [if_neg hq] at hc
      have hs := vals_congr m s bd ev ev' hv.2.2.2.2.2.2 he fun x hx => hc x (List.mem_append_right _ hx)
      have h8 : ¬ k = 8 := fun e => hq (.inl e)
      have h9 : ¬ k = 9 := fun e => hq (.inr e)
      rw [valM, valM]
      simp only [hs, h8, h9, if_false, hw]
      by_cases h3 : k = 3
      · have h2 := hv.2.2.2.1 h3
        obtain ⟨a, b, rfl⟩ : ∃ a b, ws = [a, b] := by
          match ws, h2 with
          | [a, b], _ => exact ⟨a, b, rfl⟩
        have e0 := hw1 a (by simp)
        have e1 := hw1 b (by simp)
        simp only [List.getD_cons_zero, List.getD_cons_succ]
        rw [e0, e1]
      · simp only [h3, if_false]
theorem vals_congr (m : Model) {U : List Str} : ∀ (fs : List Form) (bd : List Str) (ev ev' : List Const), voks fs →
    (∀ w, w ∈ bd ∨ w ∈ U → wordV m ev w = wordV m ev' w) → (∀ x ∈ csts fs bd, x ∈ U) → valMs m fs ev = valMs m fs ev'
  | [], bd, ev, ev', hv, he, hc => by rw [valMs, valMs]
  | f :: fs, bd, ev, ev', hv, he, hc => by
    rw [voks] at hv
    rw [csts] at hc
    rw [valMs, valMs, val_congr m f bd ev ev' hv.1 he fun x hx => hc x (List.mem_append_left _ hx), vals_congr m fs bd ev ev' hv.2 he fun x hx => hc x (List.mem_append_right _ hx)]
end
/-! referents and their values -/
def zipC : List Str → List Int → List Const
  | x :: l, v :: vs => ⟨x, v⟩ :: zipC l vs
  | _, _ => []
theorem zip_app : ∀ (a b : List Str) (u v : List Int), u.length = a.length → zipC (a ++ b) (u ++ v) = zipC a u ++ zipC b v
  | [], b, [], v, _ => rfl
  | x :: a, b, y :: u, v, h => by
    rw [List.cons_append, List.cons_append, zipC, zipC, zip_app a b u v (by simpa using h)]; rfl
theorem zip_none {w : Str} : ∀ {l : List Str} {vs : List Int}, w ∉ l → lastE (zipC l vs) w = none
  | [], vs, _ => by cases vs <;> rfl
  | x :: l, [], _ => rfl
  | x :: l, v :: vs, h => by
    rw [zipC, lastE, zip_none (l := l) (vs := vs) fun e => h (by simp [e])]
    exact if_neg fun e => h (by simp [← show x = w from e])
theorem zip_some {w : Str} : ∀ {l : List Str} {vs : List Int}, vs.length = l.length → w ∈ l → ∃ v, lastE (zipC l vs) w = some v
  | x :: l, [], h, _ => by simp at h
  | x :: l, v :: vs, hl, h => by
    rw [zipC, lastE]
    cases he : lastE (zipC l vs) w with
    | some u => exact ⟨u, rfl⟩
    | none =>
      rcases List.mem_cons.1 h with rfl | h
      · exact ⟨v, if_pos rfl⟩
      · obtain ⟨u, hu⟩ := zip_some (vs := vs) (by simpa using hl) h
        rw [hu] at he; cases he
theorem within_val (m : Model) : ∀ (l : List Str) (f : Form) (ev : List Const), valM m (withinM 9 l f) ev = true ↔ ∃ vs : List Int, vs.length = l.length ∧ (∀ v ∈ vs, v ∈ indiv m) ∧ valM m f (ev ++ zipC l vs) = true
  | [], f, ev => by
    rw [withinM]
    refine ⟨fun h => ⟨[], rfl, by simp, ?_⟩, fun ⟨vs, _, _, h⟩ => ?_⟩
    · show valM m f (ev ++ []) = true
      rw [List.append_nil]; exact h
    · have h : valM m f (ev ++ zipC [] vs) = true := h
      have e : zipC [] vs = [] := by cases vs <;> rfl
      rw [e, List.append_nil] at h; exact h
  | x :: l, f, ev => by
    rw [withinM, val_some, List.any_eq_true]
    refine ⟨fun ⟨v, hv, h⟩ => ?_, fun ⟨vs, hl, hm, h⟩ => ?_⟩
    · obtain ⟨vs, h1, h2, h3⟩ := (within_val m l f _).1 h
      refine ⟨v :: vs, by simp [h1], fun u hu => ?_, ?_⟩
      · rcases List.mem_cons.1 hu with rfl | hu
        · exact hv
        · exact h2 u hu
      · rw [List.append_assoc] at h3; exact h3
    · match vs, hl with
      | v :: vs, hl =>
        refine ⟨v, hm v (by simp), (within_val m l f _).2 ⟨vs, by simpa using hl, fun u hu => hm u (by simp [hu]), ?_⟩⟩
        rw [List.append_assoc]; exact h
theorem within_cst (f : Form) : ∀ (l bd : List Str), cst (withinM 9 l f) bd = cst f (bd ++ l)
  | [], bd => by rw [withinM, List.append_nil]
  | x :: l, bd => by
    rw [withinM, cst, if_pos (show isQ 9 from .inr rfl), csts, csts, within_cst f l]
    simp
theorem joinE_val {m : Model} {ev : List Const} (l : List Form) : valM m (joinE l) ev = l.all fun g => valM m g ev := by
  cases l with
  | nil => show valM m dTru ev = true; unfold dTru; rw [valM, if_pos rfl]
  | cons f l => exact join_and (l := f :: l) (by simp)
theorem joinE_cst {bd : List Str} (l : List Form) : ∀ f ∈ l, ∀ x ∈ cst f bd, x ∈ cst (joinE l) bd := by
  cases l with
  | nil => intro f hf; simp at hf
  | cons g l =>
    intro f hf x hx
    show x ∈ cst (joinM 5 (g :: l)) bd
    rw [join_cst (by decide) (by simp)]
    exact csts_mem.2 ⟨f, hf, hx⟩
/-- IN A MODEL IN WHICH WHAT A MERGED BOX SAYS IS TRUE, what each of two boxes says is true -/
theorem merge_says {m : Model} {a b c : Box} (hr : c.refs = a.refs ++ b.refs) (hcs : c.conds = a.conds ++ b.conds) (ha : (boxM a).code = 0) (hb : (boxM b).code = 0) (hc : (boxM c).code = 0)
    (h1 : ∀ x ∈ b.refs, x ∉ cst (canonM (sayM a) []) []) (h2 : ∀ x ∈ a.refs, x ∉ cst (canonM (sayM b) []) []) (hv : valM m (canonM (sayM c) []) [] = true) :
    valM m (canonM (sayM a) []) [] = true ∧ valM m (canonM (sayM b) []) [] = true := by
  rw [canon_cst] at h1 h2
  rw [canon_val (sayM_gd hc).v] at hv
  rw [canon_val (sayM_gd ha).v, canon_val (sayM_gd hb).v]
  have hd := boxM_distinct hc
  rw [hr] at hd
  have hdis : ∀ x ∈ a.refs, x ∉ b.refs := fun x hx hy => (List.pairwise_append.1 hd).2.2 x hx x hy rfl
  unfold sayM at hv h1 h2 ⊢
  rw [within_val] at hv
  obtain ⟨vs, hl, hm, hv⟩ := hv
  rw [hr, List.length_append] at hl
  rw [bodyM_eq, joinE_val, hcs, condsL_app, List.all_append, Bool.and_eq_true, hr] at hv
  obtain ⟨va, vb, rfl, hla⟩ : ∃ va vb, vs = va ++ vb ∧ va.length = a.refs.length := ⟨vs.take a.refs.length, vs.drop a.refs.length, (List.take_append_drop _ _).symm, by rw [List.length_take]; omega⟩
  have hlb : vb.length = b.refs.length := by rw [List.length_append] at hl; omega
  rw [List.nil_append, zip_app _ _ _ _ hla] at hv
  rw [within_cst, List.nil_append, bodyM_eq] at h1 h2
  have w1 : ∀ w, w ∉ b.refs → wordV m (zipC a.refs va ++ zipC b.refs vb) w = wordV m (zipC a.refs va) w := fun w hw => by
    unfold wordV; rw [lastE_app, zip_none hw]
  have w2 : ∀ w, w ∈ b.refs ∨ w ∉ a.refs → wordV m (zipC a.refs va ++ zipC b.refs vb) w = wordV m (zipC b.refs vb) w := fun w hw => by
    unfold wordV
    rw [lastE_app]
    by_cases h : w ∈ b.refs
    · obtain ⟨v, hv⟩ := zip_some hlb h
      rw [hv]
    · rw [zip_none h, zip_none (hw.resolve_left h)]
  refine ⟨(within_val m _ _ _).2 ⟨va, hla, fun v hv => hm v (List.mem_append_left _ hv), ?_⟩, (within_val m _ _ _).2 ⟨vb, hlb, fun v hv => hm v (List.mem_append_right _ hv), ?_⟩⟩
  · rw [List.nil_append, bodyM_eq, joinE_val, List.all_eq_true]
    intro f hf
    have := List.all_eq_true.1 hv.1 f hf
    rw [← this]
    refine (val_congr m (U := cst f a.refs) f a.refs _ _ (conds_gd ha f hf).v (fun w hw => w1 w fun hwb => ?_) fun x hx => hx).symm
    rcases hw with hw | hw
    · exact hdis w hw hwb
    · exact h1 w hwb (joinE_cst _ f hf w hw)
  · rw [List.nil_append, bodyM_eq, joinE_val, List.all_eq_true]
    intro f hf
    have := List.all_eq_true.1 hv.2 f hf
    rw [← this]
    refine (val_congr m (U := cst f b.refs) f b.refs _ _ (conds_gd hb f hf).v (fun w hw => w2 w ?_) fun x hx => hx).symm
    rcases hw with hw | hw
    · exact .inl hw
    · exact .inr fun hwa => h2 w hwa (joinE_cst _ f hf w hw)
end Go.Abs
