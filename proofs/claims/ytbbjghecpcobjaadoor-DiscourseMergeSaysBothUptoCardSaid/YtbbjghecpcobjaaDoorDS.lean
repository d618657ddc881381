import Derived.Test.YtbbjghecpcobjaaDoorBT
import Derived.Test.YtbbjghecpcobjaaDoorLW
set_option linter.unusedSimpArgs false
namespace Go.Abs
open Go

/-! ## what a box says: the program's walk (with a sign for what is unsettled) and the document's -/
def dTru : Form := .mk 1 ⟨[]⟩ [] []
def dNot (f : Form) : Form := .mk 4 ⟨[]⟩ [] [f]
def dTwo (k : Int) (f g : Form) : Form := .mk k ⟨[]⟩ [] [f, g]
def withinM (k : Int) : List Str → Form → Form
  | [], f => f
  | r :: rs, f => .mk k r [] [withinM k rs f]
structure BV where
  refs : List Str
  f : Form
  ok : Bool
def bv0 : BV := ⟨[], dTru, true⟩
def BV.whole (v : BV) : Form := withinM 9 v.refs v.f
def condV (k : Int) (f : Form) (l : List BV) : Form × Bool :=
  if k = 2 then (dNot (l.getD 0 bv0).whole, (l.getD 0 bv0).ok)
  else if k = 3 then (withinM 8 (l.getD 0 bv0).refs (dTwo 7 (l.getD 0 bv0).f (l.getD 1 bv0).whole), (l.getD 0 bv0).ok && (l.getD 1 bv0).ok)
  else if k = 4 then (dTwo 6 (l.getD 0 bv0).whole (l.getD 1 bv0).whole, (l.getD 0 bv0).ok && (l.getD 1 bv0).ok)
  else if k = 5 ∨ k = 6 then (f, false) else (f, true)
def goC : List (Form × Bool) → Nat → Form → Form × Bool
  | [], _, f => (f, true)
  | (g, ok) :: l, i, f => if ok = false then (f, false) else goC l (i + 1) (if i = 0 then g else dTwo 5 f g)
mutual
def condP : Cond → Form × Bool
  | .mk k _ f bs => condV k f (boxesP bs)
def bodyP : Box → Form × Bool
  | .mk _ cs => goC (condsP cs) 0 dTru
def boxesP : List Box → List BV
  | [] => []
  | b :: bs => ⟨b.refs, (bodyP b).1, (bodyP b).2⟩ :: boxesP bs
def condsP : List Cond → List (Form × Bool)
  | [] => []
  | c :: cs => condP c :: condsP cs
end
def bvP (b : Box) : BV := ⟨b.refs, (bodyP b).1, (bodyP b).2⟩
def wholeP (b : Box) : Form × Bool := (withinM 9 b.refs (bodyP b).1, (bodyP b).2)
theorem boxesP_map : ∀ bs : List Box, boxesP bs = bs.map bvP
  | [] => rfl
  | b :: bs => by rw [boxesP, boxesP_map bs]; rfl
theorem condsP_map : ∀ cs : List Cond, condsP cs = cs.map condP
  | [] => rfl
  | c :: cs => by rw [condsP, condsP_map cs]; rfl
theorem condP_eq (c : Cond) : condP c = condV c.kind c.form (c.boxes.map bvP) := by
  cases c; rw [condP, boxesP_map]; rfl
theorem bodyP_eq (b : Box) : bodyP b = goC (b.conds.map condP) 0 dTru := by
  cases b; rw [bodyP, condsP_map]; rfl

/-! ### the document's -/
def joinE : List Form → Form
  | [] => dTru
  | l => joinM 5 l
def condR (k : Int) (f : Form) (l : List BV) : List Form :=
  if k = 1 then [f] else if k = 2 then [dNot (l.getD 0 bv0).whole]
  else if k = 3 then [withinM 8 (l.getD 0 bv0).refs (dTwo 7 (l.getD 0 bv0).f (l.getD 1 bv0).whole)]
  else if k = 4 then [dTwo 6 (l.getD 0 bv0).whole (l.getD 1 bv0).whole] else []
mutual
def condL : Cond → List Form
  | .mk k _ f bs => condR k f (boxesL bs)
def bodyM : Box → Form
  | .mk _ cs => joinE (condsL cs)
def boxesL : List Box → List BV
  | [] => []
  | b :: bs => ⟨b.refs, bodyM b, true⟩ :: boxesL bs
def condsL : List Cond → List Form
  | [] => []
  | c :: cs => condL c ++ condsL cs
end
def bvM (b : Box) : BV := ⟨b.refs, bodyM b, true⟩
def sayM (b : Box) : Form := withinM 9 b.refs (bodyM b)
theorem boxesL_map : ∀ bs : List Box, boxesL bs = bs.map bvM
  | [] => rfl
  | b :: bs => by rw [boxesL, boxesL_map bs]; rfl
theorem condL_eq (c : Cond) : condL c = condR c.kind c.form (c.boxes.map bvM) := by
  cases c; rw [condL, boxesL_map]; rfl
theorem bodyM_eq (b : Box) : bodyM b = joinE (condsL b.conds) := by
  cases b; rw [bodyM]; rfl
mutual
def unsC : Cond → Bool
  | .mk k _ _ bs => decide (4 < k) || unsBs bs
def unsB : Box → Bool
  | .mk _ cs => unsCs cs
def unsBs : List Box → Bool
  | [] => false
  | b :: bs => unsB b || unsBs bs
def unsCs : List Cond → Bool
  | [] => false
  | c :: cs => unsC c || unsCs cs
end
theorem unsBs_any : ∀ bs : List Box, unsBs bs = bs.any unsB
  | [] => rfl
  | b :: bs => by rw [unsBs, unsBs_any bs]; rfl
theorem unsCs_any : ∀ cs : List Cond, unsCs cs = cs.any unsC
  | [] => rfl
  | c :: cs => by rw [unsCs, unsCs_any cs]; rfl
theorem unsC_eq (c : Cond) : unsC c = (decide (4 < c.kind) || c.boxes.any unsB) := by
  cases c; rw [unsC, unsBs_any]; rfl
theorem unsB_eq (b : Box) : unsB b = b.conds.any unsC := by
  cases b; rw [unsB, unsCs_any]; rfl

/-! ### the shape of a box that passes the check -/
mutual
def okCn : Cond → Prop
  | .mk k _ f bs => (1 ≤ k ∧ k ≤ 6 ∧ (bs.length : Int) = boxesK k ∧ (k = 1 → (checkM false f).code = 0)) ∧ okBs bs
def okB : Box → Prop
  | .mk _ cs => okCs cs
def okBs : List Box → Prop
  | [] => True
  | b :: bs => okB b ∧ okBs bs
def okCs : List Cond → Prop
  | [] => True
  | c :: cs => okCn c ∧ okCs cs
end
theorem condC_shape {c : Cond} {r : List Str} (h : condC c r = 0) : 1 ≤ c.kind ∧ c.kind ≤ 6 ∧ (c.boxes.length : Int) = boxesK c.kind ∧ (c.kind = 1 → (checkM false c.form).code = 0) := by
  unfold condC at h
  by_cases h1 : boxesK c.kind < 0
  · rw [if_pos h1] at h; exact absurd h (by decide)
  rw [if_neg h1] at h
  by_cases h2 : (c.boxes.length : Int) = boxesK c.kind
  rotate_left
  · rw [if_pos h2] at h; exact absurd h (by decide)
  rw [if_neg (fun e => e h2)] at h
  have hk : 1 ≤ c.kind ∧ c.kind ≤ 6 := by
    unfold boxesK at h1
    by_cases a1 : c.kind = 1 ∨ c.kind = 5
    · omega
    rw [if_neg a1] at h1
    by_cases a2 : c.kind = 2 ∨ c.kind = 6
    · omega
    rw [if_neg a2] at h1
    by_cases a3 : c.kind = 3 ∨ c.kind = 4
    · omega
    rw [if_neg a3] at h1
    exact absurd (by decide) h1
  refine ⟨hk.1, hk.2, h2, fun hk1 => ?_⟩
  by_cases h3 : (c.kind ≠ 5 ∧ c.name ≠ ⟨[]⟩ ∨ 0 < boxesK c.kind ∧ noForm c.form = false)
  · rw [if_pos h3] at h; exact absurd h (by decide)
  rw [if_neg h3, if_neg (by rw [hk1]; decide)] at h
  by_cases h4 : (checkM false c.form).code = 0
  · exact h4
  · rw [if_pos h4] at h; exact h
mutual
theorem boxW_ok : ∀ (b : Box) (d m : Int) (n : Nat) (refs : List Str), (boxW b d m n refs).e.code = 0 → okB b
  | .mk r cs, d, m, n, refs, h => by
    rw [boxW] at h
    rw [okB]
    split at h
    · simp at h
    split at h
    · simp at h
    split at h
    · rename_i h3; exact absurd h h3
    exact condsW_ok r cs d _ _ h
theorem condsW_ok : ∀ (r : List Str) (cs : List Cond) (d : Int) (n : Nat) (refs : List Str), (condsW r cs d n refs).e.code = 0 → okCs cs
  | r, [], d, n, refs, _ => by rw [okCs]; trivial
  | r, c :: cs, d, n, refs, h => by
    rw [condsW] at h
    rw [okCs]
    split at h
    · rename_i h3; exact absurd h h3
    rename_i h3
    exact ⟨condW_ok r c d n refs (Decidable.not_not.1 h3), condsW_ok r cs d _ _ h⟩
theorem condW_ok : ∀ (r : List Str) (c : Cond) (d : Int) (n : Nat) (refs : List Str), (condW r c d n refs).e.code = 0 → okCn c
  | r, .mk k nm f bs, d, n, refs, h => by
    rw [condW] at h
    rw [okCn]
    split at h
    · simp at h
    split at h
    · rename_i h4; exact absurd h h4
    rename_i h4
    exact ⟨condC_shape (c := .mk k nm f bs) (Decidable.not_not.1 h4), boxsW_ok bs _ _ _ _ h⟩
theorem boxsW_ok : ∀ (bs : List Box) (d m : Int) (n : Nat) (refs : List Str), (boxsW bs d m n refs).e.code = 0 → okBs bs
  | [], d, m, n, refs, _ => by rw [okBs]; trivial
  | b :: bs, d, m, n, refs, h => by
    rw [boxsW] at h
    rw [okBs]
    split at h
    · rename_i h3; exact absurd h h3
    rename_i h3
    exact ⟨boxW_ok b d m n refs (Decidable.not_not.1 h3), boxsW_ok bs d m _ _ h⟩
end
theorem okBs_mem : ∀ {bs : List Box} {b : Box}, okBs bs → b ∈ bs → okB b
  | c :: bs, b, h, hm => by
    rw [okBs] at h
    rcases List.mem_cons.1 hm with rfl | hm
    · exact h.1
    · exact okBs_mem h.2 hm
theorem okCs_mem : ∀ {cs : List Cond} {c : Cond}, okCs cs → c ∈ cs → okCn c
  | d :: cs, c, h, hm => by
    rw [okCs] at h
    rcases List.mem_cons.1 hm with rfl | hm
    · exact h.1
    · exact okCs_mem h.2 hm
theorem okB_conds {b : Box} (h : okB b) : okCs b.conds := by cases b; rw [okB] at h; exact h
theorem okC_eq {c : Cond} (h : okCn c) : (1 ≤ c.kind ∧ c.kind ≤ 6 ∧ (c.boxes.length : Int) = boxesK c.kind ∧ (c.kind = 1 → (checkM false c.form).code = 0)) ∧ okBs c.boxes := by cases c; rw [okCn] at h; exact h

/-! ### the two agree -/
theorem goC_ok : ∀ (l : List Form) (i : Nat) (f : Form), goC (l.map fun g => (g, true)) (i + 1) f = (l.foldl (fun a x => Form.mk 5 ⟨[]⟩ [] [a, x]) f, true)
  | [], _, _ => rfl
  | g :: l, i, f => by
    rw [List.map_cons, goC, if_neg (by simp), if_neg (by omega), goC_ok l]
    rfl
theorem goC_join (l : List Form) : goC (l.map fun g => (g, true)) 0 dTru = (joinE l, true) := by
  cases l with
  | nil => rfl
  | cons g l => rw [List.map_cons, goC, if_neg (by simp), if_pos rfl, goC_ok]; rfl
theorem goC_snd : ∀ (l : List (Form × Bool)) (i : Nat) (f : Form), (goC l i f).2 = l.all fun x => x.2
  | [], _, _ => rfl
  | (g, ok) :: l, i, f => by
    rw [goC, List.all_cons]
    cases ok
    · rfl
    · rw [if_neg (by simp), goC_snd l]; rfl
theorem len1 {bs : List Box} (h : (bs.length : Int) = 1) : ∃ a, bs = [a] := by
  match bs, h with
  | [a], _ => exact ⟨a, rfl⟩
  | [], h => simp at h
  | _ :: _ :: _, h => simp only [List.length_cons] at h; omega
theorem len2 {bs : List Box} (h : (bs.length : Int) = 2) : ∃ a b, bs = [a, b] := by
  match bs, h with
  | [a, b], _ => exact ⟨a, b, rfl⟩
  | [], h => simp at h
  | [_], h => simp at h
  | _ :: _ :: _ :: _, h => simp only [List.length_cons] at h; omega
theorem len0 {bs : List Box} (h : (bs.length : Int) = 0) : bs = [] := by
  cases bs with
  | nil => rfl
  | cons _ _ => simp only [List.length_cons] at h; omega
/-- of a condition, if it holds of its boxes -/
theorem cond_said {c : Cond} (hc : okCn c) (ih : ∀ b ∈ c.boxes, (unsB b = false → bodyP b = (bodyM b, true)) ∧ (unsB b = true → (bodyP b).2 = false)) :
    (unsC c = false → ∃ g, condL c = [g] ∧ condP c = (g, true)) ∧ (unsC c = true → (condP c).2 = false) := by
  obtain ⟨⟨h1, h2, h3, _⟩, _⟩ := okC_eq hc
  obtain ⟨k, n, f, bs⟩ := c
  simp only [cond_kind, cond_boxes] at h1 h2 h3 ih
  rw [unsC_eq, condL_eq, condP_eq]
  simp only [cond_kind, cond_boxes, cond_form]
  have hk : k = 1 ∨ k = 2 ∨ k = 3 ∨ k = 4 ∨ k = 5 ∨ k = 6 := by omega
  rcases hk with rfl | rfl | rfl | rfl | rfl | rfl
  · obtain rfl := len0 h3
    exact ⟨fun _ => ⟨f, rfl, rfl⟩, fun h => absurd h (by simp)⟩
  · obtain ⟨a, rfl⟩ := len1 h3
    have ha := ih a (by simp)
    simp only [List.any_cons, List.any_nil, Bool.or_false]
    refine ⟨fun h => ⟨dNot (sayM a), rfl, ?_⟩, fun h => ?_⟩
    · have e := ha.1 (by simpa using h)
      show (dNot (withinM 9 a.refs (bodyP a).1), (bodyP a).2) = _
      rw [e]; rfl
    · exact ha.2 (by simpa using h)
  · obtain ⟨a, b, rfl⟩ := len2 h3
    have ha := ih a (by simp)
    have hb := ih b (by simp)
    simp only [List.any_cons, List.any_nil, Bool.or_false]
    refine ⟨fun h => ?_, fun h => ?_⟩
    · have h : unsB a = false ∧ unsB b = false := by simpa using h
      have e := ha.1 h.1
      have e2 := hb.1 h.2
      refine ⟨withinM 8 a.refs (dTwo 7 (bodyM a) (sayM b)), rfl, ?_⟩
      show (withinM 8 a.refs (dTwo 7 (bodyP a).1 (withinM 9 b.refs (bodyP b).1)), (bodyP a).2 && (bodyP b).2) = _
      rw [e, e2]; rfl
    · show ((bodyP a).2 && (bodyP b).2) = false
      have h : unsB a = true ∨ unsB b = true := by simpa using h
      rcases h with h | h
      · rw [ha.2 h]; rfl
      · rw [hb.2 h, Bool.and_false]
  · obtain ⟨a, b, rfl⟩ := len2 h3
    have ha := ih a (by simp)
    have hb := ih b (by simp)
    simp only [List.any_cons, List.any_nil, Bool.or_false]
    refine ⟨fun h => ?_, fun h => ?_⟩
    · have h : unsB a = false ∧ unsB b = false := by simpa using h
      have e := ha.1 h.1
      have e2 := hb.1 h.2
      refine ⟨dTwo 6 (sayM a) (sayM b), rfl, ?_⟩
      show (dTwo 6 (withinM 9 a.refs (bodyP a).1) (withinM 9 b.refs (bodyP b).1), (bodyP a).2 && (bodyP b).2) = _
      rw [e, e2]; rfl
    · show ((bodyP a).2 && (bodyP b).2) = false
      have h : unsB a = true ∨ unsB b = true := by simpa using h
      rcases h with h | h
      · rw [ha.2 h]; rfl
      · rw [hb.2 h, Bool.and_false]
  · exact ⟨fun h => absurd h (by simp), fun _ => rfl⟩
  · exact ⟨fun h => absurd h (by simp), fun _ => rfl⟩
theorem conds_said : ∀ (cs : List Cond), (∀ c ∈ cs, (unsC c = false → ∃ g, condL c = [g] ∧ condP c = (g, true)) ∧ (unsC c = true → (condP c).2 = false)) →
    (cs.any unsC = false → ∃ l : List Form, condsL cs = l ∧ cs.map condP = l.map fun g => (g, true)) ∧ (cs.any unsC = true → ((cs.map condP).all fun x => x.2) = false)
  | [], _ => ⟨fun _ => ⟨[], rfl, rfl⟩, fun h => absurd h (by simp)⟩
  | c :: cs, h => by
    obtain ⟨i1, i2⟩ := conds_said cs fun d hd => h d (by simp [hd])
    obtain ⟨j1, j2⟩ := h c (by simp)
    rw [List.any_cons, List.map_cons, List.all_cons]
    refine ⟨fun hh => ?_, fun hh => ?_⟩
    · have hh : unsC c = false ∧ cs.any unsC = false := by simpa only [Bool.or_eq_false_iff] using hh
      obtain ⟨g, e1, e2⟩ := j1 hh.1
      obtain ⟨l, e3, e4⟩ := i1 hh.2
      exact ⟨g :: l, by rw [condsL, e1, e3]; rfl, by rw [e2, e4]; rfl⟩
    · rw [Bool.or_eq_true] at hh
      rcases hh with hh | hh
      · rw [j2 hh]; rfl
      · rw [i2 hh, Bool.and_false]
theorem body_said : ∀ n (b : Box), b.size ≤ n → okB b → (unsB b = false → bodyP b = (bodyM b, true)) ∧ (unsB b = true → (bodyP b).2 = false)
  | 0, b, hn, _ => by cases b; rw [Box.size] at hn; omega
  | n + 1, b, hn, hb => by
    have hcs := okB_conds hb
    obtain ⟨i1, i2⟩ := conds_said b.conds fun c hc => cond_said (okCs_mem hcs hc) fun d hd => by
      have h1 := Box.size_sub hc
      have h2 := Cond.size_sub hd
      exact body_said n d (by omega) (okBs_mem (okC_eq (okCs_mem hcs hc)).2 hd)
    rw [unsB_eq, bodyP_eq, bodyM_eq]
    refine ⟨fun h => ?_, fun h => ?_⟩
    · obtain ⟨l, e1, e2⟩ := i1 h
      rw [e1, e2, goC_join]
    · rw [goC_snd]; exact i2 h
/-- a box that passes the check, and what it says -/
theorem whole_said {b : Box} (h : okB b) : (unsB b = false → wholeP b = (sayM b, true)) ∧ (unsB b = true → (wholeP b).2 = false) := by
  obtain ⟨h1, h2⟩ := body_said b.size b (Nat.le_refl _) h
  refine ⟨fun hu => ?_, fun hu => h2 hu⟩
  unfold wholeP sayM
  rw [h1 hu]
theorem boxM_shape {b : Box} (h : (boxM b).code = 0) : okB b := boxW_ok b 1 200 0 [] h

/-! ### sizes -/
theorem withinM_size (k : Int) : ∀ (l : List Str) (f : Form), (withinM k l f).size = l.length + f.size
  | [], f => by rw [withinM]; simp
  | r :: rs, f => by rw [withinM, Form.size, Form.sizes, Form.sizes, withinM_size k rs f, List.length_cons]; omega
theorem withinM_fit (k : Int) : ∀ (l : List Str) (f : Form), (withinM k l f).fit = f.fit
  | [], f => by rw [withinM]
  | r :: rs, f => by rw [withinM, Form.fit, Form.fits, Form.fits, withinM_fit k rs f]; simp
theorem withinM_clean (k : Int) : ∀ (l : List Str) (f : Form), clean f → clean (withinM k l f)
  | [], f, h => by rw [withinM]; exact h
  | r :: rs, f, h => by rw [withinM, clean, cleans, cleans]; exact ⟨by simp, withinM_clean k rs f h, trivial⟩
/-- small, within the model's rows, and without marks -/
structure Sm (m : Nat) (f : Form) : Prop where
  size : f.size ≤ m
  fit : f.fit = true
  clean : clean f
theorem Sm.within {m : Nat} {k : Int} {l : List Str} {f : Form} (h : Sm m f) : Sm (l.length + m) (withinM k l f) :=
  ⟨by rw [withinM_size]; have := h.size; omega, by rw [withinM_fit]; exact h.fit, withinM_clean k l f h.clean⟩
theorem Sm.not {m : Nat} {f : Form} (h : Sm m f) : Sm (m + 1) (dNot f) :=
  ⟨by rw [dNot, Form.size, Form.sizes, Form.sizes]; have := h.size; omega, by rw [dNot, Form.fit, Form.fits, Form.fits, h.fit]; simp, by rw [dNot, Abs.clean, cleans, cleans]; exact ⟨by simp, h.clean, trivial⟩⟩
theorem Sm.two {m m' : Nat} {k : Int} {f g : Form} (h : Sm m f) (h' : Sm m' g) : Sm (m + m' + 1) (dTwo k f g) :=
  ⟨by rw [dTwo, Form.size, Form.sizes, Form.sizes, Form.sizes]; have := h.size; have := h'.size; omega, by rw [dTwo, Form.fit, Form.fits, Form.fits, Form.fits, h.fit, h'.fit]; simp, by rw [dTwo, Abs.clean, cleans, cleans, cleans]; exact ⟨by simp, h.clean, h'.clean, trivial⟩⟩
theorem Sm.mono {m m' : Nat} {f : Form} (h : Sm m f) (hm : m ≤ m') : Sm m' f := ⟨Nat.le_trans h.size hm, h.fit, h.clean⟩
theorem dTru_sm : Sm 1 dTru := ⟨by rw [dTru, Form.size, Form.sizes]; omega, by rw [dTru, Form.fit, Form.fits]; simp, by rw [dTru, Abs.clean, cleans]; simp⟩
theorem condL_sm {c : Cond} (hc : okCn c) (ih : ∀ b ∈ c.boxes, Sm (210 * b.tot + 1 - b.refs.length) (bodyM b)) : ∀ f ∈ condL c, Sm (210 * c.tot - 1) f := by
  obtain ⟨⟨h1, h2, h3, h4⟩, _⟩ := okC_eq hc
  obtain ⟨k, n, f, bs⟩ := c
  simp only [cond_kind, cond_boxes, cond_form] at h1 h2 h3 h4 ih
  rw [condL_eq, Cond.tot_eq]
  simp only [cond_kind, cond_boxes, cond_form]
  have ht : ∀ b : Box, b.refs.length ≤ b.tot := fun b => by rw [Box.tot_eq]; omega
  have hk : k = 1 ∨ k = 2 ∨ k = 3 ∨ k = 4 ∨ k = 5 ∨ k = 6 := by omega
  rcases hk with rfl | rfl | rfl | rfl | rfl | rfl
  · intro g hg
    have hg : g = f := by simpa [condR] using hg
    subst hg
    have h4 := h4 rfl
    exact ⟨by have := checkM_size h4; omega, checkM_fit h4, checkM_clean h4⟩
  · obtain ⟨a, rfl⟩ := len1 h3
    intro g hg
    have hg : g = dNot (withinM 9 a.refs (bodyM a)) := by simpa [condR, bvM, BV.whole] using hg
    subst hg
    have := (ih a (by simp)).within (k := 9) (l := a.refs)
    refine this.not.mono ?_
    rw [Box.tots, Box.tots]
    have := ht a
    omega
  · obtain ⟨a, b, rfl⟩ := len2 h3
    intro g hg
    have hg : g = withinM 8 a.refs (dTwo 7 (bodyM a) (withinM 9 b.refs (bodyM b))) := by simpa [condR, bvM, BV.whole] using hg
    subst hg
    have hb := (ih b (by simp)).within (k := 9) (l := b.refs)
    have ha := ih a (by simp)
    refine ((ha.two hb).within).mono ?_
    rw [Box.tots, Box.tots, Box.tots]
    have := ht a
    have := ht b
    omega
  · obtain ⟨a, b, rfl⟩ := len2 h3
    intro g hg
    have hg : g = dTwo 6 (withinM 9 a.refs (bodyM a)) (withinM 9 b.refs (bodyM b)) := by simpa [condR, bvM, BV.whole] using hg
    subst hg
    have hb := (ih b (by simp)).within (k := 9) (l := b.refs)
    have ha := (ih a (by simp)).within (k := 9) (l := a.refs)
    refine (ha.two hb).mono ?_
    rw [Box.tots, Box.tots, Box.tots]
    have := ht a
    have := ht b
    omega
  · intro g hg; simp [condR] at hg
  · intro g hg; simp [condR] at hg
theorem condL_len (c : Cond) : (condL c).length ≤ 1 := by
  rw [condL_eq]; unfold condR
  repeat' split
  all_goals simp
theorem condsL_sm : ∀ (cs : List Cond), (∀ c ∈ cs, ∀ f ∈ condL c, Sm (210 * c.tot - 1) f) → Form.sizes (condsL cs) + (condsL cs).length ≤ 210 * Cond.tots cs ∧ Form.fits (condsL cs) = true ∧ cleans (condsL cs)
  | [], _ => by rw [condsL, Form.sizes, Form.fits, cleans]; simp
  | c :: cs, h => by
    obtain ⟨i1, i2, i3⟩ := condsL_sm cs fun d hd => h d (by simp [hd])
    have hc := h c (by simp)
    have hl := condL_len c
    have htot : 1 ≤ c.tot := by rw [Cond.tot_eq]; omega
    rw [condsL, Cond.tots]
    match he : condL c, hl with
    | [], _ => rw [List.nil_append]; exact ⟨by omega, i2, i3⟩
    | [g], _ =>
      have hg := hc g (by rw [he]; simp)
      have := hg.size
      rw [List.cons_append, List.nil_append, Form.sizes, Form.fits, cleans, List.length_cons, hg.fit, i2]
      exact ⟨by omega, rfl, hg.clean, i3⟩
theorem joinE_sm {l : List Form} {m : Nat} (h1 : Form.sizes l + l.length ≤ m) (h2 : Form.fits l = true) (h3 : cleans l) : Sm (m + 1) (joinE l) := by
  cases l with
  | nil => exact dTru_sm.mono (by omega)
  | cons f l => exact ⟨by have := joinM_size 5 (f :: l); show (joinM 5 (f :: l)).size ≤ _; omega, joinM_fit 5 h2, joinM_clean 5 h3⟩
theorem bodyM_sm : ∀ n (b : Box), b.size ≤ n → okB b → Sm (210 * b.tot + 1 - b.refs.length) (bodyM b)
  | 0, b, hn, _ => by cases b; rw [Box.size] at hn; omega
  | n + 1, b, hn, hb => by
    have hcs := okB_conds hb
    obtain ⟨h1, h2, h3⟩ := condsL_sm b.conds fun c hc => condL_sm (okCs_mem hcs hc) fun d hd => by
      have h1 := Box.size_sub hc
      have h2 := Cond.size_sub hd
      exact bodyM_sm n d (by omega) (okBs_mem (okC_eq (okCs_mem hcs hc)).2 hd)
    rw [bodyM_eq]
    refine (joinE_sm h1 h2 h3).mono ?_
    rw [Box.tot_eq]
    omega
theorem sayM_sm {b : Box} (h : okB b) : Sm (210 * b.tot + 1) (sayM b) := by
  have := (bodyM_sm b.size b (Nat.le_refl _) h).within (k := 9) (l := b.refs)
  refine this.mono ?_
  rw [Box.tot_eq]
  omega
/-! ### what the walks need -/
def okTd (b : Box) : Prop := okB b ∧ b.tot ≤ 400
theorem boxM_okT {b : Box} (h : (boxM b).code = 0) : okTd b := ⟨boxM_shape h, (boxM_ok h).2⟩
theorem okT_sub {b : Box} {c : Cond} {d : Box} (h : okTd b) (hc : c ∈ b.conds) (hd : d ∈ c.boxes) : okTd d ∧ d.size + 2 ≤ b.size := by
  obtain ⟨i, hi, rfl⟩ := List.getElem_of_mem hc
  obtain ⟨j, hj, rfl⟩ := List.getElem_of_mem hd
  have h1 := Box.size_sub hc
  have h2 := Cond.size_sub hd
  have h3 := Cond.tots_get hi
  have h4 := Box.tots_get hj
  have h5 := h.2
  rw [Box.tot_eq] at h5
  rw [Cond.tot_eq] at h3
  exact ⟨⟨okBs_mem (okC_eq (okCs_mem (okB_conds h.1) hc)).2 hd, by omega⟩, by omega⟩
theorem okT_len {b : Box} (h : okTd b) : b.conds.length ≤ 400 ∧ b.refs.length ≤ 400 := by
  have h1 := h.2
  rw [Box.tot_eq] at h1
  have := Cond.tots_len (cs := b.conds)
  exact ⟨by omega, by omega⟩
/-- a condition's kind, with its boxes -/
theorem okT_kind {b : Box} {c : Cond} (h : okTd b) (hc : c ∈ b.conds) :
    (c.kind = 1 ∧ c.boxes = []) ∨ (c.kind = 2 ∧ ∃ a, c.boxes = [a]) ∨ (c.kind = 3 ∧ ∃ a d, c.boxes = [a, d]) ∨ (c.kind = 4 ∧ ∃ a d, c.boxes = [a, d]) ∨ (c.kind = 5 ∧ c.boxes = []) ∨ (c.kind = 6 ∧ ∃ a, c.boxes = [a]) := by
  obtain ⟨⟨h1, h2, h3, _⟩, _⟩ := okC_eq (okCs_mem (okB_conds h.1) hc)
  have hk : c.kind = 1 ∨ c.kind = 2 ∨ c.kind = 3 ∨ c.kind = 4 ∨ c.kind = 5 ∨ c.kind = 6 := by omega
  rcases hk with e | e | e | e | e | e <;> rw [e] at h3
  · exact .inl ⟨e, len0 h3⟩
  · exact .inr (.inl ⟨e, len1 h3⟩)
  · exact .inr (.inr (.inl ⟨e, len2 h3⟩))
  · exact .inr (.inr (.inr (.inl ⟨e, len2 h3⟩)))
  · exact .inr (.inr (.inr (.inr (.inl ⟨e, len0 h3⟩))))
  · exact .inr (.inr (.inr (.inr (.inr ⟨e, len1 h3⟩))))
theorem condP1 {c : Cond} (h : c.kind = 1) : condP c = (c.form, true) := by rw [condP_eq, h]; rfl
theorem condP2 {c : Cond} {a : Box} (h : c.kind = 2) (hb : c.boxes = [a]) : condP c = (dNot (wholeP a).1, (wholeP a).2) := by rw [condP_eq, h, hb]; rfl
theorem condP3 {c : Cond} {a b : Box} (h : c.kind = 3) (hb : c.boxes = [a, b]) : condP c = (withinM 8 a.refs (dTwo 7 (bodyP a).1 (wholeP b).1), (bodyP a).2 && (wholeP b).2) := by rw [condP_eq, h, hb]; rfl
theorem condP4 {c : Cond} {a b : Box} (h : c.kind = 4) (hb : c.boxes = [a, b]) : condP c = (dTwo 6 (wholeP a).1 (wholeP b).1, (wholeP a).2 && (wholeP b).2) := by rw [condP_eq, h, hb]; rfl
theorem condP5 {c : Cond} (h : c.kind = 5 ∨ c.kind = 6) : condP c = (c.form, false) := by
  rw [condP_eq]; rcases h with h | h <;> rw [h] <;> rfl
theorem goC_app : ∀ (a b : List (Form × Bool)) (i : Nat) (f : Form), (a.all fun x => x.2) = true → goC (a ++ b) i f = goC b (i + a.length) (goC a i f).1
  | [], b, i, f, _ => rfl
  | (g, ok) :: a, b, i, f, h => by
    rw [List.all_cons, Bool.and_eq_true] at h
    have h1 : ok = true := h.1
    subst h1
    rw [List.cons_append, goC, goC, if_neg (show ¬ (true = false) by decide), if_neg (show ¬ (true = false) by decide), goC_app a b _ _ h.2, List.length_cons, show i + (a.length + 1) = i + 1 + a.length by omega]
/-- the formula so far, of the first i conditions -/
def accF (b : Box) (i : Nat) : Form := (goC ((b.conds.map condP).take i) 0 dTru).1
def accOk (b : Box) (i : Nat) : Prop := (((b.conds.map condP).take i).all fun x => x.2) = true
theorem accF_zero (b : Box) : accF b 0 = dTru := rfl
theorem accOk_zero (b : Box) : accOk b 0 := by unfold accOk; rw [List.take_zero]; rfl
theorem acc_take {b : Box} {i : Nat} (h : i < b.conds.length) : (b.conds.map condP).take (i + 1) = (b.conds.map condP).take i ++ [condP b.conds[i]] := by
  have h' : i < (b.conds.map condP).length := by rw [List.length_map]; exact h
  rw [List.take_succ_eq_append_getElem h', List.getElem_map]
theorem accOk_succ {b : Box} {i : Nat} {g : Form} (h : i < b.conds.length) (hi : accOk b i) (hc : condP b.conds[i] = (g, true)) : accOk b (i + 1) := by
  unfold accOk at *
  rw [acc_take h, List.all_append, hi, hc]; rfl
theorem accF_succ {b : Box} {i : Nat} {g : Form} (h : i < b.conds.length) (hi : accOk b i) (hc : condP b.conds[i] = (g, true)) : accF b (i + 1) = if i = 0 then g else dTwo 5 (accF b i) g := by
  unfold accF accOk at *
  rw [acc_take h, goC_app _ _ _ _ hi, hc, goC, if_neg (by simp), goC, List.length_take, List.length_map, Nat.min_eq_left (by omega), Nat.zero_add]
theorem body_stop {b : Box} {i : Nat} {g : Form} (h : i < b.conds.length) (hi : accOk b i) (hc : condP b.conds[i] = (g, false)) : bodyP b = (accF b i, false) := by
  unfold accF accOk at *
  rw [bodyP_eq]
  have e : b.conds.map condP = (b.conds.map condP).take i ++ condP b.conds[i] :: (b.conds.map condP).drop (i + 1) := by
    have := List.drop_eq_getElem_cons (l := b.conds.map condP) (i := i) (by rw [List.length_map]; exact h)
    rw [List.getElem_map] at this
    rw [← this, List.take_append_drop]
  conv => lhs; rw [e, goC_app _ _ _ _ hi, hc, goC, if_pos rfl]
theorem body_end {b : Box} (hi : accOk b b.conds.length) : bodyP b = (accF b b.conds.length, true) := by
  unfold accF accOk at *
  rw [show (b.conds.map condP).take b.conds.length = b.conds.map condP by rw [← List.length_map (f := condP), List.take_length]] at *
  rw [bodyP_eq]
  exact Prod.ext rfl (by rw [goC_snd]; exact hi)
end Go.Abs
