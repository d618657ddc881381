import Derived.Test.YtdlioodgfopmfaaDoorLW
set_option linter.unusedSimpArgs false
namespace Go.Abs
open Go

structure Const where
  name : Str
  value : Int
deriving DecidableEq
structure MRel where
  name : Str
  arity : Int
  tuples : List (List Int)
deriving DecidableEq
structure Model where
  size : Int
  consts : List Const
  rels : List MRel
deriving DecidableEq
instance : Inhabited Const := ⟨⟨⟨[]⟩, 0⟩⟩
instance : Inhabited MRel := ⟨⟨⟨[]⟩, 0, []⟩⟩
@[go_sem] theorem const_eta {c : Const} : Const.mk c.name c.value = c := by cases c; rfl
@[go_sem] theorem rel_eta {r : MRel} : MRel.mk r.name r.arity r.tuples = r := by cases r; rfl
@[go_sem] theorem model_eta {m : Model} : Model.mk m.size m.consts m.rels = m := by cases m; rfl
instance : Enc Const := ⟨fun c => .agg [.s c.name.l, .i .i64 c.value], fun x => match x with | .agg [.s a, .i _ n] => ⟨⟨a⟩, n⟩ | _ => default, fun c => by cases c; rfl⟩
@[go_sem] theorem enc_const {c : Const} : enc c = .agg [.s c.name.l, .i .i64 c.value] := rfl
@[go_sem] theorem dec_const {a i n} : dec (α := Const) (.agg [.s a, .i i n]) = ⟨⟨a⟩, n⟩ := rfl
instance : Kc Const 2 := ⟨fun _ => rfl⟩
@[go_sem] theorem lens_consts {l : List Const} : lens (l.map enc) 2 = True := eq_true (lens_kc l)
@[go_sem] theorem flats_consts {l : List Const} : (flatFz (l.map enc)).all oneB = true := by
  rw [List.all_eq_true]
  intro d hd
  simp only [flatFz, List.mem_flatMap, List.mem_map] at hd
  obtain ⟨_, ⟨a, _, rfl⟩, x, hx, rfl⟩ := hd
  simp only [enc_const, FD.cells, List.mem_cons, List.not_mem_nil, or_false] at hx
  rcases hx with rfl | rfl <;> rfl
instance : Enc MRel := ⟨fun r => .agg [.s r.name.l, .i .i64 r.arity, .sl (r.tuples.map enc)], fun x => match x with | .agg [.s a, .i _ n, .sl t] => ⟨⟨a⟩, n, t.map dec⟩ | _ => default, fun r => by
  cases r; simp only [map_dec_enc]⟩
@[go_sem] theorem enc_rel {r : MRel} : enc r = .agg [.s r.name.l, .i .i64 r.arity, .sl (r.tuples.map enc)] := rfl
@[go_sem] theorem dec_rel {a i n t} : dec (α := MRel) (.agg [.s a, .i i n, .sl t]) = ⟨⟨a⟩, n, dec (.sl t)⟩ := rfl
instance : Kc MRel 3 := ⟨fun _ => rfl⟩
@[go_sem] theorem lens_rels {l : List MRel} : lens (l.map enc) 3 = True := eq_true (lens_kc l)
@[go_sem] theorem flats_rels {l : List MRel} : (flatFz (l.map enc)).all oneB = true := by
  rw [List.all_eq_true]
  intro d hd
  simp only [flatFz, List.mem_flatMap, List.mem_map] at hd
  obtain ⟨_, ⟨a, _, rfl⟩, x, hx, rfl⟩ := hd
  simp only [enc_rel, FD.cells, List.mem_cons, List.not_mem_nil, or_false] at hx
  rcases hx with rfl | rfl | rfl <;> rfl
instance : Enc Model := ⟨fun m => .agg [.i .i64 m.size, .sl (m.consts.map enc), .sl (m.rels.map enc)], fun x => match x with | .agg [.i _ n, .sl c, .sl r] => ⟨n, c.map dec, r.map dec⟩ | _ => ⟨0, [], []⟩, fun m => by
  cases m; simp only [map_dec_enc]⟩
@[go_sem] theorem enc_model {m : Model} : enc m = .agg [.i .i64 m.size, .sl (m.consts.map enc), .sl (m.rels.map enc)] := rfl
@[go_sem] theorem dec_model {i n c r} : dec (α := Model) (.agg [.i i n, .sl c, .sl r]) = ⟨n, dec (.sl c), dec (.sl r)⟩ := rfl

theorem bytesLess_lt' : ∀ x y : List UInt8, Op.bytesLess x y = decide (x < y)
  | [], [] => by simp [Op.bytesLess]
  | _ :: _, [] => by simp [Op.bytesLess]
  | [], _ :: _ => by simp [Op.bytesLess]
  | a :: x, b :: y => by
    rw [Op.bytesLess, bytesLess_lt' x y]
    by_cases h1 : a < b <;> by_cases h2 : a = b <;> simp [h1, h2, List.cons_lt_cons_iff]
def cmpS (a b : Str) : Int := if a.l < b.l then -1 else if b.l < a.l then 1 else 0
def cmpI (a b : Int) : Int := if a < b then -1 else if b < a then 1 else 0
def cmpR (a b : MRel) : Int := if cmpS a.name b.name ≠ 0 then cmpS a.name b.name else cmpI a.arity b.arity
def cmpL : List Int → List Int → Int
  | [], [] => 0
  | [], _ :: _ => -1
  | _ :: _, [] => 1
  | a :: as, b :: bs => if cmpI a b ≠ 0 then cmpI a b else cmpL as bs
theorem cmpI_zero {a b : Int} : cmpI a b = 0 ↔ a = b := by unfold cmpI; split <;> (try split) <;> omega
theorem cmpI_neg {a b : Int} : cmpI a b < 0 ↔ a < b := by unfold cmpI; split <;> (try split) <;> omega
theorem lt_irrefl' (l : List UInt8) : ¬ l < l := List.lt_irrefl l
theorem str_lt_trans {a b c : List UInt8} (h : a < b) (h2 : b < c) : a < c := List.lt_trans h h2
theorem str_tri (a b : List UInt8) : a < b ∨ a = b ∨ b < a := by
  by_cases h : a < b
  · exact .inl h
  by_cases h2 : b < a
  · exact .inr (.inr h2)
  exact .inr (.inl (List.le_antisymm (by simpa using h2) (by simpa using h)))
theorem cmpS_zero {a b : Str} : cmpS a b = 0 ↔ a = b := by
  unfold cmpS
  constructor
  · intro h
    rcases str_tri a.l b.l with h1 | h1 | h1
    · rw [if_pos h1] at h; omega
    · cases a; cases b; simp only at h1; rw [h1]
    · rw [if_neg (fun h2 => lt_irrefl' _ (str_lt_trans h1 h2)), if_pos h1] at h; omega
  · rintro rfl; rw [if_neg (lt_irrefl' _), if_neg (lt_irrefl' _)]
theorem cmpS_neg {a b : Str} : cmpS a b < 0 ↔ a.l < b.l := by
  unfold cmpS
  by_cases h : a.l < b.l
  · rw [if_pos h]; simp [h]
  · rw [if_neg h]; simp only [h, iff_false]; split <;> omega
theorem cmpR_zero {a b : MRel} : cmpR a b = 0 ↔ a.name = b.name ∧ a.arity = b.arity := by
  unfold cmpR
  split
  · rename_i h
    simp only [h, false_iff]
    rintro ⟨h1, _⟩
    exact h (cmpS_zero.2 h1)
  · rename_i h
    rw [cmpI_zero, cmpS_zero.1 (Decidable.not_not.1 h)]
    simp
def ltR (a b : MRel) : Prop := a.name.l < b.name.l ∨ (a.name = b.name ∧ a.arity < b.arity)
theorem cmpR_neg {a b : MRel} : cmpR a b < 0 ↔ ltR a b := by
  unfold cmpR ltR
  split
  · rename_i h
    rw [cmpS_neg]
    constructor
    · exact .inl
    · rintro (h1 | ⟨h1, _⟩)
      · exact h1
      · exact absurd (cmpS_zero.2 h1) h
  · rename_i h
    have h := cmpS_zero.1 (Decidable.not_not.1 h)
    rw [cmpI_neg, h]
    simp only [lt_irrefl', false_or, true_and]
theorem ltR_trans {a b c : MRel} (h : ltR a b) (h2 : ltR b c) : ltR a c := by
  rcases h with h | ⟨h, h'⟩ <;> rcases h2 with h2 | ⟨h2, h2'⟩
  · exact .inl (str_lt_trans h h2)
  · exact .inl (by rw [← h2]; exact h)
  · exact .inl (by rw [h]; exact h2)
  · exact .inr ⟨h.trans h2, by omega⟩

theorem filter_pre {α : Type} (p : α → Bool) : ∀ (l : List α) (i : Nat), i ≤ l.length → (∀ j (h : j < l.length), j < i → p l[j] = true) → (∀ j (h : j < l.length), i ≤ j → p l[j] = false) → (l.filter p).length = i
  | [], i, hi, _, _ => by simp at hi; simp [hi]
  | a :: l, 0, _, _, h2 => by
    rw [List.filter_eq_nil_iff.2]
    · rfl
    · intro x hx
      obtain ⟨j, hj, rfl⟩ := List.getElem_of_mem hx
      rw [h2 j hj (Nat.zero_le _)]; simp
  | a :: l, i + 1, hi, h1, h2 => by
    have ha := h1 0 (by simp) (by omega)
    simp only [List.getElem_cons_zero] at ha
    rw [List.filter_cons, if_pos ha, List.length_cons, filter_pre p l i (by simpa using hi) (fun j hj h => by have := h1 (j + 1) (by simpa using hj) (by omega); simpa using this) (fun j hj h => by have := h2 (j + 1) (by simpa using hj) (by omega); simpa using this)]

def findC (m : Model) (w : Str) : Option Const := m.consts.find? fun c => decide (c.name = w)
def findR (m : Model) (w : Str) (n : Int) : Option MRel := m.rels.find? fun r => decide (r.name = w ∧ r.arity = n)
def lastE : List Const → Str → Option Int
  | [], _ => none
  | e :: es, w => match lastE es w with
    | some v => some v
    | none => if e.name = w then some e.value else none
theorem lastE_app (w : Str) : ∀ (a b : List Const), lastE (a ++ b) w = match lastE b w with | some v => some v | none => lastE a w
  | [], b => by rw [List.nil_append, lastE]; cases lastE b w <;> rfl
  | e :: a, b => by
    rw [List.cons_append, lastE, lastE_app w a b, lastE]
    cases lastE b w <;> rfl
theorem lastE_snoc (a : List Const) (e : Const) (w : Str) : lastE (a ++ [e]) w = if e.name = w then some e.value else lastE a w := by
  rw [lastE_app, lastE, lastE]
  by_cases h : e.name = w
  · rw [if_pos h, if_pos h]
  · rw [if_neg h, if_neg h]
def constV (m : Model) (w : Str) : Int := match findC m w with | some c => c.value | none => 0
def wordV (m : Model) (env : List Const) (w : Str) : Int := match lastE env w with | some v => v | none => constV m w
def tupsV (m : Model) (w : Str) (n : Int) : List (List Int) := match findR m w n with | some r => r.tuples | none => []
def indiv (m : Model) : List Int := (List.range m.size.toNat).map Int.ofNat
mutual
def valM (m : Model) : Form → List Const → Bool
  | .mk k nm ws s, env =>
    if k = 1 then true
    else if k = 2 then decide (ws.map (wordV m env) ∈ tupsV m nm ws.length)
    else if k = 3 then decide (wordV m env (ws.getD 0 ⟨[]⟩) = wordV m env (ws.getD 1 ⟨[]⟩))
    else if k = 4 then !(valMs m s env).getD 0 false
    else if k = 5 then (valMs m s env).getD 0 false && (valMs m s env).getD 1 false
    else if k = 6 then (valMs m s env).getD 0 false || (valMs m s env).getD 1 false
    else if k = 7 then !(valMs m s env).getD 0 false || (valMs m s env).getD 1 false
    else if k = 8 then (indiv m).all fun v => (valMs m s (env ++ [⟨nm, v⟩])).getD 0 false
    else if k = 9 then (indiv m).any fun v => (valMs m s (env ++ [⟨nm, v⟩])).getD 0 false
    else false
def valMs (m : Model) : List Form → List Const → List Bool
  | [], _ => []
  | f :: fs, env => valM m f env :: valMs m fs env
end
theorem valMs_map (m : Model) (env : List Const) : ∀ l : List Form, valMs m l env = l.map fun f => valM m f env
  | [] => by rw [valMs]; rfl
  | f :: l => by rw [valMs, valMs_map m env l]; rfl
mutual
def nestM : Form → Nat
  | .mk k _ _ s => nestMs s + if isQ k then 1 else 0
def nestMs : List Form → Nat
  | [] => 0
  | f :: fs => max (nestM f) (nestMs fs)
end
mutual
def hasR (m : Model) : Form → Bool
  | .mk k nm ws s => (!decide (k = 2) || (findR m nm ws.length).isSome) && hasRs m s
def hasRs (m : Model) : List Form → Bool
  | [] => true
  | f :: fs => hasR m f && hasRs m fs
end
def lacksM (m : Model) (f : Form) : Bool := !((cst f []).all (fun c => (findC m c).isSome) && hasR m f)

def constC (size : Int) (prev : Option Const) (c : Const) : Int :=
  if isName c.name = false then 10 else if (match prev with | some p => !decide (p.name.l < c.name.l) | none => false) = true then 13 else if c.value < 0 ∨ size ≤ c.value then 3 else 0
def tupC (size arity : Int) (prev : Option (List Int)) (t : List Int) : Int :=
  if (t.length : Int) ≠ arity then 9 else if t.any (fun v => decide (v < 0 ∨ size ≤ v)) = true then 3 else if (match prev with | some p => decide (0 ≤ cmpL p t) | none => false) = true then 13 else 0
def restT (size arity : Int) : Option (List Int) → List (List Int) → Int
  | _, [] => 0
  | p, t :: ts => if tupC size arity p t ≠ 0 then tupC size arity p t else restT size arity (some t) ts
def relC (size : Int) (prev : Option MRel) (r : MRel) : Int :=
  if isName r.name = false then 10 else if r.arity < 0 ∨ 3 < r.arity then 3 else if (match prev with | some p => decide (0 ≤ cmpR p r) | none => false) = true then 13 else restT size r.arity none r.tuples
def restC (size : Int) : Option Const → List Const → Nat → Fault
  | _, [], _ => ⟨0, 0⟩
  | p, c :: cs, i => if constC size p c ≠ 0 then ⟨constC size p c, i⟩ else restC size (some c) cs (i + 1)
def restR (size : Int) : Option MRel → List MRel → Nat → Fault
  | _, [], _ => ⟨0, 0⟩
  | p, r :: rs, i => if relC size p r ≠ 0 then ⟨relC size p r, i⟩ else restR size (some r) rs (i + 1)
def modelM (m : Model) : Fault :=
  if m.size < 1 ∨ 6 < m.size then ⟨3, 0⟩ else if 300 < m.consts.length ∨ 300 < m.rels.length then ⟨2, 0⟩
  else if (restC m.size none m.consts 0).code ≠ 0 then restC m.size none m.consts 0 else restR m.size none m.rels 0
end Go.Abs
namespace Go.Abs
open Go
mutual
def vok : Form → Prop
  | .mk k _ ws s => 1 ≤ k ∧ k ≤ 9 ∧ (k = 2 → ws.length ≤ 3) ∧ (k = 3 → ws.length = 2) ∧ (k = 4 ∨ k = 8 ∨ k = 9 → s.length = 1) ∧ (k = 5 ∨ k = 6 ∨ k = 7 → s.length = 2) ∧ voks s
def voks : List Form → Prop
  | [] => True
  | f :: fs => vok f ∧ voks fs
end
theorem voks_mem : ∀ l : List Form, voks l ↔ ∀ f ∈ l, vok f
  | [] => by rw [voks]; simp
  | f :: l => by rw [voks, voks_mem l]; simp
theorem vok_eq {f : Form} : vok f ↔ 1 ≤ f.kind ∧ f.kind ≤ 9 ∧ (f.kind = 2 → f.words.length ≤ 3) ∧ (f.kind = 3 → f.words.length = 2) ∧ (f.kind = 4 ∨ f.kind = 8 ∨ f.kind = 9 → f.subs.length = 1) ∧ (f.kind = 5 ∨ f.kind = 6 ∨ f.kind = 7 → f.subs.length = 2) ∧ voks f.subs := by
  cases f; rw [vok]; rfl
mutual
theorem chk_vok : ∀ (f : Form) (d : Int) (n : Nat), (chk false f d n).1.code = 0 → vok f
  | .mk k nm w s, d, n, h => by
    rw [chk] at h
    split at h
    · rename_i h1; exact absurd h h1
    · rename_i h1
      have h2 := nodeC_words (Decidable.not_not.1 h1)
      have h3 := h2.2.2.2.2
      have h4 : (if k = 2 then decide (w.length ≤ 3) else if k = 3 then decide (w.length = 2) else decide (w.length = 0)) = true := h2.2.2.2.1
      simp only [form_subs] at h3
      have h5 : partsK false (.mk k nm w s) = subsK k := by unfold partsK; simp [form_kind]
      rw [h5] at h3
      unfold subsK at h3
      rw [vok]
      have h6 := chks_vok s _ _ h
      refine ⟨?_, ?_, fun e => ?_, fun e => ?_, fun e => ?_, fun e => ?_, h6⟩
      · repeat' (first | omega | split at h3)
      · repeat' (first | omega | split at h3)
      · rw [if_pos e] at h4; simpa using h4
      · rw [if_neg (by omega), if_pos e] at h4; simpa using h4
      · rw [if_neg (by omega), if_pos e] at h3; omega
      · rw [if_neg (by omega), if_neg (by omega), if_pos e] at h3; omega
theorem chks_vok : ∀ (fs : List Form) (d : Int) (n : Nat), (chks false fs d n).1.code = 0 → voks fs
  | [], d, n, _ => by rw [voks]; trivial
  | f :: fs, d, n, h => by
    rw [chks] at h
    split at h
    · rename_i h1; exact absurd h h1
    · rename_i h1
      rw [voks]
      exact ⟨chk_vok f d n (Decidable.not_not.1 h1), chks_vok fs d _ h⟩
end
theorem checkM_vok {f : Form} (h : (checkM false f).code = 0) : vok f := chk_vok f 1 0 h
theorem cmpL_zero : ∀ {a b : List Int}, cmpL a b = 0 ↔ a = b
  | [], [] => by simp [cmpL]
  | [], _ :: _ => by simp [cmpL]
  | _ :: _, [] => by simp [cmpL]
  | a :: as, b :: bs => by
    rw [cmpL]
    split
    · rename_i h
      simp only [h, false_iff, List.cons.injEq]
      rintro ⟨e, _⟩
      exact h (cmpI_zero.2 e)
    · rename_i h
      have h := cmpI_zero.1 (Decidable.not_not.1 h)
      rw [cmpL_zero, h]; simp
theorem cmpL_trans : ∀ {a b c : List Int}, cmpL a b < 0 → cmpL b c ≤ 0 → cmpL a c < 0
  | [], [], _, h, _ => by simp [cmpL] at h
  | [], _ :: _, [], _, h => by simp [cmpL] at h
  | [], _ :: _, _ :: _, _, _ => by simp [cmpL]
  | _ :: _, [], _, h, _ => by simp [cmpL] at h
  | _ :: _, _ :: _, [], _, h => by simp [cmpL] at h
  | a :: as, b :: bs, c :: cs, h, h2 => by
    rw [cmpL] at h h2 ⊢
    have key := fun h1 h2 => cmpL_trans (a := as) (b := bs) (c := cs) h1 h2
    unfold cmpI at *
    repeat' (first | omega | exact key h h2 | split at h | split at h2 | split)
    all_goals (first | omega | exact key h h2 | skip)
structure mval (m : Model) : Prop where
  c : ∀ i j (hi : i < m.consts.length) (hj : j < m.consts.length), i < j → m.consts[i].name.l < m.consts[j].name.l
  r : ∀ i j (hi : i < m.rels.length) (hj : j < m.rels.length), i < j → ltR m.rels[i] m.rels[j]
  t : ∀ r ∈ m.rels, ∀ i j (hi : i < r.tuples.length) (hj : j < r.tuples.length), i < j → cmpL r.tuples[i] r.tuples[j] < 0
  s1 : 1 ≤ m.size
  s6 : m.size ≤ 6
  lc : m.consts.length ≤ 300
  lr : m.rels.length ≤ 300
theorem indiv_all {m : Model} {p : Int → Bool} (h : ∀ v : Nat, (v : Int) < m.size → p v = true) : (indiv m).all p = true := by
  rw [List.all_eq_true]
  intro x hx
  unfold indiv at hx
  obtain ⟨v, hv, rfl⟩ := List.mem_map.1 hx
  exact h v (by have := List.mem_range.1 hv; omega)
theorem indiv_mem {m : Model} {v : Nat} (h : (v : Int) < m.size) : (v : Int) ∈ indiv m := List.mem_map.2 ⟨v, List.mem_range.2 (by omega), rfl⟩
theorem indiv_all_not {m : Model} {p : Int → Bool} {v : Nat} (h : (v : Int) < m.size) (hp : p v = false) : (indiv m).all p = false := by
  cases ha : (indiv m).all p with
  | false => rfl
  | true => rw [List.all_eq_true.1 ha _ (indiv_mem h)] at hp; cases hp
theorem indiv_any {m : Model} {p : Int → Bool} {v : Nat} (h : (v : Int) < m.size) (hp : p v = true) : (indiv m).any p = true := List.any_eq_true.2 ⟨_, indiv_mem h, hp⟩
theorem indiv_any_not {m : Model} {p : Int → Bool} (h : ∀ v : Nat, (v : Int) < m.size → p v = false) : (indiv m).any p = false := by
  cases ha : (indiv m).any p with
  | false => rfl
  | true =>
    obtain ⟨x, hx, hp⟩ := List.any_eq_true.1 ha
    unfold indiv at hx
    obtain ⟨v, hv, rfl⟩ := List.mem_map.1 hx
    have := h v (by have := List.mem_range.1 hv; omega)
    rw [show (Int.ofNat v : Int) = (v : Int) from rfl, this] at hp; cases hp
end Go.Abs
