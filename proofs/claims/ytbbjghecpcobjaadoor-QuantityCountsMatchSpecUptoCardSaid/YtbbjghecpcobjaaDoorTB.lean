import Derived.Test.YtbbjghecpcobjaaDoorTR
set_option linter.unusedSimpArgs false
namespace Go.Abs
open Go

/-! ## the document's table of values: one row for each choice of individuals for the variables -/
def digsM (s : Nat) : Nat → Nat → List Int
  | 0, _ => []
  | k + 1, i => digsM s k (i / s) ++ [((i % s : Nat) : Int)]
theorem digsM_len (s : Nat) : ∀ k i, (digsM s k i).length = k
  | 0, _ => rfl
  | k + 1, i => by rw [digsM, List.length_append, digsM_len s k]; rfl
def envM (vars : List Str) (vals : List Int) : List Const := List.zipWith Const.mk vars vals
def rowM (m : Model) (f : Form) (vars : List Str) (i : Nat) : Bool := valM m f (envM vars (digsM m.size.toNat vars.length i))
def tabM (m : Model) (f : Form) (vars : List Str) : List Bool := (List.range (m.size.toNat ^ vars.length)).map (rowM m f vars)
theorem tabM_len (m : Model) (f : Form) (vars : List Str) : (tabM m f vars).length = m.size.toNat ^ vars.length := by unfold tabM; simp
theorem tabM_get {m : Model} {f : Form} {vars : List Str} {i : Nat} (h : i < m.size.toNat ^ vars.length) : (tabM m f vars).getD i false = rowM m f vars i := by
  unfold tabM
  rw [List.getD_eq_getElem?_getD, List.getElem?_map, List.getElem?_range h]
  rfl
theorem envM_snoc {s : Nat} {vars : List Str} {nm : Str} {a d : Nat} (hd : d < s) : envM (vars ++ [nm]) (digsM s (vars ++ [nm]).length (a * s + d)) = envM vars (digsM s vars.length a) ++ [⟨nm, d⟩] := by
  have hs : 0 < s := by omega
  have e1 : (a * s + d) / s = a := by rw [Nat.mul_comm, Nat.mul_add_div hs, Nat.div_eq_of_lt hd, Nat.add_zero]
  have e2 : (a * s + d) % s = d := by rw [Nat.mul_comm, Nat.mul_add_mod, Nat.mod_eq_of_lt hd]
  rw [List.length_append, List.length_cons, List.length_nil, Nat.zero_add, digsM, e1, e2]
  unfold envM
  rw [List.zipWith_append (by rw [digsM_len])]
  rfl
/-- rows of a formula with a quantifier, from those of the formula below -/
theorem indiv_all_eq {m : Model} {p : Int → Bool} : (indiv m).all p = (List.range m.size.toNat).all fun d => p (d : Int) := by
  unfold indiv; rw [List.all_map]; rfl
theorem indiv_any_eq {m : Model} {p : Int → Bool} : (indiv m).any p = (List.range m.size.toNat).any fun d => p (d : Int) := by
  unfold indiv; rw [List.any_map]; rfl
theorem row_one (m : Model) (nm : Str) (ws : List Str) (s : List Form) (vars : List Str) (i : Nat) : rowM m (.mk 1 nm ws s) vars i = true := by
  unfold rowM; rw [valM, if_pos rfl]
theorem row_all {m : Model} {nm : Str} {ws : List Str} {g : Form} {vars : List Str} {i : Nat} : rowM m (.mk 8 nm ws [g]) vars i = (List.range m.size.toNat).all fun d => rowM m g (vars ++ [nm]) (i * m.size.toNat + d) := by
  unfold rowM
  rw [valM]
  simp only [show ¬ (8 : Int) = 1 by decide, show ¬ (8 : Int) = 2 by decide, show ¬ (8 : Int) = 3 by decide, show ¬ (8 : Int) = 4 by decide, show ¬ (8 : Int) = 5 by decide, show ¬ (8 : Int) = 6 by decide, show ¬ (8 : Int) = 7 by decide, if_false, if_true]
  rw [indiv_all_eq]
  refine all_congr' fun d hd => ?_
  rw [valMs, envM_snoc (List.mem_range.1 hd)]
  rfl
where
  all_congr' {p q : Nat → Bool} {l : List Nat} (h : ∀ d ∈ l, p d = q d) : l.all p = l.all q := by
    induction l with
    | nil => rfl
    | cons a l ih => rw [List.all_cons, List.all_cons, h a (by simp), ih fun d hd => h d (by simp [hd])]
theorem row_any {m : Model} {nm : Str} {ws : List Str} {g : Form} {vars : List Str} {i : Nat} : rowM m (.mk 9 nm ws [g]) vars i = (List.range m.size.toNat).any fun d => rowM m g (vars ++ [nm]) (i * m.size.toNat + d) := by
  unfold rowM
  rw [valM]
  simp only [show ¬ (9 : Int) = 1 by decide, show ¬ (9 : Int) = 2 by decide, show ¬ (9 : Int) = 3 by decide, show ¬ (9 : Int) = 4 by decide, show ¬ (9 : Int) = 5 by decide, show ¬ (9 : Int) = 6 by decide, show ¬ (9 : Int) = 7 by decide, show ¬ (9 : Int) = 8 by decide, if_false, if_true]
  rw [indiv_any_eq]
  refine any_congr' fun d hd => ?_
  rw [valMs, envM_snoc (List.mem_range.1 hd)]
  rfl
where
  any_congr' {p q : Nat → Bool} {l : List Nat} (h : ∀ d ∈ l, p d = q d) : l.any p = l.any q := by
    induction l with
    | nil => rfl
    | cons a l ih => rw [List.any_cons, List.any_cons, h a (by simp), ih fun d hd => h d (by simp [hd])]
theorem row_not {m : Model} {nm : Str} {ws : List Str} {g : Form} {vars : List Str} {i : Nat} : rowM m (.mk 4 nm ws [g]) vars i = !rowM m g vars i := by
  unfold rowM
  rw [valM]
  simp only [show ¬ (4 : Int) = 1 by decide, show ¬ (4 : Int) = 2 by decide, show ¬ (4 : Int) = 3 by decide, if_false, if_true, valMs]
  rfl
theorem row_and {m : Model} {nm : Str} {ws : List Str} {g h : Form} {vars : List Str} {i : Nat} : rowM m (.mk 5 nm ws [g, h]) vars i = (rowM m g vars i && rowM m h vars i) := by
  unfold rowM
  rw [valM]
  simp only [show ¬ (5 : Int) = 1 by decide, show ¬ (5 : Int) = 2 by decide, show ¬ (5 : Int) = 3 by decide, show ¬ (5 : Int) = 4 by decide, if_false, if_true, valMs]
  rfl
theorem row_or {m : Model} {nm : Str} {ws : List Str} {g h : Form} {vars : List Str} {i : Nat} : rowM m (.mk 6 nm ws [g, h]) vars i = (rowM m g vars i || rowM m h vars i) := by
  unfold rowM
  rw [valM]
  simp only [show ¬ (6 : Int) = 1 by decide, show ¬ (6 : Int) = 2 by decide, show ¬ (6 : Int) = 3 by decide, show ¬ (6 : Int) = 4 by decide, show ¬ (6 : Int) = 5 by decide, if_false, if_true, valMs]
  rfl
theorem row_imp {m : Model} {nm : Str} {ws : List Str} {g h : Form} {vars : List Str} {i : Nat} : rowM m (.mk 7 nm ws [g, h]) vars i = (!rowM m g vars i || rowM m h vars i) := by
  unfold rowM
  rw [valM]
  simp only [show ¬ (7 : Int) = 1 by decide, show ¬ (7 : Int) = 2 by decide, show ¬ (7 : Int) = 3 by decide, show ¬ (7 : Int) = 4 by decide, show ¬ (7 : Int) = 5 by decide, show ¬ (7 : Int) = 6 by decide, if_false, if_true, valMs]
  rfl
/-- the rows so far, the others false -/
def partB (V : Nat → Bool) (n i : Nat) : List Bool := (List.range n).map fun j => decide (j < i) && V j
theorem partB_len (V : Nat → Bool) (n i : Nat) : (partB V n i).length = n := by unfold partB; simp
theorem partB_zero (V : Nat → Bool) (n : Nat) : partB V n 0 = List.replicate n false := by
  unfold partB
  rw [List.eq_replicate_iff]
  refine ⟨by simp, fun b hb => ?_⟩
  obtain ⟨j, _, rfl⟩ := List.mem_map.1 hb
  simp
theorem partB_all (V : Nat → Bool) (n : Nat) : partB V n n = (List.range n).map V := by
  unfold partB
  refine List.map_congr_left fun j hj => ?_
  rw [decide_eq_true (List.mem_range.1 hj), Bool.true_and]
theorem partB_get {V : Nat → Bool} {n i j : Nat} (h : j < (partB V n i).length) : (partB V n i)[j] = (decide (j < i) && V j) := by simp [partB]
theorem partB_set {V : Nat → Bool} {n i : Nat} (h : i < n) : (partB V n i).set i (V i) = partB V n (i + 1) := by
  refine List.ext_getElem (by rw [List.length_set, partB_len, partB_len]) fun j h1 h2 => ?_
  rw [List.getElem_set]
  by_cases e : i = j
  · subst e; rw [if_pos rfl, partB_get, decide_eq_true (by omega), Bool.true_and]
  · rw [if_neg e, partB_get, partB_get]
    congr 1
    exact decide_eq_decide.2 (by omega)
/-! ### the digits of a row's number, and a word's value in a row -/
def quoM (s i : Nat) : Nat → Nat
  | 0 => i
  | j + 1 => quoM s i j / s
def sufM (s i : Nat) : Nat → List Int
  | 0 => []
  | j + 1 => ((quoM s i j % s : Nat) : Int) :: sufM s i j
theorem sufM_len (s i : Nat) : ∀ j, (sufM s i j).length = j
  | 0 => rfl
  | j + 1 => by rw [sufM, List.length_cons, sufM_len s i j]
theorem digs_suf (s i : Nat) : ∀ (j k : Nat), digsM s (k + j) i = digsM s k (quoM s i j) ++ sufM s i j
  | 0, k => by rw [sufM, List.append_nil]; rfl
  | j + 1, k => by
    rw [show k + (j + 1) = (k + 1) + j by omega, digs_suf s i j (k + 1), digsM, quoM, sufM, List.append_assoc]
    rfl
theorem suf_all (s i n : Nat) : sufM s i n = digsM s n i := by
  have := digs_suf s i n 0
  rw [Nat.zero_add] at this
  rw [this, digsM, List.nil_append]
def valL (s i n j : Nat) : List Int := List.replicate (n - j) 0 ++ sufM s i j
theorem valL_len {s i n j : Nat} (h : j ≤ n) : (valL s i n j).length = n := by unfold valL; rw [List.length_append, List.length_replicate, sufM_len]; omega
theorem valL_zero (s i n : Nat) : valL s i n 0 = List.replicate n 0 := by unfold valL; rw [sufM, List.append_nil, Nat.sub_zero]
theorem valL_all (s i n : Nat) : valL s i n n = digsM s n i := by unfold valL; rw [Nat.sub_self, suf_all]; rfl
theorem set_rep {k : Nat} {v : Int} {l : List Int} : (List.replicate (k + 1) (0 : Int) ++ l).set k v = List.replicate k 0 ++ v :: l := by
  rw [List.replicate_succ', List.append_assoc, List.set_append_right _ _ (by simp)]
  simp
theorem valL_set {s i n j : Nat} (h : j < n) : (valL s i n j).set (n - 1 - j) ((quoM s i j % s : Nat) : Int) = valL s i n (j + 1) := by
  unfold valL
  rw [show n - j = (n - 1 - j) + 1 by omega, set_rep, sufM, show n - (j + 1) = n - 1 - j by omega]
theorem digsM_lt {s : Nat} (hs : 0 < s) : ∀ (n i : Nat), ∀ v ∈ digsM s n i, 0 ≤ v ∧ v < (s : Int)
  | 0, _, v, h => by simp [digsM] at h
  | n + 1, i, v, h => by
    rw [digsM, List.mem_append] at h
    rcases h with h | h
    · exact digsM_lt hs n _ v h
    · have : v = ((i % s : Nat) : Int) := by simpa using h
      have := Nat.mod_lt i hs
      omega
theorem lastE_rev (w : Str) : ∀ a : List Const, lastE a w = (a.reverse.find? fun c => decide (c.name = w)).map (·.value)
  | [] => rfl
  | c :: l => by
    have h1 := lastE_app w [c] l
    rw [List.singleton_append] at h1
    rw [h1, lastE_rev w l, List.reverse_cons, List.find?_append]
    cases hf : l.reverse.find? fun c => decide (c.name = w) with
    | some v => rfl
    | none =>
      have := lastE_snoc [] c w
      rw [List.nil_append] at this
      rw [this]
      by_cases e : c.name = w
      · simp [e]
      · simp [e, lastE]
/-- the first value of a name in a list; -1 if there is none -/
def firstV (l : List Const) (w : Str) : Int := ((l.find? fun c => decide (c.name = w)).map (·.value)).getD (-1)
theorem firstV_nil (w : Str) : firstV [] w = -1 := rfl
theorem firstV_snoc {l : List Const} {c : Const} {w : Str} (hv : ∀ x ∈ l, 0 ≤ x.value) : firstV (l ++ [c]) w = if firstV l w < 0 ∧ c.name = w then c.value else firstV l w := by
  unfold firstV
  rw [List.find?_append]
  cases hf : l.find? fun c => decide (c.name = w) with
  | some v =>
    have := hv v (List.mem_of_find?_eq_some hf)
    rw [if_neg (by simp only [Option.map_some, Option.getD_some]; omega)]
    rfl
  | none =>
    by_cases e : c.name = w
    · rw [if_pos (by simp [e])]; simp [e]
    · rw [if_neg (by simp [e])]; simp [e]
/-- what the search over the constants makes of the value so far -/
def thenV (v : Int) (l : List Const) (w : Str) : Int := if 0 ≤ v then v else firstV l w
theorem thenV_snoc {v : Int} {l : List Const} {c : Const} {w : Str} (hv : ∀ x ∈ l, 0 ≤ x.value) : thenV v (l ++ [c]) w = if thenV v l w < 0 ∧ c.name = w then c.value else thenV v l w := by
  unfold thenV
  by_cases h : 0 ≤ v
  · rw [if_pos h, if_pos h, if_neg (by omega)]
  · rw [if_neg h, if_neg h, firstV_snoc hv]
theorem firstV_some {l : List Const} {w : Str} {c : Const} (h : (l.find? fun c => decide (c.name = w)) = some c) : firstV l w = c.value := by unfold firstV; rw [h]; rfl
theorem firstV_none {l : List Const} {w : Str} (h : (l.find? fun c => decide (c.name = w)) = none) : firstV l w = -1 := by unfold firstV; rw [h]; rfl
theorem word_eq {m : Model} {env : List Const} {w : Str} (hv : ∀ x ∈ env, 0 ≤ x.value) (h : w ∈ env.map (·.name) ∨ (findC m w).isSome = true) : thenV (firstV env.reverse w) m.consts w = wordV m env w := by
  unfold wordV
  rw [lastE_rev]
  cases hf : env.reverse.find? fun c => decide (c.name = w) with
  | some c =>
    have h1 := hv c (List.mem_reverse.1 (List.mem_of_find?_eq_some hf))
    rw [firstV_some hf, thenV, if_pos h1]
    rfl
  | none =>
    rw [firstV_none hf, thenV, if_neg (by decide)]
    have h2 : (findC m w).isSome = true := by
      rcases h with h | h
      · obtain ⟨c, hc, rfl⟩ := List.mem_map.1 h
        have := List.find?_eq_none.1 hf c (List.mem_reverse.2 hc)
        simp at this
      · exact h
    unfold constV
    cases hc : findC m w with
    | none => rw [hc] at h2; cases h2
    | some c => exact firstV_some hc
theorem envM_len (vars : List Str) {l : List Int} (h : l.length = vars.length) : (envM vars l).length = vars.length := by unfold envM; rw [List.length_zipWith, h, Nat.min_self]
theorem envM_rev {vars : List Str} {l : List Int} {j : Nat} (h : l.length = vars.length) (hj : j < vars.length) (h1 : j < (envM vars l).reverse.length) : (envM vars l).reverse[j] = ⟨vars[vars.length - 1 - j], l[vars.length - 1 - j]⟩ := by
  have := envM_len vars h
  simp only [List.getElem_reverse, this]
  unfold envM
  rw [List.getElem_zipWith]
theorem envM_names {vars : List Str} {l : List Int} (h : l.length = vars.length) : (envM vars l).map (·.name) = vars := by
  unfold envM
  rw [List.map_zipWith]
  refine List.ext_getElem (by rw [List.length_zipWith, h, Nat.min_self]) fun i h1 h2 => ?_
  rw [List.getElem_zipWith]
theorem envM_vals {vars : List Str} {l : List Int} {x : Const} (hx : x ∈ envM vars l) : x.value ∈ l := by
  unfold envM at hx
  obtain ⟨i, hi, rfl⟩ := List.getElem_of_mem hx
  rw [List.getElem_zipWith]
  exact List.getElem_mem _
theorem firstV_or {l : List Const} {w : Str} (hv : ∀ x ∈ l, 0 ≤ x.value) : 0 ≤ firstV l w ∨ firstV l w = -1 := by
  cases hf : l.find? fun c => decide (c.name = w) with
  | some c => rw [firstV_some hf]; exact .inl (hv c (List.mem_of_find?_eq_some hf))
  | none => exact .inr (firstV_none hf)
theorem firstV_take {l : List Const} {w : Str} {j : Nat} (hv : ∀ x ∈ l, 0 ≤ x.value) (h : 0 ≤ firstV (l.take j) w) : firstV l w = firstV (l.take j) w := by
  have e := List.take_append_drop j l
  unfold firstV at h ⊢
  conv => lhs; rw [← e]
  rw [List.find?_append]
  cases hf : (l.take j).find? fun c => decide (c.name = w) with
  | some c => rfl
  | none => rw [hf] at h; exact absurd h (by decide)
theorem thenV_zero {v : Int} {w : Str} (h : 0 ≤ v ∨ v = -1) : thenV v [] w = v := by
  unfold thenV
  rcases h with h | h
  · rw [if_pos h]
  · rw [if_neg (by omega), firstV_nil, h]
theorem row_eq {m : Model} {nm : Str} {ws : List Str} {s : List Form} {vars : List Str} {i : Nat} : rowM m (.mk 3 nm ws s) vars i = decide (wordV m (envM vars (digsM m.size.toNat vars.length i)) (ws.getD 0 ⟨[]⟩) = wordV m (envM vars (digsM m.size.toNat vars.length i)) (ws.getD 1 ⟨[]⟩)) := by
  unfold rowM
  rw [valM]
  simp only [show ¬ (3 : Int) = 1 by decide, show ¬ (3 : Int) = 2 by decide, if_false, if_true]
theorem row_rel {m : Model} {nm : Str} {ws : List Str} {s : List Form} {vars : List Str} {i : Nat} : rowM m (.mk 2 nm ws s) vars i = decide (ws.map (wordV m (envM vars (digsM m.size.toNat vars.length i))) ∈ tupsV m nm ws.length) := by
  unfold rowM
  rw [valM]
  simp only [show ¬ (2 : Int) = 1 by decide, if_false, if_true]
/-! ### relations -/
theorem wordV_rng {P : Int → Prop} {m : Model} {env : List Const} {w : Str} (he : ∀ x ∈ env, P x.value) (hc : ∀ c ∈ m.consts, P c.value) (h : w ∈ env.map (·.name) ∨ (findC m w).isSome = true) : P (wordV m env w) := by
  unfold wordV
  rw [lastE_rev]
  cases hf : env.reverse.find? fun c => decide (c.name = w) with
  | some c => exact he c (List.mem_reverse.1 (List.mem_of_find?_eq_some hf))
  | none =>
    have h2 : (findC m w).isSome = true := by
      rcases h with h | h
      · obtain ⟨c, hc, rfl⟩ := List.mem_map.1 h
        have := List.find?_eq_none.1 hf c (List.mem_reverse.2 hc)
        simp at this
      · exact h
    show P (constV m w)
    unfold constV
    cases hg : findC m w with
    | none => rw [hg] at h2; cases h2
    | some c => exact hc c (List.mem_of_find?_eq_some hg)
def matchR (nm : Str) (n : Int) (ts : List Int) (q : MRel) : Bool := decide (q.name = nm) && (decide (q.arity = n) && q.tuples.any fun t => decide (t = ts))
theorem rel_one {m : Model} (hm : mval m) {q r : MRel} (hq : q ∈ m.rels) (hr : r ∈ m.rels) (h1 : q.name = r.name) (h2 : q.arity = r.arity) : q = r := by
  obtain ⟨i, hi, rfl⟩ := List.getElem_of_mem hq
  obtain ⟨j, hj, rfl⟩ := List.getElem_of_mem hr
  rcases Nat.lt_trichotomy i j with h | h | h
  · have := hm.r i j hi hj h
    rcases this with g | g
    · rw [h1] at g; exact absurd g (lt_irrefl' _)
    · omega
  · subst h; rfl
  · have := hm.r j i hj hi h
    rcases this with g | g
    · rw [h1] at g; exact absurd g (lt_irrefl' _)
    · omega
theorem rels_any {m : Model} (hm : mval m) {nm : Str} {n : Int} {ts : List Int} : (m.rels.any (matchR nm n ts)) = decide (ts ∈ tupsV m nm n) := by
  rw [Bool.eq_iff_iff, List.any_eq_true, decide_eq_true_eq]
  unfold tupsV
  constructor
  · rintro ⟨q, hq, h⟩
    unfold matchR at h
    rw [Bool.and_eq_true, Bool.and_eq_true, decide_eq_true_eq, decide_eq_true_eq, List.any_eq_true] at h
    obtain ⟨h1, h2, t, ht, h3⟩ := h
    have h3 := of_decide_eq_true h3
    subst h3
    cases hf : findR m nm n with
    | none =>
      have := List.find?_eq_none.1 hf q hq
      simp [h1, h2] at this
    | some r =>
      have hr := List.mem_of_find?_eq_some hf
      have hp := List.find?_some (p := fun r : MRel => decide (r.name = nm ∧ r.arity = n)) hf
      have hp := of_decide_eq_true hp
      have e := rel_one hm hq hr (by rw [h1, hp.1]) (by rw [h2, hp.2])
      rw [← e]
      exact ht
  · intro h
    cases hf : findR m nm n with
    | none => rw [hf] at h; cases h
    | some r =>
      rw [hf] at h
      have hp := List.find?_some (p := fun r : MRel => decide (r.name = nm ∧ r.arity = n)) hf
      have hp := of_decide_eq_true hp
      refine ⟨r, List.mem_of_find?_eq_some hf, ?_⟩
      unfold matchR
      rw [decide_eq_true hp.1, decide_eq_true hp.2, Bool.true_and, Bool.true_and]
      exact List.any_eq_true.2 ⟨ts, h, decide_eq_true rfl⟩
theorem fold_inj {s : Int} (hs : 0 < s) : ∀ (t t' : List Int) (a b : Int), t.length = t'.length → (∀ v ∈ t, 0 ≤ v ∧ v < s) → (∀ v ∈ t', 0 ≤ v ∧ v < s) → t.foldl (fun n v => n * s + v) a = t'.foldl (fun n v => n * s + v) b → a = b ∧ t = t'
  | [], [], a, b, _, _, _, h => ⟨h, rfl⟩
  | [], _ :: _, _, _, hl, _, _, _ => by simp at hl
  | _ :: _, [], _, _, hl, _, _, _ => by simp at hl
  | v :: t, v' :: t', a, b, hl, h1, h2, h => by
    rw [List.foldl_cons, List.foldl_cons] at h
    obtain ⟨g1, g2⟩ := fold_inj hs t t' _ _ (by simpa using hl) (fun x hx => h1 x (by simp [hx])) (fun x hx => h2 x (by simp [hx])) h
    have r1 := h1 v (by simp)
    have r2 := h2 v' (by simp)
    have e1 : (a * s + v) / s = a := by rw [Int.add_comm, Int.add_mul_ediv_right _ _ (by omega), Int.ediv_eq_zero_of_lt r1.1 r1.2, Int.zero_add]
    have e2 : (b * s + v') / s = b := by rw [Int.add_comm, Int.add_mul_ediv_right _ _ (by omega), Int.ediv_eq_zero_of_lt r2.1 r2.2, Int.zero_add]
    have e3 : a = b := by rw [← e1, ← e2, g1]
    subst e3
    exact ⟨rfl, by rw [g2, show v = v' by omega]⟩
theorem partB_false {V : Nat → Bool} {n i : Nat} (h : i < n) : (partB V n i).set i false = partB V n i := by
  refine (List.ext_getElem (by rw [List.length_set]) fun j h1 h2 => ?_)
  rw [List.getElem_set]
  split
  · rename_i e
    subst e
    rw [partB_get, decide_eq_false (by omega), Bool.false_and]
  · rfl
end Go.Abs
