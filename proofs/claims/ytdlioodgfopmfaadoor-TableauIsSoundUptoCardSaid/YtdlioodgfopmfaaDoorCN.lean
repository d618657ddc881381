import Derived.Test.YtdlioodgfopmfaaDoorY5
import Derived.Test.YtdlioodgfopmfaaDoorY2
set_option linter.unusedSimpArgs false
namespace Go.Abs
open Go

mutual
def Form.fit : Form → Bool
  | .mk _ _ w s => decide (w.length ≤ 1000) && decide (s.length ≤ 1000) && Form.fits s
def Form.fits : List Form → Bool
  | [] => true
  | f :: fs => f.fit && Form.fits fs
end
theorem Form.fits_mem : ∀ {l : List Form} {f : Form}, Form.fits l = true → f ∈ l → f.fit = true
  | g :: l, f, h, hm => by
    rw [Form.fits, Bool.and_eq_true] at h
    rcases List.mem_cons.1 hm with rfl | hm
    · exact h.1
    · exact Form.fits_mem h.2 hm
theorem Form.fit_eq {f : Form} (h : f.fit = true) : f.words.length ≤ 1000 ∧ f.subs.length ≤ 1000 ∧ Form.fits f.subs = true := by
  cases f; rw [Form.fit] at h
  simp only [Bool.and_eq_true, decide_eq_true_eq] at h
  exact ⟨h.1.1, h.1.2, h.2⟩
theorem nodeC_fit {op : Bool} {f : Form} {d : Int} {n : Nat} (h : nodeC op f d n = 0) : f.words.length ≤ 1000 ∧ f.subs.length ≤ 1000 := by
  unfold nodeC at h
  split at h
  · simp at h
  split at h
  · simp at h
  split at h
  · simp at h
  rename_i h1 h2 h3
  have h4 := Decidable.not_not.1 h3
  have h5 : partsK op f ≤ 2 := by
    unfold partsK subsK
    repeat' (split <;> try decide)
  have h6 := h4.2
  unfold wordsOk at h6
  refine ⟨?_, by omega⟩
  split at h6
  · simp only [decide_eq_true_eq] at h6; omega
  split at h6
  · simp only [decide_eq_true_eq] at h6; omega
  · simp only [decide_eq_true_eq] at h6; omega
mutual
theorem chk_fit {op : Bool} : ∀ (f : Form) (d : Int) (n : Nat), (chk op f d n).1.code = 0 → f.fit = true
  | .mk k nm w s, d, n, h => by
    rw [chk] at h
    split at h
    · rename_i h1; exact absurd h h1
    rename_i h1
    have h2 := nodeC_fit (Decidable.not_not.1 h1)
    rw [Form.fit]
    simp only [Bool.and_eq_true, decide_eq_true_eq]
    exact ⟨h2, chks_fit s _ _ h⟩
theorem chks_fit {op : Bool} : ∀ (fs : List Form) (d : Int) (n : Nat), (chks op fs d n).1.code = 0 → Form.fits fs = true
  | [], _, _, _ => by rw [Form.fits]
  | f :: fs, d, n, h => by
    rw [chks] at h
    split at h
    · rename_i h1; exact absurd h h1
    rename_i h1
    rw [Form.fits, Bool.and_eq_true]
    exact ⟨chk_fit f d n (Decidable.not_not.1 h1), chks_fit fs _ _ h⟩
end
theorem checkM_fit {op : Bool} {f : Form} (h : (checkM op f).code = 0) : f.fit = true := chk_fit f 1 0 h

def valD (l : List UInt8) : Nat := l.foldl (fun a d => a * 10 + (d.toNat - 48)) 0
theorem valD_snoc (l : List UInt8) (d : UInt8) : valD (l ++ [d]) = valD l * 10 + (d.toNat - 48) := by
  unfold valD; rw [List.foldl_append]; rfl
theorem dig_val {u : Nat} (h : u < 10) : (UInt8.ofNat (48 + u)).toNat - 48 = u := by
  rw [UInt8.toNat_ofNat', Nat.mod_eq_of_lt (by omega)]; omega
theorem val_digits : ∀ u, valD (digits u) = u := by
  intro u
  unfold digits
  induction u using Nat.strongRecOn with
  | _ u ih =>
    rw [Lib.decDigits]
    split
    · rename_i h
      have := dig_val h
      simpa [valD] using this
    · rename_i h
      rw [valD_snoc, ih (u / 10) (by omega), dig_val (by omega)]
      omega
theorem digits_inj {u v : Nat} (h : digits u = digits v) : u = v := by rw [← val_digits u, ← val_digits v, h]
theorem digits_len (u : Nat) : (digits u).length ≤ u + 1 := decDigits_len u

def vnum (k : Nat) : Str := ⟨118 :: digits k⟩
theorem vnum_inj {u v : Nat} (h : vnum u = vnum v) : u = v := digits_inj (List.cons.inj (Str.mk.inj h)).2
def bang (w : Str) : Prop := w.l.head? = some 33
instance (w : Str) : Decidable (bang w) := inferInstanceAs (Decidable (_ = _))
def nextF (used : List Str) : Nat → Nat → Nat
  | 0, k => k
  | m + 1, k => if vnum k ∈ used then nextF used m (k + 1) else k
def nextM (used : List Str) (k : Nat) : Nat := nextF used used.length k

theorem nextF_le (used : List Str) : ∀ m k, k ≤ nextF used m k ∧ nextF used m k ≤ k + m
  | 0, k => by simp [nextF]
  | m + 1, k => by
    rw [nextF]
    split
    · have := nextF_le used m (k + 1); omega
    · omega
theorem nextF_taken (used : List Str) : ∀ m k i, k ≤ i → i < nextF used m k → vnum i ∈ used
  | 0, k, i, h1, h2 => by simp only [nextF] at h2; omega
  | m + 1, k, i, h1, h2 => by
    rw [nextF] at h2
    split at h2
    · rename_i h
      rcases Nat.eq_or_lt_of_le h1 with rfl | h1
      · exact h
      · exact nextF_taken used m (k + 1) i h1 h2
    · omega
theorem nextF_free (used : List Str) : ∀ m k, nextF used m k < k + m → vnum (nextF used m k) ∉ used
  | 0, k, h => by simp [nextF] at h
  | m + 1, k, h => by
    rw [nextF] at h ⊢
    split
    · rename_i h1
      rw [if_pos h1] at h
      exact nextF_free used m (k + 1) (by omega)
    · assumption
theorem pig : ∀ (used : List Str) (S : List Nat), S.Nodup → (∀ i ∈ S, vnum i ∈ used) → S.length ≤ used.length
  | [], S, _, h => by
    cases S with
    | nil => simp
    | cons i S => have := h i (by simp); simp at this
  | u :: us, S, hn, h => by
    by_cases he : ∃ i ∈ S, vnum i = u
    · obtain ⟨i, hi, rfl⟩ := he
      have h1 := pig us (S.erase i) (hn.erase i) fun j hj => by
        have h2 := (List.Nodup.mem_erase_iff hn).1 hj
        rcases List.mem_cons.1 (h j h2.2) with h3 | h3
        · exact absurd (vnum_inj h3) h2.1
        · exact h3
      rw [List.length_erase_of_mem hi] at h1
      simp only [List.length_cons]
      omega
    · have h1 := pig us S hn fun j hj => by
        rcases List.mem_cons.1 (h j hj) with h3 | h3
        · exact absurd ⟨j, hj, h3⟩ he
        · exact h3
      simp only [List.length_cons]
      omega
theorem nextM_spec (used : List Str) (k : Nat) : k ≤ nextM used k ∧ nextM used k ≤ k + used.length ∧ vnum (nextM used k) ∉ used ∧ ∀ i, k ≤ i → i < nextM used k → vnum i ∈ used := by
  unfold nextM
  have h1 := nextF_le used used.length k
  have h2 := nextF_taken used used.length k
  refine ⟨h1.1, h1.2, ?_, h2⟩
  rcases Nat.lt_or_ge (nextF used used.length k) (k + used.length) with h | h
  · exact nextF_free used _ _ h
  · have he : nextF used used.length k = k + used.length := by omega
    intro hin
    rw [he] at hin h2
    have h3 := pig used (List.range' k (used.length + 1)) List.nodup_range' fun i hi => by
      have := List.mem_range'_1.1 hi
      rcases Nat.lt_or_ge i (k + used.length) with h4 | h4
      · exact h2 i this.1 h4
      · obtain rfl : i = k + used.length := by omega
        exact hin
    rw [List.length_range'] at h3
    omega
theorem nextM_congr {a b : List Str} (h : ∀ j, vnum j ∈ a ↔ vnum j ∈ b) (k : Nat) : nextM a k = nextM b k := by
  obtain ⟨a1, _, a3, a4⟩ := nextM_spec a k
  obtain ⟨b1, _, b3, b4⟩ := nextM_spec b k
  rcases Nat.lt_trichotomy (nextM a k) (nextM b k) with h1 | h1 | h1
  · exact absurd ((h _).2 (b4 _ a1 h1)) a3
  · exact h1
  · exact absurd ((h _).1 (a4 _ b1 h1)) b3
theorem nextM_in {used : List Str} {k : Nat} (h : vnum k ∈ used) : nextM used k = nextM used (k + 1) := by
  obtain ⟨a1, _, a3, a4⟩ := nextM_spec used k
  obtain ⟨b1, _, b3, b4⟩ := nextM_spec used (k + 1)
  have h0 : nextM used k ≠ k := by intro e; rw [e] at a3; exact a3 h
  rcases Nat.lt_trichotomy (nextM used k) (nextM used (k + 1)) with h1 | h1 | h1
  · exact absurd (b4 _ (by omega) h1) a3
  · exact h1
  · exact absurd (a4 _ (by omega) h1) b3
theorem nextM_out {used : List Str} {k : Nat} (h : vnum k ∉ used) : nextM used k = k := by
  obtain ⟨a1, _, a3, a4⟩ := nextM_spec used k
  rcases Nat.eq_or_lt_of_le a1 with h1 | h1
  · exact h1.symm
  · exact absurd (a4 k (Nat.le_refl _) h1) h

structure Bind where
  fr : Str
  to : Str
  deriving DecidableEq, Inhabited
instance : Enc Bind := ⟨fun b => .agg [.s b.fr.l, .s b.to.l], fun x => match x with | .agg [.s a, .s b] => ⟨⟨a⟩, ⟨b⟩⟩ | _ => ⟨⟨[]⟩, ⟨[]⟩⟩, fun b => by cases b; rfl⟩
@[go_sem] theorem enc_bind {b : Bind} : enc b = .agg [.s b.fr.l, .s b.to.l] := rfl
@[go_sem] theorem dec_bind {a b : List UInt8} : dec (α := Bind) (.agg [.s a, .s b]) = ⟨⟨a⟩, ⟨b⟩⟩ := rfl
instance : Kc Bind 2 := ⟨fun _ => rfl⟩
@[go_sem] theorem lens_binds {l : List Bind} : lens (l.map enc) 2 = True := eq_true (lens_kc l)
@[go_sem] theorem flats_binds {l : List Bind} : (flatFz (l.map enc)).all oneB = true := by
  rw [List.all_eq_true]
  intro d hd
  simp only [flatFz, List.mem_flatMap, List.mem_map] at hd
  obtain ⟨_, ⟨a, _, rfl⟩, x, hx, rfl⟩ := hd
  simp only [enc_bind, FD.cells, List.mem_cons, List.not_mem_nil, or_false] at hx
  rcases hx with rfl | rfl <;> rfl

def lkpN (env : List Bind) (w : Str) : Nat → Str
  | 0 => w
  | i + 1 => if (env.getD i default).fr = w then (env.getD i default).to else lkpN env w i
def lkp (env : List Bind) (w : Str) : Str := lkpN env w env.length
theorem lkpN_app (env : List Bind) (b : Bind) (w : Str) : ∀ i, i ≤ env.length → lkpN (env ++ [b]) w i = lkpN env w i
  | 0, _ => rfl
  | i + 1, h => by
    rw [lkpN, lkpN, lkpN_app env b w i (by omega)]
    have : (env ++ [b]).getD i default = env.getD i default := by
      rw [List.getD_eq_getElem?_getD, List.getD_eq_getElem?_getD, List.getElem?_append_left (by omega)]
    rw [this]
theorem lkp_snoc (env : List Bind) (b : Bind) (w : Str) : lkp (env ++ [b]) w = if b.fr = w then b.to else lkp env w := by
  unfold lkp
  rw [List.length_append, List.length_singleton, lkpN, lkpN_app env b w _ (Nat.le_refl _)]
  have : (env ++ [b]).getD env.length default = b := by
    rw [List.getD_eq_getElem?_getD, List.getElem?_append_right (Nat.le_refl _), Nat.sub_self]; rfl
  rw [this]
theorem lkp_nil (w : Str) : lkp [] w = w := rfl
theorem lkp_map {env env' : List Bind} {s : Str → Str} (h1 : env'.map (·.fr) = env.map (·.fr)) (h2 : env'.map (·.to) = env.map fun b => s b.to) {w : Str} (hw : s w = w) : lkp env' w = s (lkp env w) := by
  have hl : env'.length = env.length := by have := congrArg List.length h1; simpa using this
  have key : ∀ i, i ≤ env.length → lkpN env' w i = s (lkpN env w i) := by
    intro i
    induction i with
    | zero => intro _; exact hw.symm
    | succ i ih =>
      intro hi
      have e1 : (env'.getD i default).fr = (env.getD i default).fr := by
        have := congrArg (fun l : List Str => l[i]?) h1
        simp only [List.getElem?_map, List.getElem?_eq_getElem (show i < env.length by omega), List.getElem?_eq_getElem (show i < env'.length by omega), Option.map_some, Option.some.injEq] at this
        simp only [List.getD_eq_getElem?_getD, List.getElem?_eq_getElem (show i < env.length by omega), List.getElem?_eq_getElem (show i < env'.length by omega), Option.getD_some]
        exact this
      have e2 : (env'.getD i default).to = s (env.getD i default).to := by
        have := congrArg (fun l : List Str => l[i]?) h2
        simp only [List.getElem?_map, List.getElem?_eq_getElem (show i < env.length by omega), List.getElem?_eq_getElem (show i < env'.length by omega), Option.map_some, Option.some.injEq] at this
        simp only [List.getD_eq_getElem?_getD, List.getElem?_eq_getElem (show i < env.length by omega), List.getElem?_eq_getElem (show i < env'.length by omega), Option.getD_some]
        exact this
      rw [lkpN, lkpN, e1, e2, ih (by omega)]
      split <;> rfl
  unfold lkp
  rw [hl]
  exact key _ (Nat.le_refl _)

def isQ (k : Int) : Prop := k = 8 ∨ k = 9
instance (k : Int) : Decidable (isQ k) := inferInstanceAs (Decidable (_ ∨ _))

mutual
def cst : Form → List Str → List Str
  | .mk k nm ws s, bd => ws.filter (fun w => decide (w ∉ bd)) ++ csts s (if isQ k then bd ++ [nm] else bd)
def csts : List Form → List Str → List Str
  | [], _ => []
  | f :: fs, bd => cst f bd ++ csts fs bd
end
theorem csts_app (bd : List Str) : ∀ a b : List Form, csts (a ++ b) bd = csts a bd ++ csts b bd
  | [], b => by rw [csts]; rfl
  | f :: a, b => by rw [List.cons_append, csts, csts, csts_app bd a b, List.append_assoc]

mutual
def ren (g : Nat → Str × Nat) : Form → List Bind → Nat → Form × Nat
  | .mk k nm ws s, env, n =>
    if isQ k then (.mk k (g n).1 (ws.map (lkp env)) (rens g s (env ++ [⟨nm, (g n).1⟩]) (g n).2).1, (rens g s (env ++ [⟨nm, (g n).1⟩]) (g n).2).2)
    else (.mk k nm (ws.map (lkp env)) (rens g s env n).1, (rens g s env n).2)
def rens (g : Nat → Str × Nat) : List Form → List Bind → Nat → List Form × Nat
  | [], _, n => ([], n)
  | f :: fs, env, n => ((ren g f env n).1 :: (rens g fs env (ren g f env n).2).1, (rens g fs env (ren g f env n).2).2)
end
theorem rens_app (g : Nat → Str × Nat) (env : List Bind) : ∀ (a b : List Form) (n : Nat), rens g (a ++ b) env n = ((rens g a env n).1 ++ (rens g b env (rens g a env n).2).1, (rens g b env (rens g a env n).2).2)
  | [], b, n => by simp [rens]
  | f :: a, b, n => by rw [List.cons_append, rens, rens, rens_app g env a b]; rfl
theorem rens_len (g : Nat → Str × Nat) (env : List Bind) : ∀ (a : List Form) (n : Nat), (rens g a env n).1.length = a.length
  | [], n => by simp [rens]
  | f :: a, n => by rw [rens]; simp [rens_len g env a]
def vg (used : List Str) (k : Nat) : Str × Nat := (vnum (nextM used k), nextM used k + 1)
theorem ren_le {g : Nat → Str × Nat} {u : Nat} (hg : ∀ k, k ≤ (g k).2 ∧ (g k).2 ≤ k + u) :
    (∀ (f : Form) (env : List Bind) (n : Nat), n ≤ (ren g f env n).2 ∧ (ren g f env n).2 ≤ n + u * f.size) ∧ ∀ (fs : List Form) (env : List Bind) (n : Nat), n ≤ (rens g fs env n).2 ∧ (rens g fs env n).2 ≤ n + u * Form.sizes fs := by
  suffices h : ∀ m, (∀ (f : Form) (env : List Bind) (n : Nat), f.size ≤ m → n ≤ (ren g f env n).2 ∧ (ren g f env n).2 ≤ n + u * f.size) ∧ ∀ (fs : List Form) (env : List Bind) (n : Nat), Form.sizes fs ≤ m → n ≤ (rens g fs env n).2 ∧ (rens g fs env n).2 ≤ n + u * Form.sizes fs from
    ⟨fun f env n => (h _).1 f env n (Nat.le_refl _), fun fs env n => (h _).2 fs env n (Nat.le_refl _)⟩
  intro m
  induction m with
  | zero =>
    refine ⟨fun f env n h => by have := f.size_pos; omega, fun fs env n h => ?_⟩
    cases fs with
    | nil => simp [rens]
    | cons f fs => rw [Form.sizes] at h; have := f.size_pos; omega
  | succ m ih =>
    have h1 : ∀ (f : Form) (env : List Bind) (n : Nat), f.size ≤ m + 1 → n ≤ (ren g f env n).2 ∧ (ren g f env n).2 ≤ n + u * f.size := by
      rintro ⟨k, nm, ws, s⟩ env n h
      rw [Form.size] at h ⊢
      rw [Nat.mul_add, Nat.mul_one]
      rw [ren]
      split
      · have h2 := ih.2 s (env ++ [⟨nm, (g n).1⟩]) (g n).2 (by omega)
        have h3 := hg n
        simp only
        omega
      · have h2 := ih.2 s env n (by omega)
        simp only
        omega
    refine ⟨h1, fun fs => ?_⟩
    induction fs with
    | nil => intro env n h; simp [rens]
    | cons f fs ih2 =>
      intro env n h
      rw [Form.sizes] at h ⊢
      rw [rens, Nat.mul_add]
      have h2 := h1 f env n (by omega)
      have h3 := ih2 env (ren g f env n).2 (by omega)
      simp only
      omega
theorem vg_le (used : List Str) (k : Nat) : k ≤ (vg used k).2 ∧ (vg used k).2 ≤ k + (used.length + 1) := by
  have := nextM_spec used k
  unfold vg
  simp only
  omega
def usedM (f : Form) : List Str := (compS (sortS ((cst f []).map (·.l)))).map Str.mk
def replM (env : List Bind) (used : List Str) : List Str := env.foldl (fun u b => u.map fun w => if w = b.fr then b.to else w) used
def canonM (f : Form) (env : List Bind) : Form := (ren (vg (replM env (usedM f))) f env 0).1
theorem mem_compS : ∀ (l : List (List UInt8)) (x : List UInt8), x ∈ compS l ↔ x ∈ l := by
  intro l x
  unfold compS Lib.compact Lib.compactUpTo
  have hget : ∀ j (h : j < l.length), (l.toArray)[j]! = l[j] := fun j h => by simp [h]
  constructor
  · intro h
    obtain ⟨j, hj, rfl⟩ := List.mem_map.1 h
    have hj' : j < l.length := List.mem_range.1 (List.mem_filter.1 hj).1
    rw [hget j hj']
    exact List.getElem_mem hj'
  · intro h
    obtain ⟨j, hj, rfl⟩ := List.getElem_of_mem h
    induction j with
    | zero => exact List.mem_map.2 ⟨0, List.mem_filter.2 ⟨List.mem_range.2 hj, by simp [Lib.keeps]⟩, hget 0 hj⟩
    | succ j ih =>
      by_cases he : l[j + 1] = l[j]
      · rw [he]; exact ih (by omega) (List.getElem_mem _)
      · exact List.mem_map.2 ⟨j + 1, List.mem_filter.2 ⟨List.mem_range.2 hj, by
          simp only [Lib.keeps, decide_eq_true_eq, Nat.add_sub_cancel]
          rw [hget _ hj, hget j (by omega)]
          exact .inr he⟩, hget _ hj⟩
theorem mem_usedM (f : Form) (x : Str) : x ∈ usedM f ↔ x ∈ cst f [] := by
  unfold usedM
  simp only [List.mem_map, mem_compS, (sortS_perm _).mem_iff]
  constructor
  · rintro ⟨y, ⟨z, hz, rfl⟩, rfl⟩; exact hz
  · intro h; exact ⟨x.l, ⟨x, h, rfl⟩, rfl⟩
theorem usedM_len (f : Form) : (usedM f).length ≤ (cst f []).length := by
  unfold usedM
  rw [List.length_map]
  refine Nat.le_trans (compS_len _) ?_
  rw [sortS_len, List.length_map]; exact Nat.le_refl _
theorem replM_len (env : List Bind) : ∀ (used : List Str), (replM env used).length = used.length := by
  unfold replM
  induction env with
  | nil => intro u; rfl
  | cons b env ih => intro u; rw [List.foldl_cons, ih, List.length_map]

def putR (l : List Str) (s : Str) : List Str := if s ∈ l then l else l.take (l.takeWhile fun x => decide (x.l < s.l)).length ++ [s] ++ l.drop (l.takeWhile fun x => decide (x.l < s.l)).length
theorem mem_putR (l : List Str) (s x : Str) : x ∈ putR l s ↔ x ∈ l ∨ x = s := by
  unfold putR
  split
  · rename_i h
    constructor
    · exact .inl
    · rintro (h1 | rfl)
      · exact h1
      · exact h
  · have h1 := List.take_append_drop (l.takeWhile fun x => decide (x.l < s.l)).length l
    constructor
    · intro h
      simp only [List.mem_append, List.mem_singleton] at h
      rcases h with (h | h) | h
      · exact .inl (List.mem_of_mem_take h)
      · exact .inr h
      · exact .inl (List.mem_of_mem_drop h)
    · rintro (h | rfl)
      · rw [← h1] at h
        simp only [List.mem_append, List.mem_singleton] at h ⊢
        rcases h with h | h
        · exact .inl (.inl h)
        · exact .inr h
      · simp
mutual
def cstR : Form → List Str → List Str → List Str
  | .mk k nm ws s, bd, l => cstsR s (if isQ k then bd ++ [nm] else bd) (ws.foldl (fun l w => if w ∈ bd then l else putR l w) l)
def cstsR : List Form → List Str → List Str → List Str
  | [], _, l => l
  | f :: fs, bd, l => cstsR fs bd (cstR f bd l)
end
theorem cstsR_app (bd : List Str) : ∀ (a b : List Form) (l : List Str), cstsR (a ++ b) bd l = cstsR b bd (cstsR a bd l)
  | [], b, l => by rw [cstsR]; rfl
  | f :: a, b, l => by rw [List.cons_append, cstsR, cstsR, cstsR_app bd a b]
theorem mem_foldR (bd : List Str) (x : Str) : ∀ (ws l : List Str), x ∈ ws.foldl (fun l w => if w ∈ bd then l else putR l w) l ↔ x ∈ l ∨ x ∈ ws.filter (fun w => decide (w ∉ bd))
  | [], l => by simp
  | w :: ws, l => by
    rw [List.foldl_cons, mem_foldR bd x ws, List.filter_cons]
    by_cases h : w ∈ bd
    · rw [if_pos h, if_neg (by simpa using h)]
    · rw [if_neg h, if_pos (by simpa using h), mem_putR, List.mem_cons, or_assoc]
mutual
theorem mem_cstR (x : Str) : ∀ (f : Form) (bd l : List Str), x ∈ cstR f bd l ↔ x ∈ l ∨ x ∈ cst f bd
  | .mk k nm ws s, bd, l => by rw [cstR, cst, mem_cstsR x s, mem_foldR, List.mem_append, or_assoc]
theorem mem_cstsR (x : Str) : ∀ (fs : List Form) (bd l : List Str), x ∈ cstsR fs bd l ↔ x ∈ l ∨ x ∈ csts fs bd
  | [], bd, l => by simp [cstsR, csts]
  | f :: fs, bd, l => by rw [cstsR, csts, mem_cstsR x fs, mem_cstR x f, List.mem_append, or_assoc]
end
theorem putR_len (l : List Str) (s : Str) : (putR l s).length ≤ l.length + 1 := by
  unfold putR
  split
  · omega
  · simp only [List.length_append, List.length_take, List.length_drop, List.length_singleton]; omega
theorem foldR_len (bd : List Str) : ∀ (ws l : List Str), (ws.foldl (fun l w => if w ∈ bd then l else putR l w) l).length ≤ l.length + ws.length
  | [], l => by simp
  | w :: ws, l => by
    rw [List.foldl_cons]
    have h1 := foldR_len bd ws (if w ∈ bd then l else putR l w)
    have h2 : (if w ∈ bd then l else putR l w).length ≤ l.length + 1 := by
      split
      · omega
      · exact putR_len l w
    simp only [List.length_cons]
    omega

def swapW (fr to : List Str) (w : Str) : Str := match fr, to with
  | a :: fr, b :: to => if a = w then b else swapW fr to w
  | _, _ => w
mutual
def swp (fr to : List Str) : Form → Form
  | .mk k nm ws s => .mk k (if isQ k then swapW fr to nm else nm) (ws.map (swapW fr to)) (swps fr to s)
def swps (fr to : List Str) : List Form → List Form
  | [] => []
  | f :: fs => swp fr to f :: swps fr to fs
end
mutual
def clean : Form → Prop
  | .mk _ _ ws s => (∀ w ∈ ws, ¬ bang w) ∧ cleans s
def cleans : List Form → Prop
  | [] => True
  | f :: fs => clean f ∧ cleans fs
end

theorem repl_look {env : List Bind} (h : env.length ≤ 1) (used : List Str) : replM env used = used.map (lkp env) := by
  match env, h with
  | [], _ =>
    rw [show lkp [] = id from funext fun w => lkp_nil w, List.map_id]
    rfl
  | [b], _ =>
    simp only [replM, List.foldl_cons, List.foldl_nil]
    refine List.map_congr_left fun w _ => ?_
    have := lkp_snoc [] b w
    rw [List.nil_append] at this
    rw [this, lkp_nil]
    by_cases e : w = b.fr
    · rw [if_pos e, if_pos e.symm]
    · rw [if_neg e, if_neg fun e2 => e e2.symm]

end Go.Abs
