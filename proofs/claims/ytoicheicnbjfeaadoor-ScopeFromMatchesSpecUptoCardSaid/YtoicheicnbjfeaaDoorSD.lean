import Derived.Test.YtoicheicnbjfeaaDoorSC
set_option linter.unusedSimpArgs false
namespace Go.Abs
open Go

/-! ## a formula cut into pieces -/
mutual
/-- the shape that the cutting relies on -/
def shF : Form → Prop
  | .mk k _ _ s => (k = 8 ∨ k = 9 → s.length = 1) ∧ (k = 5 ∨ k = 7 → s.length = 2) ∧ shFs s
def shFs : List Form → Prop
  | [] => True
  | f :: fs => shF f ∧ shFs fs
end
theorem shFs_mem : ∀ l : List Form, shFs l ↔ ∀ f ∈ l, shF f
  | [] => by rw [shFs]; simp
  | f :: l => by rw [shFs, shFs_mem l]; simp
theorem shF_eq {f : Form} : shF f ↔ (f.kind = 8 ∨ f.kind = 9 → f.subs.length = 1) ∧ (f.kind = 5 ∨ f.kind = 7 → f.subs.length = 2) ∧ shFs f.subs := by cases f; rw [shF]; rfl
theorem shF_sub {f g : Form} (h : shF f) (hg : g ∈ f.subs) : shF g := (shFs_mem _).1 (shF_eq.1 h).2.2 g hg
mutual
theorem chk_shF {op : Bool} : ∀ (f : Form) (d : Int) (n : Nat), (chk op f d n).1.code = 0 → shF f
  | .mk k nm w s, d, n, h => by
    rw [chk] at h
    split at h
    · rename_i h1; exact absurd h h1
    · rename_i h1
      have h3 := (nodeC_words (Decidable.not_not.1 h1)).2.2.2.2
      simp only [form_subs] at h3
      rw [shF]
      refine ⟨fun e => ?_, fun e => ?_, chks_shF s _ _ h⟩
      · have : partsK op (Form.mk k nm w s) = 1 := by rcases e with rfl | rfl <;> simp [partsK, subsK, form_kind]
        omega
      · have : partsK op (Form.mk k nm w s) = 2 := by rcases e with rfl | rfl <;> simp [partsK, subsK, form_kind]
        omega
theorem chks_shF {op : Bool} : ∀ (fs : List Form) (d : Int) (n : Nat), (chks op fs d n).1.code = 0 → shFs fs
  | [], d, n, _ => by rw [shFs]; trivial
  | f :: fs, d, n, h => by
    rw [chks] at h
    split at h
    · rename_i h1; exact absurd h h1
    · rename_i h1
      rw [shFs]
      exact ⟨chk_shF f d n (Decidable.not_not.1 h1), chks_shF fs d _ h⟩
end
theorem checkM_shF {op : Bool} {f : Form} (h : (checkM op f).code = 0) : shF f := chk_shF f 1 0 h
mutual
theorem ren_shF (g : Nat → Str × Nat) : ∀ (f : Form) (env : List Bind) (n : Nat), shF f → shF (ren g f env n).1
  | .mk k nm ws s, env, n, h => by
    rw [shF] at h
    rw [ren]
    split
    · rw [shF, rens_len]; exact ⟨h.1, h.2.1, rens_shF g s _ _ h.2.2⟩
    · rw [shF, rens_len]; exact ⟨h.1, h.2.1, rens_shF g s _ _ h.2.2⟩
theorem rens_shF (g : Nat → Str × Nat) : ∀ (fs : List Form) (env : List Bind) (n : Nat), shFs fs → shFs (rens g fs env n).1
  | [], env, n, _ => by rw [rens, shFs]; trivial
  | f :: fs, env, n, h => by
    rw [shFs] at h
    rw [rens, shFs]
    exact ⟨ren_shF g f env n h.1, rens_shF g fs env _ h.2⟩
end
theorem canonM_shF {f : Form} {env : List Bind} (h : shF f) : shF (canonM f env) := ren_shF _ f env 0 h

def headF (c : Form) : Form := c.subs.getD 0 default
def chainM (c : Form) : Bool := (decide (c.kind = 8) && decide ((headF c).kind = 7)) || (decide (c.kind = 9) && decide ((headF c).kind = 5))
theorem chain_cases {c : Form} (h : shF c) :
    (∃ g a b, c.subs = [g] ∧ g.subs = [a, b] ∧ headF c = g ∧ chainM c = true ∧ (c.kind = 8 ∧ g.kind = 7 ∨ c.kind = 9 ∧ g.kind = 5)) ∨
    (∃ g, c.subs = [g] ∧ chainM c = false ∧ (c.kind = 8 ∧ ¬ g.kind = 7 ∨ c.kind = 9 ∧ ¬ g.kind = 5)) ∨ (chainM c = false ∧ ¬ c.kind = 8 ∧ ¬ c.kind = 9) := by
  have h1 := shF_eq.1 h
  by_cases hq : c.kind = 8 ∨ c.kind = 9
  · obtain ⟨g, hg⟩ : ∃ g, c.subs = [g] := by
      match hs : c.subs, h1.1 hq with
      | [g], _ => exact ⟨g, rfl⟩
    have hh : headF c = g := by unfold headF; rw [hg]; rfl
    have hsg := shF_eq.1 (shF_sub h (g := g) (by rw [hg]; simp))
    by_cases h5 : c.kind = 8 ∧ g.kind = 7 ∨ c.kind = 9 ∧ g.kind = 5
    · obtain ⟨a, b, hab⟩ : ∃ a b, g.subs = [a, b] := by
        match hs : g.subs, hsg.2.1 (by rcases h5 with h5 | h5 <;> simp [h5.2]) with
        | [a, b], _ => exact ⟨a, b, rfl⟩
      refine .inl ⟨g, a, b, hg, hab, hh, ?_, h5⟩
      unfold chainM; rw [hh]; rcases h5 with h5 | h5 <;> simp [h5]
    · refine .inr (.inl ⟨g, hg, ?_, ?_⟩)
      · unfold chainM; rw [hh]; simp; exact ⟨fun e e2 => h5 (.inl ⟨e, e2⟩), fun e e2 => h5 (.inr ⟨e, e2⟩)⟩
      · rcases hq with e | e
        · exact .inl ⟨e, fun e2 => h5 (.inl ⟨e, e2⟩)⟩
        · exact .inr ⟨e, fun e2 => h5 (.inr ⟨e, e2⟩)⟩
  · refine .inr (.inr ⟨?_, fun e => hq (.inl e), fun e => hq (.inr e)⟩)
    unfold chainM; simp only [show ¬ c.kind = 8 from fun e => hq (.inl e), show ¬ c.kind = 9 from fun e => hq (.inr e)]; simp
section
variable (num : Nat → Str)
def lN (i : Nat) : Str := ⟨108 :: (num i).l⟩
def hN (i : Nat) : Str := ⟨104 :: (num i).l⟩
def inPc (i : Nat) (c : Form) : Form := .mk (headF c).kind ⟨[]⟩ [] [(headF c).subs.getD 0 default, .mk 10 (hN num i) [] []]
def pieceK (i : Nat) (c : Form) : Piece := ⟨lN num i, .mk c.kind c.name [] [inPc num i c]⟩
def restC (c : Form) : Form := (headF c).subs.getD 1 default
def cutL : Nat → Nat → Form → List Piece × List Str × Form
  | 0, _, c => ([], [], c)
  | n + 1, i, c => if chainM c = true then (pieceK num i c :: (cutL n (i + 1) (restC c)).1, c.name :: (cutL n (i + 1) (restC c)).2.1, (cutL n (i + 1) (restC c)).2.2) else ([], [], c)
def overK (n i : Nat) : Over := ⟨hN num i, lN num n⟩
def ovL (n i : Nat) : List Over := (List.range i).map (overK num n)
theorem ovL_zero {n : Nat} : ovL num n 0 = [] := rfl
theorem ovL_len {n i : Nat} : (ovL num n i).length = i := by unfold ovL; simp
theorem ovL_succ {n i : Nat} : ovL num n (i + 1) = ovL num n i ++ [overK num n i] := by
  unfold ovL; rw [List.range_succ, List.map_append]; rfl
def cutS (r : List Piece × List Str × Form) : Scoped := ⟨r.1 ++ [⟨lN num r.1.length, r.2.2⟩], ovL num r.1.length r.1.length, r.2.1⟩
def cutF (c : Form) : Scoped := cutS num (cutL num 5 0 c)
theorem cutL_stop {n i : Nat} {c : Form} (h : chainM c = false) : cutL num n i c = ([], [], c) := by
  cases n with
  | zero => rw [cutL]
  | succ n => rw [cutL, if_neg (by simp [h])]
theorem cutL_go {n i : Nat} {c : Form} (h : chainM c = true) : cutL num (n + 1) i c = (pieceK num i c :: (cutL num n (i + 1) (restC c)).1, c.name :: (cutL num n (i + 1) (restC c)).2.1, (cutL num n (i + 1) (restC c)).2.2) := by
  rw [cutL, if_pos h]
end
theorem cut_cases (num : Nat → Str) {c c0 : Form} {P : List Piece} {W : List Str} (hs : shF c) (hi : P.length ≤ 5)
    (hc : (P ++ (cutL num (5 - P.length) P.length c).1, W ++ (cutL num (5 - P.length) P.length c).2.1, (cutL num (5 - P.length) P.length c).2.2) = cutL num 5 0 c0) :
    (P.length < 5 ∧ ∃ g a b, c.subs = [g] ∧ g.subs = [a, b] ∧ c.kind = 8 ∧ g.kind = 7 ∧ shF b ∧ pieceK num P.length c = ⟨lN num P.length, .mk 8 c.name [] [.mk 7 ⟨[]⟩ [] [a, .mk 10 (hN num P.length) [] []]]⟩ ∧
      ((P ++ [pieceK num P.length c]) ++ (cutL num (5 - (P.length + 1)) (P.length + 1) b).1, (W ++ [c.name]) ++ (cutL num (5 - (P.length + 1)) (P.length + 1) b).2.1, (cutL num (5 - (P.length + 1)) (P.length + 1) b).2.2) = cutL num 5 0 c0) ∨
    (P.length < 5 ∧ ∃ g a b, c.subs = [g] ∧ g.subs = [a, b] ∧ c.kind = 9 ∧ g.kind = 5 ∧ shF b ∧ pieceK num P.length c = ⟨lN num P.length, .mk 9 c.name [] [.mk 5 ⟨[]⟩ [] [a, .mk 10 (hN num P.length) [] []]]⟩ ∧
      ((P ++ [pieceK num P.length c]) ++ (cutL num (5 - (P.length + 1)) (P.length + 1) b).1, (W ++ [c.name]) ++ (cutL num (5 - (P.length + 1)) (P.length + 1) b).2.1, (cutL num (5 - (P.length + 1)) (P.length + 1) b).2.2) = cutL num 5 0 c0) ∨
    ((P, W, c) = cutL num 5 0 c0 ∧ P.length < 5 ∧ ∃ g, c.subs = [g] ∧ c.kind = 8 ∧ ¬ g.kind = 7) ∨
    ((P, W, c) = cutL num 5 0 c0 ∧ P.length < 5 ∧ ∃ g, c.subs = [g] ∧ c.kind = 9 ∧ ¬ g.kind = 5) ∨
    ((P, W, c) = cutL num 5 0 c0 ∧ P.length < 5 ∧ ¬ c.kind = 8 ∧ ¬ c.kind = 9) ∨
    ((P, W, c) = cutL num 5 0 c0 ∧ P.length = 5) := by
  have stop : chainM c = false → (P, W, c) = cutL num 5 0 c0 := fun h => by rw [← hc, cutL_stop num h]; simp
  rcases (show P.length < 5 ∨ P.length = 5 by omega) with h5 | h5
  · have go : ∀ {g a b : Form}, c.subs = [g] → g.subs = [a, b] → headF c = g → chainM c = true →
        shF b ∧ pieceK num P.length c = ⟨lN num P.length, .mk c.kind c.name [] [.mk g.kind ⟨[]⟩ [] [a, .mk 10 (hN num P.length) [] []]]⟩ ∧
        ((P ++ [pieceK num P.length c]) ++ (cutL num (5 - (P.length + 1)) (P.length + 1) b).1, (W ++ [c.name]) ++ (cutL num (5 - (P.length + 1)) (P.length + 1) b).2.1, (cutL num (5 - (P.length + 1)) (P.length + 1) b).2.2) = cutL num 5 0 c0 := fun {g a b} e1 e2 e3 e4 => by
      have hr : restC c = b := by unfold restC; rw [e3, e2]; rfl
      refine ⟨shF_sub (shF_sub hs (g := g) (by rw [e1]; simp)) (by rw [e2]; simp), ?_, ?_⟩
      · unfold pieceK inPc; rw [e3, e2]; rfl
      · rw [← hc, show 5 - P.length = (5 - (P.length + 1)) + 1 by omega, cutL_go num e4, hr]; simp
    rcases chain_cases hs with ⟨g, a, b, e1, e2, e3, e4, ⟨h8, h7⟩ | ⟨h9, h5'⟩⟩ | ⟨g, e1, e2, ⟨h8, h7⟩ | ⟨h9, h5'⟩⟩ | ⟨e2, h8, h9⟩
    · have := go e1 e2 e3 e4; rw [h8, h7] at this; exact .inl ⟨h5, g, a, b, e1, e2, h8, h7, this⟩
    · have := go e1 e2 e3 e4; rw [h9, h5'] at this; exact .inr (.inl ⟨h5, g, a, b, e1, e2, h9, h5', this⟩)
    · exact .inr (.inr (.inl ⟨stop e2, h5, g, e1, h8, h7⟩))
    · exact .inr (.inr (.inr (.inl ⟨stop e2, h5, g, e1, h9, h5'⟩)))
    · exact .inr (.inr (.inr (.inr (.inl ⟨stop e2, h5, h8, h9⟩))))
  · refine .inr (.inr (.inr (.inr (.inr ⟨?_, h5⟩))))
    rw [← hc, h5, cutL]; simp
def zeroS : Scoped := ⟨[], [], []⟩
end Go.Abs
