import Derived.Test.YtdlioodgfopmfaaDoorNM
set_option linter.unusedSimpArgs false
namespace Go.Abs
open Go

/-! ## the check of a formula -/
def subsK (k : Int) : Int := if k = 1 ∨ k = 2 ∨ k = 3 then 0 else if k = 4 ∨ k = 8 ∨ k = 9 then 1 else if k = 5 ∨ k = 6 ∨ k = 7 then 2 else -1
def named (f : Form) : Bool := decide (f.kind = 2 ∨ f.kind = 8 ∨ f.kind = 9 ∨ f.kind = 10)
def wordsOk (f : Form) : Bool := if f.kind = 2 then decide (f.words.length ≤ 3) else if f.kind = 3 then decide (f.words.length = 2) else decide (f.words.length = 0)
def partsK (op : Bool) (f : Form) : Int := if f.kind = 10 ∧ op = true then 0 else subsK f.kind
/-- the code of a node's error -/
def nodeC (op : Bool) (f : Form) (depth : Int) (n : Nat) : Int :=
  if 200 < n + 1 ∨ 40 < depth then 1 else if partsK op f < 0 then 4 else if ¬ ((f.subs.length : Int) = partsK op f ∧ wordsOk f = true) then 9
  else if named f = true ∧ isName f.name = false then 10 else if named f = false ∧ f.name ≠ ⟨[]⟩ then 5 else if f.words.all isName = false then 10 else 0
mutual
def chk (op : Bool) : Form → Int → Nat → Fault × Nat
  | .mk k nm w s, depth, n => if nodeC op (.mk k nm w s) depth n ≠ 0 then (⟨nodeC op (.mk k nm w s) depth n, n⟩, n + 1) else chks op s (depth + 1) (n + 1)
def chks (op : Bool) : List Form → Int → Nat → Fault × Nat
  | [], _, n => (⟨0, 0⟩, n)
  | f :: fs, depth, n => if (chk op f depth n).1.code ≠ 0 then chk op f depth n else chks op fs depth (chk op f depth n).2
end
def checkM (op : Bool) (f : Form) : Fault := (chk op f 1 0).1
theorem chk_eq {op : Bool} {f : Form} {depth : Int} {n : Nat} : chk op f depth n = if nodeC op f depth n ≠ 0 then (⟨nodeC op f depth n, n⟩, n + 1) else chks op f.subs (depth + 1) (n + 1) := by
  cases f; rw [chk]; rfl
mutual
theorem chk_n {op : Bool} : ∀ (f : Form) (depth : Int) (n : Nat), ((chk op f depth n).1.code = 0 → (chk op f depth n).1 = ⟨0, 0⟩ ∧ (chk op f depth n).2 ≤ 200 ∧ n < (chk op f depth n).2)
  | .mk k nm w s, depth, n => by
    rw [chk]
    split
    · rename_i h; intro h2; exact absurd h2 h
    · rename_i h
      intro h2
      have hn : n + 1 ≤ 200 := by
        unfold nodeC at h
        split at h
        · simp at h
        · omega
      have := chks_n s (depth + 1) (n + 1) hn h2
      exact ⟨this.1, this.2.1, by omega⟩
theorem chks_n {op : Bool} : ∀ (fs : List Form) (depth : Int) (n : Nat), n ≤ 200 → ((chks op fs depth n).1.code = 0 → (chks op fs depth n).1 = ⟨0, 0⟩ ∧ (chks op fs depth n).2 ≤ 200 ∧ n ≤ (chks op fs depth n).2)
  | [], depth, n, hn => by rw [chks]; intro _; exact ⟨rfl, hn, Nat.le_refl _⟩
  | f :: fs, depth, n, hn => by
    rw [chks]
    split
    · rename_i h; intro h2; exact absurd h2 h
    · rename_i h
      have h3 := chk_n f depth n (Decidable.not_not.1 h)
      intro h2
      have := chks_n fs depth _ h3.2.1 h2
      exact ⟨this.1, this.2.1, by omega⟩
end
/-- what is left of a check: formulas that are still to be visited -/
def restM (op : Bool) : List (Form × Int) → Nat → Fault
  | [], _ => ⟨0, 0⟩
  | (f, d) :: st, n => if (chk op f d n).1.code ≠ 0 then (chk op f d n).1 else restM op st (chk op f d n).2
theorem restM_app {op : Bool} {d : Int} {st : List (Form × Int)} : ∀ (fs : List Form) (n : Nat), restM op (fs.map (fun g => (g, d)) ++ st) n = if (chks op fs d n).1.code ≠ 0 then (chks op fs d n).1 else restM op st (chks op fs d n).2
  | [], n => by simp [chks]
  | f :: fs, n => by
    rw [List.map_cons, List.cons_append, restM, chks]
    split
    · rfl
    · exact restM_app fs _
theorem restM_step {op : Bool} {f : Form} {d : Int} {st : List (Form × Int)} {n : Nat} : restM op ((f, d) :: st) n = if nodeC op f d n ≠ 0 then ⟨nodeC op f d n, n⟩ else restM op (f.subs.map (fun g => (g, d + 1)) ++ st) (n + 1) := by
  rw [restM, restM_app, chk_eq]
  by_cases h : nodeC op f d n ≠ 0
  · rw [if_pos h, if_pos h, if_pos h]
  · rw [if_neg h, if_neg h]
theorem restM_one {op : Bool} {f : Form} : restM op [(f, 1)] 0 = checkM op f := by
  unfold checkM
  rw [restM, restM]
  split
  · rfl
  · rename_i h; exact ((chk_n f 1 0 (Decidable.not_not.1 h)).1).symm
theorem checkM_code {op : Bool} {f : Form} (h : (checkM op f).code = 0) : checkM op f = ⟨0, 0⟩ := (chk_n f 1 0 h).1
end Go.Abs
