/- several texts of this proof in one; no conditions -/
import Derived.Test.YtbbjghecpcobjaaDoorAT
import Derived.Test.YtbbjghecpcobjaaDoorQ8
import Derived.Test.YtbbjghecpcobjaaDoorTR
import Derived.Test.YtbbjghecpcobjaaDoorAbs46
import Derived.Test.YtbbjghecpcobjaaDoorCN
import Derived.Test.YtbbjghecpcobjaaDoorY2
set_option linter.unusedSimpArgs false
namespace Go.Proofs.YtbbjghecpcobjaaDoor
open Go Go.Abs Go.Proofs

/-! ## comparisons, whatever the package's variables are -/
section
variable {G : Nat → List FD}
def A1 : Tbl := Q20.add 154 (sp1 (fun _ : Str => false) fun _ => True)
attribute [go_sem] A1
set_option maxRecDepth 100000 in
set_option maxHeartbeats 1000000 in
theorem hA1 : TblOk Tryd.prog G A1 := by
  refine sp1_ok ok154 (TblOk_glob hQ20) fun s _ _ => ?_
  refine Wcall_K (N := 6) hm (TblOk_glob hQ20) 154000 (lst []) ok154 Tryd.func154 rfl rfl (by simp) (by kernel_rfl) ?_
  repeat' (first | refine rq fun _ => ?_ | simp only [go_sem, Tryd.f154])
def A2 : Tbl := A1.add 155 (sp1 (fun _ : Int => false) fun _ => True)
attribute [go_sem] A2
set_option maxRecDepth 100000 in
set_option maxHeartbeats 1000000 in
theorem hA2 : TblOk Tryd.prog G A2 := by
  refine sp1_ok ok155 hA1 fun s _ _ => ?_
  refine Wcall_K (N := 6) hm (G := G) hA1 155000 (lst []) ok155 Tryd.func155 rfl rfl (by simp) (by kernel_rfl) ?_
  repeat' (first | refine rq fun _ => ?_ | simp only [go_sem, Tryd.f155])
theorem cmpS_lt {a b : Str} (h : a.l < b.l) : cmpS a b = -1 := by unfold cmpS; rw [if_pos h]
theorem cmpS_gt {a b : Str} (h : ¬ a.l < b.l) (h2 : b.l < a.l) : cmpS a b = 1 := by unfold cmpS; rw [if_neg h, if_pos h2]
theorem cmpS_eq {a b : Str} (h : ¬ a.l < b.l) (h2 : ¬ b.l < a.l) : cmpS a b = 0 := by unfold cmpS; rw [if_neg h, if_neg h2]
def A3 : Tbl := A2.add 133 (sp2 cmpS fun _ _ => True)
attribute [go_sem] A3
set_option maxRecDepth 100000 in
set_option maxHeartbeats 1000000 in
theorem hA3 : TblOk Tryd.prog G A3 := by
  refine sp2_ok ok133 hA2 fun a b _ _ _ => ?_
  by_cases h : a.l < b.l
  · have e := cmpS_lt h
    have h' : Op.bytesLess a.l b.l = true := by rw [bytesLess_lt']; exact decide_eq_true h
    rw [e]
    refine Wcall_K (N := 20) hm (G := G) hA2 133000 (lst []) ok133 Tryd.func133 rfl rfl (by simp) (by kernel_rfl) ?_
    repeat' (first | refine rq fun _ => ?_ | simp only [go_sem, h', Tryd.f133])
  · have h' : Op.bytesLess a.l b.l = false := by rw [bytesLess_lt']; exact decide_eq_false h
    by_cases h2 : b.l < a.l
    · have e := cmpS_gt h h2
      have h2' : (a.l == b.l) = false := by simpa using fun e => h (absurd h2 (by rw [e]; exact lt_irrefl' _))
      rw [e]
      refine Wcall_K (N := 20) hm (G := G) hA2 133000 (lst []) ok133 Tryd.func133 rfl rfl (by simp) (by kernel_rfl) ?_
      repeat' (first | refine rq fun _ => ?_ | simp only [go_sem, h', h2', Tryd.f133])
    · have e := cmpS_eq h h2
      have h2' : (a.l == b.l) = true := by
        rcases str_tri a.l b.l with h3 | h3 | h3
        · exact absurd h3 h
        · simpa using h3
        · exact absurd h3 h2
      rw [e]
      refine Wcall_K (N := 20) hm (G := G) hA2 133000 (lst []) ok133 Tryd.func133 rfl rfl (by simp) (by kernel_rfl) ?_
      repeat' (first | refine rq fun _ => ?_ | simp only [go_sem, h', h2', Tryd.f133])
def A4 : Tbl := A3.add 134 (sp2 cmpI fun _ _ => True)
attribute [go_sem] A4
set_option maxRecDepth 100000 in
set_option maxHeartbeats 1000000 in
theorem hA4 : TblOk Tryd.prog G A4 := by
  refine sp2_ok ok134 hA3 fun a b _ _ _ => ?_
  have hc : (a < b ∧ cmpI a b = -1) ∨ (b < a ∧ ¬ a < b ∧ cmpI a b = 1) ∨ (¬ a < b ∧ ¬ b < a ∧ cmpI a b = 0) := by
    unfold cmpI; split
    · omega
    · split <;> omega
  rcases hc with ⟨h, e⟩ | ⟨h2, h, e⟩ | ⟨h, h2, e⟩
  · rw [e]
    refine Wcall_K (N := 20) hm (G := G) hA3 134000 (lst []) ok134 Tryd.func134 rfl rfl (by simp) (by kernel_rfl) ?_
    repeat' (first | refine rq fun _ => ?_ | simp only [go_sem, h, Tryd.f134])
  · rw [e]
    refine Wcall_K (N := 20) hm (G := G) hA3 134000 (lst []) ok134 Tryd.func134 rfl rfl (by simp) (by kernel_rfl) ?_
    repeat' (first | refine rq fun _ => ?_ | simp only [go_sem, h, h2, Tryd.f134])
  · rw [e]
    refine Wcall_K (N := 20) hm (G := G) hA3 134000 (lst []) ok134 Tryd.func134 rfl rfl (by simp) (by kernel_rfl) ?_
    repeat' (first | refine rq fun _ => ?_ | simp only [go_sem, h, h2, Tryd.f134])
/-- the first that is not zero -/
def orM : List Int → Int
  | [] => 0
  | a :: l => if a ≠ 0 then a else orM l
theorem orM_at {l : List Int} {i : Nat} (h : i < l.length) (h2 : ∀ j (hj : j < l.length), j < i → l[j] = 0) (h3 : l[i] ≠ 0) : orM l = l[i] := by
  induction l generalizing i with
  | nil => simp at h
  | cons a l ih =>
    cases i with
    | zero => rw [orM]; simp only [List.getElem_cons_zero] at h3 ⊢; rw [if_pos h3]
    | succ i =>
      have h0 := h2 0 (by simp) (by omega)
      simp only [List.getElem_cons_zero] at h0
      rw [orM, if_neg (by simp [h0])]
      simp only [List.getElem_cons_succ] at h3 ⊢
      exact ih (by simpa using h) (fun j hj hji => by have := h2 (j + 1) (by simpa using hj) (by omega); simpa using this) h3
theorem orM_none {l : List Int} (h2 : ∀ j (hj : j < l.length), l[j] = 0) : orM l = 0 := by
  induction l with
  | nil => rfl
  | cons a l ih =>
    have h0 := h2 0 (by simp)
    simp only [List.getElem_cons_zero] at h0
    rw [orM, if_neg (by simp [h0])]
    exact ih fun j hj => by have := h2 (j + 1) (by simpa using hj); simpa using this
def A5 : Tbl := A4.add 132 (sp1 orM fun _ => True)
attribute [go_sem] A5
set_option maxRecDepth 100000 in
set_option maxHeartbeats 1000000 in
theorem hA5 : TblOk Tryd.prog G A5 := by
  refine sp1_ok ok132 hA4 fun l _ hw => ?_
  have la := Wf_sl hw
  simp only [List.length_map, maxL] at la
  obtain ⟨r, hr⟩ : ∃ r, orM l = r := ⟨_, rfl⟩
  have h1 : ∀ i (h : i < l.length), (∀ j (hj : j < l.length), j < i → l[j] = 0) → l[i] ≠ 0 → l[i] = r := fun i h a b => by rw [← hr, orM_at h a b]
  have h2 : (∀ j (hj : j < l.length), l[j] = 0) → r = 0 := fun h => by rw [← hr, orM_none h]
  have k1 := Kp.mk h1
  have k2 := Kp.mk h2
  rw [hr]
  clear h1 h2 hr
  refine Wcall_K (N := 18) hm (G := G) hA4 132000 (lst []) ok132 Tryd.func132 rfl rfl (by simp) (by kernel_rfl) ?_
  repeat' (first | refine rq fun _ => ?_ | simp only [go_sem, Tryd.f132])
  refine WK_loop hm (G := G) hA4 132000 (lst []) (ι := LoopI l.length fun i => ∀ j (hj : j < l.length), j < i → l[j] = 0)
    ⟨fun q => ⟨frL [(3, .fz (.i .i64 0)), (6, .fz (.sl (l.map enc))), (7, .fz (.i .i64 l.length)), (8, .fz (.i .i64 q.i))], hpL [], 0⟩, fun q => l.length - q.i⟩
    ⟨0, by omega, fun j hj h => by omega⟩ (by kernel_rfl) ?_ ?_
  · refine Weak_to ?_ ?_ ?_ <;> simp only [go_sem]
  rintro ⟨i, hi, hp⟩
  try simp only at hi
  rcases Nat.lt_or_ge i l.length with h | h
  · obtain ⟨x, hx⟩ : ∃ x, l[i] = x := ⟨_, rfl⟩
    by_cases h0 : x = 0
    · have hp2 : ∀ j (hj : j < l.length), j < i + 1 → l[j] = 0 := fun j hj h3 => by
        rcases Nat.lt_or_ge j i with h4 | h4
        · exact hp j hj h4
        · obtain rfl : j = i := by omega
          rw [hx, h0]
      have kp := Kp.mk hp2
      clear hp2
      repeat' (first | refine rq fun _ => ?_ | simp only [go_sem, h, hx, h0, getD_map_lt, Tryd.f132])
      refine ⟨⟨i + 1, by omega, kp.out⟩, by simp only; omega, ?_⟩
      refine Weak_to ?_ ?_ ?_ <;> simp only [go_sem]
    · have e := k1.out i h hp (by rw [hx]; exact h0)
      rw [hx] at e
      subst e
      clear k1 k2
      repeat' (first | refine rq fun _ => ?_ | simp only [go_sem, h, hx, h0, getD_map_lt, Tryd.f132])
  · obtain rfl : i = l.length := by omega
    have e := k2.out fun j hj => hp j hj hj
    subst e
    repeat' (first | refine rq fun _ => ?_ | simp only [go_sem, Nat.lt_irrefl, Tryd.f132])
theorem orM_two {a b : Int} : orM [a, b] = if a ≠ 0 then a else b := by
  rw [orM, orM, orM]
  split
  · rfl
  · split
    · rfl
    · rename_i h; exact (Decidable.not_not.1 h).symm
theorem cmpR_or (a b : MRel) : orM [cmpS a.name b.name, cmpI a.arity b.arity] = cmpR a b := by rw [orM_two]; rfl
def A6 : Tbl := A5.add 82 (sp2 cmpR fun _ _ => True)
attribute [go_sem] A6
set_option maxRecDepth 100000 in
set_option maxHeartbeats 1000000 in
theorem hA6 : TblOk Tryd.prog G A6 := by
  refine sp2_ok ok82 hA5 fun a b _ _ _ => ?_
  have e := cmpR_or a b
  refine Wcall_K (N := 17) hm (G := G) hA5 82000 (lst []) ok82 Tryd.func82 rfl rfl (by simp) (by kernel_rfl) ?_
  repeat' (first | refine rq fun _ => ?_ | simp only [go_sem, e, str_eta, Tryd.f82])
end
end Go.Proofs.YtbbjghecpcobjaaDoor

namespace Go.Abs
open Go
theorem cmpL_step {a b : List Int} {i : Nat} (h : i < a.length) (h2 : i < b.length) : cmpL (a.drop i) (b.drop i) = if cmpI a[i] b[i] ≠ 0 then cmpI a[i] b[i] else cmpL (a.drop (i + 1)) (b.drop (i + 1)) := by
  rw [List.drop_eq_getElem_cons h, List.drop_eq_getElem_cons h2, cmpL]
theorem cmpL_long {a b : List Int} {i : Nat} (h : i < a.length) (h2 : b.length ≤ i) : cmpL (a.drop i) (b.drop i) = 1 := by
  rw [List.drop_eq_getElem_cons h, List.drop_of_length_le h2, cmpL]
theorem cmpL_end {a b : List Int} {i : Nat} (h : a.length ≤ i) : cmpL (a.drop i) (b.drop i) = if i < b.length then -1 else 0 := by
  rw [List.drop_of_length_le h]
  split
  · rename_i h2; rw [List.drop_eq_getElem_cons h2, cmpL]
  · rename_i h2; rw [List.drop_of_length_le (by omega), cmpL]
/-! a place in a sorted row -/
def bsI {α : Type} (c : α → Int) (l : List α) : Nat := (l.filter fun x => decide (c x < 0)).length
def bsB {α : Type} [Inhabited α] (c : α → Int) (l : List α) : Bool := decide (bsI c l < l.length) && decide (c (l.getD (bsI c l) default) = 0)
/-- what does not precede stands behind what precedes -/
def stepC {α : Type} (c : α → Int) (l : List α) : Prop := ∀ i j (hi : i < l.length) (hj : j < l.length), i < j → c l[j] ≤ 0 → c l[i] < 0
theorem bsI_at {α : Type} {c : α → Int} {l : List α} {i : Nat} (hi : i ≤ l.length) (h1 : ∀ j (h : j < l.length), j < i → c l[j] < 0) (h2 : ∀ j (h : j < l.length), i ≤ j → 0 ≤ c l[j]) : bsI c l = i :=
  filter_pre _ l i hi (fun j h hji => decide_eq_true (h1 j h hji)) (fun j h hij => decide_eq_false (by have := h2 j h hij; omega))
theorem find_bs {α : Type} [Inhabited α] {c : α → Int} {l : List α} (hs : stepC c l) : l.find? (fun x => decide (c x = 0)) = if bsB c l then some (l.getD (bsI c l) default) else none := by
  cases hf : l.find? (fun x => decide (c x = 0)) with
  | none =>
    rw [List.find?_eq_none] at hf
    have : bsB c l = false := by
      unfold bsB
      by_cases h : bsI c l < l.length
      · have := hf _ (List.getElem_mem h)
        rw [List.getD_eq_getElem?_getD, List.getElem?_eq_getElem h]
        simp only [Option.getD_some]
        simp only [decide_eq_true_eq] at this
        simp [this]
      · simp [h]
    rw [this]; rfl
  | some x =>
    obtain ⟨hx, xs, bs, rfl, hb⟩ := List.find?_eq_some_iff_append.1 hf
    have hx := of_decide_eq_true hx
    have hi : bsI c (xs ++ x :: bs) = xs.length := by
      refine bsI_at (by simp) (fun j h hj => ?_) (fun j h hj => ?_)
      · refine hs j xs.length h (by simp) hj ?_
        rw [List.getElem_append_right (Nat.le_refl _)]
        simp only [Nat.sub_self, List.getElem_cons_zero]
        omega
      · rcases (show c (xs ++ x :: bs)[j] < 0 ∨ 0 ≤ c (xs ++ x :: bs)[j] by omega) with h3 | h3
        · rcases Nat.eq_or_lt_of_le hj with rfl | h4
          · rw [List.getElem_append_right (Nat.le_refl _)] at h3 ⊢
            simp only [Nat.sub_self, List.getElem_cons_zero] at h3 ⊢
            omega
          · have := hs xs.length j (by simp) h h4 (by omega)
            rw [List.getElem_append_right (Nat.le_refl _)] at this
            simp only [Nat.sub_self, List.getElem_cons_zero] at this
            omega
        · omega
    have hg : (xs ++ x :: bs).getD xs.length default = x := by
      rw [List.getD_eq_getElem?_getD, List.getElem?_append_right (Nat.le_refl _)]; simp
    unfold bsB
    rw [hi, hg]
    simp [hx]
end Go.Abs
namespace Go.Proofs.YtbbjghecpcobjaaDoor
open Go Go.Abs Go.Proofs
section
variable {G : Nat → List FD}
def A7 : Tbl := A6.add 83 (sp2 cmpL fun _ _ => True)
attribute [go_sem] A7
set_option maxRecDepth 100000 in
set_option maxHeartbeats 1000000 in
theorem hA7 : TblOk Tryd.prog G A7 := by
  refine sp2_ok ok83 hA6 fun a b _ hwa hwb => ?_
  have la := Wf_sl hwa
  have lb := Wf_sl hwb
  simp only [List.length_map, maxL] at la lb
  obtain ⟨C, hC⟩ : ∃ C : Nat → Int, C = fun i => cmpL (a.drop i) (b.drop i) := ⟨_, rfl⟩
  have h0 : cmpL a b = C 0 := by rw [hC]; rfl
  have h1 : ∀ i (h : i < a.length) (h2 : i < b.length), C i = if cmpI a[i] b[i] ≠ 0 then cmpI a[i] b[i] else C (i + 1) := fun i h h2 => by rw [hC]; exact cmpL_step h h2
  have h2 : ∀ i (h : i < a.length), b.length ≤ i → C i = 1 := fun i h h2 => by rw [hC]; exact cmpL_long h h2
  have h3 : C a.length = if a.length < b.length then -1 else 0 := by rw [hC]; exact cmpL_end (Nat.le_refl _)
  rw [h0]
  obtain ⟨r, hr⟩ : ∃ r, C 0 = r := ⟨_, rfl⟩
  rw [hr]
  have k1 := Kp.mk h1
  have k2 := Kp.mk h2
  have k3 := Kp.mk h3
  clear h0 h1 h2 h3 hC
  refine Wcall_K (N := 36) hm (G := G) hA6 83000 (lst []) ok83 Tryd.func83 rfl rfl (by simp) (by kernel_rfl) ?_
  repeat' (first | refine rq fun _ => ?_ | simp only [go_sem, Tryd.f83])
  refine WK_loop hm (G := G) hA6 83000 (lst []) (ι := LoopI a.length fun i => C i = r)
    ⟨fun q => ⟨frL [(0, .fz (.sl (a.map enc))), (1, .fz (.sl (b.map enc))), (9, .fz (.sl (a.map enc))), (10, .fz (.i .i64 a.length)), (11, .fz (.i .i64 q.i))], hpL [], 0⟩, fun q => a.length - q.i⟩
    ⟨0, by omega, hr⟩ (by kernel_rfl) ?_ ?_
  · refine Weak_to ?_ ?_ ?_ <;> simp only [go_sem]
  rintro ⟨i, hi, hp⟩
  try simp only at hi hp
  rcases Nat.lt_or_ge i a.length with h | h
  · rcases Nat.lt_or_ge i b.length with h2 | h2
    · have e := k1.out i h h2
      have hb' : (b.length ≤ i) = False := eq_false (by omega)
      obtain ⟨x, hx⟩ : ∃ x, a[i] = x := ⟨_, rfl⟩
      obtain ⟨y, hy⟩ : ∃ y, b[i] = y := ⟨_, rfl⟩
      rw [hx, hy, hp] at e
      by_cases hc : cmpI x y = 0
      · rw [if_neg (by simp [hc])] at e
        repeat' (first | refine rq fun _ => ?_ | simp only [go_sem, h, h2, hb', hx, hy, hc, getD_map_lt, Tryd.f83])
        refine ⟨⟨i + 1, by omega, e.symm⟩, by simp only; omega, ?_⟩
        refine Weak_to ?_ ?_ ?_ <;> simp only [go_sem]
      · rw [if_pos hc] at e
        subst e
        repeat' (first | refine rq fun _ => ?_ | simp only [go_sem, h, h2, hb', hx, hy, hc, getD_map_lt, Tryd.f83])
    · have e := k2.out i h h2
      have e2 : r = 1 := by rw [← hp, e]
      have h2' : (b.length ≤ i) = True := eq_true h2
      subst e2
      repeat' (first | refine rq fun _ => ?_ | simp only [go_sem, h, h2, h2', getD_map_lt, Tryd.f83])
  · obtain rfl : i = a.length := by omega
    have e := k3.out
    rw [hp] at e
    by_cases hl : a.length < b.length
    · rw [if_pos hl] at e
      subst e
      have hl' : ((a.length : Int) < (b.length : Int)) = True := eq_true (by omega)
      repeat' (first | refine rq fun _ => ?_ | simp only [go_sem, Nat.lt_irrefl, hl, hl', Tryd.f83])
    · rw [if_neg hl] at e
      subst e
      have hl' : ((a.length : Int) < (b.length : Int)) = False := eq_false (by omega)
      repeat' (first | refine rq fun _ => ?_ | simp only [go_sem, Nat.lt_irrefl, hl, hl', Tryd.f83])
def cnsC (s : Str) (c : Const) : Int := cmpS c.name s
def A8 : Tbl := A7.add 147 (sp2 (fun (c : Const) (s : Str) => cnsC s c) fun _ _ => True)
attribute [go_sem] A8
set_option maxRecDepth 100000 in
set_option maxHeartbeats 1000000 in
theorem hA8 : TblOk Tryd.prog G A8 := by
  refine sp2_ok ok147 hA7 fun a b _ _ _ => ?_
  have e : cmpS a.name b = cnsC b a := rfl
  refine Wcall_K (N := 9) hm (G := G) hA7 147000 (lst []) ok147 Tryd.func147 rfl rfl (by simp) (by kernel_rfl) ?_
  repeat' (first | refine rq fun _ => ?_ | simp only [go_sem, e, str_eta, Tryd.f147])
structure BsI (n : Nat) (p : Nat → Prop) (q : Nat → Prop) where
  i : Nat
  j : Nat
  hij : i ≤ j
  hj : j ≤ n
  hp : p i
  hq : q j
set_option maxRecDepth 100000 in
set_option maxHeartbeats 1000000 in
theorem bsConst {l : List Const} {s : Str} (hw : (enc l).Wf) (_hws : (enc s).Wf) (hs : stepC (cnsC s) l) : Wcall Tryd.prog G 146 [.fz (enc l), .fz (enc s), .fn 147 []] (hpL []) 0
    (fun d _ _ => D.val d = some (.tup [.fz (.i .i64 (bsI (cnsC s) l)), .fz (.b (bsB (cnsC s) l))])) := by
  have la := Wf_sl hw
  simp only [List.length_map, maxL] at la
  have hI := @bsI_at Const (cnsC s) l
  have hm1 : ∀ h (hh : h < l.length), cnsC s l[h] < 0 → ∀ j (hj : j < l.length), j < h + 1 → cnsC s l[j] < 0 := fun h hh h2 j hj h3 => by
    rcases Nat.eq_or_lt_of_le (Nat.le_of_lt_succ h3) with rfl | h4
    · exact h2
    · exact hs j h hj hh h4 (by omega)
  have hm2 : ∀ h (hh : h < l.length), ¬ cnsC s l[h] < 0 → ∀ j (hj : j < l.length), h ≤ j → 0 ≤ cnsC s l[j] := fun h hh h2 j hj h3 => by
    rcases Nat.eq_or_lt_of_le h3 with rfl | h4
    · omega
    · refine Decidable.byContradiction fun h5 => h2 (hs h j hh hj h4 (by omega))
  have k1 := Kp.mk hm1
  have k2 := Kp.mk hm2
  have kI := Kp.mk @hI
  clear hm1 hm2 hI hs
  refine Wcall_K (N := 49) hm (G := G) hA8 146000 (lst []) ok146 Tryd.func146 rfl rfl (by simp) (by kernel_rfl) ?_
  repeat' (first | refine rq fun _ => ?_ | simp only [go_sem, Tryd.f146])
  refine WK_loop hm (G := G) hA8 146000 (lst []) (ι := BsI l.length (fun i => ∀ j (hj : j < l.length), j < i → cnsC s l[j] < 0) fun i => ∀ j (hj : j < l.length), i ≤ j → 0 ≤ cnsC s l[j])
    ⟨fun q => ⟨frL [(0, .fz (.sl (l.map enc))), (1, .fz (.s s.l)), (2, .fn 147 []), (8, .fz (.i .i64 l.length)), (9, .fz (.i .i64 q.i)), (10, .fz (.i .i64 q.j))], hpL [], 0⟩, fun q => q.j - q.i⟩
    ⟨0, l.length, by omega, by omega, fun j hj h => by omega, fun j hj h => by omega⟩ (by kernel_rfl) ?_ ?_
  · refine Weak_to ?_ ?_ ?_ <;> simp only [go_sem]
  rintro ⟨i, j, hij, hj, hp, hq⟩
  try simp only at hij hj
  rcases Nat.lt_or_ge i j with h | h
  · have h' : ((i : Int) < (j : Int)) = True := eq_true (by omega)
    repeat' (first | refine rq fun _ => ?_ | simp only [go_sem, h, h', Tryd.f146])
    obtain ⟨H, hH⟩ : ∃ H : Nat, (i + j) / 2 = H := ⟨_, rfl⟩
    have hmid : (((i : Int) + (j : Int)) / 2 ^ 1) = (H : Int) := by omega
    have hl : H < l.length := by omega
    refine ReqK.i ⟨by show (0 : Int) ≤ _; omega, by show _ ≤ (18446744073709551615 : Int); omega⟩ fun _ => ?_
    have k3 := k1.out H hl
    have k4 := k2.out H hl
    obtain ⟨x, hx⟩ : ∃ x, l[H] = x := ⟨_, rfl⟩
    rw [hx] at k3 k4
    by_cases hc : cnsC s x < 0
    · have hn := k3 hc
      have kn := Kp.mk hn
      clear k3 k4 hn
      repeat' (first | refine rq fun _ => ?_ | simp only [go_sem, hmid, hl, hx, hc, str_eta, const_eta, getD_map_lt, Tryd.f146])
      refine ⟨⟨H + 1, j, by omega, by omega, kn.out, hq⟩, by simp only; omega, ?_⟩
      refine Weak_to ?_ ?_ ?_ <;> simp only [go_sem]
    · have hn := k4 hc
      have kn := Kp.mk hn
      clear k3 k4 hn
      repeat' (first | refine rq fun _ => ?_ | simp only [go_sem, hmid, hl, hx, hc, str_eta, const_eta, getD_map_lt, Tryd.f146])
      refine ⟨⟨i, H, by omega, by omega, hp, kn.out⟩, by simp only; omega, ?_⟩
      refine Weak_to ?_ ?_ ?_ <;> simp only [go_sem]
  · obtain rfl : i = j := by omega
    have hbi := kI.out hj hp hq
    have hbb : bsB (cnsC s) l = (decide (i < l.length) && decide (cnsC s (l.getD i default) = 0)) := by unfold bsB; rw [hbi]
    rw [hbi, hbb]
    clear hbi hbb
    rcases Nat.lt_or_ge i l.length with h1 | h1
    · obtain ⟨x, hx⟩ : ∃ x, l[i] = x := ⟨_, rfl⟩
      have hg : l.getD i default = x := by rw [List.getD_eq_getElem?_getD, List.getElem?_eq_getElem h1, ← hx]; rfl
      have h1' : ((i : Int) < (l.length : Int)) = True := eq_true (by omega)
      rw [hg]
      repeat' (first | refine rq fun _ => ?_ | simp only [go_sem, Nat.lt_irrefl, h1, h1', hx, str_eta, const_eta, getD_map_lt, Tryd.f146])
    · have h1' : ((i : Int) < (l.length : Int)) = False := eq_false (by omega)
      have h1n : (i < l.length) = False := eq_false (by omega)
      repeat' (first | refine rq fun _ => ?_ | simp only [go_sem, Nat.lt_irrefl, h1n, h1', str_eta, const_eta, getD_map_lt, Tryd.f146])

end
end Go.Proofs.YtbbjghecpcobjaaDoor

namespace Go.Abs
open Go
/-- a row that rises -/
def rises {α : Type} (lt : α → α → Prop) (l : List α) : Prop := ∀ i j (hi : i < l.length) (hj : j < l.length), i < j → lt l[i] l[j]
def okC (l : List Const) : Prop := rises (fun a b => a.name.l < b.name.l) l
def okR (l : List MRel) : Prop := rises ltR l
theorem okC_step {l : List Const} (h : okC l) (s : Str) : stepC (fun c => cmpS c.name s) l := fun i j hi hj hij h2 => by
  have h1 := h i j hi hj hij
  rw [cmpS_neg]
  rcases Int.lt_or_eq_of_le h2 with h3 | h3
  · exact str_lt_trans h1 (cmpS_neg.1 h3)
  · rw [← cmpS_zero.1 h3]; exact h1
theorem okR_step {l : List MRel} (h : okR l) (s : MRel) : stepC (fun r => cmpR r s) l := fun i j hi hj hij h2 => by
  have h1 := h i j hi hj hij
  show cmpR _ _ < 0
  rw [cmpR_neg]
  rcases Int.lt_or_eq_of_le h2 with h3 | h3
  · exact ltR_trans h1 (cmpR_neg.1 h3)
  · obtain ⟨e1, e2⟩ := cmpR_zero.1 h3
    rcases h1 with h4 | ⟨h4, h5⟩
    · exact .inl (by rw [← e1]; exact h4)
    · exact .inr ⟨h4.trans e1, by omega⟩
instance : Inhabited (List Int) := ⟨[]⟩
end Go.Abs
namespace Go.Proofs.YtbbjghecpcobjaaDoor
open Go Go.Abs Go.Proofs
section
variable {G : Nat → List FD}
def relC' (s : MRel) (r : MRel) : Int := cmpR r s
def tupK (s : List Int) (t : List Int) : Int := cmpL t s

set_option maxRecDepth 100000 in
set_option maxHeartbeats 1000000 in
theorem bsRel {l : List MRel} {s : MRel} (hw : (enc l).Wf) (_hws : (enc s).Wf) (hs : stepC (relC' s) l) : Wcall Tryd.prog G 148 [.fz (enc l), .fz (enc s), .fn 82 []] (hpL []) 0
    (fun d _ _ => D.val d = some (.tup [.fz (.i .i64 (bsI (relC' s) l)), .fz (.b (bsB (relC' s) l))])) := by
  have la := Wf_sl hw
  simp only [List.length_map, maxL] at la
  have hI := @bsI_at MRel (relC' s) l
  have hm1 : ∀ h (hh : h < l.length), relC' s l[h] < 0 → ∀ j (hj : j < l.length), j < h + 1 → relC' s l[j] < 0 := fun h hh h2 j hj h3 => by
    rcases Nat.eq_or_lt_of_le (Nat.le_of_lt_succ h3) with rfl | h4
    · exact h2
    · exact hs j h hj hh h4 (by omega)
  have hm2 : ∀ h (hh : h < l.length), ¬ relC' s l[h] < 0 → ∀ j (hj : j < l.length), h ≤ j → 0 ≤ relC' s l[j] := fun h hh h2 j hj h3 => by
    rcases Nat.eq_or_lt_of_le h3 with rfl | h4
    · omega
    · refine Decidable.byContradiction fun h5 => h2 (hs h j hh hj h4 (by omega))
  have k1 := Kp.mk hm1
  have k2 := Kp.mk hm2
  have kI := Kp.mk @hI
  have hcu : ∀ x, cmpR x s = relC' s x := fun _ => rfl
  clear hm1 hm2 hI hs
  refine Wcall_K (N := 49) hm (G := G) hA8 148000 (lst []) ok148 Tryd.func148 rfl rfl (by simp) (by kernel_rfl) ?_
  repeat' (first | refine rq fun _ => ?_ | simp only [go_sem, Tryd.f148])
  refine WK_loop hm (G := G) hA8 148000 (lst []) (ι := BsI l.length (fun i => ∀ j (hj : j < l.length), j < i → relC' s l[j] < 0) fun i => ∀ j (hj : j < l.length), i ≤ j → 0 ≤ relC' s l[j])
    ⟨fun q => ⟨frL [(0, .fz (.sl (l.map enc))), (4, .ptr (148004, 0) 0), (2, .fn 82 []), (8, .fz (.i .i64 l.length)), (9, .fz (.i .i64 q.i)), (10, .fz (.i .i64 q.j))], hpL [((148004, 0), some ⟨[.fz (.s s.name.l), .fz (.i .i64 s.arity), .fz (.sl (s.tuples.map enc))], true, false⟩)], 1⟩, fun q => q.j - q.i⟩
    ⟨0, l.length, by omega, by omega, fun j hj h => by omega, fun j hj h => by omega⟩ (by kernel_rfl) ?_ ?_
  · refine Weak_to ?_ ?_ ?_ <;> simp only [go_sem]
  rintro ⟨i, j, hij, hj, hp, hq⟩
  try simp only at hij hj
  rcases Nat.lt_or_ge i j with h | h
  · have h' : ((i : Int) < (j : Int)) = True := eq_true (by omega)
    repeat' (first | refine rq fun _ => ?_ | simp only [go_sem, h, h', Tryd.f148])
    obtain ⟨H, hH⟩ : ∃ H : Nat, (i + j) / 2 = H := ⟨_, rfl⟩
    have hmid : (((i : Int) + (j : Int)) / 2 ^ 1) = (H : Int) := by omega
    have hl : H < l.length := by omega
    refine ReqK.i ⟨by show (0 : Int) ≤ _; omega, by show _ ≤ (18446744073709551615 : Int); omega⟩ fun _ => ?_
    have k3 := k1.out H hl
    have k4 := k2.out H hl
    obtain ⟨x, hx⟩ : ∃ x, l[H] = x := ⟨_, rfl⟩
    rw [hx] at k3 k4
    by_cases hc : relC' s x < 0
    · have hn := k3 hc
      have kn := Kp.mk hn
      clear k3 k4 hn
      repeat' (first | refine rq fun _ => ?_ | simp only [go_sem, hmid, hl, hx, hc, hcu, str_eta, rel_eta, getD_map_lt, Tryd.f148])
      refine ⟨⟨H + 1, j, by omega, by omega, kn.out, hq⟩, by simp only; omega, ?_⟩
      refine Weak_to ?_ ?_ ?_ <;> simp only [go_sem]
    · have hn := k4 hc
      have kn := Kp.mk hn
      clear k3 k4 hn
      repeat' (first | refine rq fun _ => ?_ | simp only [go_sem, hmid, hl, hx, hc, hcu, str_eta, rel_eta, getD_map_lt, Tryd.f148])
      refine ⟨⟨i, H, by omega, by omega, hp, kn.out⟩, by simp only; omega, ?_⟩
      refine Weak_to ?_ ?_ ?_ <;> simp only [go_sem]
  · obtain rfl : i = j := by omega
    have hbi := kI.out hj hp hq
    have hbb : bsB (relC' s) l = (decide (i < l.length) && decide (relC' s (l.getD i default) = 0)) := by unfold bsB; rw [hbi]
    rw [hbi, hbb]
    clear hbi hbb
    rcases Nat.lt_or_ge i l.length with h1 | h1
    · obtain ⟨x, hx⟩ : ∃ x, l[i] = x := ⟨_, rfl⟩
      have hg : l.getD i default = x := by rw [List.getD_eq_getElem?_getD, List.getElem?_eq_getElem h1, ← hx]; rfl
      have h1' : ((i : Int) < (l.length : Int)) = True := eq_true (by omega)
      rw [hg]
      repeat' (first | refine rq fun _ => ?_ | simp only [go_sem, Nat.lt_irrefl, h1, h1', hx, hcu, str_eta, rel_eta, getD_map_lt, Tryd.f148])
    · have h1' : ((i : Int) < (l.length : Int)) = False := eq_false (by omega)
      have h1n : (i < l.length) = False := eq_false (by omega)
      repeat' (first | refine rq fun _ => ?_ | simp only [go_sem, Nat.lt_irrefl, h1n, h1', hcu, str_eta, rel_eta, getD_map_lt, Tryd.f148])

set_option maxRecDepth 100000 in
set_option maxHeartbeats 1000000 in
theorem bsTup {l : List (List Int)} {s : (List Int)} (hw : (enc l).Wf) (_hws : (enc s).Wf) (hs : stepC (tupK s) l) : Wcall Tryd.prog G 117 [.fz (enc l), .fz (enc s), .fn 83 []] (hpL []) 0
    (fun d _ _ => D.val d = some (.tup [.fz (.i .i64 (bsI (tupK s) l)), .fz (.b (bsB (tupK s) l))])) := by
  have la := Wf_sl hw
  simp only [List.length_map, maxL] at la
  have hI := @bsI_at (List Int) (tupK s) l
  have hm1 : ∀ h (hh : h < l.length), tupK s l[h] < 0 → ∀ j (hj : j < l.length), j < h + 1 → tupK s l[j] < 0 := fun h hh h2 j hj h3 => by
    rcases Nat.eq_or_lt_of_le (Nat.le_of_lt_succ h3) with rfl | h4
    · exact h2
    · exact hs j h hj hh h4 (by omega)
  have hm2 : ∀ h (hh : h < l.length), ¬ tupK s l[h] < 0 → ∀ j (hj : j < l.length), h ≤ j → 0 ≤ tupK s l[j] := fun h hh h2 j hj h3 => by
    rcases Nat.eq_or_lt_of_le h3 with rfl | h4
    · omega
    · refine Decidable.byContradiction fun h5 => h2 (hs h j hh hj h4 (by omega))
  have k1 := Kp.mk hm1
  have k2 := Kp.mk hm2
  have kI := Kp.mk @hI
  have hcu : ∀ x, cmpL x s = tupK s x := fun _ => rfl
  clear hm1 hm2 hI hs
  refine Wcall_K (N := 49) hm (G := G) hA8 117000 (lst []) ok117 Tryd.func117 rfl rfl (by simp) (by kernel_rfl) ?_
  repeat' (first | refine rq fun _ => ?_ | simp only [go_sem, Tryd.f117])
  refine WK_loop hm (G := G) hA8 117000 (lst []) (ι := BsI l.length (fun i => ∀ j (hj : j < l.length), j < i → tupK s l[j] < 0) fun i => ∀ j (hj : j < l.length), i ≤ j → 0 ≤ tupK s l[j])
    ⟨fun q => ⟨frL [(0, .fz (.sl (l.map enc))), (1, .fz (.sl (s.map enc))), (2, .fn 83 []), (8, .fz (.i .i64 l.length)), (9, .fz (.i .i64 q.i)), (10, .fz (.i .i64 q.j))], hpL [], 0⟩, fun q => q.j - q.i⟩
    ⟨0, l.length, by omega, by omega, fun j hj h => by omega, fun j hj h => by omega⟩ (by kernel_rfl) ?_ ?_
  · refine Weak_to ?_ ?_ ?_ <;> simp only [go_sem]
  rintro ⟨i, j, hij, hj, hp, hq⟩
  try simp only at hij hj
  rcases Nat.lt_or_ge i j with h | h
  · have h' : ((i : Int) < (j : Int)) = True := eq_true (by omega)
    repeat' (first | refine rq fun _ => ?_ | simp only [go_sem, h, h', Tryd.f117])
    obtain ⟨H, hH⟩ : ∃ H : Nat, (i + j) / 2 = H := ⟨_, rfl⟩
    have hmid : (((i : Int) + (j : Int)) / 2 ^ 1) = (H : Int) := by omega
    have hl : H < l.length := by omega
    refine ReqK.i ⟨by show (0 : Int) ≤ _; omega, by show _ ≤ (18446744073709551615 : Int); omega⟩ fun _ => ?_
    have k3 := k1.out H hl
    have k4 := k2.out H hl
    obtain ⟨x, hx⟩ : ∃ x, l[H] = x := ⟨_, rfl⟩
    rw [hx] at k3 k4
    by_cases hc : tupK s x < 0
    · have hn := k3 hc
      have kn := Kp.mk hn
      clear k3 k4 hn
      repeat' (first | refine rq fun _ => ?_ | simp only [go_sem, hmid, hl, hx, hc, hcu, str_eta, getD_map_lt, Tryd.f117])
      refine ⟨⟨H + 1, j, by omega, by omega, kn.out, hq⟩, by simp only; omega, ?_⟩
      refine Weak_to ?_ ?_ ?_ <;> simp only [go_sem]
    · have hn := k4 hc
      have kn := Kp.mk hn
      clear k3 k4 hn
      repeat' (first | refine rq fun _ => ?_ | simp only [go_sem, hmid, hl, hx, hc, hcu, str_eta, getD_map_lt, Tryd.f117])
      refine ⟨⟨i, H, by omega, by omega, hp, kn.out⟩, by simp only; omega, ?_⟩
      refine Weak_to ?_ ?_ ?_ <;> simp only [go_sem]
  · obtain rfl : i = j := by omega
    have hbi := kI.out hj hp hq
    have hbb : bsB (tupK s) l = (decide (i < l.length) && decide (tupK s (l.getD i default) = 0)) := by unfold bsB; rw [hbi]
    rw [hbi, hbb]
    clear hbi hbb
    rcases Nat.lt_or_ge i l.length with h1 | h1
    · obtain ⟨x, hx⟩ : ∃ x, l[i] = x := ⟨_, rfl⟩
      have hg : l.getD i default = x := by rw [List.getD_eq_getElem?_getD, List.getElem?_eq_getElem h1, ← hx]; rfl
      have h1' : ((i : Int) < (l.length : Int)) = True := eq_true (by omega)
      rw [hg]
      repeat' (first | refine rq fun _ => ?_ | simp only [go_sem, Nat.lt_irrefl, h1, h1', hx, hcu, str_eta, getD_map_lt, Tryd.f117])
    · have h1' : ((i : Int) < (l.length : Int)) = False := eq_false (by omega)
      have h1n : (i < l.length) = False := eq_false (by omega)
      repeat' (first | refine rq fun _ => ?_ | simp only [go_sem, Nat.lt_irrefl, h1n, h1', hcu, str_eta, getD_map_lt, Tryd.f117])


def constP (m : Model) (w : Str) : Int × Bool := (constV m w, (findC m w).isSome)
theorem findC_bs {m : Model} (h : okC m.consts) (w : Str) : findC m w = if bsB (cnsC w) m.consts then some (m.consts.getD (bsI (cnsC w) m.consts) default) else none := by
  have := find_bs (okC_step h w)
  unfold findC
  rw [show (fun c : Const => decide (c.name = w)) = fun c => decide (cmpS c.name w = 0) from funext fun c => decide_eq_decide.2 cmpS_zero.symm, this]
  rfl
theorem bsB_lt {α : Type} [Inhabited α] {c : α → Int} {l : List α} (h : bsB c l = true) : bsI c l < l.length := by
  unfold bsB at h
  simp only [Bool.and_eq_true, decide_eq_true_eq] at h
  exact h.1
def A9 : Tbl := A8.add 113 (sp2p constP fun m _ => okC m.consts)
attribute [go_sem] A9
set_option maxRecDepth 100000 in
set_option maxHeartbeats 1000000 in
theorem hA9 : TblOk Tryd.prog G A9 := by
  refine sp2p_ok ok113 hA8 fun m w hok hwm hww => ?_
  have hwl : (enc m.consts).Wf := Wf_agg (by have h := hwm; rw [enc_model] at h; exact h) (FD.sl (m.consts.map enc)) (by simp)
  have hbs := bsConst (G := G) hwl hww (okC_step hok w)
  have hf := findC_bs hok w
  obtain ⟨I, hI⟩ : ∃ I, bsI (cnsC w) m.consts = I := ⟨_, rfl⟩
  cases hb : bsB (cnsC w) m.consts with
  | true =>
    have hlt := bsB_lt hb
    rw [hb, if_pos rfl] at hf
    rw [hI] at hf hlt
    obtain ⟨x, hx⟩ : ∃ x, m.consts[I] = x := ⟨_, rfl⟩
    have hg : m.consts.getD I default = x := by rw [List.getD_eq_getElem?_getD, List.getElem?_eq_getElem hlt, ← hx]; rfl
    rw [hg] at hf
    have e : constP m w = (x.value, true) := by unfold constP constV; rw [hf]; rfl
    rw [hb, hI] at hbs
    simp only [e]
    clear hf hg e hwl
    refine Wcall_K (N := 23) hm (G := G) hA8 113000 (lst []) ok113 Tryd.func113 rfl rfl (by simp) (by kernel_rfl) ?_
    repeat' (first | refine rq fun _ => ?_ | simp only [go_sem, Tryd.f113])
    refine WcallK.i (Wcall_mono (Wcall_pureF (ds := [_, _]) rfl hbs) ?_)
    rintro d' H' n1 ⟨rfl, rfl, rfl⟩
    repeat' (first | refine rq fun _ => ?_ | simp only [go_sem, hlt, hx, const_eta, str_eta, getD_map_lt, Tryd.f113])
  | false =>
    rw [hb] at hf hbs
    have e : constP m w = (0, false) := by unfold constP constV; rw [hf]; rfl
    rw [hI] at hbs
    simp only [e]
    clear hf e hwl
    refine Wcall_K (N := 23) hm (G := G) hA8 113000 (lst []) ok113 Tryd.func113 rfl rfl (by simp) (by kernel_rfl) ?_
    repeat' (first | refine rq fun _ => ?_ | simp only [go_sem, Tryd.f113])
    refine WcallK.i (Wcall_mono (Wcall_pureF (ds := [_, _]) rfl hbs) ?_)
    rintro d' H' n1 ⟨rfl, rfl, rfl⟩
    repeat' (first | refine rq fun _ => ?_ | simp only [go_sem, const_eta, str_eta, getD_map_lt, Tryd.f113])
def noRel : MRel := ⟨⟨[]⟩, 0, []⟩
def relP (m : Model) (w : Str) (n : Int) : MRel × Bool := match findR m w n with | some r => (r, true) | none => (noRel, false)
theorem findR_bs {m : Model} (h : okR m.rels) (w : Str) (n : Int) : findR m w n = if bsB (relC' ⟨w, n, []⟩) m.rels then some (m.rels.getD (bsI (relC' ⟨w, n, []⟩) m.rels) default) else none := by
  have := find_bs (okR_step h ⟨w, n, []⟩)
  unfold findR
  rw [show (fun r : MRel => decide (r.name = w ∧ r.arity = n)) = fun r => decide (cmpR r ⟨w, n, []⟩ = 0) from funext fun c => decide_eq_decide.2 (cmpR_zero (a := c) (b := ⟨w, n, []⟩)).symm, this]
  rfl
def A10 : Tbl := A9.add 115 (sp3p relP fun m _ _ => okR m.rels)
attribute [go_sem] A10
set_option maxRecDepth 100000 in
set_option maxHeartbeats 1000000 in
theorem hA10 : TblOk Tryd.prog G A10 := by
  refine sp3p_ok ok115 hA9 fun m w n hok hwm hww hwn => ?_
  have hwl : (enc m.rels).Wf := Wf_agg (by have h := hwm; rw [enc_model] at h; exact h) (FD.sl (m.rels.map enc)) (by simp)
  have hwt : (enc (⟨w, n, []⟩ : MRel)).Wf := .agg _ fun x hx => by
    simp only [List.mem_cons, List.not_mem_nil, or_false] at hx
    rcases hx with rfl | rfl | rfl
    · exact hww
    · exact hwn
    · exact .sl _ (by simp) (by simp)
  have hbs := bsRel (G := G) hwl hwt (okR_step hok ⟨w, n, []⟩)
  have hf := findR_bs hok w n
  obtain ⟨I, hI⟩ : ∃ I, bsI (relC' ⟨w, n, []⟩) m.rels = I := ⟨_, rfl⟩
  cases hb : bsB (relC' ⟨w, n, []⟩) m.rels with
  | true =>
    have hlt := bsB_lt hb
    rw [hb, if_pos rfl] at hf
    rw [hI] at hf hlt
    obtain ⟨x, hx⟩ : ∃ x, m.rels[I] = x := ⟨_, rfl⟩
    have hg : m.rels.getD I default = x := by rw [List.getD_eq_getElem?_getD, List.getElem?_eq_getElem hlt, ← hx]; rfl
    rw [hg] at hf
    have e : relP m w n = (x, true) := by unfold relP; rw [hf]
    rw [hb, hI] at hbs
    simp only [e]
    clear hf hg e hwl hwt
    refine Wcall_K (N := 27) hm (G := G) hA9 115000 (lst []) ok115 Tryd.func115 rfl rfl (by simp) (by kernel_rfl) ?_
    repeat' (first | refine rq fun _ => ?_ | simp only [go_sem, Tryd.f115])
    refine WcallK.i (Wcall_mono (Wcall_pureF (ds := [_, _]) rfl hbs) ?_)
    rintro d' H' n1 ⟨rfl, rfl, rfl⟩
    repeat' (first | refine rq fun _ => ?_ | simp only [go_sem, hlt, hx, rel_eta, str_eta, getD_map_lt, Tryd.f115])
  | false =>
    rw [hb] at hf hbs
    have e : relP m w n = (noRel, false) := by unfold relP; rw [hf]; rfl
    rw [hI] at hbs
    simp only [e, noRel]
    clear hf e hwl hwt
    refine Wcall_K (N := 27) hm (G := G) hA9 115000 (lst []) ok115 Tryd.func115 rfl rfl (by simp) (by kernel_rfl) ?_
    repeat' (first | refine rq fun _ => ?_ | simp only [go_sem, Tryd.f115])
    refine WcallK.i (Wcall_mono (Wcall_pureF (ds := [_, _]) rfl hbs) ?_)
    rintro d' H' n1 ⟨rfl, rfl, rfl⟩
    repeat' (first | refine rq fun _ => ?_ | simp only [go_sem, rel_eta, str_eta, getD_map_lt, Tryd.f115])
end
end Go.Proofs.YtbbjghecpcobjaaDoor

namespace Go.Abs
open Go
theorem nest_eq {f : Form} : nestM f = nestMs f.subs + if isQ f.kind then 1 else 0 := by cases f; rw [nestM]; rfl
theorem nestMs_snoc : ∀ (l : List Form) (f : Form), nestMs (l ++ [f]) = max (nestMs l) (nestM f)
  | [], f => by simp [nestMs]
  | g :: l, f => by rw [List.cons_append, nestMs, nestMs, nestMs_snoc l f]; omega
theorem nestMs_take {fs : List Form} {j : Nat} (h : j < fs.length) : nestMs (fs.take (j + 1)) = max (nestMs (fs.take j)) (nestM fs[j]) := by
  rw [List.take_succ_eq_append_getElem h, nestMs_snoc]
mutual
theorem nest_depth : ∀ f : Form, nestM f ≤ f.size
  | .mk k n w s => by
    rw [nestM, Form.size]
    have := nests_size s
    split <;> omega
theorem nests_size : ∀ fs : List Form, nestMs fs ≤ Form.sizes fs
  | [] => by rw [nestMs]; omega
  | f :: fs => by rw [nestMs, Form.sizes]; have := nest_depth f; have := nests_size fs; omega
end
theorem nests_mem : ∀ {l : List Form} {f : Form}, f ∈ l → nestM f ≤ nestMs l
  | g :: l, f, h => by
    rw [nestMs]
    rcases List.mem_cons.1 h with rfl | h
    · omega
    · have := nests_mem h; omega
def szP (f : Form) : Prop := f.fit = true ∧ f.size ≤ 1000000
theorem szP_sub {f g : Form} (h : szP f) (hg : g ∈ f.subs) : g.size < f.size ∧ szP g :=
  ⟨Form.size_sub hg, Form.fits_mem (Form.fit_eq h.1).2.2 hg, by have := Form.size_sub hg; have := h.2; omega⟩
/-- a list of individuals as a number -/
def codeM (size : Int) (t : List Int) : Int := t.foldl (fun n v => n * size + v) 0
theorem codeM_take {size : Int} {t : List Int} {i : Nat} (h : i < t.length) : codeM size (t.take (i + 1)) = codeM size (t.take i) * size + t[i] := by
  unfold codeM
  rw [List.take_succ_eq_append_getElem h, List.foldl_append]; rfl
theorem codeM_bd {size : Int} (hs : 1 ≤ size) (hs2 : size ≤ 6) : ∀ {t : List Int}, (∀ v ∈ t, -1 ≤ v ∧ v < size) → t.length ≤ 3 → -1000 ≤ codeM size t ∧ codeM size t ≤ 1000
  | [], _, _ => by simp [codeM]
  | [a], h, _ => by have := h a (by simp); simp only [codeM, List.foldl_cons, List.foldl_nil]; omega
  | [a, b], h, _ => by
    have ha := h a (by simp)
    have hb := h b (by simp)
    simp only [codeM, List.foldl_cons, List.foldl_nil]
    have h6 : size = 1 ∨ size = 2 ∨ size = 3 ∨ size = 4 ∨ size = 5 ∨ size = 6 := by omega
    rcases h6 with rfl | rfl | rfl | rfl | rfl | rfl <;> omega
  | [a, b, c], h, _ => by
    have ha := h a (by simp)
    have hb := h b (by simp)
    have hc := h c (by simp)
    simp only [codeM, List.foldl_cons, List.foldl_nil]
    have h6 : size = 1 ∨ size = 2 ∨ size = 3 ∨ size = 4 ∨ size = 5 ∨ size = 6 := by omega
    rcases h6 with rfl | rfl | rfl | rfl | rfl | rfl <;> omega
  | _ :: _ :: _ :: _ :: _, _, h => by simp at h
def codePre (t : List Int) (size : Int) : Prop := 1 ≤ size ∧ size ≤ 6 ∧ t.length ≤ 3 ∧ ∀ v ∈ t, -1 ≤ v ∧ v < size
end Go.Abs
namespace Go.Proofs.YtbbjghecpcobjaaDoor
open Go Go.Abs Go.Proofs
section
variable {G : Nat → List FD}
theorem Weak_rpA {G : Nat → List FD} {N : Nat} {l : List (Nat × D)} {H : Heap} {n : Nat} {id : Abs.Id} {t : Nat} {ys : List FD} {b : Bool} (ho : H id = some ⟨ys.map .fz, b, false⟩) (hs : frL l t = .ptr id 0) :
    Weak G N ⟨frL l, H, n⟩ ⟨frL ((t, .rp ys) :: l), updH H id none, n⟩ := Weak_rp (st := ⟨frL l, H, n⟩) ho hs

/-! ## how many quantifiers stand within one another -/
def A11 : Tbl := A10.add 112 (sp1 (fun f : Abs.Form => (nestM f : Int)) szP)
attribute [go_sem] A11
set_option maxRecDepth 100000 in
set_option maxHeartbeats 1000000 in
theorem hA11 : TblOk Tryd.prog G A11 := by
  refine sp1_rec Form.size ok112 hA10 fun n hT f hn hpre _ => ?_
  have hsl := (Form.fit_eq hpre.1).2.1
  have hse := nest_depth f
  have hz := hpre.2
  have hr : ∀ g ∈ f.subs, g.size < n ∧ szP g := fun g hg => by have := szP_sub hpre hg; exact ⟨by omega, this.2⟩
  have kT := Kp.mk hT
  have kr := Kp.mk hr
  obtain ⟨S, hS⟩ : ∃ S : Nat → Nat, S = fun j => nestMs (f.subs.take j) := ⟨_, rfl⟩
  have hS0 : S 0 = 0 := by rw [hS]; simp [nestMs]
  have hSs : ∀ j (h : j < f.subs.length), S (j + 1) = max (S j) (nestM f.subs[j]) := fun j h => by rw [hS]; exact nestMs_take h
  have hSe : nestM f = S f.subs.length + if isQ f.kind then 1 else 0 := by rw [hS, nest_eq]; simp only [List.take_length]
  have kS := Kp.mk hSs
  have hSn : S f.subs.length ≤ 1000000 := by omega
  have hq : (isQ f.kind ∧ (f.kind = 8 ∨ f.kind = 9)) ∨ (¬ isQ f.kind ∧ ¬ (f.kind = 8 ∨ f.kind = 9)) := by
    by_cases h : isQ f.kind
    · exact .inl ⟨h, h⟩
    · exact .inr ⟨h, h⟩
  rw [hSe]
  clear hT hr hS hSs hSe hpre hn hse
  refine Wcall_K (N := 23) hm (G := G) kT.out 112000 (lst []) ok112 Tryd.func112 rfl rfl (by simp) (by kernel_rfl) ?_
  repeat' (first | refine rq fun _ => ?_ | simp only [go_sem, Tryd.f112])
  refine WK_weak2 (Weak_rpA (id := (112001, 0)) (t := 1) (b := true) (ys := [.i .i64 f.kind, .s f.name.l, .sl (f.words.map enc), .sl (f.subs.map enc)]) (by simp only [go_sem]) (by simp only [go_sem])) ?_
  refine WK_loop hm (G := G) kT.out 112000 (lst []) (ι := LoopM f.subs.length 1 fun _ => True)
    ⟨fun q => ⟨frL [(1, .rp [.i .i64 f.kind, .s f.name.l, .sl (f.words.map enc), .sl (f.subs.map enc)]), (3, .fz (.i .i64 (S q.i : Nat))), (7, .fz (.sl (f.subs.map enc))), (8, .fz (.i .i64 f.subs.length)), (9, .fz (.i .i64 q.i))], hpL [], q.m⟩, fun q => f.subs.length - q.i⟩
    ⟨0, 1, by omega, by omega, trivial⟩ (by kernel_rfl) ?_ ?_
  · refine Weak_to ?_ ?_ ?_ <;> simp only [go_sem, hS0]
    all_goals first | done | rfl
  rintro ⟨j, m, hj, hm1, _⟩
  try simp only at hj hm1
  rcases Nat.lt_or_ge j f.subs.length with h2 | h2
  · have hss := kS.out j h2
    have hr := kr.out _ (List.getElem_mem h2)
    obtain ⟨x, hx⟩ : ∃ x, f.subs[j] = x := ⟨_, rfl⟩
    rw [hx] at hss hr
    have hmx : max (S j : Int) (nestM x : Int) = (S (j + 1) : Int) := by omega
    repeat' (first | refine rq fun _ => ?_ | refine ReqK.i hr fun _ => ?_ | simp only [go_sem, h2, hx, hmx, form_eta, getD_map_lt, Tryd.f112])
    refine ⟨⟨j + 1, m + 1, by omega, by omega, trivial⟩, by simp only; omega, ?_⟩
    refine Weak_to ?_ ?_ ?_ <;> simp only [go_sem, hss, hmx]
    all_goals first | done | omega | rfl | (simp only [hss]; omega)
  · obtain rfl : j = f.subs.length := by omega
    rcases hq with ⟨h3, h4⟩ | ⟨h3, h4⟩
    · rw [if_pos h3]
      repeat' (first | refine rq fun _ => ?_ | simp only [go_sem, Nat.lt_irrefl, h4, form_eta, Tryd.f112])
      all_goals first | done | rfl
    · rw [if_neg h3]
      repeat' (first | refine rq fun _ => ?_ | simp only [go_sem, Nat.lt_irrefl, h4, form_eta, Tryd.f112])
      all_goals first | done | rfl
end
end Go.Proofs.YtbbjghecpcobjaaDoor

namespace Go.Abs
open Go
theorem hasR_eq {m : Model} {f : Form} : hasR m f = ((!decide (f.kind = 2) || (findR m f.name f.words.length).isSome) && hasRs m f.subs) := by cases f; rw [hasR]; rfl
theorem hasRs_all {m : Model} : ∀ l : List Form, hasRs m l = l.all (hasR m)
  | [] => by rw [hasRs]; rfl
  | f :: l => by rw [hasRs, hasRs_all l]; rfl
theorem all_falls {α : Type} {p : α → Bool} {l : List α} {i : Nat} (h : i < l.length) (hp : p l[i] = false) : l.all p = false := by
  cases ha : l.all p with
  | false => rfl
  | true => rw [List.all_eq_true.1 ha _ (List.getElem_mem h)] at hp; cases hp
theorem all_holds {α : Type} {p : α → Bool} {l : List α} (hp : ∀ j (h : j < l.length), p l[j] = true) : l.all p = true := by
  rw [List.all_eq_true]
  intro x hx
  obtain ⟨j, hj, rfl⟩ := List.getElem_of_mem hx
  exact hp j hj
theorem below_succ {p : Nat → Prop} {n i : Nat} (h : ∀ j, j < n → j < i → p j) (hi : p i) : ∀ j, j < n → j < i + 1 → p j := fun j hj h2 => by
  rcases Nat.lt_or_ge j i with h3 | h3
  · exact h j hj h3
  · obtain rfl : j = i := by omega
    exact hi
theorem find_some_any {α : Type} {p : α → Bool} {l : List α} : (l.find? p).isSome = l.any p := by
  induction l with
  | nil => rfl
  | cons a l ih => rw [List.find?_cons, List.any_cons]; cases p a <;> simp [ih]
section
variable {P : Program} {G : Nat → List FD} {T : Tbl}
/-- a recursive function of two arguments, the second of which gets smaller -/
theorem sp2_recR {α β ρ : Type} [Enc α] [Enc β] [Enc ρ] {f : FuncId} {g : α → β → ρ} {pre : α → β → Prop} (m : β → Nat) (hc : CallOk P f) (hT : TblOk P G T)
    (h : ∀ n, TblOk P G (T.add f (sp2 g fun a b => m b < n ∧ pre a b)) → ∀ a b, m b = n → pre a b → (enc a).Wf → (enc b).Wf → Wcall P G f [.fz (enc a), .fz (enc b)] (hpL []) 0 (fun d _ _ => D.val d = some (.fz (enc (g a b))))) : TblOk P G (T.add f (sp2 g pre)) := by
  have key : ∀ n, TblOk P G (T.add f (sp2 g fun a b => m b < n ∧ pre a b)) := by
    intro n
    induction n with
    | zero => exact sp2_ok hc hT fun a b ha => by omega
    | succ n ih =>
      refine sp2_ok hc hT fun a b ha hw hw2 => ?_
      rcases Nat.lt_or_ge (m b) n with h1 | h1
      · have h2 := ih f (sp2 g fun a b => m b < n ∧ pre a b) [enc a, enc b] _ _ (by simp [Tbl.add]) (k_sp2) ⟨by rw [dec_enc], by rw [dec_enc], by rw [dec_enc, dec_enc]; exact ⟨h1, ha.2⟩⟩
        rw [dec_enc, dec_enc, H0_eq] at h2
        exact h2
      · exact h n ih a b (by omega) ha.2 hw hw2
  exact sp2_ok hc hT fun a b ha hw hw2 => h (m b) (key _) a b rfl ha hw hw2
end
end Go.Abs
namespace Go.Proofs.YtbbjghecpcobjaaDoor
open Go Go.Abs Go.Proofs
section
variable {G : Nat → List FD}
def A12 : Tbl := A11.add 41 (sp1 (fun f : Abs.Form => (nestM f : Int)) szP)
attribute [go_sem] A12
set_option maxRecDepth 100000 in
set_option maxHeartbeats 1000000 in
theorem hA12 : TblOk Tryd.prog G A12 := by
  refine sp1_rec Form.size ok41 hA11 fun n hT f hn hpre _ => ?_
  have hsl := (Form.fit_eq hpre.1).2.1
  have hse := nest_depth f
  have hz := hpre.2
  have hr : ∀ g ∈ f.subs, g.size < n ∧ szP g := fun g hg => by have := szP_sub hpre hg; exact ⟨by omega, this.2⟩
  have kT := Kp.mk hT
  have kr := Kp.mk hr
  obtain ⟨S, hS⟩ : ∃ S : Nat → Nat, S = fun j => nestMs (f.subs.take j) := ⟨_, rfl⟩
  have hS0 : S 0 = 0 := by rw [hS]; simp [nestMs]
  have hSs : ∀ j (h : j < f.subs.length), S (j + 1) = max (S j) (nestM f.subs[j]) := fun j h => by rw [hS]; exact nestMs_take h
  have hSe : nestM f = S f.subs.length + if isQ f.kind then 1 else 0 := by rw [hS, nest_eq]; simp only [List.take_length]
  have kS := Kp.mk hSs
  have hSn : S f.subs.length ≤ 1000000 := by omega
  have hq : (isQ f.kind ∧ f.kind = 8) ∨ (isQ f.kind ∧ f.kind = 9 ∧ ¬ f.kind = 8) ∨ (¬ isQ f.kind ∧ ¬ f.kind = 8 ∧ ¬ f.kind = 9) := by
    unfold isQ; omega
  rw [hSe]
  clear hT hr hS hSs hSe hpre hn hse
  refine Wcall_K (N := 34) hm (G := G) kT.out 41000 (lst []) ok41 Tryd.func41 rfl rfl (by simp) (by kernel_rfl) ?_
  repeat' (first | refine rq fun _ => ?_ | simp only [go_sem, Tryd.f41])
  refine WK_weak2 (Weak_rpA (id := (41001, 0)) (t := 1) (b := true) (ys := [.i .i64 f.kind, .s f.name.l, .sl (f.words.map enc), .sl (f.subs.map enc)]) (by simp only [go_sem]) (by simp only [go_sem])) ?_
  refine WK_loop hm (G := G) kT.out 41000 (lst []) (ι := LoopI f.subs.length fun _ => True)
    ⟨fun q => ⟨frL [(1, .rp [.i .i64 f.kind, .s f.name.l, .sl (f.words.map enc), .sl (f.subs.map enc)]), (3, .fz (.i .i64 (S q.i : Nat))), (8, .fz (.i .i64 f.subs.length)), (9, .fz (.i .i64 q.i))], hpL [], 1⟩, fun q => f.subs.length - q.i⟩
    ⟨0, by omega, trivial⟩ (by kernel_rfl) ?_ ?_
  · refine Weak_to ?_ ?_ ?_ <;> simp only [go_sem, hS0]
    all_goals first | done | rfl
  rintro ⟨j, hj, _⟩
  try simp only at hj
  rcases Nat.lt_or_ge j f.subs.length with h2 | h2
  · have hss := kS.out j h2
    have hr := kr.out _ (List.getElem_mem h2)
    obtain ⟨x, hx⟩ : ∃ x, f.subs[j] = x := ⟨_, rfl⟩
    rw [hx] at hss hr
    rcases Nat.lt_or_ge (S j) (nestM x) with h3 | h3
    · have h3' : (S j : Int) < (nestM x : Int) := by omega
      have h4 : S (j + 1) = nestM x := by omega
      repeat' (first | refine rq fun _ => ?_ | refine ReqK.i hr fun _ => ?_ | simp only [go_sem, h2, hx, h3, h3', getD_map_lt, Tryd.f41])
      refine ⟨⟨j + 1, by omega, trivial⟩, by simp only; omega, ?_⟩
      refine Weak_to ?_ ?_ ?_ <;> simp only [go_sem, h4]
    · have h3' : ¬ (S j : Int) < (nestM x : Int) := by omega
      have h3'' : ¬ S j < nestM x := by omega
      have h4 : S (j + 1) = S j := by omega
      repeat' (first | refine rq fun _ => ?_ | refine ReqK.i hr fun _ => ?_ | simp only [go_sem, h2, hx, h3', h3'', getD_map_lt, Tryd.f41])
      refine ⟨⟨j + 1, by omega, trivial⟩, by simp only; omega, ?_⟩
      refine Weak_to ?_ ?_ ?_ <;> simp only [go_sem, h4]
  · obtain rfl : j = f.subs.length := by omega
    rcases hq with ⟨h3, h4⟩ | ⟨h3, h4, h5⟩ | ⟨h3, h4, h5⟩
    · rw [if_pos h3]
      repeat' (first | refine rq fun _ => ?_ | simp only [go_sem, Nat.lt_irrefl, h4, Tryd.f41])
      all_goals first | done | rfl
    · rw [if_pos h3]
      repeat' (first | refine rq fun _ => ?_ | simp only [go_sem, Nat.lt_irrefl, h4, Tryd.f41])
      all_goals first | done | rfl
    · rw [if_neg h3]
      repeat' (first | refine rq fun _ => ?_ | simp only [go_sem, Nat.lt_irrefl, h4, h5, Tryd.f41])
      all_goals first | done | rfl
def A13 : Tbl := A12.add 84 (sp2 (fun t size => codeM size t) codePre)
attribute [go_sem] A13
set_option maxRecDepth 100000 in
set_option maxHeartbeats 1000000 in
theorem hA13 : TblOk Tryd.prog G A13 := by
  refine sp2_ok ok84 hA12 fun t s hpre _ _ => ?_
  obtain ⟨hs1, hs2, hl, hv⟩ := hpre
  obtain ⟨C, hC⟩ : ∃ C : Nat → Int, C = fun i => codeM s (t.take i) := ⟨_, rfl⟩
  have h0 : C 0 = 0 := by rw [hC]; rfl
  have hs : ∀ i (h : i < t.length), C (i + 1) = C i * s + t[i] := fun i h => by rw [hC]; exact codeM_take h
  have hb : ∀ i, -1000 ≤ C i ∧ C i ≤ 1000 := fun i => by
    rw [hC]
    exact codeM_bd hs1 hs2 (fun v h => hv v (List.mem_of_mem_take h)) (by rw [List.length_take]; omega)
  have he : codeM s t = C t.length := by rw [hC]; simp only [List.take_length]
  rw [he]
  have k1 := Kp.mk hs
  have k2 := Kp.mk hb
  clear hs hb hC he hv
  refine Wcall_K (N := 21) hm (G := G) hA12 84000 (lst []) ok84 Tryd.func84 rfl rfl (by simp) (by kernel_rfl) ?_
  repeat' (first | refine rq fun _ => ?_ | simp only [go_sem, Tryd.f84])
  refine WK_loop hm (G := G) hA12 84000 (lst []) (ι := LoopI t.length fun _ => True)
    ⟨fun q => ⟨frL [(1, .fz (.i .i64 s)), (5, .fz (.i .i64 (C q.i))), (8, .fz (.sl (t.map enc))), (9, .fz (.i .i64 t.length)), (10, .fz (.i .i64 q.i))], hpL [], 0⟩, fun q => t.length - q.i⟩
    ⟨0, by omega, trivial⟩ (by kernel_rfl) ?_ ?_
  · refine Weak_to ?_ ?_ ?_ <;> simp only [go_sem, h0]
  rintro ⟨i, hi, _⟩
  try simp only at hi
  rcases Nat.lt_or_ge i t.length with h1 | h1
  · have e := k1.out i h1
    have b1 := k2.out i
    have b2 := k2.out (i + 1)
    obtain ⟨x, hx⟩ : ∃ x, t[i] = x := ⟨_, rfl⟩
    rw [hx] at e
    have hmul : -6000 ≤ C i * s ∧ C i * s ≤ 6000 := by
      have h6 : s = 1 ∨ s = 2 ∨ s = 3 ∨ s = 4 ∨ s = 5 ∨ s = 6 := by omega
      rcases h6 with rfl | rfl | rfl | rfl | rfl | rfl <;> omega
    obtain ⟨M, hM⟩ : ∃ M, C i * s = M := ⟨_, rfl⟩
    rw [hM] at e hmul
    repeat' (first | refine rq fun _ => ?_ | simp only [go_sem, h1, hx, hM, getD_map_lt, Tryd.f84])
    refine ⟨⟨i + 1, by omega, trivial⟩, by simp only; omega, ?_⟩
    refine Weak_to ?_ ?_ ?_ <;> simp only [go_sem, e]
  · obtain rfl : i = t.length := by omega
    repeat' (first | refine rq fun _ => ?_ | simp only [go_sem, Nat.lt_irrefl, Tryd.f84])
def lkP (m : Model) (f : Abs.Form) : Prop := szP f ∧ m.rels.length ≤ 1000000
def A14 : Tbl := A13.add 87 (sp2 (fun m f => !hasR m f) lkP)
attribute [go_sem] A14
set_option maxRecDepth 100000 in
set_option maxHeartbeats 1000000 in
set_option maxHeartbeats 4000000 in
theorem hA14 : TblOk Tryd.prog G A14 := by
  refine sp2_recR Form.size ok87 hA13 fun n hT m f hn hpre _ _ => ?_
  have hrl := hpre.2
  have hpre := hpre.1
  have hsl := (Form.fit_eq hpre.1).2.1
  have hr : ∀ g ∈ f.subs, g.size < n ∧ lkP m g := fun g hg => by have := szP_sub hpre hg; exact ⟨by omega, this.2, hrl⟩
  have hE := hasR_eq (m := m) (f := f)
  rw [hasRs_all] at hE
  obtain ⟨Q, hQ⟩ : ∃ Q : D → Heap → Nat → Prop, Q = (fun d _ _ => D.val d = some (.fz (enc (!hasR m f)))) := ⟨_, rfl⟩
  rw [← hQ]
  have ht : hasR m f = false → ∀ {H' n'}, Q (.fz (.b true)) H' n' := fun h H' n' => by rw [hQ]; show _ = some (D.fz (.b (!hasR m f))); rw [h]; rfl
  have hf : hasR m f = true → ∀ {H' n'}, Q (.fz (.b false)) H' n' := fun h H' n' => by rw [hQ]; show _ = some (D.fz (.b (!hasR m f))); rw [h]; rfl
  have kt := Kp.mk @ht
  have kf := Kp.mk @hf
  have kT := Kp.mk hT
  have kr := Kp.mk hr
  have kE := Kp.mk hE
  obtain ⟨B, hB⟩ : ∃ B : Nat → Bool, B = fun i => (m.rels.take i).any fun r => decide (r.name = f.name ∧ r.arity = f.words.length) := ⟨_, rfl⟩
  have hB0 : B 0 = false := by rw [hB]; rfl
  have hBs : ∀ i (h : i < m.rels.length), B (i + 1) = (B i || decide (m.rels[i].name = f.name ∧ m.rels[i].arity = f.words.length)) := fun i h => by rw [hB]; exact any_take_succ h
  have hBe : B m.rels.length = (findR m f.name f.words.length).isSome := by rw [hB]; unfold findR; rw [find_some_any]; simp only [List.take_length]
  have kB := Kp.mk hBs
  have kBe := Kp.mk hBe
  clear hT hr hE ht hf hQ hB hBs hBe hpre hn
  refine Wcall_K (N := 52) hm (G := G) kT.out 87000 (lst []) ok87 Tryd.func87 rfl rfl (by simp) (by kernel_rfl) ?_
  by_cases hk : f.kind = 2
  case' pos =>
    repeat' (first | refine rq fun _ => ?_ | simp only [go_sem, hk, Tryd.f87])
    refine WK_loop hm (G := G) kT.out 87000 (lst []) (ι := LoopI m.rels.length fun _ => True)
      ⟨fun q => ⟨frL [(2, .ptr (87002, 0) 0), (3, .ptr (87003, 1) 0), (5, .fz (.b (B q.i))), (13, .fz (.sl (m.rels.map enc))), (14, .fz (.i .i64 m.rels.length)), (15, .fz (.i .i64 q.i))],
        hpL [((87002, 0), some ⟨[.fz (.i .i64 m.size), .fz (.sl (m.consts.map enc)), .fz (.sl (m.rels.map enc))], true, false⟩), ((87003, 1), some ⟨[.fz (.i .i64 f.kind), .fz (.s f.name.l), .fz (.sl (f.words.map enc)), .fz (.sl (f.subs.map enc))], true, false⟩)], 2 + q.i⟩, fun q => m.rels.length - q.i⟩
      ⟨0, by omega, trivial⟩ (by kernel_rfl) ?_ ?_
    · refine Weak_to ?_ ?_ ?_ <;> simp only [go_sem, hB0, hk]
    rintro ⟨i, hi, _⟩
    try simp only at hi
    rcases Nat.lt_or_ge i m.rels.length with h1 | h1
    · have e := kB.out i h1
      obtain ⟨x, hx⟩ : ∃ x, m.rels[i] = x := ⟨_, rfl⟩
      rw [hx] at e
      cases hb : B i with
      | true =>
        have e2 : B (i + 1) = true := by rw [e, hb]; rfl
        repeat' (first | refine rq fun _ => ?_ | simp only [go_sem, h1, hx, hb, rel_eta, getD_map_lt, Tryd.f87])
        refine ⟨⟨i + 1, by omega, trivial⟩, by simp only; omega, ?_⟩
        refine Weak_to ?_ ?_ ?_ <;> simp only [go_sem, e2]
        all_goals first | done | omega
      | false =>
        rw [hb, Bool.false_or] at e
        by_cases h2 : x.name = f.name
        · by_cases h3 : x.arity = f.words.length
          · have e2 : B (i + 1) = true := by rw [e]; simp [h2, h3]
            repeat' (first | refine rq fun _ => ?_ | simp only [go_sem, h1, hx, hb, h2, h3, rel_eta, getD_map_lt, Tryd.f87])
            refine ⟨⟨i + 1, by omega, trivial⟩, by simp only; omega, ?_⟩
            refine Weak_to ?_ ?_ ?_ <;> simp only [go_sem, e2]
            all_goals first | done | omega
          · have e2 : B (i + 1) = false := by rw [e]; simp [h3]
            repeat' (first | refine rq fun _ => ?_ | simp only [go_sem, h1, hx, hb, h2, h3, rel_eta, getD_map_lt, Tryd.f87])
            refine ⟨⟨i + 1, by omega, trivial⟩, by simp only; omega, ?_⟩
            refine Weak_to ?_ ?_ ?_ <;> simp only [go_sem, e2]
            all_goals first | done | omega
        · have e2 : B (i + 1) = false := by rw [e]; simp [h2]
          have h2' : (x.name = f.name) = False := eq_false h2
          repeat' (first | refine rq fun _ => ?_ | simp only [go_sem, h1, hx, hb, h2', rel_eta, getD_map_lt, Tryd.f87])
          refine ⟨⟨i + 1, by omega, trivial⟩, by simp only; omega, ?_⟩
          refine Weak_to ?_ ?_ ?_ <;> simp only [go_sem, e2]
          all_goals first | done | omega
    obtain rfl : i = m.rels.length := by omega
    have hBe := kBe.out
    have hE := kE.out
    rw [← hBe] at hE
    have hbb : B m.rels.length = false ∨ B m.rels.length = true := by cases B m.rels.length <;> simp
    rcases hbb with hb | hb
    · repeat' (first | refine rq fun _ => ?_ | simp only [go_sem, Nat.lt_irrefl, hb, Tryd.f87])
      exact kt.out (by rw [hE, hb, hk]; rfl)
    have hR : hasR m f = f.subs.all (hasR m) := by rw [hE, hb]; simp
    repeat' (first | refine rq fun _ => ?_ | simp only [go_sem, Nat.lt_irrefl, hb, Tryd.f87])
  case' neg =>
    have hE := kE.out
    have hR : hasR m f = f.subs.all (hasR m) := by rw [hE]; simp [hk]
    repeat' (first | refine rq fun _ => ?_ | simp only [go_sem, hk, Tryd.f87])
  all_goals
    have kR := Kp.mk hR
    clear hR hE
    refine WK_loop hm (G := G) kT.out 87000 (lst []) (ι := LoopI f.subs.length fun i => ∀ j (h : j < f.subs.length), j < i → hasR m f.subs[j] = true)
      ⟨fun q => ⟨frL [(2, .ptr (87002, 0) 0), (3, .ptr (87003, 1) 0), (40, .fz (.i .i64 f.subs.length)), (41, .fz (.i .i64 q.i))],
        hpL [((87002, 0), some ⟨[.fz (.i .i64 m.size), .fz (.sl (m.consts.map enc)), .fz (.sl (m.rels.map enc))], true, false⟩), ((87003, 1), some ⟨[.fz (.i .i64 f.kind), .fz (.s f.name.l), .fz (.sl (f.words.map enc)), .fz (.sl (f.subs.map enc))], true, false⟩)], 1000100⟩, fun q => f.subs.length - q.i⟩
      ⟨0, by omega, fun j h h2 => by omega⟩ (by kernel_rfl) ?_ ?_
    · refine Weak_to ?_ ?_ ?_ <;> simp only [go_sem, hk]
      all_goals first | done | omega
    rintro ⟨i, hi, hp⟩
    try simp only at hi
    rcases Nat.lt_or_ge i f.subs.length with h1 | h1
    · have hz := kr.out _ (List.getElem_mem h1)
      have hq : hasR m f.subs[i] = false → hasR m f = false := fun h2 => by rw [kR.out]; exact all_falls h1 h2
      have kq := Kp.mk hq
      clear hq
      have hp2 := fun (h2 : hasR m f.subs[i] = true) => below_succ (p := fun j => ∀ h : j < f.subs.length, hasR m f.subs[j] = true) (n := f.subs.length) (i := i) (fun j h3 h4 _ => hp j h3 h4) (fun _ => h2)
      have kp := Kp.mk hp2
      clear hp2
      obtain ⟨x, hx⟩ : ∃ x, f.subs[i] = x := ⟨_, rfl⟩
      rw [hx] at hz kq kp
      have hcc : hasR m x = false ∨ hasR m x = true := by cases hasR m x <;> simp
      rcases hcc with hc | hc
      · repeat' (first | refine ReqK.i hz fun _ => ?_ | refine rq fun _ => ?_ | simp only [go_sem, h1, hx, hc, form_eta, model_eta, getD_map_lt, Tryd.f87])
        exact kt.out (kq.out hc)
      · repeat' (first | refine ReqK.i hz fun _ => ?_ | refine rq fun _ => ?_ | simp only [go_sem, h1, hx, hc, form_eta, model_eta, getD_map_lt, Tryd.f87])
        refine ⟨⟨i + 1, by omega, fun j h h2 => kp.out hc j h h2 h⟩, by simp only; omega, ?_⟩
        refine Weak_to ?_ ?_ ?_ <;> simp only [go_sem]
    · obtain rfl : i = f.subs.length := by omega
      have hq : hasR m f = true := by rw [kR.out]; exact all_holds fun j h => hp j h h
      repeat' (first | refine rq fun _ => ?_ | simp only [go_sem, Nat.lt_irrefl, Tryd.f87])
      exact kf.out hq
end
end Go.Proofs.YtbbjghecpcobjaaDoor

namespace Go.Proofs.YtbbjghecpcobjaaDoor
open Go Go.Abs Go.Proofs
section
variable {G : Nat → List FD}
/-! ## the value of a word -/
def idxT (p : Nat) : Int := (p : Int) - 1
theorem idxT_succ (p : Nat) : idxT (p + 1) = (p : Int) := by unfold idxT; omega
theorem idxT_zero : idxT 0 = -1 := rfl
structure DownI (n : Nat) (P : Nat → Prop) where
  p : Nat
  hn : p ≤ n
  hp : P p
set_option maxRecDepth 100000 in
set_option maxHeartbeats 1000000 in
theorem f116 {w : Str} {env : List Const} {m : Model} {ie im : Abs.Id} {H : Heap} {n : Nat} {R : D → Heap → Nat → Prop} (hok : okC m.consts) (hl : env.length ≤ 1000)
    (ho1 : H ie = some ⟨[.fz (.sl (env.map enc))], true, false⟩) (ho2 : H im = some ⟨[.fz (.i .i64 m.size), .fz (.sl (m.consts.map enc)), .fz (.sl (m.rels.map enc))], true, false⟩)
    (hR : R (.fz (.i .i64 (wordV m env w))) H n) : Wcall Tryd.prog G 116 [.fz (enc w), .ptr ie 0, .ptr im 0] H n R := by
  have hW : wordV m env w = match lastE env w with | some v => v | none => constV m w := rfl
  have e0 : H = hpX [] H := rfl
  obtain ⟨L, hL⟩ : ∃ L : Nat → Option Int, L = fun p => lastE (env.take p) w := ⟨_, rfl⟩
  have hL0 : L 0 = none := by rw [hL]; rfl
  have hLs : ∀ p (h : p < env.length), L (p + 1) = if env[p].name = w then some env[p].value else L p := fun p h => by
    rw [hL]; simp only [List.take_succ_eq_append_getElem h, lastE_snoc]
  have hLe : lastE env w = L env.length := by rw [hL]; simp only [List.take_length]
  rw [hLe] at hW
  have kL := Kp.mk hLs
  have kR := Kp.mk hR
  have kW := Kp.mk hW
  clear hL hLs hLe hW hR
  rw [e0]
  refine Wcall_K (N := 34) hm (G := G) hA14 116000 (lst []) ok116 Tryd.func116 rfl rfl (by simp) (by kernel_rfl) ?_
  repeat' (first | refine rq fun _ => ?_ | simp only [go_sem, ho1, Tryd.f116])
  refine WK_loop hm (G := G) hA14 116000 (lst []) (ι := DownI env.length fun p => L env.length = L p)
    ⟨fun q => ⟨frL [(0, .fz (.s w.l)), (1, .ptr ie 0), (2, .ptr im 0), (5, .fz (.i .i64 (idxT q.p)))], hpX [] H, n⟩, fun q => q.p⟩
    ⟨env.length, Nat.le_refl _, rfl⟩ (by kernel_rfl) ?_ ?_
  · refine Weak_toX ?_ ?_ (fun id o ho => ?_) ?_
    · simp only [go_sem, idxT]
    · simp only [go_sem]
    · simp only [go_sem]; exact ho
    · simp only [go_sem]
  rintro ⟨p, hn, hp⟩
  try simp only at hn hp
  rcases p with _ | p
  · repeat' (first | refine ReqK.i hok fun _ => ?_ | refine rq fun _ => ?_ | simp only [go_sem, idxT_zero, ho1, ho2, str_eta, model_eta, Tryd.f116])
    have h := kR.out
    rw [kW.out, hp, hL0] at h
    exact h
  · have h1 : p < env.length := by omega
    have hs := kL.out p h1
    obtain ⟨x, hx⟩ : ∃ x, env[p] = x := ⟨_, rfl⟩
    rw [hx] at hs
    by_cases hc : x.name = w
    · rw [if_pos hc] at hs
      repeat' (first | refine rq fun _ => ?_ | simp only [go_sem, idxT_succ, ho1, ho2, h1, hx, hc, const_eta, str_eta, getD_map_lt, Tryd.f116])
      have h := kR.out
      rw [kW.out, hp, hs] at h
      exact h
    · rw [if_neg hc] at hs
      have hc' : (x.name = w) = False := eq_false hc
      repeat' (first | refine rq fun _ => ?_ | simp only [go_sem, idxT_succ, ho1, ho2, h1, hx, hc', const_eta, str_eta, getD_map_lt, Tryd.f116])
      refine ⟨⟨p, by omega, hp.trans hs⟩, by simp only; omega, ?_⟩
      refine Weak_toX ?_ ?_ (fun id o ho => ?_) ?_
      · simp only [go_sem, idxT]
      · simp only [go_sem]
      · simp only [go_sem]; exact ho
      · simp only [go_sem]
end
end Go.Proofs.YtbbjghecpcobjaaDoor

namespace Go.Abs
open Go
section
variable {P : Program} {G : Nat → List FD} {T : Tbl}
/-- a recursive function of three arguments, the second of which gets smaller -/
theorem sp3_recM {α β γ ρ : Type} [Enc α] [Enc β] [Enc γ] [Enc ρ] {f : FuncId} {g : α → β → γ → ρ} {pre : α → β → γ → Prop} (m : β → Nat) (hc : CallOk P f) (hT : TblOk P G T)
    (h : ∀ n, TblOk P G (T.add f (sp3 g fun a b c => m b < n ∧ pre a b c)) → ∀ a b c, m b = n → pre a b c → (enc a).Wf → (enc b).Wf → (enc c).Wf → Wcall P G f [.fz (enc a), .fz (enc b), .fz (enc c)] (hpL []) 0 (fun d _ _ => D.val d = some (.fz (enc (g a b c))))) : TblOk P G (T.add f (sp3 g pre)) := by
  have key : ∀ n, TblOk P G (T.add f (sp3 g fun a b c => m b < n ∧ pre a b c)) := by
    intro n
    induction n with
    | zero => exact sp3_ok hc hT fun a b c ha => by omega
    | succ n ih =>
      refine sp3_ok hc hT fun a b c ha hw hw2 hw3 => ?_
      rcases Nat.lt_or_ge (m b) n with h1 | h1
      · have h2 := ih f (sp3 g fun a b c => m b < n ∧ pre a b c) [enc a, enc b, enc c] _ _ (by simp [Tbl.add]) (k_sp3) ⟨by rw [dec_enc], by rw [dec_enc], by rw [dec_enc], by rw [dec_enc, dec_enc, dec_enc]; exact ⟨h1, ha.2⟩⟩
        rw [dec_enc, dec_enc, dec_enc, H0_eq] at h2
        exact h2
      · exact h n ih a b c (by omega) ha.2 hw hw2 hw3
  exact sp3_ok hc hT fun a b c ha hw hw2 hw3 => h (m b) (key _) a b c rfl ha hw hw2 hw3
end
def treeV16 : Tv := (.q 0 (.q 1 (.q 2 (.q 3 (.q 4 (.q 6 (.q 7 (.r 8 (.q 9 (.br [(5, (.q 10 (.br [(11, (.q 12 (.q 13 .leaf)))]))), (10, (.br [(5, (.br [(11, (.q 12 (.q 13 .leaf)))]))]))]))))))))))
structure valP (m : Model) (f : Form) (env : List Const) : Prop where
  m : mval m
  v : vok f
  s : szP f
  e : env.length + nestM f ≤ 900
theorem valP_sub {m : Model} {f g : Form} {env : List Const} (h : valP m f env) (hg : g ∈ f.subs) : g.size < f.size ∧ valP m g env := by
  have hs := szP_sub h.s hg
  refine ⟨hs.1, h.m, (voks_mem _).1 (vok_eq.1 h.v).2.2.2.2.2.2 g hg, hs.2, ?_⟩
  have := nests_mem hg
  have h2 := h.e
  rw [nest_eq] at h2
  omega
theorem valP_bind {m : Model} {f g : Form} {env : List Const} (h : valP m f env) (hg : g ∈ f.subs) (hq : isQ f.kind) (c : Const) : g.size < f.size ∧ valP m g (env ++ [c]) := by
  have hs := szP_sub h.s hg
  refine ⟨hs.1, h.m, (voks_mem _).1 (vok_eq.1 h.v).2.2.2.2.2.2 g hg, hs.2, ?_⟩
  have := nests_mem hg
  have h2 := h.e
  rw [nest_eq, if_pos hq] at h2
  rw [List.length_append, List.length_singleton]
  omega
theorem val_1 {m : Model} {f : Form} {env : List Const} (h : f.kind = 1) : valM m f env = true := by cases f; simp only [form_kind] at h; subst h; rw [valM, if_pos rfl]
theorem val_2 {m : Model} {f : Form} {env : List Const} (h : f.kind = 2) : valM m f env = decide (f.words.map (wordV m env) ∈ tupsV m f.name f.words.length) := by cases f; simp only [form_kind] at h; subst h; rw [valM]; rfl
theorem val_3 {m : Model} {f : Form} {env : List Const} {a b : Str} (h : f.kind = 3) (hw : f.words = [a, b]) : valM m f env = decide (wordV m env a = wordV m env b) := by cases f; simp only [form_kind, form_words] at h hw; subst h hw; rw [valM]; rfl
theorem val_4 {m : Model} {f x : Form} {env : List Const} (h : f.kind = 4) (hs : f.subs = [x]) : valM m f env = !valM m x env := by cases f; simp only [form_kind, form_subs] at h hs; subst h hs; rw [valM, valMs, valMs]; rfl
theorem val_5 {m : Model} {f x y : Form} {env : List Const} (h : f.kind = 5) (hs : f.subs = [x, y]) : valM m f env = (valM m x env && valM m y env) := by cases f; simp only [form_kind, form_subs] at h hs; subst h hs; rw [valM, valMs, valMs, valMs]; rfl
theorem val_6 {m : Model} {f x y : Form} {env : List Const} (h : f.kind = 6) (hs : f.subs = [x, y]) : valM m f env = (valM m x env || valM m y env) := by cases f; simp only [form_kind, form_subs] at h hs; subst h hs; rw [valM, valMs, valMs, valMs]; rfl
theorem val_7 {m : Model} {f x y : Form} {env : List Const} (h : f.kind = 7) (hs : f.subs = [x, y]) : valM m f env = (!valM m x env || valM m y env) := by cases f; simp only [form_kind, form_subs] at h hs; subst h hs; rw [valM, valMs, valMs, valMs]; rfl
theorem val_8 {m : Model} {f x : Form} {env : List Const} (h : f.kind = 8) (hs : f.subs = [x]) : valM m f env = (indiv m).all fun v => valM m x (env ++ [⟨f.name, v⟩]) := by cases f; simp only [form_kind, form_subs] at h hs; subst h hs; rw [valM]; simp only [valMs]; rfl
theorem val_9 {m : Model} {f x : Form} {env : List Const} (h : f.kind = 9) (hs : f.subs = [x]) : valM m f env = (indiv m).any fun v => valM m x (env ++ [⟨f.name, v⟩]) := by cases f; simp only [form_kind, form_subs] at h hs; subst h hs; rw [valM]; simp only [valMs]; rfl
theorem one_ofF {s : List Form} (h : s.length = 1) : ∃ a, s = [a] := by
  match s, h with
  | [a], _ => exact ⟨a, rfl⟩
theorem two_ofF {s : List Form} (h : s.length = 2) : ∃ a b, s = [a, b] := by
  match s, h with
  | [a, b], _ => exact ⟨a, b, rfl⟩
theorem two_ofW {s : List Str} (h : s.length = 2) : ∃ a b, s = [a, b] := by
  match s, h with
  | [a, b], _ => exact ⟨a, b, rfl⟩
end Go.Abs
namespace Go.Proofs.YtbbjghecpcobjaaDoor
open Go Go.Abs Go.Proofs
section
variable {G : Nat → List FD}
theorem tup_step {m : Model} (h : mval m) (w : Str) (n : Int) (t : List Int) : stepC (tupK t) (relP m w n).1.tuples := by
  unfold relP
  split
  · rename_i r hr
    have hm := h.t r (List.mem_of_find?_eq_some hr)
    exact fun i j hi hj hij h2 => cmpL_trans (hm i j hi hj hij) h2
  · exact fun i j hi => absurd hi (by simp [noRel])
theorem tups_rel (m : Model) (w : Str) (n : Int) : tupsV m w n = (relP m w n).1.tuples := by
  unfold tupsV relP
  cases findR m w n <;> rfl
theorem bs_mem {m : Model} (h : mval m) (w : Str) (n : Int) (t : List Int) : bsB (tupK t) (relP m w n).1.tuples = decide (t ∈ tupsV m w n) := by
  have := find_bs (tup_step h w n t)
  rw [tups_rel]
  cases hb : bsB (tupK t) (relP m w n).1.tuples with
  | true =>
    rw [hb, if_pos rfl] at this
    have h1 := List.find?_some this
    have h2 := List.mem_of_find?_eq_some this
    rw [cmpL_zero.1 (of_decide_eq_true h1)] at h2
    exact (decide_eq_true h2).symm
  | false =>
    rw [hb] at this
    refine (decide_eq_false fun h2 => ?_).symm
    have h3 := (List.find?_eq_none.1 this) t h2
    simp only [decide_eq_true_eq] at h3
    exact h3 (cmpL_zero.2 rfl)
theorem wordV_wf {m : Model} {env : List Const} (h : (enc m).Wf) (h2 : (enc env).Wf) (w : Str) : (enc (wordV m env w)).Wf := by
  have hv : ∀ {l : List Const}, (enc l).Wf → ∀ c ∈ l, (enc c.value).Wf := fun {l} h c hc => by
    have h1 := Wf_mem h _ (List.mem_map_of_mem hc)
    exact Wf_agg (by rw [enc_const] at h1; exact h1) (FD.i .i64 c.value) (by simp)
  have hc : (enc m.consts).Wf := Wf_agg (by rw [enc_model] at h; exact h) (FD.sl (m.consts.map enc)) (by simp)
  have key : ∀ (l : List Const) (v : Int), lastE l w = some v → ∃ c ∈ l, c.value = v := by
    intro l
    induction l with
    | nil => intro v h; simp [lastE] at h
    | cons e l ih =>
      intro v h
      rw [lastE] at h
      cases hl : lastE l w with
      | some u =>
        rw [hl] at h
        obtain ⟨c, h1, h2⟩ := ih u hl
        exact ⟨c, List.mem_cons_of_mem _ h1, by rw [h2]; exact Option.some.inj h⟩
      | none =>
        rw [hl] at h
        simp only at h
        split at h
        · exact ⟨e, by simp, Option.some.inj h⟩
        · cases h
  unfold wordV
  cases hl : lastE env w with
  | some v =>
    obtain ⟨c, h3, rfl⟩ := key env v hl
    exact hv h2 c h3
  | none =>
    simp only
    unfold constV
    cases hf : findC m w with
    | some c => exact hv hc c (List.mem_of_find?_eq_some hf)
    | none => exact .i _ _ (by decide) (by decide)
def A15 : Tbl := A14.add 73 (sp3 valM valP)
attribute [go_sem] A15
set_option maxRecDepth 100000 in
set_option maxHeartbeats 1000000 in
set_option maxHeartbeats 8000000 in
theorem hA15 : TblOk Tryd.prog G A15 := by
  refine sp3_recM Form.size ok73 hA14 fun n hT m f env hn hpre hwm hwf hwe => ?_
  have hm0 := hpre.m
  have hok := hpre.m.c
  have hokr := hpre.m.r
  have s1 := hpre.m.s1
  have s6 := hpre.m.s6
  have lc := hpre.m.lc
  have lr := hpre.m.lr
  have hel : env.length ≤ 900 := by have := hpre.e; omega
  have hwl := (Form.fit_eq hpre.s.1).1
  have hsl := (Form.fit_eq hpre.s.1).2.1
  have hsub : ∀ g ∈ f.subs, g.size < n ∧ valP m g env := fun g hg => by have := valP_sub hpre hg; exact ⟨by omega, this.2⟩
  have hsq : isQ f.kind → ∀ g ∈ f.subs, ∀ c, g.size < n ∧ valP m g (env ++ [c]) := fun hq g hg c => by have := valP_bind hpre hg hq c; exact ⟨by omega, this.2⟩
  have hv := vok_eq.1 hpre.v
  obtain ⟨v1, v9, v2, v3, v4, v5, _⟩ := hv
  have kT := Kp.mk hT
  have kS := Kp.mk hsub
  have kQ := Kp.mk hsq
  clear hT hsub hsq hpre hn
  have hkk : f.kind = 1 ∨ f.kind = 2 ∨ f.kind = 3 ∨ f.kind = 4 ∨ f.kind = 5 ∨ f.kind = 6 ∨ f.kind = 7 ∨ f.kind = 8 ∨ f.kind = 9 := by omega
  rcases hkk with hk | hk | hk | hk | hk | hk | hk | hk | hk
  · rw [val_1 hk]
    refine Wcall_K (N := 168) hm (G := G) kT.out 73000 (lsw [35] [1000016]) ok73 Tryd.func73 rfl rfl (by simp) (by kernel_rfl) ?_
    repeat' (first | refine rq fun _ => ?_ | refine ReqK.i (fits_of2 (by first | omega | (simp only [List.length_map, List.length_take, List.length_append, List.length_cons, List.length_nil]; omega)) (by decide)) fun _ => ?_ | simp only [go_sem, hk, form_eta, model_eta, Tryd.f73])
  · rw [val_2 hk]
    have hws := v2 hk
    obtain ⟨A, hA⟩ : ∃ A : Nat → List Int, A = fun i => (f.words.take i).map (wordV m env) := ⟨_, rfl⟩
    have hA0 : A 0 = [] := by rw [hA]; rfl
    have hAs : ∀ i (h : i < f.words.length), A (i + 1) = A i ++ [wordV m env f.words[i]] := fun i h => by rw [hA]; simp only [List.take_succ_eq_append_getElem h, List.map_append, List.map_cons, List.map_nil]
    have hAl : ∀ i, i ≤ f.words.length → (A i).length = i := fun i h => by rw [hA]; simp only [List.length_map, List.length_take]; omega
    obtain ⟨t, ht⟩ : ∃ t, A f.words.length = t := ⟨_, rfl⟩
    have hte : f.words.map (wordV m env) = t := by rw [← ht, hA]; simp only [List.take_length]
    have htl : t.length = f.words.length := by rw [← ht]; exact hAl _ (Nat.le_refl _)
    rw [hte]
    have hbm := bs_mem hm0 f.name f.words.length t
    have hst := tup_step hm0 f.name f.words.length t
    rw [← hbm]
    obtain ⟨rl, hrl⟩ : ∃ rl, (relP m f.name f.words.length).1 = rl := ⟨_, rfl⟩
    obtain ⟨bl, hbl⟩ : ∃ bl, (relP m f.name f.words.length).2 = bl := ⟨_, rfl⟩
    have hrp : relP m f.name f.words.length = (rl, bl) := by rw [← hrl, ← hbl]
    rw [hrl] at hst ⊢
    have hwt : (enc rl.tuples).Wf := by
      rw [← hrl]; unfold relP
      split
      · rename_i r hr
        have h1 : (enc r).Wf := Wf_mem (Wf_agg (by have h := hwm; rw [enc_model] at h; exact h) (FD.sl (m.rels.map enc)) (by simp)) _ (List.mem_map_of_mem (List.mem_of_find?_eq_some hr))
        exact Wf_agg (by have h := h1; rw [enc_rel] at h; exact h) (FD.sl (r.tuples.map enc)) (by simp)
      · exact .sl _ (by simp [noRel]) (by simp [noRel])
    have hwtt : (enc t).Wf := by
      rw [← hte]
      refine .sl _ (by simp only [List.length_map]; unfold maxL; omega) fun y hy => ?_
      obtain ⟨v, hv2, rfl⟩ := List.mem_map.1 hy
      obtain ⟨w, _, rfl⟩ := List.mem_map.1 hv2
      exact wordV_wf hwm hwe w
    have kA := Kp.mk hAs
    have kL := Kp.mk hAl
    have kw := Kp.mk hwt
    have ks := Kp.mk hst
    have kwt := Kp.mk hwtt
    clear hA hAs hAl hte hbm hst hwt hrl hbl hwtt
    refine Wcall_K (N := 168) hm (G := G) kT.out 73000 (lsw [35] [1000016]) ok73 Tryd.func73 rfl rfl (by simp) (by kernel_rfl) ?_
    repeat' (first | refine rq fun _ => ?_ | refine ReqK.i (fits_of2 (by first | omega | (simp only [List.length_map, List.length_take, List.length_append, List.length_cons, List.length_nil]; omega)) (by decide)) fun _ => ?_ | simp only [go_sem, hk, form_eta, model_eta, Tryd.f73])
    refine WK_loop hm (G := G) kT.out 73000 (lsw [35] [1000016]) (ι := LoopG f.words.length 4 fun _ => True)
      ⟨fun q => ⟨frL [(3, .ptr (73003, 0) 0), (4, .ptr (73004, 1) 0), (5, .ptr (73005, 2) 0), (7, .fn 116 [.ptr (73005, 2) 0, .ptr (73003, 0) 0]), (8, .ow (73035, q.g) 1 ((A q.i).map enc)), (24, .fz (.sl (f.words.map enc))), (25, .fz (.i .i64 f.words.length)), (26, .fz (.i .i64 q.i))],
        hpL [((73003, 0), some ⟨[.fz (.i .i64 m.size), .fz (.sl (m.consts.map enc)), .fz (.sl (m.rels.map enc))], true, false⟩), ((73004, 1), some ⟨[.fz (.i .i64 f.kind), .fz (.s f.name.l), .fz (.sl (f.words.map enc)), .fz (.sl (f.subs.map enc))], true, false⟩), ((73005, 2), some ⟨[.fz (.sl (env.map enc))], true, false⟩), ((73035, q.g), some tok)], q.m⟩, fun q => f.words.length - q.i⟩
      ⟨0, 3, 4, by omega, by omega, by omega, trivial⟩ (by kernel_rfl) ?_ ?_
    · refine Weak_g [] [(73035, 3)] [] ?_ ?_ ?_ ?_ ?_ <;> simp only [go_sem, hA0, hk]
      all_goals first | done | rfl | omega | trace_state
    rintro ⟨i, g, q, hi, hg, hq, _⟩
    try simp only at hi hg hq
    rcases Nat.lt_or_ge i f.words.length with h1 | h1
    · have hs := kA.out i h1
      have hl := kL.out i (by omega)
      obtain ⟨w, hw⟩ : ∃ w, f.words[i] = w := ⟨_, rfl⟩
      rw [hw] at hs
      repeat' (first | refine rq fun _ => ?_ | refine ReqK.i (fits_of2 (by first | omega | (simp only [List.length_map, List.length_take, List.length_append, List.length_cons, List.length_nil]; omega)) (by decide)) fun _ => ?_ | simp only [go_sem, h1, hw, str_eta, getD_map_lt, form_eta, model_eta, Tryd.f73])
      refine WcallK.i (f116 (env := env) (m := m) hok (by omega) (by simp only [go_sem]) (by simp only [go_sem]) ?_)
      repeat' (first | refine rq fun _ => ?_ | refine ReqK.i (fits_of2 (by first | omega | (simp only [List.length_map, List.length_take, List.length_append, List.length_cons, List.length_nil]; omega)) (by decide)) fun _ => ?_ | simp only [go_sem, h1, hw, str_eta, getD_map_lt, form_eta, model_eta, Tryd.f73])
      refine ⟨⟨i + 1, q, q + 1, by omega, by omega, by omega, trivial⟩, by simp only; omega, ?_⟩
      refine Weak_to ?_ ?_ ?_ <;> (try simp only [go_sem, hs, List.map_append])
      all_goals first | done | omega | rfl | trace_state
    obtain rfl : i = f.words.length := by omega
    repeat' (first | refine ReqK.i hokr fun _ => ?_ | refine rq fun _ => ?_ | refine ReqK.i (fits_of2 (by first | omega | (simp only [List.length_map, List.length_take, List.length_append, List.length_cons, List.length_nil]; omega)) (by decide)) fun _ => ?_ | simp only [go_sem, Nat.lt_irrefl, ht, htl, hrp, str_eta, rel_eta, form_eta, model_eta, Tryd.f73])
    refine WcallK.i (Wcall_mono (Wcall_pureF (ds := [_, _]) rfl (bsTup (G := G) kw.out kwt.out ks.out)) ?_)
    rintro d' H' n1 ⟨rfl, rfl, rfl⟩
    repeat' (first | refine rq fun _ => ?_ | refine ReqK.i (fits_of2 (by first | omega | (simp only [List.length_map, List.length_take, List.length_append, List.length_cons, List.length_nil]; omega)) (by decide)) fun _ => ?_ | simp only [go_sem, Nat.lt_irrefl, ht, str_eta, rel_eta, form_eta, model_eta, Tryd.f73])
  · obtain ⟨a, b, hab⟩ := two_ofW (v3 hk)
    rw [val_3 hk hab]
    refine Wcall_K (N := 168) hm (G := G) kT.out 73000 (lsw [35] [1000016]) ok73 Tryd.func73 rfl rfl (by simp) (by kernel_rfl) ?_
    repeat' (first | refine rq fun _ => ?_ | refine ReqK.i (fits_of2 (by first | omega | (simp only [List.length_map, List.length_take, List.length_append, List.length_cons, List.length_nil]; omega)) (by decide)) fun _ => ?_ | simp only [go_sem, hk, hab, form_eta, model_eta, Tryd.f73])
    refine WK_weak2 (Weak_rpA (id := (73004, 1)) (t := 4) (b := true) (ys := [.i .i64 f.kind, .s f.name.l, .sl (f.words.map enc), .sl (f.subs.map enc)]) (by simp only [go_sem, hk, hab]) (by simp only [go_sem])) ?_
    refine WK_drawV hm (G := G) kT.out 73000 (lsw [35] [1000016]) treeV16 (by kernel_rfl) (by kernel_rfl) ?_
    repeat' (first | refine And.intro ?_ ?_ | exact True.intro | refine WcallK.i (f116 (env := env) (m := m) hok (by omega) (by simp only [go_sem]) (by simp only [go_sem]) ?_) | refine rq fun _ => ?_ | refine ReqK.i (fits_of2 (by first | omega | (simp only [List.length_map, List.length_take, List.length_append, List.length_cons, List.length_nil]; omega)) (by decide)) fun _ => ?_ | simp only [go_sem, treeV16, hk, hab, str_eta, form_eta, model_eta, Tryd.f73])
  · obtain ⟨x, hx⟩ := one_ofF (v4 (.inl hk))
    rw [val_4 hk hx]
    have hz := kS.out x (by rw [hx]; simp)
    obtain ⟨b, hb⟩ : ∃ b, valM m x env = b := ⟨_, rfl⟩
    rw [hb]
    refine Wcall_K (N := 168) hm (G := G) kT.out 73000 (lsw [35] [1000016]) ok73 Tryd.func73 rfl rfl (by simp) (by kernel_rfl) ?_
    repeat' (first | refine ReqK.i hz fun _ => ?_ | refine rq fun _ => ?_ | refine ReqK.i (fits_of2 (by first | omega | (simp only [List.length_map, List.length_take, List.length_append, List.length_cons, List.length_nil]; omega)) (by decide)) fun _ => ?_ | simp only [go_sem, hk, hx, hb, form_eta, model_eta, Tryd.f73])
  · obtain ⟨x, y, hxy⟩ := two_ofF (v5 (by omega))
    rw [val_5 hk hxy]
    have hz := kS.out x (by rw [hxy]; simp)
    have hz2 := kS.out y (by rw [hxy]; simp)
    obtain ⟨b2, hb2⟩ : ∃ b, valM m y env = b := ⟨_, rfl⟩
    rw [hb2]
    cases hb : valM m x env
    · refine Wcall_K (N := 168) hm (G := G) kT.out 73000 (lsw [35] [1000016]) ok73 Tryd.func73 rfl rfl (by simp) (by kernel_rfl) ?_
      repeat' (first | refine ReqK.i hz fun _ => ?_ | refine ReqK.i hz2 fun _ => ?_ | refine rq fun _ => ?_ | refine ReqK.i (fits_of2 (by first | omega | (simp only [List.length_map, List.length_take, List.length_append, List.length_cons, List.length_nil]; omega)) (by decide)) fun _ => ?_ | simp only [go_sem, hk, hxy, hb, hb2, form_eta, model_eta, Tryd.f73])
    · refine Wcall_K (N := 168) hm (G := G) kT.out 73000 (lsw [35] [1000016]) ok73 Tryd.func73 rfl rfl (by simp) (by kernel_rfl) ?_
      repeat' (first | refine ReqK.i hz fun _ => ?_ | refine ReqK.i hz2 fun _ => ?_ | refine rq fun _ => ?_ | refine ReqK.i (fits_of2 (by first | omega | (simp only [List.length_map, List.length_take, List.length_append, List.length_cons, List.length_nil]; omega)) (by decide)) fun _ => ?_ | simp only [go_sem, hk, hxy, hb, hb2, form_eta, model_eta, Tryd.f73])
  · obtain ⟨x, y, hxy⟩ := two_ofF (v5 (by omega))
    rw [val_6 hk hxy]
    have hz := kS.out x (by rw [hxy]; simp)
    have hz2 := kS.out y (by rw [hxy]; simp)
    obtain ⟨b2, hb2⟩ : ∃ b, valM m y env = b := ⟨_, rfl⟩
    rw [hb2]
    cases hb : valM m x env
    · refine Wcall_K (N := 168) hm (G := G) kT.out 73000 (lsw [35] [1000016]) ok73 Tryd.func73 rfl rfl (by simp) (by kernel_rfl) ?_
      repeat' (first | refine ReqK.i hz fun _ => ?_ | refine ReqK.i hz2 fun _ => ?_ | refine rq fun _ => ?_ | refine ReqK.i (fits_of2 (by first | omega | (simp only [List.length_map, List.length_take, List.length_append, List.length_cons, List.length_nil]; omega)) (by decide)) fun _ => ?_ | simp only [go_sem, hk, hxy, hb, hb2, form_eta, model_eta, Tryd.f73])
    · refine Wcall_K (N := 168) hm (G := G) kT.out 73000 (lsw [35] [1000016]) ok73 Tryd.func73 rfl rfl (by simp) (by kernel_rfl) ?_
      repeat' (first | refine ReqK.i hz fun _ => ?_ | refine ReqK.i hz2 fun _ => ?_ | refine rq fun _ => ?_ | refine ReqK.i (fits_of2 (by first | omega | (simp only [List.length_map, List.length_take, List.length_append, List.length_cons, List.length_nil]; omega)) (by decide)) fun _ => ?_ | simp only [go_sem, hk, hxy, hb, hb2, form_eta, model_eta, Tryd.f73])
  · obtain ⟨x, y, hxy⟩ := two_ofF (v5 (by omega))
    rw [val_7 hk hxy]
    have hz := kS.out x (by rw [hxy]; simp)
    have hz2 := kS.out y (by rw [hxy]; simp)
    obtain ⟨b2, hb2⟩ : ∃ b, valM m y env = b := ⟨_, rfl⟩
    rw [hb2]
    cases hb : valM m x env
    · refine Wcall_K (N := 168) hm (G := G) kT.out 73000 (lsw [35] [1000016]) ok73 Tryd.func73 rfl rfl (by simp) (by kernel_rfl) ?_
      repeat' (first | refine ReqK.i hz fun _ => ?_ | refine ReqK.i hz2 fun _ => ?_ | refine rq fun _ => ?_ | refine ReqK.i (fits_of2 (by first | omega | (simp only [List.length_map, List.length_take, List.length_append, List.length_cons, List.length_nil]; omega)) (by decide)) fun _ => ?_ | simp only [go_sem, hk, hxy, hb, hb2, form_eta, model_eta, Tryd.f73])
    · refine Wcall_K (N := 168) hm (G := G) kT.out 73000 (lsw [35] [1000016]) ok73 Tryd.func73 rfl rfl (by simp) (by kernel_rfl) ?_
      repeat' (first | refine ReqK.i hz fun _ => ?_ | refine ReqK.i hz2 fun _ => ?_ | refine rq fun _ => ?_ | refine ReqK.i (fits_of2 (by first | omega | (simp only [List.length_map, List.length_take, List.length_append, List.length_cons, List.length_nil]; omega)) (by decide)) fun _ => ?_ | simp only [go_sem, hk, hxy, hb, hb2, form_eta, model_eta, Tryd.f73])
  · obtain ⟨x, hx⟩ := one_ofF (v4 (by omega))
    rw [val_8 hk hx]
    have hz := fun c => kQ.out (by unfold isQ; omega) x (by rw [hx]; simp) c
    obtain ⟨V, hV⟩ : ∃ V : Int → Bool, V = fun v => valM m x (env ++ [⟨f.name, v⟩]) := ⟨_, rfl⟩
    rw [← hV]
    have hVv : ∀ v, valM m x (env ++ [⟨f.name, v⟩]) = V v := fun v => by rw [hV]
    have kz := Kp.mk hz
    have kV := Kp.mk hVv
    clear hV hz hVv
    obtain ⟨r, hr⟩ : ∃ r, (indiv m).all V = r := ⟨_, rfl⟩
    have kr := Kp.mk hr
    rw [hr]
    clear hr
    refine Wcall_K (N := 168) hm (G := G) kT.out 73000 (lsw [35] [1000016]) ok73 Tryd.func73 rfl rfl (by simp) (by kernel_rfl) ?_
    repeat' (first | refine rq fun _ => ?_ | refine ReqK.i (fits_of2 (by first | omega | (simp only [List.length_map, List.length_take, List.length_append, List.length_cons, List.length_nil]; omega)) (by decide)) fun _ => ?_ | simp only [go_sem, hk, hx, form_eta, model_eta, Tryd.f73])
    refine WK_loop hm (G := G) kT.out 73000 (lsw [35] [1000016]) (ι := LoopM m.size.toNat 3 fun i => ∀ v : Nat, v < m.size.toNat → v < i → V v = true)
      ⟨fun q => ⟨frL [(3, .ptr (73003, 0) 0), (4, .ptr (73004, 1) 0), (5, .ptr (73005, 2) 0), (135, .fz (.i .i64 m.size)), (136, .fz (.i .i64 q.i))],
        hpL [((73003, 0), some ⟨[.fz (.i .i64 m.size), .fz (.sl (m.consts.map enc)), .fz (.sl (m.rels.map enc))], true, false⟩), ((73004, 1), some ⟨[.fz (.i .i64 f.kind), .fz (.s f.name.l), .fz (.sl (f.words.map enc)), .fz (.sl (f.subs.map enc))], true, false⟩), ((73005, 2), some ⟨[.fz (.sl (env.map enc))], true, false⟩)], q.m⟩, fun q => m.size.toNat - q.i⟩
      ⟨0, 3, by omega, by omega, fun v h h2 => by omega⟩ (by kernel_rfl) ?_ ?_
    · refine Weak_to ?_ ?_ ?_ <;> simp only [go_sem, hk, hx]
    rintro ⟨i, q, hi, hq, hp⟩
    try simp only at hi hq
    rcases Nat.lt_or_ge i m.size.toNat with h1 | h1
    · have h1' : ((i : Int) < m.size) = True := eq_true (by omega)
      have hz := kz.out ⟨f.name, (i : Int)⟩
      have hvi := kV.out (i : Int)
      have hbb : V i = false ∨ V i = true := by cases V i <;> simp
      rcases hbb with hb | hb
      · have hrr : r = false := by rw [← kr.out]; exact indiv_all_not (v := i) (by omega) hb
        subst hrr
        repeat' (first | refine ReqK.i hz fun _ => ?_ | refine rq fun _ => ?_ | refine ReqK.i (fits_of2 (by first | omega | (simp only [List.length_map, List.length_take, List.length_append, List.length_cons, List.length_nil]; omega)) (by decide)) fun _ => ?_ | simp only [go_sem, hk, hx, h1, h1', hvi, hb, str_eta, List.map_append, dec_sl_app, dec_sl_cons, dec_sl_nil, dec_const, form_eta, model_eta, Tryd.f73])
      · have hp2 := below_succ hp hb
        have kp := Kp.mk hp2
        clear hp2
        repeat' (first | refine ReqK.i hz fun _ => ?_ | refine rq fun _ => ?_ | refine ReqK.i (fits_of2 (by first | omega | (simp only [List.length_map, List.length_take, List.length_append, List.length_cons, List.length_nil]; omega)) (by decide)) fun _ => ?_ | simp only [go_sem, hk, hx, h1, h1', hvi, hb, str_eta, List.map_append, dec_sl_app, dec_sl_cons, dec_sl_nil, dec_const, form_eta, model_eta, Tryd.f73])
        refine ⟨⟨i + 1, q + 1, by omega, by omega, kp.out⟩, by simp only; omega, ?_⟩
        refine Weak_to ?_ ?_ ?_ <;> simp only [go_sem, hk, hx]
        all_goals first | done | omega | trace_state
    · obtain rfl : i = m.size.toNat := by omega
      have hrr : r = true := by rw [← kr.out]; exact indiv_all fun v hv => hp v (by omega) (by omega)
      have h1' : ((m.size.toNat : Int) < m.size) = False := eq_false (by omega)
      subst hrr
      repeat' (first | refine rq fun _ => ?_ | refine ReqK.i (fits_of2 (by first | omega | (simp only [List.length_map, List.length_take, List.length_append, List.length_cons, List.length_nil]; omega)) (by decide)) fun _ => ?_ | simp only [go_sem, hk, hx, Nat.lt_irrefl, h1', form_eta, model_eta, Tryd.f73])
  · obtain ⟨x, hx⟩ := one_ofF (v4 (by omega))
    rw [val_9 hk hx]
    have hz := fun c => kQ.out (by unfold isQ; omega) x (by rw [hx]; simp) c
    obtain ⟨V, hV⟩ : ∃ V : Int → Bool, V = fun v => valM m x (env ++ [⟨f.name, v⟩]) := ⟨_, rfl⟩
    rw [← hV]
    have hVv : ∀ v, valM m x (env ++ [⟨f.name, v⟩]) = V v := fun v => by rw [hV]
    have kz := Kp.mk hz
    have kV := Kp.mk hVv
    clear hV hz hVv
    obtain ⟨r, hr⟩ : ∃ r, (indiv m).any V = r := ⟨_, rfl⟩
    have kr := Kp.mk hr
    rw [hr]
    clear hr
    refine Wcall_K (N := 168) hm (G := G) kT.out 73000 (lsw [35] [1000016]) ok73 Tryd.func73 rfl rfl (by simp) (by kernel_rfl) ?_
    repeat' (first | refine rq fun _ => ?_ | refine ReqK.i (fits_of2 (by first | omega | (simp only [List.length_map, List.length_take, List.length_append, List.length_cons, List.length_nil]; omega)) (by decide)) fun _ => ?_ | simp only [go_sem, hk, hx, form_eta, model_eta, Tryd.f73])
    refine WK_loop hm (G := G) kT.out 73000 (lsw [35] [1000016]) (ι := LoopM m.size.toNat 3 fun i => ∀ v : Nat, v < m.size.toNat → v < i → V v = false)
      ⟨fun q => ⟨frL [(3, .ptr (73003, 0) 0), (4, .ptr (73004, 1) 0), (5, .ptr (73005, 2) 0), (135, .fz (.i .i64 m.size)), (136, .fz (.i .i64 q.i))],
        hpL [((73003, 0), some ⟨[.fz (.i .i64 m.size), .fz (.sl (m.consts.map enc)), .fz (.sl (m.rels.map enc))], true, false⟩), ((73004, 1), some ⟨[.fz (.i .i64 f.kind), .fz (.s f.name.l), .fz (.sl (f.words.map enc)), .fz (.sl (f.subs.map enc))], true, false⟩), ((73005, 2), some ⟨[.fz (.sl (env.map enc))], true, false⟩)], q.m⟩, fun q => m.size.toNat - q.i⟩
      ⟨0, 3, by omega, by omega, fun v h h2 => by omega⟩ (by kernel_rfl) ?_ ?_
    · refine Weak_to ?_ ?_ ?_ <;> simp only [go_sem, hk, hx]
    rintro ⟨i, q, hi, hq, hp⟩
    try simp only at hi hq
    rcases Nat.lt_or_ge i m.size.toNat with h1 | h1
    · have h1' : ((i : Int) < m.size) = True := eq_true (by omega)
      have hz := kz.out ⟨f.name, (i : Int)⟩
      have hvi := kV.out (i : Int)
      have hbb : V i = false ∨ V i = true := by cases V i <;> simp
      rcases hbb with hb | hb
      · have hp2 := below_succ hp hb
        have kp := Kp.mk hp2
        clear hp2
        repeat' (first | refine ReqK.i hz fun _ => ?_ | refine rq fun _ => ?_ | refine ReqK.i (fits_of2 (by first | omega | (simp only [List.length_map, List.length_take, List.length_append, List.length_cons, List.length_nil]; omega)) (by decide)) fun _ => ?_ | simp only [go_sem, hk, hx, h1, h1', hvi, hb, str_eta, List.map_append, dec_sl_app, dec_sl_cons, dec_sl_nil, dec_const, form_eta, model_eta, Tryd.f73])
        refine ⟨⟨i + 1, q + 1, by omega, by omega, kp.out⟩, by simp only; omega, ?_⟩
        refine Weak_to ?_ ?_ ?_ <;> simp only [go_sem, hk, hx]
        all_goals first | done | omega | trace_state
      · have hrr : r = true := by rw [← kr.out]; exact indiv_any (v := i) (by omega) hb
        subst hrr
        repeat' (first | refine ReqK.i hz fun _ => ?_ | refine rq fun _ => ?_ | refine ReqK.i (fits_of2 (by first | omega | (simp only [List.length_map, List.length_take, List.length_append, List.length_cons, List.length_nil]; omega)) (by decide)) fun _ => ?_ | simp only [go_sem, hk, hx, h1, h1', hvi, hb, str_eta, List.map_append, dec_sl_app, dec_sl_cons, dec_sl_nil, dec_const, form_eta, model_eta, Tryd.f73])
    · obtain rfl : i = m.size.toNat := by omega
      have hrr : r = false := by rw [← kr.out]; exact indiv_any_not fun v hv => hp v (by omega) (by omega)
      have h1' : ((m.size.toNat : Int) < m.size) = False := eq_false (by omega)
      subst hrr
      repeat' (first | refine rq fun _ => ?_ | refine ReqK.i (fits_of2 (by first | omega | (simp only [List.length_map, List.length_take, List.length_append, List.length_cons, List.length_nil]; omega)) (by decide)) fun _ => ?_ | simp only [go_sem, hk, hx, Nat.lt_irrefl, h1', form_eta, model_eta, Tryd.f73])
end
end Go.Proofs.YtbbjghecpcobjaaDoor

namespace Go.Proofs.YtbbjghecpcobjaaDoor
open Go Go.Abs Go.Proofs
section
variable {G : Nat → List FD}
/-! ## folform.Constants, whatever the package's variables are -/
set_option maxRecDepth 100000 in
set_option maxHeartbeats 1000000 in
theorem f128G : ∀ (k : Nat) (f : Abs.Form) (bd acc : List Str) (g n : Nat) (X : Heap), f.size ≤ k → (enc f).Wf → g < n → 2 < n → acc.length + (cst f bd).length ≤ 1000000 → bd.length + f.size ≤ 1000000 →
    (∀ id o, X id = some o → id.2 < n ∧ id.1 ≠ 79003 ∧ id.1 ≠ 79004 ∧ id.1 ≠ 128024) →
    Wcall Tryd.prog G 128 [.fz (enc f), .fz (enc bd), .ptr (79003, 1) 0, .ptr (79004, 2) 0] (hpX (HHk acc g) X) n
      (fun d' H' n' => d' = .tup [] ∧ n ≤ n' ∧ (∃ g', g' < n' ∧ HpOk H' (HHk (acc ++ cst f bd) g')) ∧ ∀ id o, X id = some o → H' id = some o) := by
  intro k
  induction k with
  | zero => intro f bd acc g n X hs; have := f.size_pos; omega
  | succ k ih =>
    intro f bd acc g n X hs hw hg hn hlen hbl hX
    obtain ⟨Q, hQ⟩ : ∃ Q : D → Heap → Nat → Prop, Q = (fun d' H' n' => d' = .tup [] ∧ n ≤ n' ∧ (∃ g', g' < n' ∧ HpOk H' (HHk (acc ++ cst f bd) g')) ∧ ∀ id o, X id = some o → H' id = some o) := ⟨_, rfl⟩
    rw [← hQ]
    have hX' : ∀ {l : List (Abs.Id × Option O)} (id o), X id = some o → (id.2 < n ∧ id.1 ≠ 79003 ∧ id.1 ≠ 79004 ∧ id.1 ≠ 128024 → apartL id l) → hpX l X id = some o := fun id o h1 h2 => (hpX_pass (h2 (hX id o h1))).trans h1
    have hwl : f.words.length ≤ maxL := by
      have h := Wf_agg (by have h := hw; rw [enc_form] at h; exact h) (FD.sl (f.words.map enc)) (by simp)
      have := Wf_sl h
      simpa using this
    have hsl : f.subs.length ≤ maxL := by
      have h := Wf_agg (by have h := hw; rw [enc_form] at h; exact h) (FD.sl (f.subs.map enc)) (by simp)
      have := Wf_sl h
      simpa using this
    have hsw : ∀ g ∈ f.subs, (enc g).Wf := fun g hg => Wf_mem (Wf_agg (by have h := hw; rw [enc_form] at h; exact h) (FD.sl (f.subs.map enc)) (by simp)) _ (List.mem_map_of_mem hg)
    have hss : ∀ g ∈ f.subs, g.size ≤ k ∧ g.size + 1 ≤ f.size := fun g hg => by have := Form.size_sub hg; omega
    unfold maxL at hwl hsl
    rw [cst_eq, List.length_append] at hlen
    obtain ⟨A, hA⟩ : ∃ A : Nat → List Str, A = fun i => acc ++ (f.words.take i).filter (fun w => decide (w ∉ bd)) := ⟨_, rfl⟩
    have hA0 : A 0 = acc := by rw [hA]; simp
    have hAl : ∀ i, (A i).length ≤ acc.length + (f.words.filter (fun w => decide (w ∉ bd))).length := fun i => by
      rw [hA]; simp only [List.length_append]; have := @filter_len_take f.words bd i; omega
    have hAs : ∀ i (h : i < f.words.length), A (i + 1) = A i ++ if f.words[i] ∈ bd then [] else [f.words[i]] := fun i h => by
      rw [hA]; simp only [filter_take_succ h, List.append_assoc]
    have hAe : A f.words.length = acc ++ f.words.filter (fun w => decide (w ∉ bd)) := by rw [hA]; simp only [List.take_length]
    have kA := Kp.mk hAl
    have kB := Kp.mk hAs
    have kC := Kp.mk hAe
    clear hA hAl hAs hAe
    have kX := Kp.mk @hX'
    have kQ := Kp.mk hQ
    have kI := Kp.mk ih
    have kS := Kp.mk hsw
    have kZ := Kp.mk hss
    have kx := Kp.mk hX
    clear hX' hQ ih hsw hss hX
    refine Wcall_K (N := 50) hm (TblOk_glob (G := G) hQ20) 128000 (lst [24]) ok128 Tryd.func128 rfl rfl (by simp) (by kernel_rfl) ?_
    repeat' (first | refine rq fun _ => ?_ | simp only [go_sem, HHk, Tryd.f128, *])
    refine WK_loop hm (TblOk_glob (G := G) hQ20) 128000 (lst [24]) (ι := LoopG f.words.length (n + 1) fun _ => True)
      ⟨fun q => ⟨frL [(1, .fz (.sl (bd.map enc))), (2, .ptr (79003, 1) 0), (3, .ptr (79004, 2) 0), (4, .ptr (128004, n) 0), (11, .fz (.sl (f.words.map enc))), (12, .fz (.i .i64 f.words.length)), (13, .fz (.i .i64 q.i))],
        hpX (((128004, n), some ⟨[.fz (.i .i64 f.kind), .fz (.s f.name.l), .fz (.sl (f.words.map enc)), .fz (.sl (f.subs.map enc))], true, false⟩) :: HHk (A q.i) q.g) X, q.m⟩, fun q => f.words.length - q.i⟩
      ⟨0, g, n + 1, by omega, by omega, by omega, trivial⟩ (by kernel_rfl) ?_ ?_
    · refine Weak_toX ?_ ?_ (fun id o ho => ?_) ?_
      · simp only [go_sem]
      · simp only [go_sem, HHk, hA0]
      · refine kX.out id o ho fun h1 => ?_
        ((repeat' (first | exact trivial | apply And.intro)) <;> (rintro rfl; simp only at h1; omega))
      · simp only [go_sem]
    rintro ⟨i, g1, m1, hi, hg1, hm1, _⟩
    try simp only at hi hg1 hm1
    rcases Nat.lt_or_ge i f.words.length with h1 | h1
    · have hfl := kB.out i h1
      have hl1 := kA.out i
      have hl2 := kA.out (i + 1)
      by_cases hin : f.words[i] ∈ bd
      · rw [if_pos hin, List.append_nil] at hfl
        repeat' (first | refine rq fun _ => ?_ | simp only [go_sem, HHk, h1, hin, str_eta, getD_map_lt, Tryd.f128])
        refine ⟨⟨i + 1, g1, m1, by omega, by omega, by omega, trivial⟩, by simp only; omega, ?_⟩
        refine Weak_toX ?_ ?_ (fun id o ho => ?_) ?_
        · simp only [go_sem]
        · simp only [go_sem, HHk, hfl]
        · refine kX.out id o ho fun h1 => ?_
          ((repeat' (first | exact trivial | apply And.intro)) <;> (rintro rfl; simp only at h1; omega))
        · simp only [go_sem]
      · rw [if_neg hin] at hfl
        have hl3 : (flatFz ((A i).map enc)).length = (A i).length := by rw [flat_len1 (lens_map (f := enc) (k := 1) (fun _ => rfl) _), List.length_map]
        repeat' (first | refine rq fun _ => ?_ | refine ReqK.i (fits_of2 (by omega) (by decide)) fun _ => ?_ | simp only [go_sem, HHk, h1, hin, str_eta, getD_map_lt, Tryd.f128])
        refine ⟨⟨i + 1, m1, m1 + 1, by omega, by omega, by omega, trivial⟩, by simp only; omega, ?_⟩
        refine Weak_toX ?_ ?_ (fun id o ho => ?_) ?_
        · simp only [go_sem]
        · simp only [go_sem, HHk, hfl, flat_snocS]
        · refine kX.out id o ho fun h1 => ?_
          ((repeat' (first | exact trivial | apply And.intro)) <;> (rintro rfl; simp only at h1; omega))
        · simp only [go_sem]
    · obtain rfl : i = f.words.length := by omega
      have hAe := kC.out
      obtain ⟨bd2, hbd⟩ : ∃ bd2, bd2 = if isQ f.kind then bd ++ [f.name] else bd := ⟨_, rfl⟩
      rw [← hbd] at hlen
      obtain ⟨B, hB⟩ : ∃ B : Nat → List Str, B = fun j => A f.words.length ++ csts (f.subs.take j) bd2 := ⟨_, rfl⟩
      have hB0 : B 0 = A f.words.length := by rw [hB]; simp [csts]
      have hBs : ∀ j (h : j < f.subs.length), B (j + 1) = B j ++ cst f.subs[j] bd2 := fun j h => by rw [hB]; simp only [csts_take_succ h, List.append_assoc]
      have hBl : ∀ j, (B j).length ≤ 1000000 := fun j => by rw [hB, List.length_append, hAe, List.length_append]; have := @csts_take_len f.subs bd2 j; omega
      have hBe : B f.subs.length = acc ++ cst f bd := by rw [hB, cst_eq, ← hbd, hAe]; simp only [List.take_length, List.append_assoc]
      have hb2 : bd2.length ≤ bd.length + 1 := by
        rw [hbd]; split
        · simp
        · omega
      have kBs := Kp.mk hBs
      have kBl := Kp.mk hBl
      have kBe := Kp.mk hBe
      clear hBs hBl hBe hB hAe
      rcases Decidable.em (isQ f.kind) with hq | hq
      all_goals
        (first | rw [if_pos hq] at hbd | rw [if_neg hq] at hbd)
        unfold isQ at hq
        repeat' (first | refine rq fun _ => ?_ | refine ReqK.i (fits_of2 (by omega) (by decide)) fun _ => ?_ | simp only [go_sem, HHk, hq, Nat.lt_irrefl, str_eta, Tryd.f128])
        refine WK_loop hm (TblOk_glob (G := G) hQ20) 128000 (lst [24]) (ι := LoopG f.subs.length (n + 1) fun _ => True)
          ⟨fun q => ⟨frL [(1, .fz (.sl (bd2.map enc))), (2, .ptr (79003, 1) 0), (3, .ptr (79004, 2) 0), (39, .fz (.sl (f.subs.map enc))), (40, .fz (.i .i64 f.subs.length)), (41, .fz (.i .i64 q.i))], hpX (HHk (B q.i) q.g) X, q.m⟩, fun q => f.subs.length - q.i⟩
          ⟨0, g1, m1, by omega, by omega, by omega, trivial⟩ (by kernel_rfl) ?_ ?_
        · refine Weak_toX ?_ ?_ (fun id o ho => ?_) ?_
          · simp only [go_sem, hbd, List.map_append]
          · simp only [go_sem, HHk, hB0]
          · refine kX.out id o ho fun h1 => ?_
            ((repeat' (first | exact trivial | apply And.intro)) <;> (rintro rfl; simp only at h1; omega))
          · simp only [go_sem]
        rintro ⟨j, g2, m2, hj, hg2, hm2, _⟩
        try simp only at hj hg2 hm2
        rcases Nat.lt_or_ge j f.subs.length with h2 | h2
        · have hmem := List.getElem_mem h2
          have hBj := kBs.out j h2
          have hl4 := kBl.out (j + 1)
          have hz := kZ.out _ hmem
          rw [hBj, List.length_append] at hl4
          have ih2 := kI.out f.subs[j] bd2 (B j) g2 (m2 + 1) X hz.1 (kS.out _ hmem) (by omega) (by omega) hl4 (by omega) (fun id o ho => by have := kx.out id o ho; omega)
          rw [enc_form] at ih2
          repeat' (first | refine rq fun _ => ?_ | simp only [go_sem, HHk, h2, getD_map_lt, Tryd.f128])
          refine WcallK.i (Wcall_hd rfl (Wcall_toX (by simp only [go_sem, argL]) (by simp only [go_sem, HHk]) (fun id o ho => ?_) (Nat.le_refl _) (Wcall_mono ih2 ?_)))
          · refine kX.out id o ho fun h1 => ?_
            ((repeat' (first | exact trivial | apply And.intro)) <;> (rintro rfl; simp only at h1; omega))
          rintro d' H' n' ⟨rfl, e1, ⟨g3, hg3, e2⟩, e3⟩
          rw [← hBj] at e2
          simp only [go_sem, HHk] at e2
          obtain ⟨b1, b2, b3⟩ := e2
          rw [show H' = hpX [] H' from rfl]
          repeat' (first | refine rq fun _ => ?_ | simp only [go_sem, HHk, h2, Tryd.f128])
          refine ⟨⟨j + 1, g3, n', by omega, by omega, by omega, trivial⟩, by simp only; omega, ?_⟩
          refine Weak_toX ?_ ?_ (fun id o ho => ?_) ?_
          · simp only [go_sem]
          · simp only [go_sem, HHk, b1, b2, b3]
          · exact e3 id o ho
          · simp only [go_sem]
        · obtain rfl : j = f.subs.length := by omega
          repeat' (first | refine rq fun _ => ?_ | simp only [go_sem, HHk, Nat.lt_irrefl, Tryd.f128])
          rw [kQ.out]
          refine ⟨rfl, by omega, ⟨g2, by omega, ?_⟩, fun id o ho => kX.out id o ho fun h1 => ?_⟩
          · rw [← kBe.out]; simp only [go_sem, HHk]
          · ((repeat' (first | exact trivial | apply And.intro)) <;> (rintro rfl; simp only at h1; omega))
theorem sort_ownG {H : Heap} {id : Abs.Id} {l : List Str} {bx vt : Bool} {n : Nat} {R : D → Heap → Nat → Prop} (ho : H id = some ⟨flatFz (l.map enc), bx, vt⟩)
    (hR : R (.tup []) (hpX [(id, some ⟨flatFz ((sortL l).map enc), bx, vt⟩)] H) n) : Wcall Tryd.prog G 130 [.arr id 1 0 l.length] H n R := by
  rw [flat_cells] at ho
  have h := Wcall_sort (G := G) (n := n) ok130 Tryd.slices_Sort_string Tryd.slices_Sort_string_none ho
  rw [List.length_map] at h
  refine Wcall_mono h ?_
  rintro d H' n' ⟨rfl, rfl, rfl⟩
  rw [hpX_one, cells_flat]
  exact hR
theorem comp_ownG {H : Heap} {id : Abs.Id} {l : List Str} {bx vt : Bool} {n : Nat} {R : D → Heap → Nat → Prop} (ho : H id = some ⟨flatFz (l.map enc), bx, vt⟩)
    (hR : R (.arr id 1 0 (compL l).length) (hpX [(id, some ⟨flatFz ((compL l).map enc), bx, vt⟩)] H) n) : Wcall Tryd.prog G 131 [.arr id 1 0 l.length] H n R := by
  rw [flat_cells] at ho
  have h := Wcall_compact (G := G) (n := n) ok131 Tryd.slices_Compact_string Tryd.slices_Compact_string_empty ho
  rw [List.length_map] at h
  refine Wcall_mono h ?_
  rintro d H' n' ⟨rfl, rfl, rfl⟩
  rw [hpX_one, cells_flat, show (compS (l.map (·.l))).length = (compL l).length by unfold compL; rw [List.length_map]]
  exact hR
set_option maxRecDepth 100000 in
set_option maxHeartbeats 1000000 in
theorem f79G {f : Abs.Form} (hw : (enc f).Wf) (hl : (cst f []).length ≤ 1000000) (hs : f.size ≤ 1000000) : Wcall Tryd.prog G 79 [.fz (enc f)] (hpL []) 0
    (fun d H n => ∃ g, g < n ∧ d = .arr (128024, g) 1 0 (usedM f).length ∧ H (128024, g) = some ⟨flatFz ((usedM f).map enc), false, (cst f []).isEmpty⟩) := by
  obtain ⟨Q, hQ⟩ : ∃ Q : D → Heap → Nat → Prop, Q = (fun d H n => ∃ g, g < n ∧ d = .arr (128024, g) 1 0 (usedM f).length ∧ H (128024, g) = some ⟨flatFz ((usedM f).map enc), false, (cst f []).isEmpty⟩) := ⟨_, rfl⟩
  rw [← hQ]
  refine Wcall_K (N := 13) hm (TblOk_glob (G := G) hQ20) 79000 (lst []) ok79 Tryd.func79 rfl rfl (by simp) (by kernel_rfl) ?_
  have h := f128G (G := G) f.size f [] [] 3 4 (fun _ => none) (Nat.le_refl _) hw (by omega) (by omega) (by simpa using hl) (by simpa using hs) (fun id o ho => by cases ho)
  rw [enc_form] at h
  repeat' (first | refine rq fun _ => ?_ | simp only [go_sem, Tryd.f79])
  refine WcallK.i (Wcall_hd rfl (Wcall_g (args' := [.fz (.agg [.i .i64 f.kind, .s f.name.l, .sl (f.words.map enc), .sl (f.subs.map enc)]), .fz (enc ([] : List Str)), .ptr (79003, 1) 0, .ptr (79004, 2) 0])
    (hl := HHk [] 3) (n' := 4) [] [(128024, 3)] [] rfl ?_ ?_ ?_ ?_ ?_ ?_))
  case _ => omega
  case _ => simp only [go_sem]
  case _ => simp only [go_sem, HHk]; first | done | rfl | trace_state
  case _ => simp only [go_sem, HHk]; first | done | rfl | trace_state
  case _ => simp only [go_sem]; first | done | rfl | trace_state
  rw [show hpL (HHk [] 3) = hpX (HHk [] 3) (fun _ => none) from rfl]
  refine Wcall_mono h ?_
  rintro d' H' n' ⟨rfl, e1, ⟨g, hg, e2⟩, _⟩
  rw [List.nil_append] at e2
  obtain ⟨C, hC⟩ : ∃ C, C = cst f [] := ⟨_, rfl⟩
  rw [← hC] at e2
  rw [usedM_eq, ← hC] at hQ
  simp only [go_sem, HHk] at e2
  obtain ⟨b1, b2, b3⟩ := e2
  rw [show H' = hpX [] H' from rfl]
  repeat' (first | refine rq fun _ => ?_ | simp only [go_sem, b1, b2, b3, Tryd.f79])
  refine WcallK.i (sort_ownG (l := C) (bx := false) (vt := C.isEmpty) (by simp only [go_sem, b3]) ?_)
  rw [← sortL_len C] at b1
  repeat' (first | refine rq fun _ => ?_ | simp only [go_sem, b1, b2, b3, Tryd.f79])
  refine WcallK.i (comp_ownG (l := sortL C) (bx := false) (vt := C.isEmpty) (by simp only [go_sem]) ?_)
  repeat' (first | refine rq fun _ => ?_ | simp only [go_sem, b1, b2, b3, Tryd.f79])
  rw [hQ]
  exact ⟨g, hg, by simp only [go_sem], by simp only [go_sem]⟩

def A16 : Tbl := A15.add 79 (sp1 usedM fun f => (cst f []).length ≤ 1000000 ∧ f.size ≤ 1000000)
attribute [go_sem] A16
theorem usedM_nil {f : Abs.Form} (h : (cst f []).isEmpty = true) : usedM f = [] := by
  cases hu : usedM f with
  | nil => rfl
  | cons x l =>
    have := (mem_usedM f x).1 (by rw [hu]; simp)
    rw [List.isEmpty_iff.1 h] at this
    simp at this
set_option maxRecDepth 100000 in
set_option maxHeartbeats 1000000 in
theorem hA16 : TblOk Tryd.prog G A16 := by
  refine sp1_ok ok79 hA15 fun f hp hw => ?_
  refine Wcall_post (f79G (G := G) hw hp.1 hp.2) ?_
  rintro d H n ⟨g, hg, rfl, ho⟩
  obtain ⟨U, hU⟩ : ∃ U, usedM f = U := ⟨_, rfl⟩
  have hn : (cst f []).isEmpty = true → U = [] := fun h => by rw [← hU]; exact usedM_nil h
  rw [hU] at ho ⊢
  refine ⟨.fz (.sl (U.map enc)), H0, n, ?_, rfl⟩
  have e : H0 = hpL [] := rfl
  rw [e]
  refine Weak_g [] [] [((128024, g), U.map enc)] ?_ ?_ ?_ ?_ ?_ <;> simp only [go_sem, ho]
  intro h
  rw [hn h]; rfl
/-! ## the document's constants -/
def A17 : Tbl := A16.add 101 (sp2 putR fun l _ => l.length ≤ 1000000)
attribute [go_sem] A17
set_option maxRecDepth 100000 in
set_option maxHeartbeats 1000000 in
theorem hA17 : TblOk Tryd.prog G A17 := by
  refine sp2_ok ok101 hA16 fun l s hl _ _ => ?_
  by_cases hin : s ∈ l
  · have e : putR l s = l := by unfold putR; rw [if_pos hin]
    rw [e]
    refine Wcall_K (N := 39) hm (G := G) hA16 101000 (lsw [29, 33, 38] []) ok101 Tryd.func101 rfl rfl (by simp) (by kernel_rfl) ?_
    repeat' (first | refine rq fun _ => ?_ | simp only [go_sem, hin, Tryd.f101])
  · have e : putR l s = l.take (twN l s) ++ [s] ++ l.drop (twN l s) := by unfold putR; rw [if_neg hin]; rfl
    rw [e]
    clear e
    have hlt : ∀ i (h : i < l.length), i < twN l s → Op.bytesLess l[i].l s.l = true := fun i h h2 => by rw [bytesLess_lt]; exact decide_eq_true (twN_lt h h2)
    have hat : ∀ i (h : i < l.length), i = twN l s → Op.bytesLess l[i].l s.l = false := fun i h h2 => by rw [bytesLess_lt]; exact decide_eq_false (twN_at h h2)
    have htl := twN_le s l
    obtain ⟨T, hT⟩ : ∃ T, twN l s = T := ⟨_, rfl⟩
    rw [hT] at hlt hat htl ⊢
    clear hT
    have kl := Kp.mk hlt
    have ka := Kp.mk hat
    clear hlt hat
    refine Wcall_K (N := 39) hm (G := G) hA16 101000 (lsw [29, 33, 38] []) ok101 Tryd.func101 rfl rfl (by simp) (by kernel_rfl) ?_
    repeat' (first | refine rq fun _ => ?_ | simp only [go_sem, hin, Tryd.f101])
    refine WK_loop hm (G := G) hA16 101000 (lsw [29, 33, 38] []) (ι := LoopI T fun _ => True)
      ⟨fun q => ⟨frL [(0, .fz (.sl (l.map enc))), (1, .fz (.s s.l)), (5, .full []), (6, .fz (.i .i64 q.i))], hpL [], 0⟩, fun q => T - q.i⟩
      ⟨0, by omega, trivial⟩ (by kernel_rfl) ?_ ?_
    · refine Weak_to ?_ ?_ ?_ <;> simp only [go_sem]
    rintro ⟨i, hi, _⟩
    try simp only at hi
    rcases Nat.lt_or_ge i T with h1 | h1
    · have h2 : i < l.length := by omega
      have h3 := kl.out i h2 h1
      repeat' (first | refine rq fun _ => ?_ | simp only [go_sem, h2, h3, getD_map_lt, Tryd.f101])
      refine ⟨⟨i + 1, by omega, trivial⟩, by simp only; omega, ?_⟩
      refine Weak_to ?_ ?_ ?_ <;> simp only [go_sem]
    · obtain rfl : i = T := by omega
      have hlt : (l.take i).length = i := by rw [List.length_take]; omega
      rcases Nat.lt_or_ge i l.length with h2 | h2
      case' inl => have h3 := ka.out i h2 rfl
      case' inr => have h3 : ¬ i < l.length := by omega
      all_goals
        repeat' (first | refine rq fun _ => ?_ | refine ReqK.i (fits_of2 (by first | omega | (simp only [List.length_map, List.length_take, List.length_drop, List.length_append, List.length_cons, List.length_nil]; omega)) (by decide)) fun _ => ?_ | refine rq fun _ => ?_ | simp only [go_sem, h2, h3, cut_toM, getD_map_lt, Tryd.f101])
      all_goals first | done | (simp only [List.map_append, List.map_take, List.map_drop, List.map_cons, List.map_nil, enc_str]) | trace_state
def A18 : Tbl := A17.add 136 (sp3 cstR conPre)
attribute [go_sem] A18
set_option maxRecDepth 100000 in
set_option maxHeartbeats 1000000 in
theorem hA18 : TblOk Tryd.prog G A18 := by
  refine sp3_rec Form.size ok136 hA17 fun n hT f bd l hn hpre hw _ _ => ?_
  obtain ⟨hfit, hbl, hll⟩ := hpre
  obtain ⟨hwl, hsl, hfs⟩ := Form.fit_eq hfit
  have hszs : f.size = Form.sizes f.subs + 1 := by cases f; rw [Form.size]; rfl
  have hsz : ∀ g ∈ f.subs, g.size < n ∧ g.fit = true := fun g hg => ⟨by have := Form.size_sub hg; omega, Form.fits_mem hfs hg⟩
  obtain ⟨L, hL⟩ : ∃ L : Nat → List Str, L = fun i => (f.words.take i).foldl (fun l w => if w ∈ bd then l else putR l w) l := ⟨_, rfl⟩
  have hL0 : L 0 = l := by rw [hL]; rfl
  have hLs : ∀ i (h : i < f.words.length), L (i + 1) = if f.words[i] ∈ bd then L i else putR (L i) f.words[i] := fun i h => by
    rw [hL]; simp only [List.take_succ_eq_append_getElem h, List.foldl_append, List.foldl_cons, List.foldl_nil]
  have hLl : ∀ i, (L i).length ≤ l.length + 1000 := fun i => by
    have := foldR_len bd (f.words.take i) l
    rw [hL]; simp only; rw [List.length_take] at this; omega
  obtain ⟨bd2, hbd2⟩ : ∃ bd2, (if isQ f.kind then bd ++ [f.name] else bd) = bd2 := ⟨_, rfl⟩
  have hbl2 : bd2.length ≤ bd.length + 1 := by rw [← hbd2]; split <;> simp
  obtain ⟨lw, hlw⟩ : ∃ lw, L f.words.length = lw := ⟨_, rfl⟩
  have hlwl : lw.length ≤ l.length + 1000 := by rw [← hlw]; exact hLl _
  have hcst : cstR f bd l = cstsR f.subs bd2 lw := by rw [cstR_eq, hbd2, ← hlw, hL]; simp only [List.take_length]
  obtain ⟨M, hM⟩ : ∃ M : Nat → List Str, M = fun j => cstsR (f.subs.take j) bd2 lw := ⟨_, rfl⟩
  have hM0 : M 0 = lw := by rw [hM]; simp only [List.take_zero, cstsR]
  have hMs : ∀ j (h : j < f.subs.length), M (j + 1) = cstR f.subs[j] bd2 (M j) := fun j h => by
    rw [hM]; simp only [List.take_succ_eq_append_getElem h, cstsR_app, cstsR]
  have hMl : ∀ j (h : j < f.subs.length), conPre f.subs[j] bd2 (M j) := fun j h => by
    have h1 := cstsR_len (f.subs.take j) bd2 lw (fits_take j hfs)
    have h2 := sizes_take h
    have h3 := Form.size_mem (List.getElem_mem h)
    refine ⟨(hsz _ (List.getElem_mem h)).2, by omega, ?_⟩
    rw [hM]; simp only; omega
  have hMe : M f.subs.length = cstR f bd l := by rw [hcst, hM]; simp only [List.take_length]
  have kT := Kp.mk hT
  have kz := Kp.mk hsz
  have kL := Kp.mk hLs
  have kM := Kp.mk hMs
  have kN := Kp.mk hMl
  have kb := Kp.mk hbd2
  have kl := Kp.mk hLl
  rw [← hMe]
  clear hT hsz hLs hMs hMl hbd2 hL hM hcst hLl hw hMe hfit hfs
  refine Wcall_K (N := 56) hm (G := G) kT.out 136000 (lsw [35, 39] [1000008]) ok136 Tryd.func136 rfl rfl (by simp) (by kernel_rfl) ?_
  repeat' (first | refine rq fun _ => ?_ | simp only [go_sem, Tryd.f136])
  refine WK_weak2 (Weak_rpL (id := (136003, 0)) (t := 3) (b := true) (ys := [.i .i64 f.kind, .s f.name.l, .sl (f.words.map enc), .sl (f.subs.map enc)]) (by simp only [go_sem]) (by simp only [go_sem])) ?_
  refine WK_loop hm (G := G) kT.out 136000 (lsw [35, 39] [1000008]) (ι := LoopI f.words.length fun _ => True)
    ⟨fun q => ⟨frL [(1, .fz (.sl (bd.map enc))), (2, .fz (.sl ((L q.i).map enc))), (3, .rp [.i .i64 f.kind, .s f.name.l, .sl (f.words.map enc), .sl (f.subs.map enc)]), (11, .fz (.sl (f.words.map enc))), (12, .fz (.i .i64 f.words.length)), (13, .fz (.i .i64 q.i))], hpL [], 1⟩, fun q => f.words.length - q.i⟩
    ⟨0, by omega, trivial⟩ (by kernel_rfl) ?_ ?_
  · refine Weak_to ?_ ?_ ?_ <;> simp only [go_sem, hL0]
  rintro ⟨i, hi, _⟩
  try simp only at hi
  rcases Nat.lt_or_ge i f.words.length with h1 | h1
  · have hls := kL.out i h1
    have hll2 := kl.out i
    obtain ⟨w, hwi⟩ : ∃ w, f.words[i] = w := ⟨_, rfl⟩
    rw [hwi] at hls
    by_cases hin : w ∈ bd
    · rw [if_pos hin] at hls
      repeat' (first | refine rq fun _ => ?_ | simp only [go_sem, h1, hwi, hin, str_eta, getD_map_lt, Tryd.f136])
      refine ⟨⟨i + 1, by omega, trivial⟩, by simp only; omega, ?_⟩
      refine Weak_to ?_ ?_ ?_ <;> simp only [go_sem, hls]
    · rw [if_neg hin] at hls
      repeat' (first | refine rq fun _ => ?_ | simp only [go_sem, h1, hwi, hin, str_eta, getD_map_lt, Tryd.f136])
      refine ⟨⟨i + 1, by omega, trivial⟩, by simp only; omega, ?_⟩
      refine Weak_to ?_ ?_ ?_ <;> simp only [go_sem, hls]
  · obtain rfl : i = f.words.length := by omega
    by_cases hq : isQ f.kind
    case' pos =>
      have hb2 := kb.out
      rw [if_pos hq] at hb2
      unfold isQ at hq
      have hq8 : ((f.kind = 8) = True ∧ (f.kind = 8) = True) ∨ ((f.kind = 8) = False ∧ (f.kind = 9) = True) := by
        rcases hq with h | h
        · exact .inl ⟨eq_true h, eq_true h⟩
        · exact .inr ⟨eq_false (by omega), eq_true h⟩
      rcases hq8 with ⟨h8, h9⟩ | ⟨h8, h9⟩
      all_goals
        repeat' (first | refine rq fun _ => ?_ | simp only [go_sem, h8, h9, hlw, Nat.lt_irrefl, Tryd.f136])
      all_goals
        refine WK_drawV hm (G := G) kT.out 136000 (lsw [35, 39] [1000008]) treeCst (by kernel_rfl) (by kernel_rfl) ?_
        repeat' (first | refine And.intro ?_ ?_ | exact True.intro | refine rq fun _ => ?_ | refine ReqK.i (fits_of2 (by first | omega | (simp only [List.length_map, List.length_append, List.length_cons, List.length_nil]; omega)) (by decide)) fun _ => ?_ | simp only [go_sem, treeCst, hlw, Tryd.f136])
    case' neg =>
      have hb2 := kb.out
      rw [if_neg hq] at hb2
      unfold isQ at hq
      have h8 : (f.kind = 8) = False := eq_false fun h => hq (.inl h)
      have h9 : (f.kind = 9) = False := eq_false fun h => hq (.inr h)
      repeat' (first | refine rq fun _ => ?_ | simp only [go_sem, h8, h9, hlw, Nat.lt_irrefl, Tryd.f136])
    all_goals
      refine WK_loop hm (G := G) kT.out 136000 (lsw [35, 39] [1000008]) (ι := LoopI f.subs.length fun _ => True)
        ⟨fun q => ⟨frL [(1, .fz (.sl (bd2.map enc))), (2, .fz (.sl ((M q.i).map enc))), (3, .rp [.i .i64 f.kind, .s f.name.l, .sl (f.words.map enc), .sl (f.subs.map enc)]), (42, .fz (.i .i64 f.subs.length)), (43, .fz (.i .i64 q.i))], hpL [], 100⟩, fun q => f.subs.length - q.i⟩
        ⟨0, by omega, trivial⟩ (by kernel_rfl) ?_ ?_
      · refine Weak_then (Weak_toV (l := [(1, .fz (.sl (bd2.map enc))), (2, .fz (.sl (lw.map enc))), (3, .rp [.i .i64 f.kind, .s f.name.l, .sl (f.words.map enc), .sl (f.subs.map enc)]), (42, .fz (.i .i64 f.subs.length)), (43, .fz (.i .i64 0))]) (by simp only [go_sem, ← hb2, List.map_append])) (Weak_to ?_ ?_ ?_) <;> simp only [go_sem, hM0]
      rintro ⟨j, hj, _⟩
      try simp only at hj
      rcases Nat.lt_or_ge j f.subs.length with h2 | h2
      · have hms := kM.out j h2
        have hmn := kN.out j h2
        have hsz := (kz.out _ (List.getElem_mem h2)).1
        obtain ⟨x, hx⟩ : ∃ x, f.subs[j] = x := ⟨_, rfl⟩
        rw [hx] at hms hmn hsz
        repeat' (first | refine rq fun _ => ?_ | refine ReqK.i ⟨hsz, hmn⟩ fun _ => ?_ | simp only [go_sem, h2, hx, hsz, getD_map_lt, Tryd.f136])
        refine ⟨⟨j + 1, by omega, trivial⟩, by simp only; omega, ?_⟩
        refine Weak_to ?_ ?_ ?_ <;> simp only [go_sem, hms]
      · obtain rfl : j = f.subs.length := by omega
        repeat' (first | refine rq fun _ => ?_ | simp only [go_sem, Nat.lt_irrefl, Tryd.f136])

def A19 : Tbl := A18.add 86 (sp1 (fun f => cstR f [] []) fun f => f.fit = true ∧ f.size ≤ 1000)
attribute [go_sem] A19
set_option maxRecDepth 100000 in
set_option maxHeartbeats 1000000 in
theorem hA19 : TblOk Tryd.prog G A19 := by
  refine sp1_ok ok86 hA18 fun f hpre _ => ?_
  have hp : conPre f [] [] := ⟨hpre.1, by simp only [List.length_nil]; omega, by simp only [List.length_nil]; omega⟩
  refine Wcall_K (N := 5) hm (G := G) hA18 86000 (lst []) ok86 Tryd.func86 rfl rfl (by simp) (by kernel_rfl) ?_
  repeat' (first | refine rq fun _ => ?_ | refine ReqK.i hp fun _ => ?_ | simp only [go_sem, Tryd.f86])

end
end Go.Proofs.YtbbjghecpcobjaaDoor
