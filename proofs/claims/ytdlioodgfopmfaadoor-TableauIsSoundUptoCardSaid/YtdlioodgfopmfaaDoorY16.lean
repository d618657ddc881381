/- several texts of this proof in one; no conditions -/
import Derived.Test.YtdlioodgfopmfaaDoorAT
import Derived.Test.YtdlioodgfopmfaaDoorQ8
import Derived.Test.YtdlioodgfopmfaaDoorTR
import Derived.Test.YtdlioodgfopmfaaDoorY3
import Derived.Test.YtdlioodgfopmfaaDoorCN
set_option maxRecDepth 100000
set_option maxHeartbeats 1000000
set_option linter.unusedSimpArgs false
namespace Go.Proofs.YtdlioodgfopmfaaDoor
open Go Go.Abs Go.Proofs

section
variable {G : Nat → List FD}
def A1 : Tbl := Q20.add 110 (sp1 (fun _ : Str => false) fun _ => True)
attribute [go_sem] A1
theorem hA1 : TblOk Tryd.prog G A1 := by
  refine sp1_ok ok110 (TblOk_glob hQ20) fun s _ _ => ?_
  refine Wcall_K (N := 6) hm (TblOk_glob hQ20) 110000 (lst []) ok110 Tryd.func110 rfl rfl (by simp) (by kernel_rfl) ?_
  repeat' (first | refine rq fun _ => ?_ | simp only [go_sem, Tryd.f110])
def A2 : Tbl := A1.add 111 (sp1 (fun _ : Int => false) fun _ => True)
attribute [go_sem] A2
theorem hA2 : TblOk Tryd.prog G A2 := by
  refine sp1_ok ok111 hA1 fun s _ _ => ?_
  refine Wcall_K (N := 6) hm (G := G) hA1 111000 (lst []) ok111 Tryd.func111 rfl rfl (by simp) (by kernel_rfl) ?_
  repeat' (first | refine rq fun _ => ?_ | simp only [go_sem, Tryd.f111])
theorem cmpS_lt {a b : Str} (h : a.l < b.l) : cmpS a b = -1 := by unfold cmpS; rw [if_pos h]
theorem cmpS_gt {a b : Str} (h : ¬ a.l < b.l) (h2 : b.l < a.l) : cmpS a b = 1 := by unfold cmpS; rw [if_neg h, if_pos h2]
theorem cmpS_eq {a b : Str} (h : ¬ a.l < b.l) (h2 : ¬ b.l < a.l) : cmpS a b = 0 := by unfold cmpS; rw [if_neg h, if_neg h2]
def A3 : Tbl := A2.add 95 (sp2 cmpS fun _ _ => True)
attribute [go_sem] A3
theorem hA3 : TblOk Tryd.prog G A3 := by
  refine sp2_ok ok95 hA2 fun a b _ _ _ => ?_
  by_cases h : a.l < b.l
  · have e := cmpS_lt h
    have h' : Op.bytesLess a.l b.l = true := by rw [bytesLess_lt']; exact decide_eq_true h
    rw [e]
    refine Wcall_K (N := 20) hm (G := G) hA2 95000 (lst []) ok95 Tryd.func95 rfl rfl (by simp) (by kernel_rfl) ?_
    repeat' (first | refine rq fun _ => ?_ | simp only [go_sem, h', Tryd.f95])
  · have h' : Op.bytesLess a.l b.l = false := by rw [bytesLess_lt']; exact decide_eq_false h
    by_cases h2 : b.l < a.l
    · have e := cmpS_gt h h2
      have h2' : (a.l == b.l) = false := by simpa using fun e => h (absurd h2 (by rw [e]; exact lt_irrefl' _))
      rw [e]
      refine Wcall_K (N := 20) hm (G := G) hA2 95000 (lst []) ok95 Tryd.func95 rfl rfl (by simp) (by kernel_rfl) ?_
      repeat' (first | refine rq fun _ => ?_ | simp only [go_sem, h', h2', Tryd.f95])
    · have e := cmpS_eq h h2
      have h2' : (a.l == b.l) = true := by
        rcases str_tri a.l b.l with h3 | h3 | h3
        · exact absurd h3 h
        · simpa using h3
        · exact absurd h3 h2
      rw [e]
      refine Wcall_K (N := 20) hm (G := G) hA2 95000 (lst []) ok95 Tryd.func95 rfl rfl (by simp) (by kernel_rfl) ?_
      repeat' (first | refine rq fun _ => ?_ | simp only [go_sem, h', h2', Tryd.f95])
def A4 : Tbl := A3.add 96 (sp2 cmpI fun _ _ => True)
attribute [go_sem] A4
theorem hA4 : TblOk Tryd.prog G A4 := by
  refine sp2_ok ok96 hA3 fun a b _ _ _ => ?_
  have hc : (a < b ∧ cmpI a b = -1) ∨ (b < a ∧ ¬ a < b ∧ cmpI a b = 1) ∨ (¬ a < b ∧ ¬ b < a ∧ cmpI a b = 0) := by
    unfold cmpI; split
    · omega
    · split <;> omega
  rcases hc with ⟨h, e⟩ | ⟨h2, h, e⟩ | ⟨h, h2, e⟩
  · rw [e]
    refine Wcall_K (N := 20) hm (G := G) hA3 96000 (lst []) ok96 Tryd.func96 rfl rfl (by simp) (by kernel_rfl) ?_
    repeat' (first | refine rq fun _ => ?_ | simp only [go_sem, h, Tryd.f96])
  · rw [e]
    refine Wcall_K (N := 20) hm (G := G) hA3 96000 (lst []) ok96 Tryd.func96 rfl rfl (by simp) (by kernel_rfl) ?_
    repeat' (first | refine rq fun _ => ?_ | simp only [go_sem, h, h2, Tryd.f96])
  · rw [e]
    refine Wcall_K (N := 20) hm (G := G) hA3 96000 (lst []) ok96 Tryd.func96 rfl rfl (by simp) (by kernel_rfl) ?_
    repeat' (first | refine rq fun _ => ?_ | simp only [go_sem, h, h2, Tryd.f96])
def orM : List Int → Int
  | [] => 0
  | a :: l => if a ≠ 0 then a else orM l
theorem orM_at {l : List Int} {i : Nat} (h : i < l.length) (h2 : ∀ j (hj : j < l.length), j < i → l[j] = 0) (h3 : l[i] ≠ 0) : orM l = l[i] := by
  induction l generalizing i with
  | nil => simp at h
  | cons a l ih =>
    cases i with
    | zero => rw [orM]; simp only [List.getElem_cons_zero] at h3 ⊢; rw [if_pos h3]
    | succ i =>
      have h0 := h2 0 (by simp) (by omega)
      simp only [List.getElem_cons_zero] at h0
      rw [orM, if_neg (by simp [h0])]
      simp only [List.getElem_cons_succ] at h3 ⊢
      exact ih (by simpa using h) (fun j hj hji => by have := h2 (j + 1) (by simpa using hj) (by omega); simpa using this) h3
theorem orM_none {l : List Int} (h2 : ∀ j (hj : j < l.length), l[j] = 0) : orM l = 0 := by
  induction l with
  | nil => rfl
  | cons a l ih =>
    have h0 := h2 0 (by simp)
    simp only [List.getElem_cons_zero] at h0
    rw [orM, if_neg (by simp [h0])]
    exact ih fun j hj => by have := h2 (j + 1) (by simpa using hj); simpa using this
def A5 : Tbl := A4.add 94 (sp1 orM fun _ => True)
attribute [go_sem] A5
theorem hA5 : TblOk Tryd.prog G A5 := by
  refine sp1_ok ok94 hA4 fun l _ hw => ?_
  have la := Wf_sl hw
  simp only [List.length_map, maxL] at la
  obtain ⟨r, hr⟩ : ∃ r, orM l = r := ⟨_, rfl⟩
  have h1 : ∀ i (h : i < l.length), (∀ j (hj : j < l.length), j < i → l[j] = 0) → l[i] ≠ 0 → l[i] = r := fun i h a b => by rw [← hr, orM_at h a b]
  have h2 : (∀ j (hj : j < l.length), l[j] = 0) → r = 0 := fun h => by rw [← hr, orM_none h]
  have k1 := Kp.mk h1
  have k2 := Kp.mk h2
  rw [hr]
  clear h1 h2 hr
  refine Wcall_K (N := 18) hm (G := G) hA4 94000 (lst []) ok94 Tryd.func94 rfl rfl (by simp) (by kernel_rfl) ?_
  repeat' (first | refine rq fun _ => ?_ | simp only [go_sem, Tryd.f94])
  refine WK_loop hm (G := G) hA4 94000 (lst []) (ι := LoopI l.length fun i => ∀ j (hj : j < l.length), j < i → l[j] = 0)
    ⟨fun q => ⟨frL [(3, .fz (.i .i64 0)), (6, .fz (.sl (l.map enc))), (7, .fz (.i .i64 l.length)), (8, .fz (.i .i64 q.i))], hpL [], 0⟩, fun q => l.length - q.i⟩
    ⟨0, by omega, fun j hj h => by omega⟩ (by kernel_rfl) ?_ ?_
  · refine Weak_to ?_ ?_ ?_ <;> simp only [go_sem]
  rintro ⟨i, hi, hp⟩
  try simp only at hi
  rcases Nat.lt_or_ge i l.length with h | h
  · obtain ⟨x, hx⟩ : ∃ x, l[i] = x := ⟨_, rfl⟩
    by_cases h0 : x = 0
    · have hp2 : ∀ j (hj : j < l.length), j < i + 1 → l[j] = 0 := fun j hj h3 => by
        rcases Nat.lt_or_ge j i with h4 | h4
        · exact hp j hj h4
        · obtain rfl : j = i := by omega
          rw [hx, h0]
      have kp := Kp.mk hp2
      clear hp2
      repeat' (first | refine rq fun _ => ?_ | simp only [go_sem, h, hx, h0, getD_map_lt, Tryd.f94])
      refine ⟨⟨i + 1, by omega, kp.out⟩, by simp only; omega, ?_⟩
      refine Weak_to ?_ ?_ ?_ <;> simp only [go_sem]
    · have e := k1.out i h hp (by rw [hx]; exact h0)
      rw [hx] at e
      subst e
      clear k1 k2
      repeat' (first | refine rq fun _ => ?_ | simp only [go_sem, h, hx, h0, getD_map_lt, Tryd.f94])
  · obtain rfl : i = l.length := by omega
    have e := k2.out fun j hj => hp j hj hj
    subst e
    repeat' (first | refine rq fun _ => ?_ | simp only [go_sem, Nat.lt_irrefl, Tryd.f94])
theorem orM_two {a b : Int} : orM [a, b] = if a ≠ 0 then a else b := by
  rw [orM, orM, orM]
  split
  · rfl
  · split
    · rfl
    · rename_i h; exact (Decidable.not_not.1 h).symm
theorem cmpR_or (a b : MRel) : orM [cmpS a.name b.name, cmpI a.arity b.arity] = cmpR a b := by rw [orM_two]; rfl
def A6 : Tbl := A5.add 72 (sp2 cmpR fun _ _ => True)
attribute [go_sem] A6
theorem hA6 : TblOk Tryd.prog G A6 := by
  refine sp2_ok ok72 hA5 fun a b _ _ _ => ?_
  have e := cmpR_or a b
  refine Wcall_K (N := 17) hm (G := G) hA5 72000 (lst []) ok72 Tryd.func72 rfl rfl (by simp) (by kernel_rfl) ?_
  repeat' (first | refine rq fun _ => ?_ | simp only [go_sem, e, str_eta, Tryd.f72])
end
end Go.Proofs.YtdlioodgfopmfaaDoor

namespace Go.Abs
open Go
theorem cmpL_step {a b : List Int} {i : Nat} (h : i < a.length) (h2 : i < b.length) : cmpL (a.drop i) (b.drop i) = if cmpI a[i] b[i] ≠ 0 then cmpI a[i] b[i] else cmpL (a.drop (i + 1)) (b.drop (i + 1)) := by
  rw [List.drop_eq_getElem_cons h, List.drop_eq_getElem_cons h2, cmpL]
theorem cmpL_long {a b : List Int} {i : Nat} (h : i < a.length) (h2 : b.length ≤ i) : cmpL (a.drop i) (b.drop i) = 1 := by
  rw [List.drop_eq_getElem_cons h, List.drop_of_length_le h2, cmpL]
theorem cmpL_end {a b : List Int} {i : Nat} (h : a.length ≤ i) : cmpL (a.drop i) (b.drop i) = if i < b.length then -1 else 0 := by
  rw [List.drop_of_length_le h]
  split
  · rename_i h2; rw [List.drop_eq_getElem_cons h2, cmpL]
  · rename_i h2; rw [List.drop_of_length_le (by omega), cmpL]
def bsI {α : Type} (c : α → Int) (l : List α) : Nat := (l.filter fun x => decide (c x < 0)).length
def bsB {α : Type} [Inhabited α] (c : α → Int) (l : List α) : Bool := decide (bsI c l < l.length) && decide (c (l.getD (bsI c l) default) = 0)
def stepC {α : Type} (c : α → Int) (l : List α) : Prop := ∀ i j (hi : i < l.length) (hj : j < l.length), i < j → c l[j] ≤ 0 → c l[i] < 0
theorem bsI_at {α : Type} {c : α → Int} {l : List α} {i : Nat} (hi : i ≤ l.length) (h1 : ∀ j (h : j < l.length), j < i → c l[j] < 0) (h2 : ∀ j (h : j < l.length), i ≤ j → 0 ≤ c l[j]) : bsI c l = i :=
  filter_pre _ l i hi (fun j h hji => decide_eq_true (h1 j h hji)) (fun j h hij => decide_eq_false (by have := h2 j h hij; omega))
theorem find_bs {α : Type} [Inhabited α] {c : α → Int} {l : List α} (hs : stepC c l) : l.find? (fun x => decide (c x = 0)) = if bsB c l then some (l.getD (bsI c l) default) else none := by
  cases hf : l.find? (fun x => decide (c x = 0)) with
  | none =>
    rw [List.find?_eq_none] at hf
    have : bsB c l = false := by
      unfold bsB
      by_cases h : bsI c l < l.length
      · have := hf _ (List.getElem_mem h)
        rw [List.getD_eq_getElem?_getD, List.getElem?_eq_getElem h]
        simp only [Option.getD_some]
        simp only [decide_eq_true_eq] at this
        simp [this]
      · simp [h]
    rw [this]; rfl
  | some x =>
    obtain ⟨hx, xs, bs, rfl, hb⟩ := List.find?_eq_some_iff_append.1 hf
    have hx := of_decide_eq_true hx
    have hi : bsI c (xs ++ x :: bs) = xs.length := by
      refine bsI_at (by simp) (fun j h hj => ?_) (fun j h hj => ?_)
      · refine hs j xs.length h (by simp) hj ?_
        rw [List.getElem_append_right (Nat.le_refl _)]
        simp only [Nat.sub_self, List.getElem_cons_zero]
        omega
      · rcases (show c (xs ++ x :: bs)[j] < 0 ∨ 0 ≤ c (xs ++ x :: bs)[j] by omega) with h3 | h3
        · rcases Nat.eq_or_lt_of_le hj with rfl | h4
          · rw [List.getElem_append_right (Nat.le_refl _)] at h3 ⊢
            simp only [Nat.sub_self, List.getElem_cons_zero] at h3 ⊢
            omega
          · have := hs xs.length j (by simp) h h4 (by omega)
            rw [List.getElem_append_right (Nat.le_refl _)] at this
            simp only [Nat.sub_self, List.getElem_cons_zero] at this
            omega
        · omega
    have hg : (xs ++ x :: bs).getD xs.length default = x := by
      rw [List.getD_eq_getElem?_getD, List.getElem?_append_right (Nat.le_refl _)]; simp
    unfold bsB
    rw [hi, hg]
    simp [hx]
end Go.Abs
namespace Go.Proofs.YtdlioodgfopmfaaDoor
open Go Go.Abs Go.Proofs
section
variable {G : Nat → List FD}
def A7 : Tbl := A6.add 73 (sp2 cmpL fun _ _ => True)
attribute [go_sem] A7
theorem hA7 : TblOk Tryd.prog G A7 := by
  refine sp2_ok ok73 hA6 fun a b _ hwa hwb => ?_
  have la := Wf_sl hwa
  have lb := Wf_sl hwb
  simp only [List.length_map, maxL] at la lb
  obtain ⟨C, hC⟩ : ∃ C : Nat → Int, C = fun i => cmpL (a.drop i) (b.drop i) := ⟨_, rfl⟩
  have h0 : cmpL a b = C 0 := by rw [hC]; rfl
  have h1 : ∀ i (h : i < a.length) (h2 : i < b.length), C i = if cmpI a[i] b[i] ≠ 0 then cmpI a[i] b[i] else C (i + 1) := fun i h h2 => by rw [hC]; exact cmpL_step h h2
  have h2 : ∀ i (h : i < a.length), b.length ≤ i → C i = 1 := fun i h h2 => by rw [hC]; exact cmpL_long h h2
  have h3 : C a.length = if a.length < b.length then -1 else 0 := by rw [hC]; exact cmpL_end (Nat.le_refl _)
  rw [h0]
  obtain ⟨r, hr⟩ : ∃ r, C 0 = r := ⟨_, rfl⟩
  rw [hr]
  have k1 := Kp.mk h1
  have k2 := Kp.mk h2
  have k3 := Kp.mk h3
  clear h0 h1 h2 h3 hC
  refine Wcall_K (N := 36) hm (G := G) hA6 73000 (lst []) ok73 Tryd.func73 rfl rfl (by simp) (by kernel_rfl) ?_
  repeat' (first | refine rq fun _ => ?_ | simp only [go_sem, Tryd.f73])
  refine WK_loop hm (G := G) hA6 73000 (lst []) (ι := LoopI a.length fun i => C i = r)
    ⟨fun q => ⟨frL [(0, .fz (.sl (a.map enc))), (1, .fz (.sl (b.map enc))), (9, .fz (.sl (a.map enc))), (10, .fz (.i .i64 a.length)), (11, .fz (.i .i64 q.i))], hpL [], 0⟩, fun q => a.length - q.i⟩
    ⟨0, by omega, hr⟩ (by kernel_rfl) ?_ ?_
  · refine Weak_to ?_ ?_ ?_ <;> simp only [go_sem]
  rintro ⟨i, hi, hp⟩
  try simp only at hi hp
  rcases Nat.lt_or_ge i a.length with h | h
  · rcases Nat.lt_or_ge i b.length with h2 | h2
    · have e := k1.out i h h2
      have hb' : (b.length ≤ i) = False := eq_false (by omega)
      obtain ⟨x, hx⟩ : ∃ x, a[i] = x := ⟨_, rfl⟩
      obtain ⟨y, hy⟩ : ∃ y, b[i] = y := ⟨_, rfl⟩
      rw [hx, hy, hp] at e
      by_cases hc : cmpI x y = 0
      · rw [if_neg (by simp [hc])] at e
        repeat' (first | refine rq fun _ => ?_ | simp only [go_sem, h, h2, hb', hx, hy, hc, getD_map_lt, Tryd.f73])
        refine ⟨⟨i + 1, by omega, e.symm⟩, by simp only; omega, ?_⟩
        refine Weak_to ?_ ?_ ?_ <;> simp only [go_sem]
      · rw [if_pos hc] at e
        subst e
        repeat' (first | refine rq fun _ => ?_ | simp only [go_sem, h, h2, hb', hx, hy, hc, getD_map_lt, Tryd.f73])
    · have e := k2.out i h h2
      have e2 : r = 1 := by rw [← hp, e]
      have h2' : (b.length ≤ i) = True := eq_true h2
      subst e2
      repeat' (first | refine rq fun _ => ?_ | simp only [go_sem, h, h2, h2', getD_map_lt, Tryd.f73])
  · obtain rfl : i = a.length := by omega
    have e := k3.out
    rw [hp] at e
    by_cases hl : a.length < b.length
    · rw [if_pos hl] at e
      subst e
      have hl' : ((a.length : Int) < (b.length : Int)) = True := eq_true (by omega)
      repeat' (first | refine rq fun _ => ?_ | simp only [go_sem, Nat.lt_irrefl, hl, hl', Tryd.f73])
    · rw [if_neg hl] at e
      subst e
      have hl' : ((a.length : Int) < (b.length : Int)) = False := eq_false (by omega)
      repeat' (first | refine rq fun _ => ?_ | simp only [go_sem, Nat.lt_irrefl, hl, hl', Tryd.f73])
def cnsC (s : Str) (c : Const) : Int := cmpS c.name s
def A8 : Tbl := A7.add 103 (sp2 (fun (c : Const) (s : Str) => cnsC s c) fun _ _ => True)
attribute [go_sem] A8
theorem hA8 : TblOk Tryd.prog G A8 := by
  refine sp2_ok ok103 hA7 fun a b _ _ _ => ?_
  have e : cmpS a.name b = cnsC b a := rfl
  refine Wcall_K (N := 9) hm (G := G) hA7 103000 (lst []) ok103 Tryd.func103 rfl rfl (by simp) (by kernel_rfl) ?_
  repeat' (first | refine rq fun _ => ?_ | simp only [go_sem, e, str_eta, Tryd.f103])
structure BsI (n : Nat) (p : Nat → Prop) (q : Nat → Prop) where
  i : Nat
  j : Nat
  hij : i ≤ j
  hj : j ≤ n
  hp : p i
  hq : q j
theorem bsConst {l : List Const} {s : Str} (hw : (enc l).Wf) (_hws : (enc s).Wf) (hs : stepC (cnsC s) l) : Wcall Tryd.prog G 102 [.fz (enc l), .fz (enc s), .fn 103 []] (hpL []) 0
    (fun d _ _ => D.val d = some (.tup [.fz (.i .i64 (bsI (cnsC s) l)), .fz (.b (bsB (cnsC s) l))])) := by
  have la := Wf_sl hw
  simp only [List.length_map, maxL] at la
  have hI := @bsI_at Const (cnsC s) l
  have hm1 : ∀ h (hh : h < l.length), cnsC s l[h] < 0 → ∀ j (hj : j < l.length), j < h + 1 → cnsC s l[j] < 0 := fun h hh h2 j hj h3 => by
    rcases Nat.eq_or_lt_of_le (Nat.le_of_lt_succ h3) with rfl | h4
    · exact h2
    · exact hs j h hj hh h4 (by omega)
  have hm2 : ∀ h (hh : h < l.length), ¬ cnsC s l[h] < 0 → ∀ j (hj : j < l.length), h ≤ j → 0 ≤ cnsC s l[j] := fun h hh h2 j hj h3 => by
    rcases Nat.eq_or_lt_of_le h3 with rfl | h4
    · omega
    · refine Decidable.byContradiction fun h5 => h2 (hs h j hh hj h4 (by omega))
  have k1 := Kp.mk hm1
  have k2 := Kp.mk hm2
  have kI := Kp.mk @hI
  clear hm1 hm2 hI hs
  refine Wcall_K (N := 49) hm (G := G) hA8 102000 (lst []) ok102 Tryd.func102 rfl rfl (by simp) (by kernel_rfl) ?_
  repeat' (first | refine rq fun _ => ?_ | simp only [go_sem, Tryd.f102])
  refine WK_loop hm (G := G) hA8 102000 (lst []) (ι := BsI l.length (fun i => ∀ j (hj : j < l.length), j < i → cnsC s l[j] < 0) fun i => ∀ j (hj : j < l.length), i ≤ j → 0 ≤ cnsC s l[j])
    ⟨fun q => ⟨frL [(0, .fz (.sl (l.map enc))), (1, .fz (.s s.l)), (2, .fn 103 []), (8, .fz (.i .i64 l.length)), (9, .fz (.i .i64 q.i)), (10, .fz (.i .i64 q.j))], hpL [], 0⟩, fun q => q.j - q.i⟩
    ⟨0, l.length, by omega, by omega, fun j hj h => by omega, fun j hj h => by omega⟩ (by kernel_rfl) ?_ ?_
  · refine Weak_to ?_ ?_ ?_ <;> simp only [go_sem]
  rintro ⟨i, j, hij, hj, hp, hq⟩
  try simp only at hij hj
  rcases Nat.lt_or_ge i j with h | h
  · have h' : ((i : Int) < (j : Int)) = True := eq_true (by omega)
    repeat' (first | refine rq fun _ => ?_ | simp only [go_sem, h, h', Tryd.f102])
    obtain ⟨H, hH⟩ : ∃ H : Nat, (i + j) / 2 = H := ⟨_, rfl⟩
    have hmid : (((i : Int) + (j : Int)) / 2 ^ 1) = (H : Int) := by omega
    have hl : H < l.length := by omega
    refine ReqK.i ⟨by show (0 : Int) ≤ _; omega, by show _ ≤ (18446744073709551615 : Int); omega⟩ fun _ => ?_
    have k3 := k1.out H hl
    have k4 := k2.out H hl
    obtain ⟨x, hx⟩ : ∃ x, l[H] = x := ⟨_, rfl⟩
    rw [hx] at k3 k4
    by_cases hc : cnsC s x < 0
    · have hn := k3 hc
      have kn := Kp.mk hn
      clear k3 k4 hn
      repeat' (first | refine rq fun _ => ?_ | simp only [go_sem, hmid, hl, hx, hc, str_eta, const_eta, getD_map_lt, Tryd.f102])
      refine ⟨⟨H + 1, j, by omega, by omega, kn.out, hq⟩, by simp only; omega, ?_⟩
      refine Weak_to ?_ ?_ ?_ <;> simp only [go_sem]
    · have hn := k4 hc
      have kn := Kp.mk hn
      clear k3 k4 hn
      repeat' (first | refine rq fun _ => ?_ | simp only [go_sem, hmid, hl, hx, hc, str_eta, const_eta, getD_map_lt, Tryd.f102])
      refine ⟨⟨i, H, by omega, by omega, hp, kn.out⟩, by simp only; omega, ?_⟩
      refine Weak_to ?_ ?_ ?_ <;> simp only [go_sem]
  · obtain rfl : i = j := by omega
    have hbi := kI.out hj hp hq
    have hbb : bsB (cnsC s) l = (decide (i < l.length) && decide (cnsC s (l.getD i default) = 0)) := by unfold bsB; rw [hbi]
    rw [hbi, hbb]
    clear hbi hbb
    rcases Nat.lt_or_ge i l.length with h1 | h1
    · obtain ⟨x, hx⟩ : ∃ x, l[i] = x := ⟨_, rfl⟩
      have hg : l.getD i default = x := by rw [List.getD_eq_getElem?_getD, List.getElem?_eq_getElem h1, ← hx]; rfl
      have h1' : ((i : Int) < (l.length : Int)) = True := eq_true (by omega)
      rw [hg]
      repeat' (first | refine rq fun _ => ?_ | simp only [go_sem, Nat.lt_irrefl, h1, h1', hx, str_eta, const_eta, getD_map_lt, Tryd.f102])
    · have h1' : ((i : Int) < (l.length : Int)) = False := eq_false (by omega)
      have h1n : (i < l.length) = False := eq_false (by omega)
      repeat' (first | refine rq fun _ => ?_ | simp only [go_sem, Nat.lt_irrefl, h1n, h1', str_eta, const_eta, getD_map_lt, Tryd.f102])

end
end Go.Proofs.YtdlioodgfopmfaaDoor

namespace Go.Abs
open Go
def rises {α : Type} (lt : α → α → Prop) (l : List α) : Prop := ∀ i j (hi : i < l.length) (hj : j < l.length), i < j → lt l[i] l[j]
def okC (l : List Const) : Prop := rises (fun a b => a.name.l < b.name.l) l
def okR (l : List MRel) : Prop := rises ltR l
theorem okC_step {l : List Const} (h : okC l) (s : Str) : stepC (fun c => cmpS c.name s) l := fun i j hi hj hij h2 => by
  have h1 := h i j hi hj hij
  rw [cmpS_neg]
  rcases Int.lt_or_eq_of_le h2 with h3 | h3
  · exact str_lt_trans h1 (cmpS_neg.1 h3)
  · rw [← cmpS_zero.1 h3]; exact h1
theorem okR_step {l : List MRel} (h : okR l) (s : MRel) : stepC (fun r => cmpR r s) l := fun i j hi hj hij h2 => by
  have h1 := h i j hi hj hij
  show cmpR _ _ < 0
  rw [cmpR_neg]
  rcases Int.lt_or_eq_of_le h2 with h3 | h3
  · exact ltR_trans h1 (cmpR_neg.1 h3)
  · obtain ⟨e1, e2⟩ := cmpR_zero.1 h3
    rcases h1 with h4 | ⟨h4, h5⟩
    · exact .inl (by rw [← e1]; exact h4)
    · exact .inr ⟨h4.trans e1, by omega⟩
instance : Inhabited (List Int) := ⟨[]⟩
end Go.Abs
namespace Go.Proofs.YtdlioodgfopmfaaDoor
open Go Go.Abs Go.Proofs
section
variable {G : Nat → List FD}
def relC' (s : MRel) (r : MRel) : Int := cmpR r s
def tupK (s : List Int) (t : List Int) : Int := cmpL t s

theorem bsRel {l : List MRel} {s : MRel} (hw : (enc l).Wf) (_hws : (enc s).Wf) (hs : stepC (relC' s) l) : Wcall Tryd.prog G 104 [.fz (enc l), .fz (enc s), .fn 72 []] (hpL []) 0
    (fun d _ _ => D.val d = some (.tup [.fz (.i .i64 (bsI (relC' s) l)), .fz (.b (bsB (relC' s) l))])) := by
  have la := Wf_sl hw
  simp only [List.length_map, maxL] at la
  have hI := @bsI_at MRel (relC' s) l
  have hm1 : ∀ h (hh : h < l.length), relC' s l[h] < 0 → ∀ j (hj : j < l.length), j < h + 1 → relC' s l[j] < 0 := fun h hh h2 j hj h3 => by
    rcases Nat.eq_or_lt_of_le (Nat.le_of_lt_succ h3) with rfl | h4
    · exact h2
    · exact hs j h hj hh h4 (by omega)
  have hm2 : ∀ h (hh : h < l.length), ¬ relC' s l[h] < 0 → ∀ j (hj : j < l.length), h ≤ j → 0 ≤ relC' s l[j] := fun h hh h2 j hj h3 => by
    rcases Nat.eq_or_lt_of_le h3 with rfl | h4
    · omega
    · refine Decidable.byContradiction fun h5 => h2 (hs h j hh hj h4 (by omega))
  have k1 := Kp.mk hm1
  have k2 := Kp.mk hm2
  have kI := Kp.mk @hI
  have hcu : ∀ x, cmpR x s = relC' s x := fun _ => rfl
  clear hm1 hm2 hI hs
  refine Wcall_K (N := 49) hm (G := G) hA8 104000 (lst []) ok104 Tryd.func104 rfl rfl (by simp) (by kernel_rfl) ?_
  repeat' (first | refine rq fun _ => ?_ | simp only [go_sem, Tryd.f104])
  refine WK_loop hm (G := G) hA8 104000 (lst []) (ι := BsI l.length (fun i => ∀ j (hj : j < l.length), j < i → relC' s l[j] < 0) fun i => ∀ j (hj : j < l.length), i ≤ j → 0 ≤ relC' s l[j])
    ⟨fun q => ⟨frL [(0, .fz (.sl (l.map enc))), (4, .ptr (104004, 0) 0), (2, .fn 72 []), (8, .fz (.i .i64 l.length)), (9, .fz (.i .i64 q.i)), (10, .fz (.i .i64 q.j))], hpL [((104004, 0), some ⟨[.fz (.s s.name.l), .fz (.i .i64 s.arity), .fz (.sl (s.tuples.map enc))], true, false⟩)], 1⟩, fun q => q.j - q.i⟩
    ⟨0, l.length, by omega, by omega, fun j hj h => by omega, fun j hj h => by omega⟩ (by kernel_rfl) ?_ ?_
  · refine Weak_to ?_ ?_ ?_ <;> simp only [go_sem]
  rintro ⟨i, j, hij, hj, hp, hq⟩
  try simp only at hij hj
  rcases Nat.lt_or_ge i j with h | h
  · have h' : ((i : Int) < (j : Int)) = True := eq_true (by omega)
    repeat' (first | refine rq fun _ => ?_ | simp only [go_sem, h, h', Tryd.f104])
    obtain ⟨H, hH⟩ : ∃ H : Nat, (i + j) / 2 = H := ⟨_, rfl⟩
    have hmid : (((i : Int) + (j : Int)) / 2 ^ 1) = (H : Int) := by omega
    have hl : H < l.length := by omega
    refine ReqK.i ⟨by show (0 : Int) ≤ _; omega, by show _ ≤ (18446744073709551615 : Int); omega⟩ fun _ => ?_
    have k3 := k1.out H hl
    have k4 := k2.out H hl
    obtain ⟨x, hx⟩ : ∃ x, l[H] = x := ⟨_, rfl⟩
    rw [hx] at k3 k4
    by_cases hc : relC' s x < 0
    · have hn := k3 hc
      have kn := Kp.mk hn
      clear k3 k4 hn
      repeat' (first | refine rq fun _ => ?_ | simp only [go_sem, hmid, hl, hx, hc, hcu, str_eta, rel_eta, getD_map_lt, Tryd.f104])
      refine ⟨⟨H + 1, j, by omega, by omega, kn.out, hq⟩, by simp only; omega, ?_⟩
      refine Weak_to ?_ ?_ ?_ <;> simp only [go_sem]
    · have hn := k4 hc
      have kn := Kp.mk hn
      clear k3 k4 hn
      repeat' (first | refine rq fun _ => ?_ | simp only [go_sem, hmid, hl, hx, hc, hcu, str_eta, rel_eta, getD_map_lt, Tryd.f104])
      refine ⟨⟨i, H, by omega, by omega, hp, kn.out⟩, by simp only; omega, ?_⟩
      refine Weak_to ?_ ?_ ?_ <;> simp only [go_sem]
  · obtain rfl : i = j := by omega
    have hbi := kI.out hj hp hq
    have hbb : bsB (relC' s) l = (decide (i < l.length) && decide (relC' s (l.getD i default) = 0)) := by unfold bsB; rw [hbi]
    rw [hbi, hbb]
    clear hbi hbb
    rcases Nat.lt_or_ge i l.length with h1 | h1
    · obtain ⟨x, hx⟩ : ∃ x, l[i] = x := ⟨_, rfl⟩
      have hg : l.getD i default = x := by rw [List.getD_eq_getElem?_getD, List.getElem?_eq_getElem h1, ← hx]; rfl
      have h1' : ((i : Int) < (l.length : Int)) = True := eq_true (by omega)
      rw [hg]
      repeat' (first | refine rq fun _ => ?_ | simp only [go_sem, Nat.lt_irrefl, h1, h1', hx, hcu, str_eta, rel_eta, getD_map_lt, Tryd.f104])
    · have h1' : ((i : Int) < (l.length : Int)) = False := eq_false (by omega)
      have h1n : (i < l.length) = False := eq_false (by omega)
      repeat' (first | refine rq fun _ => ?_ | simp only [go_sem, Nat.lt_irrefl, h1n, h1', hcu, str_eta, rel_eta, getD_map_lt, Tryd.f104])

theorem bsTup {l : List (List Int)} {s : (List Int)} (hw : (enc l).Wf) (_hws : (enc s).Wf) (hs : stepC (tupK s) l) : Wcall Tryd.prog G 81 [.fz (enc l), .fz (enc s), .fn 73 []] (hpL []) 0
    (fun d _ _ => D.val d = some (.tup [.fz (.i .i64 (bsI (tupK s) l)), .fz (.b (bsB (tupK s) l))])) := by
  have la := Wf_sl hw
  simp only [List.length_map, maxL] at la
  have hI := @bsI_at (List Int) (tupK s) l
  have hm1 : ∀ h (hh : h < l.length), tupK s l[h] < 0 → ∀ j (hj : j < l.length), j < h + 1 → tupK s l[j] < 0 := fun h hh h2 j hj h3 => by
    rcases Nat.eq_or_lt_of_le (Nat.le_of_lt_succ h3) with rfl | h4
    · exact h2
    · exact hs j h hj hh h4 (by omega)
  have hm2 : ∀ h (hh : h < l.length), ¬ tupK s l[h] < 0 → ∀ j (hj : j < l.length), h ≤ j → 0 ≤ tupK s l[j] := fun h hh h2 j hj h3 => by
    rcases Nat.eq_or_lt_of_le h3 with rfl | h4
    · omega
    · refine Decidable.byContradiction fun h5 => h2 (hs h j hh hj h4 (by omega))
  have k1 := Kp.mk hm1
  have k2 := Kp.mk hm2
  have kI := Kp.mk @hI
  have hcu : ∀ x, cmpL x s = tupK s x := fun _ => rfl
  clear hm1 hm2 hI hs
  refine Wcall_K (N := 49) hm (G := G) hA8 81000 (lst []) ok81 Tryd.func81 rfl rfl (by simp) (by kernel_rfl) ?_
  repeat' (first | refine rq fun _ => ?_ | simp only [go_sem, Tryd.f81])
  refine WK_loop hm (G := G) hA8 81000 (lst []) (ι := BsI l.length (fun i => ∀ j (hj : j < l.length), j < i → tupK s l[j] < 0) fun i => ∀ j (hj : j < l.length), i ≤ j → 0 ≤ tupK s l[j])
    ⟨fun q => ⟨frL [(0, .fz (.sl (l.map enc))), (1, .fz (.sl (s.map enc))), (2, .fn 73 []), (8, .fz (.i .i64 l.length)), (9, .fz (.i .i64 q.i)), (10, .fz (.i .i64 q.j))], hpL [], 0⟩, fun q => q.j - q.i⟩
    ⟨0, l.length, by omega, by omega, fun j hj h => by omega, fun j hj h => by omega⟩ (by kernel_rfl) ?_ ?_
  · refine Weak_to ?_ ?_ ?_ <;> simp only [go_sem]
  rintro ⟨i, j, hij, hj, hp, hq⟩
  try simp only at hij hj
  rcases Nat.lt_or_ge i j with h | h
  · have h' : ((i : Int) < (j : Int)) = True := eq_true (by omega)
    repeat' (first | refine rq fun _ => ?_ | simp only [go_sem, h, h', Tryd.f81])
    obtain ⟨H, hH⟩ : ∃ H : Nat, (i + j) / 2 = H := ⟨_, rfl⟩
    have hmid : (((i : Int) + (j : Int)) / 2 ^ 1) = (H : Int) := by omega
    have hl : H < l.length := by omega
    refine ReqK.i ⟨by show (0 : Int) ≤ _; omega, by show _ ≤ (18446744073709551615 : Int); omega⟩ fun _ => ?_
    have k3 := k1.out H hl
    have k4 := k2.out H hl
    obtain ⟨x, hx⟩ : ∃ x, l[H] = x := ⟨_, rfl⟩
    rw [hx] at k3 k4
    by_cases hc : tupK s x < 0
    · have hn := k3 hc
      have kn := Kp.mk hn
      clear k3 k4 hn
      repeat' (first | refine rq fun _ => ?_ | simp only [go_sem, hmid, hl, hx, hc, hcu, str_eta, getD_map_lt, Tryd.f81])
      refine ⟨⟨H + 1, j, by omega, by omega, kn.out, hq⟩, by simp only; omega, ?_⟩
      refine Weak_to ?_ ?_ ?_ <;> simp only [go_sem]
    · have hn := k4 hc
      have kn := Kp.mk hn
      clear k3 k4 hn
      repeat' (first | refine rq fun _ => ?_ | simp only [go_sem, hmid, hl, hx, hc, hcu, str_eta, getD_map_lt, Tryd.f81])
      refine ⟨⟨i, H, by omega, by omega, hp, kn.out⟩, by simp only; omega, ?_⟩
      refine Weak_to ?_ ?_ ?_ <;> simp only [go_sem]
  · obtain rfl : i = j := by omega
    have hbi := kI.out hj hp hq
    have hbb : bsB (tupK s) l = (decide (i < l.length) && decide (tupK s (l.getD i default) = 0)) := by unfold bsB; rw [hbi]
    rw [hbi, hbb]
    clear hbi hbb
    rcases Nat.lt_or_ge i l.length with h1 | h1
    · obtain ⟨x, hx⟩ : ∃ x, l[i] = x := ⟨_, rfl⟩
      have hg : l.getD i default = x := by rw [List.getD_eq_getElem?_getD, List.getElem?_eq_getElem h1, ← hx]; rfl
      have h1' : ((i : Int) < (l.length : Int)) = True := eq_true (by omega)
      rw [hg]
      repeat' (first | refine rq fun _ => ?_ | simp only [go_sem, Nat.lt_irrefl, h1, h1', hx, hcu, str_eta, getD_map_lt, Tryd.f81])
    · have h1' : ((i : Int) < (l.length : Int)) = False := eq_false (by omega)
      have h1n : (i < l.length) = False := eq_false (by omega)
      repeat' (first | refine rq fun _ => ?_ | simp only [go_sem, Nat.lt_irrefl, h1n, h1', hcu, str_eta, getD_map_lt, Tryd.f81])


def constP (m : Model) (w : Str) : Int × Bool := (constV m w, (findC m w).isSome)
theorem findC_bs {m : Model} (h : okC m.consts) (w : Str) : findC m w = if bsB (cnsC w) m.consts then some (m.consts.getD (bsI (cnsC w) m.consts) default) else none := by
  have := find_bs (okC_step h w)
  unfold findC
  rw [show (fun c : Const => decide (c.name = w)) = fun c => decide (cmpS c.name w = 0) from funext fun c => decide_eq_decide.2 cmpS_zero.symm, this]
  rfl
theorem bsB_lt {α : Type} [Inhabited α] {c : α → Int} {l : List α} (h : bsB c l = true) : bsI c l < l.length := by
  unfold bsB at h
  simp only [Bool.and_eq_true, decide_eq_true_eq] at h
  exact h.1
def A9 : Tbl := A8.add 77 (sp2p constP fun m _ => okC m.consts)
attribute [go_sem] A9
theorem hA9 : TblOk Tryd.prog G A9 := by
  refine sp2p_ok ok77 hA8 fun m w hok hwm hww => ?_
  have hwl : (enc m.consts).Wf := Wf_agg (by have h := hwm; rw [enc_model] at h; exact h) (FD.sl (m.consts.map enc)) (by simp)
  have hbs := bsConst (G := G) hwl hww (okC_step hok w)
  have hf := findC_bs hok w
  obtain ⟨I, hI⟩ : ∃ I, bsI (cnsC w) m.consts = I := ⟨_, rfl⟩
  cases hb : bsB (cnsC w) m.consts with
  | true =>
    have hlt := bsB_lt hb
    rw [hb, if_pos rfl] at hf
    rw [hI] at hf hlt
    obtain ⟨x, hx⟩ : ∃ x, m.consts[I] = x := ⟨_, rfl⟩
    have hg : m.consts.getD I default = x := by rw [List.getD_eq_getElem?_getD, List.getElem?_eq_getElem hlt, ← hx]; rfl
    rw [hg] at hf
    have e : constP m w = (x.value, true) := by unfold constP constV; rw [hf]; rfl
    rw [hb, hI] at hbs
    simp only [e]
    clear hf hg e hwl
    refine Wcall_K (N := 23) hm (G := G) hA8 77000 (lst []) ok77 Tryd.func77 rfl rfl (by simp) (by kernel_rfl) ?_
    repeat' (first | refine rq fun _ => ?_ | simp only [go_sem, Tryd.f77])
    refine WcallK.i (Wcall_mono (Wcall_pureF (ds := [_, _]) rfl hbs) ?_)
    rintro d' H' n1 ⟨rfl, rfl, rfl⟩
    repeat' (first | refine rq fun _ => ?_ | simp only [go_sem, hlt, hx, const_eta, str_eta, getD_map_lt, Tryd.f77])
  | false =>
    rw [hb] at hf hbs
    have e : constP m w = (0, false) := by unfold constP constV; rw [hf]; rfl
    rw [hI] at hbs
    simp only [e]
    clear hf e hwl
    refine Wcall_K (N := 23) hm (G := G) hA8 77000 (lst []) ok77 Tryd.func77 rfl rfl (by simp) (by kernel_rfl) ?_
    repeat' (first | refine rq fun _ => ?_ | simp only [go_sem, Tryd.f77])
    refine WcallK.i (Wcall_mono (Wcall_pureF (ds := [_, _]) rfl hbs) ?_)
    rintro d' H' n1 ⟨rfl, rfl, rfl⟩
    repeat' (first | refine rq fun _ => ?_ | simp only [go_sem, const_eta, str_eta, getD_map_lt, Tryd.f77])
def noRel : MRel := ⟨⟨[]⟩, 0, []⟩
def relP (m : Model) (w : Str) (n : Int) : MRel × Bool := match findR m w n with | some r => (r, true) | none => (noRel, false)
theorem findR_bs {m : Model} (h : okR m.rels) (w : Str) (n : Int) : findR m w n = if bsB (relC' ⟨w, n, []⟩) m.rels then some (m.rels.getD (bsI (relC' ⟨w, n, []⟩) m.rels) default) else none := by
  have := find_bs (okR_step h ⟨w, n, []⟩)
  unfold findR
  rw [show (fun r : MRel => decide (r.name = w ∧ r.arity = n)) = fun r => decide (cmpR r ⟨w, n, []⟩ = 0) from funext fun c => decide_eq_decide.2 (cmpR_zero (a := c) (b := ⟨w, n, []⟩)).symm, this]
  rfl
def A10 : Tbl := A9.add 79 (sp3p relP fun m _ _ => okR m.rels)
attribute [go_sem] A10
theorem hA10 : TblOk Tryd.prog G A10 := by
  refine sp3p_ok ok79 hA9 fun m w n hok hwm hww hwn => ?_
  have hwl : (enc m.rels).Wf := Wf_agg (by have h := hwm; rw [enc_model] at h; exact h) (FD.sl (m.rels.map enc)) (by simp)
  have hwt : (enc (⟨w, n, []⟩ : MRel)).Wf := .agg _ fun x hx => by
    simp only [List.mem_cons, List.not_mem_nil, or_false] at hx
    rcases hx with rfl | rfl | rfl
    · exact hww
    · exact hwn
    · exact .sl _ (by simp) (by simp)
  have hbs := bsRel (G := G) hwl hwt (okR_step hok ⟨w, n, []⟩)
  have hf := findR_bs hok w n
  obtain ⟨I, hI⟩ : ∃ I, bsI (relC' ⟨w, n, []⟩) m.rels = I := ⟨_, rfl⟩
  cases hb : bsB (relC' ⟨w, n, []⟩) m.rels with
  | true =>
    have hlt := bsB_lt hb
    rw [hb, if_pos rfl] at hf
    rw [hI] at hf hlt
    obtain ⟨x, hx⟩ : ∃ x, m.rels[I] = x := ⟨_, rfl⟩
    have hg : m.rels.getD I default = x := by rw [List.getD_eq_getElem?_getD, List.getElem?_eq_getElem hlt, ← hx]; rfl
    rw [hg] at hf
    have e : relP m w n = (x, true) := by unfold relP; rw [hf]
    rw [hb, hI] at hbs
    simp only [e]
    clear hf hg e hwl hwt
    refine Wcall_K (N := 27) hm (G := G) hA9 79000 (lst []) ok79 Tryd.func79 rfl rfl (by simp) (by kernel_rfl) ?_
    repeat' (first | refine rq fun _ => ?_ | simp only [go_sem, Tryd.f79])
    refine WcallK.i (Wcall_mono (Wcall_pureF (ds := [_, _]) rfl hbs) ?_)
    rintro d' H' n1 ⟨rfl, rfl, rfl⟩
    repeat' (first | refine rq fun _ => ?_ | simp only [go_sem, hlt, hx, rel_eta, str_eta, getD_map_lt, Tryd.f79])
  | false =>
    rw [hb] at hf hbs
    have e : relP m w n = (noRel, false) := by unfold relP; rw [hf]; rfl
    rw [hI] at hbs
    simp only [e, noRel]
    clear hf e hwl hwt
    refine Wcall_K (N := 27) hm (G := G) hA9 79000 (lst []) ok79 Tryd.func79 rfl rfl (by simp) (by kernel_rfl) ?_
    repeat' (first | refine rq fun _ => ?_ | simp only [go_sem, Tryd.f79])
    refine WcallK.i (Wcall_mono (Wcall_pureF (ds := [_, _]) rfl hbs) ?_)
    rintro d' H' n1 ⟨rfl, rfl, rfl⟩
    repeat' (first | refine rq fun _ => ?_ | simp only [go_sem, rel_eta, str_eta, getD_map_lt, Tryd.f79])
end
end Go.Proofs.YtdlioodgfopmfaaDoor

namespace Go.Abs
open Go
theorem nest_eq {f : Form} : nestM f = nestMs f.subs + if isQ f.kind then 1 else 0 := by cases f; rw [nestM]; rfl
theorem nestMs_snoc : ∀ (l : List Form) (f : Form), nestMs (l ++ [f]) = max (nestMs l) (nestM f)
  | [], f => by simp [nestMs]
  | g :: l, f => by rw [List.cons_append, nestMs, nestMs, nestMs_snoc l f]; omega
theorem nestMs_take {fs : List Form} {j : Nat} (h : j < fs.length) : nestMs (fs.take (j + 1)) = max (nestMs (fs.take j)) (nestM fs[j]) := by
  rw [List.take_succ_eq_append_getElem h, nestMs_snoc]
mutual
theorem nest_depth : ∀ f : Form, nestM f ≤ f.size
  | .mk k n w s => by
    rw [nestM, Form.size]
    have := nests_size s
    split <;> omega
theorem nests_size : ∀ fs : List Form, nestMs fs ≤ Form.sizes fs
  | [] => by rw [nestMs]; omega
  | f :: fs => by rw [nestMs, Form.sizes]; have := nest_depth f; have := nests_size fs; omega
end
theorem nests_mem : ∀ {l : List Form} {f : Form}, f ∈ l → nestM f ≤ nestMs l
  | g :: l, f, h => by
    rw [nestMs]
    rcases List.mem_cons.1 h with rfl | h
    · omega
    · have := nests_mem h; omega
def szP (f : Form) : Prop := f.fit = true ∧ f.size ≤ 1000000
theorem szP_sub {f g : Form} (h : szP f) (hg : g ∈ f.subs) : g.size < f.size ∧ szP g :=
  ⟨Form.size_sub hg, Form.fits_mem (Form.fit_eq h.1).2.2 hg, by have := Form.size_sub hg; have := h.2; omega⟩
end Go.Abs
namespace Go.Proofs.YtdlioodgfopmfaaDoor
open Go Go.Abs Go.Proofs
section
variable {G : Nat → List FD}
theorem Weak_rpA {G : Nat → List FD} {N : Nat} {l : List (Nat × D)} {H : Heap} {n : Nat} {id : Abs.Id} {t : Nat} {ys : List FD} {b : Bool} (ho : H id = some ⟨ys.map .fz, b, false⟩) (hs : frL l t = .ptr id 0) :
    Weak G N ⟨frL l, H, n⟩ ⟨frL ((t, .rp ys) :: l), updH H id none, n⟩ := Weak_rp (st := ⟨frL l, H, n⟩) ho hs

def A11 : Tbl := A10.add 75 (sp1 (fun f : Abs.Form => (nestM f : Int)) szP)
attribute [go_sem] A11
theorem hA11 : TblOk Tryd.prog G A11 := by
  refine sp1_rec Form.size ok75 hA10 fun n hT f hn hpre _ => ?_
  have hsl := (Form.fit_eq hpre.1).2.1
  have hse := nest_depth f
  have hz := hpre.2
  have hr : ∀ g ∈ f.subs, g.size < n ∧ szP g := fun g hg => by have := szP_sub hpre hg; exact ⟨by omega, this.2⟩
  have kT := Kp.mk hT
  have kr := Kp.mk hr
  obtain ⟨S, hS⟩ : ∃ S : Nat → Nat, S = fun j => nestMs (f.subs.take j) := ⟨_, rfl⟩
  have hS0 : S 0 = 0 := by rw [hS]; simp [nestMs]
  have hSs : ∀ j (h : j < f.subs.length), S (j + 1) = max (S j) (nestM f.subs[j]) := fun j h => by rw [hS]; exact nestMs_take h
  have hSe : nestM f = S f.subs.length + if isQ f.kind then 1 else 0 := by rw [hS, nest_eq]; simp only [List.take_length]
  have kS := Kp.mk hSs
  have hSn : S f.subs.length ≤ 1000000 := by omega
  have hq : (isQ f.kind ∧ (f.kind = 8 ∨ f.kind = 9)) ∨ (¬ isQ f.kind ∧ ¬ (f.kind = 8 ∨ f.kind = 9)) := by
    by_cases h : isQ f.kind
    · exact .inl ⟨h, h⟩
    · exact .inr ⟨h, h⟩
  rw [hSe]
  clear hT hr hS hSs hSe hpre hn hse
  refine Wcall_K (N := 23) hm (G := G) kT.out 75000 (lst []) ok75 Tryd.func75 rfl rfl (by simp) (by kernel_rfl) ?_
  repeat' (first | refine rq fun _ => ?_ | simp only [go_sem, Tryd.f75])
  refine WK_weak2 (Weak_rpA (id := (75001, 0)) (t := 1) (b := true) (ys := [.i .i64 f.kind, .s f.name.l, .sl (f.words.map enc), .sl (f.subs.map enc)]) (by simp only [go_sem]) (by simp only [go_sem])) ?_
  refine WK_loop hm (G := G) kT.out 75000 (lst []) (ι := LoopM f.subs.length 1 fun _ => True)
    ⟨fun q => ⟨frL [(1, .rp [.i .i64 f.kind, .s f.name.l, .sl (f.words.map enc), .sl (f.subs.map enc)]), (3, .fz (.i .i64 (S q.i : Nat))), (7, .fz (.sl (f.subs.map enc))), (8, .fz (.i .i64 f.subs.length)), (9, .fz (.i .i64 q.i))], hpL [], q.m⟩, fun q => f.subs.length - q.i⟩
    ⟨0, 1, by omega, by omega, trivial⟩ (by kernel_rfl) ?_ ?_
  · refine Weak_to ?_ ?_ ?_ <;> simp only [go_sem, hS0]
    all_goals first | done | rfl
  rintro ⟨j, m, hj, hm1, _⟩
  try simp only at hj hm1
  rcases Nat.lt_or_ge j f.subs.length with h2 | h2
  · have hss := kS.out j h2
    have hr := kr.out _ (List.getElem_mem h2)
    obtain ⟨x, hx⟩ : ∃ x, f.subs[j] = x := ⟨_, rfl⟩
    rw [hx] at hss hr
    have hmx : max (S j : Int) (nestM x : Int) = (S (j + 1) : Int) := by omega
    repeat' (first | refine rq fun _ => ?_ | refine ReqK.i hr fun _ => ?_ | simp only [go_sem, h2, hx, hmx, form_eta, getD_map_lt, Tryd.f75])
    refine ⟨⟨j + 1, m + 1, by omega, by omega, trivial⟩, by simp only; omega, ?_⟩
    refine Weak_to ?_ ?_ ?_ <;> simp only [go_sem, hss, hmx]
    all_goals first | done | omega | rfl | (simp only [hss]; omega)
  · obtain rfl : j = f.subs.length := by omega
    rcases hq with ⟨h3, h4⟩ | ⟨h3, h4⟩
    · rw [if_pos h3]
      repeat' (first | refine rq fun _ => ?_ | simp only [go_sem, Nat.lt_irrefl, h4, form_eta, Tryd.f75])
      all_goals first | done | rfl
    · rw [if_neg h3]
      repeat' (first | refine rq fun _ => ?_ | simp only [go_sem, Nat.lt_irrefl, h4, form_eta, Tryd.f75])
      all_goals first | done | rfl
end
end Go.Proofs.YtdlioodgfopmfaaDoor

namespace Go.Abs
open Go
theorem hasR_eq {m : Model} {f : Form} : hasR m f = ((!decide (f.kind = 2) || (findR m f.name f.words.length).isSome) && hasRs m f.subs) := by cases f; rw [hasR]; rfl
theorem hasRs_all {m : Model} : ∀ l : List Form, hasRs m l = l.all (hasR m)
  | [] => by rw [hasRs]; rfl
  | f :: l => by rw [hasRs, hasRs_all l]; rfl
theorem all_falls {α : Type} {p : α → Bool} {l : List α} {i : Nat} (h : i < l.length) (hp : p l[i] = false) : l.all p = false := by
  cases ha : l.all p with
  | false => rfl
  | true => rw [List.all_eq_true.1 ha _ (List.getElem_mem h)] at hp; cases hp
theorem all_holds {α : Type} {p : α → Bool} {l : List α} (hp : ∀ j (h : j < l.length), p l[j] = true) : l.all p = true := by
  rw [List.all_eq_true]
  intro x hx
  obtain ⟨j, hj, rfl⟩ := List.getElem_of_mem hx
  exact hp j hj
theorem below_succ {p : Nat → Prop} {n i : Nat} (h : ∀ j, j < n → j < i → p j) (hi : p i) : ∀ j, j < n → j < i + 1 → p j := fun j hj h2 => by
  rcases Nat.lt_or_ge j i with h3 | h3
  · exact h j hj h3
  · obtain rfl : j = i := by omega
    exact hi
section
variable {P : Program} {G : Nat → List FD} {T : Tbl}
end
end Go.Abs
namespace Go.Proofs.YtdlioodgfopmfaaDoor
open Go Go.Abs Go.Proofs
section
variable {G : Nat → List FD}
def A12 : Tbl := A11
attribute [go_sem] A12
theorem hA12 : TblOk Tryd.prog G A12 := hA11
def A13 : Tbl := A12
attribute [go_sem] A13
theorem hA13 : TblOk Tryd.prog G A13 := hA12
def A14 : Tbl := A13
attribute [go_sem] A14
theorem hA14 : TblOk Tryd.prog G A14 := hA13
end
end Go.Proofs.YtdlioodgfopmfaaDoor

namespace Go.Proofs.YtdlioodgfopmfaaDoor
open Go Go.Abs Go.Proofs
section
variable {G : Nat → List FD}
def idxT (p : Nat) : Int := (p : Int) - 1
theorem idxT_succ (p : Nat) : idxT (p + 1) = (p : Int) := by unfold idxT; omega
theorem idxT_zero : idxT 0 = -1 := rfl
structure DownI (n : Nat) (P : Nat → Prop) where
  p : Nat
  hn : p ≤ n
  hp : P p
theorem f80 {w : Str} {env : List Const} {m : Model} {ie im : Abs.Id} {H : Heap} {n : Nat} {R : D → Heap → Nat → Prop} (hok : okC m.consts) (hl : env.length ≤ 1000)
    (ho1 : H ie = some ⟨[.fz (.sl (env.map enc))], true, false⟩) (ho2 : H im = some ⟨[.fz (.i .i64 m.size), .fz (.sl (m.consts.map enc)), .fz (.sl (m.rels.map enc))], true, false⟩)
    (hR : R (.fz (.i .i64 (wordV m env w))) H n) : Wcall Tryd.prog G 80 [.fz (enc w), .ptr ie 0, .ptr im 0] H n R := by
  have hW : wordV m env w = match lastE env w with | some v => v | none => constV m w := rfl
  have e0 : H = hpX [] H := rfl
  obtain ⟨L, hL⟩ : ∃ L : Nat → Option Int, L = fun p => lastE (env.take p) w := ⟨_, rfl⟩
  have hL0 : L 0 = none := by rw [hL]; rfl
  have hLs : ∀ p (h : p < env.length), L (p + 1) = if env[p].name = w then some env[p].value else L p := fun p h => by
    rw [hL]; simp only [List.take_succ_eq_append_getElem h, lastE_snoc]
  have hLe : lastE env w = L env.length := by rw [hL]; simp only [List.take_length]
  rw [hLe] at hW
  have kL := Kp.mk hLs
  have kR := Kp.mk hR
  have kW := Kp.mk hW
  clear hL hLs hLe hW hR
  rw [e0]
  refine Wcall_K (N := 34) hm (G := G) hA14 80000 (lst []) ok80 Tryd.func80 rfl rfl (by simp) (by kernel_rfl) ?_
  repeat' (first | refine rq fun _ => ?_ | simp only [go_sem, ho1, Tryd.f80])
  refine WK_loop hm (G := G) hA14 80000 (lst []) (ι := DownI env.length fun p => L env.length = L p)
    ⟨fun q => ⟨frL [(0, .fz (.s w.l)), (1, .ptr ie 0), (2, .ptr im 0), (5, .fz (.i .i64 (idxT q.p)))], hpX [] H, n⟩, fun q => q.p⟩
    ⟨env.length, Nat.le_refl _, rfl⟩ (by kernel_rfl) ?_ ?_
  · refine Weak_toX ?_ ?_ (fun id o ho => ?_) ?_
    · simp only [go_sem, idxT]
    · simp only [go_sem]
    · simp only [go_sem]; exact ho
    · simp only [go_sem]
  rintro ⟨p, hn, hp⟩
  try simp only at hn hp
  rcases p with _ | p
  · repeat' (first | refine ReqK.i hok fun _ => ?_ | refine rq fun _ => ?_ | simp only [go_sem, idxT_zero, ho1, ho2, str_eta, model_eta, Tryd.f80])
    have h := kR.out
    rw [kW.out, hp, hL0] at h
    exact h
  · have h1 : p < env.length := by omega
    have hs := kL.out p h1
    obtain ⟨x, hx⟩ : ∃ x, env[p] = x := ⟨_, rfl⟩
    rw [hx] at hs
    by_cases hc : x.name = w
    · rw [if_pos hc] at hs
      repeat' (first | refine rq fun _ => ?_ | simp only [go_sem, idxT_succ, ho1, ho2, h1, hx, hc, const_eta, str_eta, getD_map_lt, Tryd.f80])
      have h := kR.out
      rw [kW.out, hp, hs] at h
      exact h
    · rw [if_neg hc] at hs
      have hc' : (x.name = w) = False := eq_false hc
      repeat' (first | refine rq fun _ => ?_ | simp only [go_sem, idxT_succ, ho1, ho2, h1, hx, hc', const_eta, str_eta, getD_map_lt, Tryd.f80])
      refine ⟨⟨p, by omega, hp.trans hs⟩, by simp only; omega, ?_⟩
      refine Weak_toX ?_ ?_ (fun id o ho => ?_) ?_
      · simp only [go_sem, idxT]
      · simp only [go_sem]
      · simp only [go_sem]; exact ho
      · simp only [go_sem]
end
end Go.Proofs.YtdlioodgfopmfaaDoor
