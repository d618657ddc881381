import Derived.Test.YtoicheicnbjfeaaDoorAT
import Derived.Test.YtoicheicnbjfeaaDoorQ71
set_option linter.unusedSimpArgs false
namespace Go.Abs
open Go
theorem cmpL_step {a b : List Int} {i : Nat} (h : i < a.length) (h2 : i < b.length) : cmpL (a.drop i) (b.drop i) = if cmpI a[i] b[i] ≠ 0 then cmpI a[i] b[i] else cmpL (a.drop (i + 1)) (b.drop (i + 1)) := by
  rw [List.drop_eq_getElem_cons h, List.drop_eq_getElem_cons h2, cmpL]
theorem cmpL_long {a b : List Int} {i : Nat} (h : i < a.length) (h2 : b.length ≤ i) : cmpL (a.drop i) (b.drop i) = 1 := by
  rw [List.drop_eq_getElem_cons h, List.drop_of_length_le h2, cmpL]
theorem cmpL_end {a b : List Int} {i : Nat} (h : a.length ≤ i) : cmpL (a.drop i) (b.drop i) = if i < b.length then -1 else 0 := by
  rw [List.drop_of_length_le h]
  split
  · rename_i h2; rw [List.drop_eq_getElem_cons h2, cmpL]
  · rename_i h2; rw [List.drop_of_length_le (by omega), cmpL]
/-! a place in a sorted row -/
def bsI {α : Type} (c : α → Int) (l : List α) : Nat := (l.filter fun x => decide (c x < 0)).length
def bsB {α : Type} [Inhabited α] (c : α → Int) (l : List α) : Bool := decide (bsI c l < l.length) && decide (c (l.getD (bsI c l) default) = 0)
/-- what does not precede stands behind what precedes -/
def stepC {α : Type} (c : α → Int) (l : List α) : Prop := ∀ i j (hi : i < l.length) (hj : j < l.length), i < j → c l[j] ≤ 0 → c l[i] < 0
theorem bsI_at {α : Type} {c : α → Int} {l : List α} {i : Nat} (hi : i ≤ l.length) (h1 : ∀ j (h : j < l.length), j < i → c l[j] < 0) (h2 : ∀ j (h : j < l.length), i ≤ j → 0 ≤ c l[j]) : bsI c l = i :=
  filter_pre _ l i hi (fun j h hji => decide_eq_true (h1 j h hji)) (fun j h hij => decide_eq_false (by have := h2 j h hij; omega))
theorem find_bs {α : Type} [Inhabited α] {c : α → Int} {l : List α} (hs : stepC c l) : l.find? (fun x => decide (c x = 0)) = if bsB c l then some (l.getD (bsI c l) default) else none := by
  cases hf : l.find? (fun x => decide (c x = 0)) with
  | none =>
    rw [List.find?_eq_none] at hf
    have : bsB c l = false := by
      unfold bsB
      by_cases h : bsI c l < l.length
      · have := hf _ (List.getElem_mem h)
        rw [List.getD_eq_getElem?_getD, List.getElem?_eq_getElem h]
        simp only [Option.getD_some]
        simp only [decide_eq_true_eq] at this
        simp [this]
      · simp [h]
    rw [this]; rfl
  | some x =>
    obtain ⟨hx, xs, bs, rfl, hb⟩ := List.find?_eq_some_iff_append.1 hf
    have hx := of_decide_eq_true hx
    have hi : bsI c (xs ++ x :: bs) = xs.length := by
      refine bsI_at (by simp) (fun j h hj => ?_) (fun j h hj => ?_)
      · refine hs j xs.length h (by simp) hj ?_
        rw [List.getElem_append_right (Nat.le_refl _)]
        simp only [Nat.sub_self, List.getElem_cons_zero]
        omega
      · rcases (show c (xs ++ x :: bs)[j] < 0 ∨ 0 ≤ c (xs ++ x :: bs)[j] by omega) with h3 | h3
        · rcases Nat.eq_or_lt_of_le hj with rfl | h4
          · rw [List.getElem_append_right (Nat.le_refl _)] at h3 ⊢
            simp only [Nat.sub_self, List.getElem_cons_zero] at h3 ⊢
            omega
          · have := hs xs.length j (by simp) h h4 (by omega)
            rw [List.getElem_append_right (Nat.le_refl _)] at this
            simp only [Nat.sub_self, List.getElem_cons_zero] at this
            omega
        · omega
    have hg : (xs ++ x :: bs).getD xs.length default = x := by
      rw [List.getD_eq_getElem?_getD, List.getElem?_append_right (Nat.le_refl _)]; simp
    unfold bsB
    rw [hi, hg]
    simp [hx]
end Go.Abs
namespace Go.Proofs.YtoicheicnbjfeaaDoor
open Go Go.Abs Go.Proofs
section
variable {G : Nat → List FD}
def A7 : Tbl := A6.add 173 (sp2 cmpL fun _ _ => True)
set_option maxRecDepth 100000 in
set_option maxHeartbeats 1000000 in
theorem hA7 : TblOk Tryd.prog G A7 := by
  refine sp2_ok ok173 hA6 fun a b _ hwa hwb => ?_
  have la := Wf_sl hwa
  have lb := Wf_sl hwb
  simp only [List.length_map, maxL] at la lb
  obtain ⟨C, hC⟩ : ∃ C : Nat → Int, C = fun i => cmpL (a.drop i) (b.drop i) := ⟨_, rfl⟩
  have h0 : cmpL a b = C 0 := by rw [hC]; rfl
  have h1 : ∀ i (h : i < a.length) (h2 : i < b.length), C i = if cmpI a[i] b[i] ≠ 0 then cmpI a[i] b[i] else C (i + 1) := fun i h h2 => by rw [hC]; exact cmpL_step h h2
  have h2 : ∀ i (h : i < a.length), b.length ≤ i → C i = 1 := fun i h h2 => by rw [hC]; exact cmpL_long h h2
  have h3 : C a.length = if a.length < b.length then -1 else 0 := by rw [hC]; exact cmpL_end (Nat.le_refl _)
  rw [h0]
  obtain ⟨r, hr⟩ : ∃ r, C 0 = r := ⟨_, rfl⟩
  rw [hr]
  have k1 := Kp.mk h1
  have k2 := Kp.mk h2
  have k3 := Kp.mk h3
  clear h0 h1 h2 h3 hC
  refine Wcall_K (N := 36) hm (G := G) hA6 173000 (lst []) ok173 Tryd.func173 rfl rfl (by simp) (by kernel_rfl) ?_
  repeat' (first | refine ReqK.i (by omega) fun _ => ?_ | simp only [go_sem, Tryd.f173, A6, A5, A4, A3, A2, A1, Q20, Q19, Q18, Q17, Q16, Q15, Q14, Q13, Q12, Q11, Q10, Q9, Q8, Q7, Q6, Q5, Q4, Q3, Q2, Q1, Tbl0])
  refine WK_loop hm (G := G) hA6 173000 (lst []) (ι := LoopI a.length fun i => C i = r)
    ⟨fun q => ⟨frL [(0, .fz (.sl (a.map enc))), (1, .fz (.sl (b.map enc))), (9, .fz (.sl (a.map enc))), (10, .fz (.i .i64 a.length)), (11, .fz (.i .i64 q.i))], hpL [], 0⟩, fun q => a.length - q.i⟩
    ⟨0, by omega, hr⟩ (by kernel_rfl) ?_ ?_
  · refine Weak_to ?_ ?_ ?_ <;> simp only [go_sem]
  rintro ⟨i, hi, hp⟩
  try simp only at hi hp
  rcases Nat.lt_or_ge i a.length with h | h
  · rcases Nat.lt_or_ge i b.length with h2 | h2
    · have e := k1.out i h h2
      have hb' : (b.length ≤ i) = False := eq_false (by omega)
      obtain ⟨x, hx⟩ : ∃ x, a[i] = x := ⟨_, rfl⟩
      obtain ⟨y, hy⟩ : ∃ y, b[i] = y := ⟨_, rfl⟩
      rw [hx, hy, hp] at e
      by_cases hc : cmpI x y = 0
      · rw [if_neg (by simp [hc])] at e
        repeat' (first | refine ReqK.i (by omega) fun _ => ?_ | simp only [go_sem, h, h2, hb', hx, hy, hc, getD_map_lt, Tryd.f173, A6, A5, A4, A3, A2, A1, Q20, Q19, Q18, Q17, Q16, Q15, Q14, Q13, Q12, Q11, Q10, Q9, Q8, Q7, Q6, Q5, Q4, Q3, Q2, Q1, Tbl0])
        refine ⟨⟨i + 1, by omega, e.symm⟩, by simp only; omega, ?_⟩
        refine Weak_to ?_ ?_ ?_ <;> simp only [go_sem]
      · rw [if_pos hc] at e
        subst e
        repeat' (first | refine ReqK.i (by omega) fun _ => ?_ | simp only [go_sem, h, h2, hb', hx, hy, hc, getD_map_lt, Tryd.f173, A6, A5, A4, A3, A2, A1, Q20, Q19, Q18, Q17, Q16, Q15, Q14, Q13, Q12, Q11, Q10, Q9, Q8, Q7, Q6, Q5, Q4, Q3, Q2, Q1, Tbl0])
    · have e := k2.out i h h2
      have e2 : r = 1 := by rw [← hp, e]
      have h2' : (b.length ≤ i) = True := eq_true h2
      subst e2
      repeat' (first | refine ReqK.i (by omega) fun _ => ?_ | simp only [go_sem, h, h2, h2', getD_map_lt, Tryd.f173, A6, A5, A4, A3, A2, A1, Q20, Q19, Q18, Q17, Q16, Q15, Q14, Q13, Q12, Q11, Q10, Q9, Q8, Q7, Q6, Q5, Q4, Q3, Q2, Q1, Tbl0])
  · obtain rfl : i = a.length := by omega
    have e := k3.out
    rw [hp] at e
    by_cases hl : a.length < b.length
    · rw [if_pos hl] at e
      subst e
      have hl' : ((a.length : Int) < (b.length : Int)) = True := eq_true (by omega)
      repeat' (first | refine ReqK.i (by omega) fun _ => ?_ | simp only [go_sem, Nat.lt_irrefl, hl, hl', Tryd.f173, A6, A5, A4, A3, A2, A1, Q20, Q19, Q18, Q17, Q16, Q15, Q14, Q13, Q12, Q11, Q10, Q9, Q8, Q7, Q6, Q5, Q4, Q3, Q2, Q1, Tbl0])
    · rw [if_neg hl] at e
      subst e
      have hl' : ((a.length : Int) < (b.length : Int)) = False := eq_false (by omega)
      repeat' (first | refine ReqK.i (by omega) fun _ => ?_ | simp only [go_sem, Nat.lt_irrefl, hl, hl', Tryd.f173, A6, A5, A4, A3, A2, A1, Q20, Q19, Q18, Q17, Q16, Q15, Q14, Q13, Q12, Q11, Q10, Q9, Q8, Q7, Q6, Q5, Q4, Q3, Q2, Q1, Tbl0])
def cnsC (s : Str) (c : Const) : Int := cmpS c.name s
def A8 : Tbl := A7.add 216 (sp2 (fun (c : Const) (s : Str) => cnsC s c) fun _ _ => True)
set_option maxRecDepth 100000 in
set_option maxHeartbeats 1000000 in
theorem hA8 : TblOk Tryd.prog G A8 := by
  refine sp2_ok ok216 hA7 fun a b _ _ _ => ?_
  have e : cmpS a.name b = cnsC b a := rfl
  refine Wcall_K (N := 9) hm (G := G) hA7 216000 (lst []) ok216 Tryd.func216 rfl rfl (by simp) (by kernel_rfl) ?_
  repeat' (first | refine ReqK.i (by omega) fun _ => ?_ | refine ReqK.i (by unfold maxL; omega) fun _ => ?_ | simp only [go_sem, e, str_eta, Tryd.f216, A7, A6, A5, A4, A3, A2, A1, Q20, Q19, Q18, Q17, Q16, Q15, Q14, Q13, Q12, Q11, Q10, Q9, Q8, Q7, Q6, Q5, Q4, Q3, Q2, Q1, Tbl0])
structure BsI (n : Nat) (p : Nat → Prop) (q : Nat → Prop) where
  i : Nat
  j : Nat
  hij : i ≤ j
  hj : j ≤ n
  hp : p i
  hq : q j
set_option maxRecDepth 100000 in
set_option maxHeartbeats 1000000 in
theorem bsConst {l : List Const} {s : Str} (hw : (enc l).Wf) (hws : (enc s).Wf) (hs : stepC (cnsC s) l) : Wcall Tryd.prog G 215 [.fz (enc l), .fz (enc s), .fn 216 []] (hpL []) 0
    (fun d _ _ => D.val d = some (.tup [.fz (.i .i64 (bsI (cnsC s) l)), .fz (.b (bsB (cnsC s) l))])) := by
  have la := Wf_sl hw
  simp only [List.length_map, maxL] at la
  have hI := @bsI_at Const (cnsC s) l
  have hm1 : ∀ h (hh : h < l.length), cnsC s l[h] < 0 → ∀ j (hj : j < l.length), j < h + 1 → cnsC s l[j] < 0 := fun h hh h2 j hj h3 => by
    rcases Nat.eq_or_lt_of_le (Nat.le_of_lt_succ h3) with rfl | h4
    · exact h2
    · exact hs j h hj hh h4 (by omega)
  have hm2 : ∀ h (hh : h < l.length), ¬ cnsC s l[h] < 0 → ∀ j (hj : j < l.length), h ≤ j → 0 ≤ cnsC s l[j] := fun h hh h2 j hj h3 => by
    rcases Nat.eq_or_lt_of_le h3 with rfl | h4
    · omega
    · refine Decidable.byContradiction fun h5 => h2 (hs h j hh hj h4 (by omega))
  have k1 := Kp.mk hm1
  have k2 := Kp.mk hm2
  have kI := Kp.mk @hI
  clear hm1 hm2 hI hs
  refine Wcall_K (N := 49) hm (G := G) hA8 215000 (lst []) ok215 Tryd.func215 rfl rfl (by simp) (by kernel_rfl) ?_
  repeat' (first | refine ReqK.i (by omega) fun _ => ?_ | simp only [go_sem, Tryd.f215, A8, A7, A6, A5, A4, A3, A2, A1, Q20, Q19, Q18, Q17, Q16, Q15, Q14, Q13, Q12, Q11, Q10, Q9, Q8, Q7, Q6, Q5, Q4, Q3, Q2, Q1, Tbl0])
  refine WK_loop hm (G := G) hA8 215000 (lst []) (ι := BsI l.length (fun i => ∀ j (hj : j < l.length), j < i → cnsC s l[j] < 0) fun i => ∀ j (hj : j < l.length), i ≤ j → 0 ≤ cnsC s l[j])
    ⟨fun q => ⟨frL [(0, .fz (.sl (l.map enc))), (1, .fz (.s s.l)), (2, .fn 216 []), (8, .fz (.i .i64 l.length)), (9, .fz (.i .i64 q.i)), (10, .fz (.i .i64 q.j))], hpL [], 0⟩, fun q => q.j - q.i⟩
    ⟨0, l.length, by omega, by omega, fun j hj h => by omega, fun j hj h => by omega⟩ (by kernel_rfl) ?_ ?_
  · refine Weak_to ?_ ?_ ?_ <;> simp only [go_sem]
  rintro ⟨i, j, hij, hj, hp, hq⟩
  try simp only at hij hj
  rcases Nat.lt_or_ge i j with h | h
  · have h' : ((i : Int) < (j : Int)) = True := eq_true (by omega)
    repeat' (first | refine ReqK.i (by omega) fun _ => ?_ | simp only [go_sem, h, h', Tryd.f215, A8, A7, A6, A5, A4, A3, A2, A1, Q20, Q19, Q18, Q17, Q16, Q15, Q14, Q13, Q12, Q11, Q10, Q9, Q8, Q7, Q6, Q5, Q4, Q3, Q2, Q1, Tbl0])
    obtain ⟨H, hH⟩ : ∃ H : Nat, (i + j) / 2 = H := ⟨_, rfl⟩
    have hmid : (((i : Int) + (j : Int)) / 2 ^ 1) = (H : Int) := by omega
    have hl : H < l.length := by omega
    refine ReqK.i ⟨by show (0 : Int) ≤ _; omega, by show _ ≤ (18446744073709551615 : Int); omega⟩ fun _ => ?_
    have k3 := k1.out H hl
    have k4 := k2.out H hl
    obtain ⟨x, hx⟩ : ∃ x, l[H] = x := ⟨_, rfl⟩
    rw [hx] at k3 k4
    by_cases hc : cnsC s x < 0
    · have hn := k3 hc
      have kn := Kp.mk hn
      clear k3 k4 hn
      repeat' (first | refine ReqK.i (by omega) fun _ => ?_ | simp only [go_sem, hmid, hl, hx, hc, str_eta, const_eta, getD_map_lt, Tryd.f215, A8, A7, A6, A5, A4, A3, A2, A1, Q20, Q19, Q18, Q17, Q16, Q15, Q14, Q13, Q12, Q11, Q10, Q9, Q8, Q7, Q6, Q5, Q4, Q3, Q2, Q1, Tbl0])
      refine ⟨⟨H + 1, j, by omega, by omega, kn.out, hq⟩, by simp only; omega, ?_⟩
      refine Weak_to ?_ ?_ ?_ <;> simp only [go_sem]
    · have hn := k4 hc
      have kn := Kp.mk hn
      clear k3 k4 hn
      repeat' (first | refine ReqK.i (by omega) fun _ => ?_ | simp only [go_sem, hmid, hl, hx, hc, str_eta, const_eta, getD_map_lt, Tryd.f215, A8, A7, A6, A5, A4, A3, A2, A1, Q20, Q19, Q18, Q17, Q16, Q15, Q14, Q13, Q12, Q11, Q10, Q9, Q8, Q7, Q6, Q5, Q4, Q3, Q2, Q1, Tbl0])
      refine ⟨⟨i, H, by omega, by omega, hp, kn.out⟩, by simp only; omega, ?_⟩
      refine Weak_to ?_ ?_ ?_ <;> simp only [go_sem]
  · obtain rfl : i = j := by omega
    have hbi := kI.out hj hp hq
    have hbb : bsB (cnsC s) l = (decide (i < l.length) && decide (cnsC s (l.getD i default) = 0)) := by unfold bsB; rw [hbi]
    rw [hbi, hbb]
    clear hbi hbb
    rcases Nat.lt_or_ge i l.length with h1 | h1
    · obtain ⟨x, hx⟩ : ∃ x, l[i] = x := ⟨_, rfl⟩
      have hg : l.getD i default = x := by rw [List.getD_eq_getElem?_getD, List.getElem?_eq_getElem h1, ← hx]; rfl
      have h1' : ((i : Int) < (l.length : Int)) = True := eq_true (by omega)
      rw [hg]
      repeat' (first | refine ReqK.i (by omega) fun _ => ?_ | simp only [go_sem, Nat.lt_irrefl, h1, h1', hx, str_eta, const_eta, getD_map_lt, Tryd.f215, A8, A7, A6, A5, A4, A3, A2, A1, Q20, Q19, Q18, Q17, Q16, Q15, Q14, Q13, Q12, Q11, Q10, Q9, Q8, Q7, Q6, Q5, Q4, Q3, Q2, Q1, Tbl0])
    · have h1' : ((i : Int) < (l.length : Int)) = False := eq_false (by omega)
      have h1n : (i < l.length) = False := eq_false (by omega)
      repeat' (first | refine ReqK.i (by omega) fun _ => ?_ | simp only [go_sem, Nat.lt_irrefl, h1n, h1', str_eta, const_eta, getD_map_lt, Tryd.f215, A8, A7, A6, A5, A4, A3, A2, A1, Q20, Q19, Q18, Q17, Q16, Q15, Q14, Q13, Q12, Q11, Q10, Q9, Q8, Q7, Q6, Q5, Q4, Q3, Q2, Q1, Tbl0])

end
end Go.Proofs.YtoicheicnbjfeaaDoor
