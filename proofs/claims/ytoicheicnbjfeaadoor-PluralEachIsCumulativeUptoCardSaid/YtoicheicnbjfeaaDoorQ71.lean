import Derived.Test.YtoicheicnbjfeaaDoorAT
import Derived.Test.YtoicheicnbjfeaaDoorQ8
import Derived.Test.YtoicheicnbjfeaaDoorTR
import Derived.Test.YtoicheicnbjfeaaDoorAbs46
set_option linter.unusedSimpArgs false
namespace Go.Proofs.YtoicheicnbjfeaaDoor
open Go Go.Abs Go.Proofs

/-! ## comparisons, whatever the package's variables are -/
section
variable {G : Nat → List FD}
def A1 : Tbl := Q20.add 222 (sp1 (fun _ : Str => false) fun _ => True)
set_option maxRecDepth 100000 in
set_option maxHeartbeats 1000000 in
theorem hA1 : TblOk Tryd.prog G A1 := by
  refine sp1_ok ok222 (TblOk_glob hQ20) fun s _ _ => ?_
  refine Wcall_K (N := 6) hm (TblOk_glob hQ20) 222000 (lst []) ok222 Tryd.func222 rfl rfl (by simp) (by kernel_rfl) ?_
  repeat' (first | refine ReqK.i (by omega) fun _ => ?_ | simp only [go_sem, Tryd.f222, Q20, Q19, Q18, Q17, Q16, Q15, Q14, Q13, Q12, Q11, Q10, Q9, Q8, Q7, Q6, Q5, Q4, Q3, Q2, Q1, Tbl0])
def A2 : Tbl := A1.add 223 (sp1 (fun _ : Int => false) fun _ => True)
set_option maxRecDepth 100000 in
set_option maxHeartbeats 1000000 in
theorem hA2 : TblOk Tryd.prog G A2 := by
  refine sp1_ok ok223 hA1 fun s _ _ => ?_
  refine Wcall_K (N := 6) hm (G := G) hA1 223000 (lst []) ok223 Tryd.func223 rfl rfl (by simp) (by kernel_rfl) ?_
  repeat' (first | refine ReqK.i (by omega) fun _ => ?_ | simp only [go_sem, Tryd.f223, A1, Q20, Q19, Q18, Q17, Q16, Q15, Q14, Q13, Q12, Q11, Q10, Q9, Q8, Q7, Q6, Q5, Q4, Q3, Q2, Q1, Tbl0])
theorem cmpS_lt {a b : Str} (h : a.l < b.l) : cmpS a b = -1 := by unfold cmpS; rw [if_pos h]
theorem cmpS_gt {a b : Str} (h : ¬ a.l < b.l) (h2 : b.l < a.l) : cmpS a b = 1 := by unfold cmpS; rw [if_neg h, if_pos h2]
theorem cmpS_eq {a b : Str} (h : ¬ a.l < b.l) (h2 : ¬ b.l < a.l) : cmpS a b = 0 := by unfold cmpS; rw [if_neg h, if_neg h2]
def A3 : Tbl := A2.add 207 (sp2 cmpS fun _ _ => True)
set_option maxRecDepth 100000 in
set_option maxHeartbeats 1000000 in
theorem hA3 : TblOk Tryd.prog G A3 := by
  refine sp2_ok ok207 hA2 fun a b _ _ _ => ?_
  by_cases h : a.l < b.l
  · have e := cmpS_lt h
    have h' : Op.bytesLess a.l b.l = true := by rw [bytesLess_lt']; exact decide_eq_true h
    rw [e]
    refine Wcall_K (N := 20) hm (G := G) hA2 207000 (lst []) ok207 Tryd.func207 rfl rfl (by simp) (by kernel_rfl) ?_
    repeat' (first | refine ReqK.i (by omega) fun _ => ?_ | simp only [go_sem, h', Tryd.f207, A2, A1, Q20, Q19, Q18, Q17, Q16, Q15, Q14, Q13, Q12, Q11, Q10, Q9, Q8, Q7, Q6, Q5, Q4, Q3, Q2, Q1, Tbl0])
  · have h' : Op.bytesLess a.l b.l = false := by rw [bytesLess_lt']; exact decide_eq_false h
    by_cases h2 : b.l < a.l
    · have e := cmpS_gt h h2
      have h2' : (a.l == b.l) = false := by simpa using fun e => h (absurd h2 (by rw [e]; exact lt_irrefl' _))
      rw [e]
      refine Wcall_K (N := 20) hm (G := G) hA2 207000 (lst []) ok207 Tryd.func207 rfl rfl (by simp) (by kernel_rfl) ?_
      repeat' (first | refine ReqK.i (by omega) fun _ => ?_ | simp only [go_sem, h', h2', Tryd.f207, A2, A1, Q20, Q19, Q18, Q17, Q16, Q15, Q14, Q13, Q12, Q11, Q10, Q9, Q8, Q7, Q6, Q5, Q4, Q3, Q2, Q1, Tbl0])
    · have e := cmpS_eq h h2
      have h2' : (a.l == b.l) = true := by
        rcases str_tri a.l b.l with h3 | h3 | h3
        · exact absurd h3 h
        · simpa using h3
        · exact absurd h3 h2
      rw [e]
      refine Wcall_K (N := 20) hm (G := G) hA2 207000 (lst []) ok207 Tryd.func207 rfl rfl (by simp) (by kernel_rfl) ?_
      repeat' (first | refine ReqK.i (by omega) fun _ => ?_ | simp only [go_sem, h', h2', Tryd.f207, A2, A1, Q20, Q19, Q18, Q17, Q16, Q15, Q14, Q13, Q12, Q11, Q10, Q9, Q8, Q7, Q6, Q5, Q4, Q3, Q2, Q1, Tbl0])
def A4 : Tbl := A3.add 208 (sp2 cmpI fun _ _ => True)
set_option maxRecDepth 100000 in
set_option maxHeartbeats 1000000 in
theorem hA4 : TblOk Tryd.prog G A4 := by
  refine sp2_ok ok208 hA3 fun a b _ _ _ => ?_
  have hc : (a < b ∧ cmpI a b = -1) ∨ (b < a ∧ ¬ a < b ∧ cmpI a b = 1) ∨ (¬ a < b ∧ ¬ b < a ∧ cmpI a b = 0) := by
    unfold cmpI; split
    · omega
    · split <;> omega
  rcases hc with ⟨h, e⟩ | ⟨h2, h, e⟩ | ⟨h, h2, e⟩
  · rw [e]
    refine Wcall_K (N := 20) hm (G := G) hA3 208000 (lst []) ok208 Tryd.func208 rfl rfl (by simp) (by kernel_rfl) ?_
    repeat' (first | refine ReqK.i (by omega) fun _ => ?_ | simp only [go_sem, h, Tryd.f208, A3, A2, A1, Q20, Q19, Q18, Q17, Q16, Q15, Q14, Q13, Q12, Q11, Q10, Q9, Q8, Q7, Q6, Q5, Q4, Q3, Q2, Q1, Tbl0])
  · rw [e]
    refine Wcall_K (N := 20) hm (G := G) hA3 208000 (lst []) ok208 Tryd.func208 rfl rfl (by simp) (by kernel_rfl) ?_
    repeat' (first | refine ReqK.i (by omega) fun _ => ?_ | simp only [go_sem, h, h2, Tryd.f208, A3, A2, A1, Q20, Q19, Q18, Q17, Q16, Q15, Q14, Q13, Q12, Q11, Q10, Q9, Q8, Q7, Q6, Q5, Q4, Q3, Q2, Q1, Tbl0])
  · rw [e]
    refine Wcall_K (N := 20) hm (G := G) hA3 208000 (lst []) ok208 Tryd.func208 rfl rfl (by simp) (by kernel_rfl) ?_
    repeat' (first | refine ReqK.i (by omega) fun _ => ?_ | simp only [go_sem, h, h2, Tryd.f208, A3, A2, A1, Q20, Q19, Q18, Q17, Q16, Q15, Q14, Q13, Q12, Q11, Q10, Q9, Q8, Q7, Q6, Q5, Q4, Q3, Q2, Q1, Tbl0])
/-- the first that is not zero -/
def orM : List Int → Int
  | [] => 0
  | a :: l => if a ≠ 0 then a else orM l
theorem orM_at {l : List Int} {i : Nat} (h : i < l.length) (h2 : ∀ j (hj : j < l.length), j < i → l[j] = 0) (h3 : l[i] ≠ 0) : orM l = l[i] := by
  induction l generalizing i with
  | nil => simp at h
  | cons a l ih =>
    cases i with
    | zero => rw [orM]; simp only [List.getElem_cons_zero] at h3 ⊢; rw [if_pos h3]
    | succ i =>
      have h0 := h2 0 (by simp) (by omega)
      simp only [List.getElem_cons_zero] at h0
      rw [orM, if_neg (by simp [h0])]
      simp only [List.getElem_cons_succ] at h3 ⊢
      exact ih (by simpa using h) (fun j hj hji => by have := h2 (j + 1) (by simpa using hj) (by omega); simpa using this) h3
theorem orM_none {l : List Int} (h2 : ∀ j (hj : j < l.length), l[j] = 0) : orM l = 0 := by
  induction l with
  | nil => rfl
  | cons a l ih =>
    have h0 := h2 0 (by simp)
    simp only [List.getElem_cons_zero] at h0
    rw [orM, if_neg (by simp [h0])]
    exact ih fun j hj => by have := h2 (j + 1) (by simpa using hj); simpa using this
def A5 : Tbl := A4.add 206 (sp1 orM fun _ => True)
set_option maxRecDepth 100000 in
set_option maxHeartbeats 1000000 in
theorem hA5 : TblOk Tryd.prog G A5 := by
  refine sp1_ok ok206 hA4 fun l _ hw => ?_
  have la := Wf_sl hw
  simp only [List.length_map, maxL] at la
  obtain ⟨r, hr⟩ : ∃ r, orM l = r := ⟨_, rfl⟩
  have h1 : ∀ i (h : i < l.length), (∀ j (hj : j < l.length), j < i → l[j] = 0) → l[i] ≠ 0 → l[i] = r := fun i h a b => by rw [← hr, orM_at h a b]
  have h2 : (∀ j (hj : j < l.length), l[j] = 0) → r = 0 := fun h => by rw [← hr, orM_none h]
  have k1 := Kp.mk h1
  have k2 := Kp.mk h2
  rw [hr]
  clear h1 h2 hr
  refine Wcall_K (N := 18) hm (G := G) hA4 206000 (lst []) ok206 Tryd.func206 rfl rfl (by simp) (by kernel_rfl) ?_
  repeat' (first | refine ReqK.i (by omega) fun _ => ?_ | simp only [go_sem, Tryd.f206, A4, A3, A2, A1, Q20, Q19, Q18, Q17, Q16, Q15, Q14, Q13, Q12, Q11, Q10, Q9, Q8, Q7, Q6, Q5, Q4, Q3, Q2, Q1, Tbl0])
  refine WK_loop hm (G := G) hA4 206000 (lst []) (ι := LoopI l.length fun i => ∀ j (hj : j < l.length), j < i → l[j] = 0)
    ⟨fun q => ⟨frL [(3, .fz (.i .i64 0)), (6, .fz (.sl (l.map enc))), (7, .fz (.i .i64 l.length)), (8, .fz (.i .i64 q.i))], hpL [], 0⟩, fun q => l.length - q.i⟩
    ⟨0, by omega, fun j hj h => by omega⟩ (by kernel_rfl) ?_ ?_
  · refine Weak_to ?_ ?_ ?_ <;> simp only [go_sem]
  rintro ⟨i, hi, hp⟩
  try simp only at hi
  rcases Nat.lt_or_ge i l.length with h | h
  · obtain ⟨x, hx⟩ : ∃ x, l[i] = x := ⟨_, rfl⟩
    by_cases h0 : x = 0
    · have hp2 : ∀ j (hj : j < l.length), j < i + 1 → l[j] = 0 := fun j hj h3 => by
        rcases Nat.lt_or_ge j i with h4 | h4
        · exact hp j hj h4
        · obtain rfl : j = i := by omega
          rw [hx, h0]
      have kp := Kp.mk hp2
      clear hp2
      repeat' (first | refine ReqK.i (by omega) fun _ => ?_ | simp only [go_sem, h, hx, h0, getD_map_lt, Tryd.f206, A4, A3, A2, A1, Q20, Q19, Q18, Q17, Q16, Q15, Q14, Q13, Q12, Q11, Q10, Q9, Q8, Q7, Q6, Q5, Q4, Q3, Q2, Q1, Tbl0])
      refine ⟨⟨i + 1, by omega, kp.out⟩, by simp only; omega, ?_⟩
      refine Weak_to ?_ ?_ ?_ <;> simp only [go_sem]
    · have e := k1.out i h hp (by rw [hx]; exact h0)
      rw [hx] at e
      subst e
      clear k1 k2
      repeat' (first | refine ReqK.i (by omega) fun _ => ?_ | simp only [go_sem, h, hx, h0, getD_map_lt, Tryd.f206, A4, A3, A2, A1, Q20, Q19, Q18, Q17, Q16, Q15, Q14, Q13, Q12, Q11, Q10, Q9, Q8, Q7, Q6, Q5, Q4, Q3, Q2, Q1, Tbl0])
  · obtain rfl : i = l.length := by omega
    have e := k2.out fun j hj => hp j hj hj
    subst e
    repeat' (first | refine ReqK.i (by omega) fun _ => ?_ | simp only [go_sem, Nat.lt_irrefl, Tryd.f206, A4, A3, A2, A1, Q20, Q19, Q18, Q17, Q16, Q15, Q14, Q13, Q12, Q11, Q10, Q9, Q8, Q7, Q6, Q5, Q4, Q3, Q2, Q1, Tbl0])
theorem orM_two {a b : Int} : orM [a, b] = if a ≠ 0 then a else b := by
  rw [orM, orM, orM]
  split
  · rfl
  · split
    · rfl
    · rename_i h; exact (Decidable.not_not.1 h).symm
theorem cmpR_or (a b : MRel) : orM [cmpS a.name b.name, cmpI a.arity b.arity] = cmpR a b := by rw [orM_two]; rfl
def A6 : Tbl := A5.add 172 (sp2 cmpR fun _ _ => True)
set_option maxRecDepth 100000 in
set_option maxHeartbeats 1000000 in
theorem hA6 : TblOk Tryd.prog G A6 := by
  refine sp2_ok ok172 hA5 fun a b _ _ _ => ?_
  have e := cmpR_or a b
  refine Wcall_K (N := 17) hm (G := G) hA5 172000 (lst []) ok172 Tryd.func172 rfl rfl (by simp) (by kernel_rfl) ?_
  repeat' (first | refine ReqK.i (by omega) fun _ => ?_ | refine ReqK.i (by unfold maxL; omega) fun _ => ?_ | simp only [go_sem, e, str_eta, Tryd.f172, A5, A4, A3, A2, A1, Q20, Q19, Q18, Q17, Q16, Q15, Q14, Q13, Q12, Q11, Q10, Q9, Q8, Q7, Q6, Q5, Q4, Q3, Q2, Q1, Tbl0])
end
end Go.Proofs.YtoicheicnbjfeaaDoor
