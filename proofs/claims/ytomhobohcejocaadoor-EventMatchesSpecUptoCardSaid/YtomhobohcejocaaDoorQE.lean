/- several texts of this proof in one; no conditions -/
import Derived.Test.YtomhobohcejocaaDoorQ36
import Derived.Test.YtomhobohcejocaaDoorEV
import Derived.Test.YtomhobohcejocaaDoorAbs45
set_option linter.unusedSimpArgs false
namespace Go.Proofs.YtomhobohcejocaaDoor
open Go Go.Abs Go.Proofs

section
variable {P : Program} {G : Nat → List FD} {T : Tbl}
/-- a recursive function of two arguments -/
theorem sp2_rec {α β ρ : Type} [Enc α] [Enc β] [Enc ρ] {f : FuncId} {g : α → β → ρ} (m : α → Nat) (hc : CallOk P f) (hT : TblOk P G T)
    (h : ∀ n, TblOk P G (T.add f (sp2 g fun a _ => m a < n)) → ∀ a b, m a = n → (enc a).Wf → (enc b).Wf → Wcall P G f [.fz (enc a), .fz (enc b)] (hpL []) 0 (fun d _ _ => D.val d = some (.fz (enc (g a b))))) : TblOk P G (T.add f (sp2 g fun _ _ => True)) := by
  have key : ∀ n, TblOk P G (T.add f (sp2 g fun a _ => m a < n)) := by
    intro n
    induction n with
    | zero => exact sp2_ok hc hT fun a _ ha => by omega
    | succ n ih =>
      refine sp2_ok hc hT fun a b ha hw hw2 => ?_
      rcases Nat.lt_or_ge (m a) n with h3 | h3
      · have h4 := ih f (sp2 g fun a _ => m a < n) [enc a, enc b] _ _ (by simp [Tbl.add]) (k_sp2) ⟨by rw [dec_enc], by rw [dec_enc], by rw [dec_enc]; exact h3⟩
        rw [dec_enc, dec_enc, H0_eq] at h4
        exact h4
      · exact h n ih a b (by omega) hw hw2
  exact sp2_ok hc hT fun a b _ hw hw2 => h (m a) (key _) a b rfl hw hw2
end
theorem form_ext {a b : Abs.Form} (h1 : a.kind = b.kind) (h2 : a.name = b.name) (h3 : a.words = b.words) (h4 : a.subs = b.subs) : a = b := by
  cases a; cases b; simp only [form_kind, form_name, form_words, form_subs] at *; subst h1 h2 h3 h4; rfl
theorem eq_of_take {α : Type} {a b : List α} (h : a.length = b.length) (h2 : a.take a.length = b.take a.length) : a = b := by
  rw [List.take_length] at h2
  rw [h, List.take_length] at h2
  exact h2
def R27 : Tbl := R22.add 41 (sp2 (fun a b : Abs.Form => decide (a = b)) fun _ _ => True)
set_option maxRecDepth 100000 in
set_option maxHeartbeats 1000000 in
theorem hR27 : TblOk Tryd.prog GA R27 := by
  refine sp2_rec Form.size ok41 hR22 fun n hT a b hn hwa hwb => ?_
  obtain ⟨Q, hQ⟩ : ∃ Q : D → Heap → Nat → Prop, Q = (fun d _ _ => D.val d = some (.fz (enc (decide (a = b))))) := ⟨_, rfl⟩
  rw [← hQ]
  have hf : a ≠ b → ∀ {H' n'}, Q (.fz (.b false)) H' n' := fun h H' n' => by rw [hQ]; show _ = some (D.fz (.b (decide (a = b)))); rw [decide_eq_false h]; rfl
  have ht : a = b → ∀ {H' n'}, Q (.fz (.b true)) H' n' := fun h H' n' => by rw [hQ]; show _ = some (D.fz (.b (decide (a = b)))); rw [decide_eq_true h]; rfl
  have hsl : a.subs.length ≤ maxL := by
    have h := Wf_agg (by have h := hwa; rw [enc_form] at h; exact h) (FD.sl (a.subs.map enc)) (by simp)
    have := Wf_sl h
    simpa using this
  unfold maxL at hsl
  have hsz : ∀ g ∈ a.subs, g.size < n := fun g hg => by have := Form.size_sub hg; omega
  have kf := Kp.mk @hf
  have kt := Kp.mk @ht
  have kz := Kp.mk hsz
  have kT := Kp.mk hT
  clear hf ht hQ hwa hwb hsz hT
  refine Wcall_K (N := 54) hm kT.out 41000 (lst []) ok41 Tryd.func41 rfl rfl (by simp) (by kernel_rfl) ?_
  repeat' (first | refine CondK.d (fun _ => ?_) (fun _ => ?_) | refine CondK.i (fun _ => ?_) (fun _ => ?_) | refine ReqK.i (by omega) fun _ => ?_ | simp only [go_sem, reduceIte, reduceCtorEq, Nat.reduceEqDiff, Nat.reduceAdd, Nat.reduceSub, Nat.reduceMul, Nat.reduceDiv, Nat.reduceMod, Nat.reduceLT, Nat.reduceLeDiff, Nat.reduceBEq, Nat.reducePow, Int.reduceLE, Int.reduceLT, Int.reduceEq, Int.reduceNeg, Int.reduceAdd, Int.reduceToNat, Tryd.f41, R22, R21, R20, R19, R18, R17, R16, R15, R14, R13, R12, R11, R10, R9, R8, R7, R6, R5, R4, R3, R2, R1, Q20, Q19, Q18, Q17, Q16, Q15, Q14, Q13, Q12, Q11, Q10, Q9, Q8, Q7, Q6, Q5, Q4, Q3, Q2, Q1, Tbl0, *])
  all_goals try (refine kf.out (fun e => ?_); subst e; contradiction)
  rename_i e1 e2 e3 e4
  have hlen : a.subs.length = b.subs.length := by omega
  refine WK_loop hm kT.out 41000 (lst []) (ι := LoopI a.subs.length fun i => a.subs.take i = b.subs.take i)
    ⟨fun q => ⟨frL [(2, .ptr (41002, 0) 0), (3, .ptr (41003, 1) 0), (37, .fz (.i .i64 a.subs.length)), (38, .fz (.i .i64 q.i))],
      hpL [((41002, 0), some ⟨[.fz (.i .i64 a.kind), .fz (.s a.name.l), .fz (.sl (a.words.map enc)), .fz (.sl (a.subs.map enc))], true, false⟩), ((41003, 1), some ⟨[.fz (.i .i64 b.kind), .fz (.s b.name.l), .fz (.sl (b.words.map enc)), .fz (.sl (b.subs.map enc))], true, false⟩)], 2⟩, fun q => a.subs.length - q.i⟩
    ⟨0, by omega, rfl⟩ (by kernel_rfl) ?_ ?_
  · refine Weak_to ?_ ?_ ?_ <;> simp only [go_sem, reduceIte, reduceCtorEq, Nat.reduceEqDiff, Nat.reduceAdd, Nat.reduceSub, Nat.reduceMul, Nat.reduceDiv, Nat.reduceMod, Nat.reduceLT, Nat.reduceLeDiff, Nat.reduceBEq, Nat.reducePow, Int.reduceLE, Int.reduceLT, Int.reduceEq, Int.reduceNeg, Int.reduceAdd, Int.reduceToNat, *]
  rintro ⟨i, hi, hpi⟩
  rcases Nat.lt_or_ge i a.subs.length with h1 | h1
  · have h2 : i < b.subs.length := by omega
    obtain ⟨x, hx⟩ : ∃ x, a.subs[i] = x := ⟨_, rfl⟩
    obtain ⟨y, hy⟩ : ∃ y, b.subs[i] = y := ⟨_, rfl⟩
    have hxs : x.size < n := kz.out x (by rw [← hx]; exact List.getElem_mem h1)
    by_cases hxy : x = y
    · repeat' (first | refine ReqK.i (by omega) fun _ => ?_ | simp only [go_sem, reduceIte, reduceCtorEq, Nat.reduceEqDiff, Nat.reduceAdd, Nat.reduceSub, Nat.reduceMul, Nat.reduceDiv, Nat.reduceMod, Nat.reduceLT, Nat.reduceLeDiff, Nat.reduceBEq, Nat.reducePow, Int.reduceLE, Int.reduceLT, Int.reduceEq, Int.reduceNeg, Int.reduceAdd, Int.reduceToNat, h1, h2, hx, hy, hxs, eq_true hxy, getD_map_lt, Tryd.f41, R22, R21, R20, R19, R18, R17, R16, R15, R14, R13, R12, R11, R10, R9, R8, R7, R6, R5, R4, R3, R2, R1, Q20, Q19, Q18, Q17, Q16, Q15, Q14, Q13, Q12, Q11, Q10, Q9, Q8, Q7, Q6, Q5, Q4, Q3, Q2, Q1, Tbl0])
      refine ⟨⟨i + 1, by omega, ?_⟩, by simp only; omega, ?_⟩
      · rw [List.take_succ_eq_append_getElem h1, List.take_succ_eq_append_getElem h2, hpi, hx, hy, hxy]
      · refine Weak_to ?_ ?_ ?_ <;> simp only [go_sem, reduceIte, reduceCtorEq, Nat.reduceEqDiff, Nat.reduceAdd, Nat.reduceSub, Nat.reduceMul, Nat.reduceDiv, Nat.reduceMod, Nat.reduceLT, Nat.reduceLeDiff, Nat.reduceBEq, Nat.reducePow, Int.reduceLE, Int.reduceLT, Int.reduceEq, Int.reduceNeg, Int.reduceAdd, Int.reduceToNat]
    · repeat' (first | refine ReqK.i (by omega) fun _ => ?_ | simp only [go_sem, reduceIte, reduceCtorEq, Nat.reduceEqDiff, Nat.reduceAdd, Nat.reduceSub, Nat.reduceMul, Nat.reduceDiv, Nat.reduceMod, Nat.reduceLT, Nat.reduceLeDiff, Nat.reduceBEq, Nat.reducePow, Int.reduceLE, Int.reduceLT, Int.reduceEq, Int.reduceNeg, Int.reduceAdd, Int.reduceToNat, h1, h2, hx, hy, hxs, eq_false hxy, getD_map_lt, Tryd.f41, R22, R21, R20, R19, R18, R17, R16, R15, R14, R13, R12, R11, R10, R9, R8, R7, R6, R5, R4, R3, R2, R1, Q20, Q19, Q18, Q17, Q16, Q15, Q14, Q13, Q12, Q11, Q10, Q9, Q8, Q7, Q6, Q5, Q4, Q3, Q2, Q1, Tbl0])
      exact kf.out fun e => hxy (by subst e; rw [← hx, ← hy])
  · have h1' : ¬ i < a.subs.length := by omega
    obtain rfl : i = a.subs.length := by omega
    repeat' (first | refine ReqK.i (by omega) fun _ => ?_ | simp only [go_sem, reduceIte, reduceCtorEq, Nat.reduceEqDiff, Nat.reduceAdd, Nat.reduceSub, Nat.reduceMul, Nat.reduceDiv, Nat.reduceMod, Nat.reduceLT, Nat.reduceLeDiff, Nat.reduceBEq, Nat.reducePow, Int.reduceLE, Int.reduceLT, Int.reduceEq, Int.reduceNeg, Int.reduceAdd, Int.reduceToNat, Nat.lt_irrefl, h1', Tryd.f41])
    exact kt.out (form_ext e1 e2 e3 (eq_of_take hlen hpi))

def twoM (k : Int) (f g : Abs.Form) : Abs.Form := .mk k ⟨[]⟩ [] [f, g]
def R28 : Tbl := R27.add 49 (sp3 twoM fun _ _ _ => True)
set_option maxRecDepth 100000 in
set_option maxHeartbeats 1000000 in
theorem hR28 : TblOk Tryd.prog GA R28 := by
  refine sp3_ok ok49 hR27 fun k f g _ _ _ _ => ?_
  simp only [twoM]
  refine Wcall_K (N := 12) hm hR27 49000 (lst []) ok49 Tryd.func49 rfl rfl (by simp) (by kernel_rfl) ?_
  repeat' (first | refine ReqK.i (by omega) fun _ => ?_ | refine ReqK.i (by unfold maxL; omega) fun _ => ?_ | simp only [go_sem, reduceIte, reduceCtorEq, Nat.reduceEqDiff, Nat.reduceAdd, Nat.reduceSub, Nat.reduceMul, Nat.reduceDiv, Nat.reduceMod, Nat.reduceLT, Nat.reduceLeDiff, Nat.reduceBEq, Nat.reducePow, Int.reduceLE, Int.reduceLT, Int.reduceEq, Int.reduceNeg, Int.reduceAdd, Int.reduceToNat, form_eta, Tryd.f49, R27, R22, R21, R20, R19, R18, R17, R16, R15, R14, R13, R12, R11, R10, R9, R8, R7, R6, R5, R4, R3, R2, R1, Q20, Q19, Q18, Q17, Q16, Q15, Q14, Q13, Q12, Q11, Q10, Q9, Q8, Q7, Q6, Q5, Q4, Q3, Q2, Q1, Tbl0])

def tree503 : Tv := (.q 0 (.br [(1, (.br [(2, (.br [(3, .leaf)]))])), (2, (.q 1 (.br [(3, .leaf)])))]))
theorem list_ne {α : Type} {l : List α} (h : 1 ≤ l.length) : l ≠ [] := fun e => by rw [e] at h; simp at h
theorem doneR_eq {f : Abs.Form} (h : clean f) : doneR f = doneF f := by
  unfold doneR doneF; rw [← canon_with h (by simp) (by simp)]
def sWalk : Str := ⟨[119, 97, 108, 107]⟩
def sKim : Str := ⟨[107, 105, 109]⟩
theorem zero_mk : Abs.Form.mk 0 ⟨[]⟩ [] [] = zeroF := rfl
end Go.Proofs.YtomhobohcejocaaDoor

namespace Go.Proofs.YtomhobohcejocaaDoor
open Go Go.Abs Go.Proofs

/-! ## small functions of the package event, and of the document -/
def V29 : Tbl := R28.add 128 (sp2 predM fun _ _ => True)
set_option maxRecDepth 100000 in
set_option maxHeartbeats 1000000 in
theorem hV29 : TblOk Tryd.prog GA V29 := by
  refine sp2_ok ok128 hR28 fun nm w _ _ hs => ?_
  refine Wcall_K (N := 8) hm hR28 128000 (lst []) ok128 Tryd.func128 rfl rfl (by simp) (by kernel_rfl) ?_
  repeat' (first | refine ReqK.i (by omega) fun _ => ?_ | refine ReqK.i (by unfold maxL; omega) fun _ => ?_ | simp only [go_sem, reduceIte, reduceCtorEq, Nat.reduceEqDiff, Nat.reduceAdd, Nat.reduceSub, Nat.reduceMul, Nat.reduceDiv, Nat.reduceMod, Nat.reduceLT, Nat.reduceLeDiff, Nat.reduceBEq, Nat.reducePow, Int.reduceLE, Int.reduceLT, Int.reduceEq, Int.reduceNeg, Int.reduceAdd, Int.reduceToNat, Tryd.f128, predM])
def V30 : Tbl := V29.add 129 (sp2 andF fun _ _ => True)
set_option maxRecDepth 100000 in
set_option maxHeartbeats 1000000 in
theorem hV30 : TblOk Tryd.prog GA V30 := by
  refine sp2_ok ok129 hV29 fun f g _ _ _ => ?_
  simp only [andF]
  refine Wcall_K (N := 9) hm hV29 129000 (lst []) ok129 Tryd.func129 rfl rfl (by simp) (by kernel_rfl) ?_
  repeat' (first | refine ReqK.i (by omega) fun _ => ?_ | refine ReqK.i (by unfold maxL; omega) fun _ => ?_ | simp only [go_sem, reduceIte, reduceCtorEq, Nat.reduceEqDiff, Nat.reduceAdd, Nat.reduceSub, Nat.reduceMul, Nat.reduceDiv, Nat.reduceMod, Nat.reduceLT, Nat.reduceLeDiff, Nat.reduceBEq, Nat.reducePow, Int.reduceLE, Int.reduceLT, Int.reduceEq, Int.reduceNeg, Int.reduceAdd, Int.reduceToNat, form_eta, Tryd.f129, V29, R28, R27, R22, R21, R20, R19, R18, R17, R16, R15, R14, R13, R12, R11, R10, R9, R8, R7, R6, R5, R4, R3, R2, R1, Q20, Q19, Q18, Q17, Q16, Q15, Q14, Q13, Q12, Q11, Q10, Q9, Q8, Q7, Q6, Q5, Q4, Q3, Q2, Q1, Tbl0])
def argI (i : Int) : Str := argS i.toNat
def V31 : Tbl := V30.add 130 (sp1 argI fun i => 0 ≤ i ∧ i ≤ 1000)
set_option maxRecDepth 100000 in
set_option maxHeartbeats 1000000 in
theorem hV31 : TblOk Tryd.prog GA V31 := by
  refine sp1_ok ok130 hV30 fun i hi _ => ?_
  obtain ⟨k, rfl⟩ : ∃ k : Nat, i = (k : Int) := ⟨i.toNat, by omega⟩
  have hdl := digits_len (k + 1)
  have e : argI (k : Int) = argS k := rfl
  have e2 : (argS k).l = 97 :: 114 :: 103 :: digits (k + 1) := rfl
  have e3 : (itoaS ((k : Int) + 1)).l = digits (k + 1) := itoaS_nat (k + 1)
  rw [e]
  refine Wcall_K (N := 7) hm hV30 130000 (lst []) ok130 Tryd.func130 rfl rfl (by simp) (by kernel_rfl) ?_
  repeat' (first | refine ReqK.i ⟨by omega, by omega⟩ fun _ => ?_ | refine ReqK.i (by omega) fun _ => ?_ | refine ReqK.i (by unfold maxL; omega) fun _ => ?_ | simp only [go_sem, reduceIte, reduceCtorEq, Nat.reduceEqDiff, Nat.reduceAdd, Nat.reduceSub, Nat.reduceMul, Nat.reduceDiv, Nat.reduceMod, Nat.reduceLT, Nat.reduceLeDiff, Nat.reduceBEq, Nat.reducePow, Int.reduceLE, Int.reduceLT, Int.reduceEq, Int.reduceNeg, Int.reduceAdd, Int.reduceToNat, e2, e3, Tryd.f130, V30, V29, R28, R27, R22, R21, R20, R19, R18, R17, R16, R15, R14, R13, R12, R11, R10, R9, R8, R7, R6, R5, R4, R3, R2, R1, Q20, Q19, Q18, Q17, Q16, Q15, Q14, Q13, Q12, Q11, Q10, Q9, Q8, Q7, Q6, Q5, Q4, Q3, Q2, Q1, Tbl0])
def V32 : Tbl := V31.add 135 (sp1 argI fun i => 0 ≤ i ∧ i ≤ 2)
set_option maxRecDepth 100000 in
set_option maxHeartbeats 1000000 in
theorem hV32 : TblOk Tryd.prog GA V32 := by
  refine sp1_ok ok135 hV31 fun i hi _ => ?_
  have h3 : i = 0 ∨ i = 1 ∨ i = 2 := by omega
  have a0 : argI 0 = ⟨[97, 114, 103, 49]⟩ := by show argS 0 = _; unfold argS; rw [digits_small (by decide)]; rfl
  have a1 : argI 1 = ⟨[97, 114, 103, 50]⟩ := by show argS 1 = _; unfold argS; rw [digits_small (by decide)]; rfl
  have a2 : argI 2 = ⟨[97, 114, 103, 51]⟩ := by show argS 2 = _; unfold argS; rw [digits_small (by decide)]; rfl
  rcases h3 with rfl | rfl | rfl
  · rw [a0]
    refine Wcall_K (N := 7) hm hV31 135000 (lst []) ok135 Tryd.func135 rfl rfl (by simp) (by kernel_rfl) ?_
    repeat' (first | refine ReqK.i (by omega) fun _ => ?_ | refine ReqK.i (by unfold maxL; omega) fun _ => ?_ | simp only [go_sem, reduceIte, reduceCtorEq, Nat.reduceEqDiff, Nat.reduceAdd, Nat.reduceSub, Nat.reduceMul, Nat.reduceDiv, Nat.reduceMod, Nat.reduceLT, Nat.reduceLeDiff, Nat.reduceBEq, Nat.reducePow, Int.reduceLE, Int.reduceLT, Int.reduceEq, Int.reduceNeg, Int.reduceAdd, Int.reduceToNat, Tryd.f135, V31, V30, V29, R28, R27, R22, R21, R20, R19, R18, R17, R16, R15, R14, R13, R12, R11, R10, R9, R8, R7, R6, R5, R4, R3, R2, R1, Q20, Q19, Q18, Q17, Q16, Q15, Q14, Q13, Q12, Q11, Q10, Q9, Q8, Q7, Q6, Q5, Q4, Q3, Q2, Q1, Tbl0])
  · rw [a1]
    refine Wcall_K (N := 7) hm hV31 135000 (lst []) ok135 Tryd.func135 rfl rfl (by simp) (by kernel_rfl) ?_
    repeat' (first | refine ReqK.i (by omega) fun _ => ?_ | refine ReqK.i (by unfold maxL; omega) fun _ => ?_ | simp only [go_sem, reduceIte, reduceCtorEq, Nat.reduceEqDiff, Nat.reduceAdd, Nat.reduceSub, Nat.reduceMul, Nat.reduceDiv, Nat.reduceMod, Nat.reduceLT, Nat.reduceLeDiff, Nat.reduceBEq, Nat.reducePow, Int.reduceLE, Int.reduceLT, Int.reduceEq, Int.reduceNeg, Int.reduceAdd, Int.reduceToNat, Tryd.f135, V31, V30, V29, R28, R27, R22, R21, R20, R19, R18, R17, R16, R15, R14, R13, R12, R11, R10, R9, R8, R7, R6, R5, R4, R3, R2, R1, Q20, Q19, Q18, Q17, Q16, Q15, Q14, Q13, Q12, Q11, Q10, Q9, Q8, Q7, Q6, Q5, Q4, Q3, Q2, Q1, Tbl0])
  · rw [a2]
    refine Wcall_K (N := 7) hm hV31 135000 (lst []) ok135 Tryd.func135 rfl rfl (by simp) (by kernel_rfl) ?_
    repeat' (first | refine ReqK.i (by omega) fun _ => ?_ | refine ReqK.i (by unfold maxL; omega) fun _ => ?_ | simp only [go_sem, reduceIte, reduceCtorEq, Nat.reduceEqDiff, Nat.reduceAdd, Nat.reduceSub, Nat.reduceMul, Nat.reduceDiv, Nat.reduceMod, Nat.reduceLT, Nat.reduceLeDiff, Nat.reduceBEq, Nat.reducePow, Int.reduceLE, Int.reduceLT, Int.reduceEq, Int.reduceNeg, Int.reduceAdd, Int.reduceToNat, Tryd.f135, V31, V30, V29, R28, R27, R22, R21, R20, R19, R18, R17, R16, R15, R14, R13, R12, R11, R10, R9, R8, R7, R6, R5, R4, R3, R2, R1, Q20, Q19, Q18, Q17, Q16, Q15, Q14, Q13, Q12, Q11, Q10, Q9, Q8, Q7, Q6, Q5, Q4, Q3, Q2, Q1, Tbl0])
def V33 : Tbl := V32.add 125 (sp1p (fun f : Abs.Form => (doneF f, doneE f)) szPre)
set_option maxRecDepth 100000 in
set_option maxHeartbeats 1000000 in
theorem hV33 : TblOk Tryd.prog GA V33 := by
  refine sp1p_ok ok125 hV32 fun f hpre hw => ?_
  cases hf : fitsM f with
  | true =>
    have h1 := of_decide_eq_true hf
    have hp : f.fit = true ∧ f.size ≤ 1000 := ⟨hpre.1, by omega⟩
    have e1 : doneF f = canonM f [] := by unfold doneF; rw [if_pos hf]
    have e2 : doneE f = ⟨0, 0⟩ := by unfold doneE; rw [if_pos hf]
    obtain ⟨c, hc⟩ : ∃ c, canonM f [] = c := ⟨_, rfl⟩
    simp only [e1, e2, hc]
    refine Wcall_K (N := 12) hm hV32 125000 (lst []) ok125 Tryd.func125 rfl rfl (by simp) (by kernel_rfl) ?_
    repeat' (first | refine ReqK.i hpre fun _ => ?_ | refine ReqK.i hp fun _ => ?_ | refine ReqK.i (by omega) fun _ => ?_ | refine ReqK.i (by unfold maxL; omega) fun _ => ?_ | simp only [go_sem, reduceIte, reduceCtorEq, Nat.reduceEqDiff, Nat.reduceAdd, Nat.reduceSub, Nat.reduceMul, Nat.reduceDiv, Nat.reduceMod, Nat.reduceLT, Nat.reduceLeDiff, Nat.reduceBEq, Nat.reducePow, Int.reduceLE, Int.reduceLT, Int.reduceEq, Int.reduceNeg, Int.reduceAdd, Int.reduceToNat, hf, hc, form_eta, Tryd.f125, V32, V31, V30, V29, R28, R27, R22, R21, R20, R19, R18, R17, R16, R15, R14, R13, R12, R11, R10, R9, R8, R7, R6, R5, R4, R3, R2, R1, Q20, Q19, Q18, Q17, Q16, Q15, Q14, Q13, Q12, Q11, Q10, Q9, Q8, Q7, Q6, Q5, Q4, Q3, Q2, Q1, Tbl0])
  | false =>
    have e1 : doneF f = zeroF := by unfold doneF; rw [if_neg (by simp [hf])]
    have e2 : doneE f = ⟨1, -1⟩ := by unfold doneE; rw [if_neg (by simp [hf])]
    simp only [e1, e2, zeroF]
    refine Wcall_K (N := 12) hm hV32 125000 (lst []) ok125 Tryd.func125 rfl rfl (by simp) (by kernel_rfl) ?_
    repeat' (first | refine ReqK.i hpre fun _ => ?_ | refine ReqK.i (by omega) fun _ => ?_ | refine ReqK.i (by unfold maxL; omega) fun _ => ?_ | simp only [go_sem, reduceIte, reduceCtorEq, Nat.reduceEqDiff, Nat.reduceAdd, Nat.reduceSub, Nat.reduceMul, Nat.reduceDiv, Nat.reduceMod, Nat.reduceLT, Nat.reduceLeDiff, Nat.reduceBEq, Nat.reducePow, Int.reduceLE, Int.reduceLT, Int.reduceEq, Int.reduceNeg, Int.reduceAdd, Int.reduceToNat, hf, form_eta, Tryd.f125, V32, V31, V30, V29, R28, R27, R22, R21, R20, R19, R18, R17, R16, R15, R14, R13, R12, R11, R10, R9, R8, R7, R6, R5, R4, R3, R2, R1, Q20, Q19, Q18, Q17, Q16, Q15, Q14, Q13, Q12, Q11, Q10, Q9, Q8, Q7, Q6, Q5, Q4, Q3, Q2, Q1, Tbl0])
end Go.Proofs.YtomhobohcejocaaDoor

namespace Go.Proofs.YtomhobohcejocaaDoor
open Go Go.Abs Go.Proofs

section
variable {P : Program} {G : Nat → List FD}
/-- a call that makes a row of its own -/
theorem Wcall_own1 {f : FuncId} {args : List D} {xs ys : List FD} {H : Heap} {n t es : Nat} {R : D → Heap → Nat → Prop} (ha : D.toFDs args = some xs)
    (h : Wcall P G f (xs.map .fz) H0 0 (fun d H1 n1 => ∃ g, g < n1 ∧ d = .ow (t, g) es ys ∧ H1 (t, g) = some tok)) (hR : ∀ g n', n ≤ g → g < n' → R (.ow (t, g) es ys) (hpX [((t, g), some tok)] H) n') : Wcall P G f args H n R := by
  refine Wcall_fresh h.1 fun hfr => Wcall_post (Wcall_own ha h) ?_
  rintro d H' n' ⟨d1, H1, n1, ⟨g, hg, rfl, ho⟩, rfl, rfl, rfl⟩
  have hsh : shH n H H1 (t, g + n) = some tok := by
    unfold shH
    rw [if_pos (by simp), show (t, g + n - n) = (t, g) by rw [Nat.add_sub_cancel], ho]
    rfl
  refine ⟨.ow (t, g + n) es ys, hpX [((t, g + n), some tok)] H, n + n1, Weak_toH ?_ (fun id o hid => ?_) (Nat.le_refl _), hR (g + n) (n + n1) (by omega) (by omega)⟩
  · exact ⟨rfl, trivial⟩
  · simp only [hpX] at hid
    split at hid
    · rename_i e; subst e; rw [← hid]; exact hsh
    · have hlt : id.2 < n := by
        rcases Nat.lt_or_ge id.2 n with h3 | h3
        · exact h3
        · rw [hfr id h3] at hid; cases hid
      show shH n H H1 id = some o
      unfold shH
      rw [if_neg (by omega)]
      exact hid
end
/-! ## event.list and event.event -/
def tree1862 : Tv := (.q 0 (.q 1 (.q 2 (.q 3 (.q 5 (.r 6 (.q 7 (.br [(4, (.q 8 (.q 9 (.br [(10, (.q 11 .leaf))])))), (8, (.q 9 (.br [(4, (.br [(10, (.q 11 .leaf))]))])))]))))))))
def evPre (f : Abs.Form) : Prop := wfE f ∧ f.size ≤ 1000000
set_option maxRecDepth 100000 in
set_option maxHeartbeats 1000000 in
theorem f186 : ∀ (s : Nat) (f : Abs.Form), f.size ≤ s → evPre f → Wcall Tryd.prog GA 186 [.fz (.agg [.i .i64 f.kind, .s f.name.l, .sl (f.words.map enc), .sl (f.subs.map enc)])] H0 0 (fun d H n => ∃ g, g < n ∧ d = .ow (186016, g) 4 ((listM f).map enc) ∧ H (186016, g) = some tok) := by
  intro s
  induction s with
  | zero => intro f h; have := f.size_pos; omega
  | succ s ih =>
    intro f hs hpre
    rw [H0_eq]
    obtain ⟨Q, hQ⟩ : ∃ Q : D → Heap → Nat → Prop, Q = (fun d H n => (d = .full [enc f] ∧ listM f = [f] ∧ n = 1) ∨ ∃ g, g < n ∧ d = .ow (186016, g) 4 ((listM f).map enc) ∧ H (186016, g) = some tok) := ⟨_, rfl⟩
    have key : Wcall Tryd.prog GA 186 [.fz (.agg [.i .i64 f.kind, .s f.name.l, .sl (f.words.map enc), .sl (f.subs.map enc)])] (hpL []) 0 Q := by
      by_cases hk : f.kind = 5
      · obtain ⟨a, b, hab⟩ := two_of ((wfE_eq.1 hpre.1).1 hk)
        have hl := listM_and hk hab
        have hsa := Form.size_sub (f := f) (g := a) (by rw [hab]; simp)
        have iha := ih a (by omega) ⟨wfE_sub hpre.1 a (by rw [hab]; simp), by have := hpre.2; omega⟩
        have hla := (listM_len a.size a (Nat.le_refl _)).2
        have hp2 := hpre.2
        obtain ⟨la, hlae⟩ : ∃ la, listM a = la := ⟨_, rfl⟩
        rw [hlae] at iha hla hl
        have kQ := Kp.mk hQ
        have kl := Kp.mk hl
        clear hQ hl ih
        refine Wcall_K (N := 19) hm hV33 186000 (lsw [16] [1000002]) ok186 Tryd.func186 rfl rfl (by simp) (by kernel_rfl) ?_
        repeat' (first | refine ReqK.i (by omega) fun _ => ?_ | refine ReqK.i (by unfold maxL; omega) fun _ => ?_ | refine ReqK.i (fits_of2 (by first | omega | (simp only [List.length_map, List.length_take, List.length_append, List.length_cons, List.length_nil]; omega)) (by decide)) fun _ => ?_ | simp only [go_sem, reduceIte, reduceCtorEq, Nat.reduceEqDiff, Nat.reduceAdd, Nat.reduceSub, Nat.reduceMul, Nat.reduceDiv, Nat.reduceMod, Nat.reduceLT, Nat.reduceLeDiff, Nat.reduceBEq, Nat.reducePow, Int.reduceLE, Int.reduceLT, Int.reduceEq, Int.reduceNeg, Int.reduceAdd, Int.reduceToNat, hk, hab, Tryd.f186, V33, V32, V31, V30, V29, R28, R27, R22, R21, R20, R19, R18, R17, R16, R15, R14, R13, R12, R11, R10, R9, R8, R7, R6, R5, R4, R3, R2, R1, Q20, Q19, Q18, Q17, Q16, Q15, Q14, Q13, Q12, Q11, Q10, Q9, Q8, Q7, Q6, Q5, Q4, Q3, Q2, Q1, Tbl0])
        refine WK_weak2 (Weak_rpL (id := (186001, 0)) (t := 1) (b := true) (ys := [.i .i64 f.kind, .s f.name.l, .sl (f.words.map enc), .sl ([a, b].map enc)]) (by simp only [go_sem, reduceIte, reduceCtorEq, Nat.reduceEqDiff, Nat.reduceAdd, Nat.reduceSub, Nat.reduceMul, Nat.reduceDiv, Nat.reduceMod, Nat.reduceLT, Nat.reduceLeDiff, Nat.reduceBEq, Nat.reducePow, Int.reduceLE, Int.reduceLT, Int.reduceEq, Int.reduceNeg, Int.reduceAdd, Int.reduceToNat, hk, hab]) (by simp only [go_sem, reduceIte, reduceCtorEq, Nat.reduceEqDiff, Nat.reduceAdd, Nat.reduceSub, Nat.reduceMul, Nat.reduceDiv, Nat.reduceMod, Nat.reduceLT, Nat.reduceLeDiff, Nat.reduceBEq, Nat.reducePow, Int.reduceLE, Int.reduceLT, Int.reduceEq, Int.reduceNeg, Int.reduceAdd, Int.reduceToNat])) ?_
        refine WK_drawV hm hV33 186000 (lsw [16] [1000002]) tree1862 (by kernel_rfl) (by kernel_rfl) ?_
        repeat' (first | refine And.intro ?_ ?_ | exact True.intro | refine WcallK.i (Wcall_own1 rfl iha fun g m hg hgm => ?_) | refine ReqK.i (by omega) fun _ => ?_ | refine ReqK.i (by unfold maxL; omega) fun _ => ?_ | refine ReqK.i (fits_of2 (by first | omega | (simp only [List.length_map, List.length_take, List.length_append, List.length_cons, List.length_nil]; omega)) (by decide)) fun _ => ?_ | simp only [go_sem, reduceIte, reduceCtorEq, Nat.reduceEqDiff, Nat.reduceAdd, Nat.reduceSub, Nat.reduceMul, Nat.reduceDiv, Nat.reduceMod, Nat.reduceLT, Nat.reduceLeDiff, Nat.reduceBEq, Nat.reducePow, Int.reduceLE, Int.reduceLT, Int.reduceEq, Int.reduceNeg, Int.reduceAdd, Int.reduceToNat, tree1862, hk, hab, Tryd.f186, V33, V32, V31, V30, V29, R28, R27, R22, R21, R20, R19, R18, R17, R16, R15, R14, R13, R12, R11, R10, R9, R8, R7, R6, R5, R4, R3, R2, R1, Q20, Q19, Q18, Q17, Q16, Q15, Q14, Q13, Q12, Q11, Q10, Q9, Q8, Q7, Q6, Q5, Q4, Q3, Q2, Q1, Tbl0])
        all_goals
          rw [kQ.out]
          refine .inr ⟨m, by omega, ?_, ?_⟩
          · rw [kl.out]; simp only [go_sem, reduceIte, reduceCtorEq, Nat.reduceEqDiff, Nat.reduceAdd, Nat.reduceSub, Nat.reduceMul, Nat.reduceDiv, Nat.reduceMod, Nat.reduceLT, Nat.reduceLeDiff, Nat.reduceBEq, Nat.reducePow, Int.reduceLE, Int.reduceLT, Int.reduceEq, Int.reduceNeg, Int.reduceAdd, Int.reduceToNat, List.map_append]
          · simp only [go_sem, reduceIte, reduceCtorEq, Nat.reduceEqDiff, Nat.reduceAdd, Nat.reduceSub, Nat.reduceMul, Nat.reduceDiv, Nat.reduceMod, Nat.reduceLT, Nat.reduceLeDiff, Nat.reduceBEq, Nat.reducePow, Int.reduceLE, Int.reduceLT, Int.reduceEq, Int.reduceNeg, Int.reduceAdd, Int.reduceToNat]
      · have hl := listM_one (f := f) (fun h => hk h.1)
        refine Wcall_K (N := 19) hm hV33 186000 (lsw [16] [1000002]) ok186 Tryd.func186 rfl rfl (by simp) (by kernel_rfl) ?_
        repeat' (first | refine ReqK.i (by omega) fun _ => ?_ | refine ReqK.i (by unfold maxL; omega) fun _ => ?_ | refine ReqK.i (fits_of2 (by first | omega | (simp only [List.length_map, List.length_take, List.length_append, List.length_cons, List.length_nil]; omega)) (by decide)) fun _ => ?_ | simp only [go_sem, reduceIte, reduceCtorEq, Nat.reduceEqDiff, Nat.reduceAdd, Nat.reduceSub, Nat.reduceMul, Nat.reduceDiv, Nat.reduceMod, Nat.reduceLT, Nat.reduceLeDiff, Nat.reduceBEq, Nat.reducePow, Int.reduceLE, Int.reduceLT, Int.reduceEq, Int.reduceNeg, Int.reduceAdd, Int.reduceToNat, hk, Tryd.f186, V33, V32, V31, V30, V29, R28, R27, R22, R21, R20, R19, R18, R17, R16, R15, R14, R13, R12, R11, R10, R9, R8, R7, R6, R5, R4, R3, R2, R1, Q20, Q19, Q18, Q17, Q16, Q15, Q14, Q13, Q12, Q11, Q10, Q9, Q8, Q7, Q6, Q5, Q4, Q3, Q2, Q1, Tbl0])
        rw [hQ]
        refine .inl ⟨?_, hl, rfl⟩
        simp only [go_sem, reduceIte, reduceCtorEq, Nat.reduceEqDiff, Nat.reduceAdd, Nat.reduceSub, Nat.reduceMul, Nat.reduceDiv, Nat.reduceMod, Nat.reduceLT, Nat.reduceLeDiff, Nat.reduceBEq, Nat.reducePow, Int.reduceLE, Int.reduceLT, Int.reduceEq, Int.reduceNeg, Int.reduceAdd, Int.reduceToNat]
    refine Wcall_post key ?_
    rw [hQ]
    rintro d H n (⟨rfl, hl, rfl⟩ | ⟨g, hg, rfl, ho⟩)
    · refine ⟨.ow (186016, 1) 4 [enc f], hpL [((186016, 1), some tok)], 2, ?_, 1, by omega, by rw [hl]; rfl, by simp only [go_sem, reduceIte, reduceCtorEq, Nat.reduceEqDiff, Nat.reduceAdd, Nat.reduceSub, Nat.reduceMul, Nat.reduceDiv, Nat.reduceMod, Nat.reduceLT, Nat.reduceLeDiff, Nat.reduceBEq, Nat.reducePow, Int.reduceLE, Int.reduceLT, Int.reduceEq, Int.reduceNeg, Int.reduceAdd, Int.reduceToNat]⟩
      refine Weak_g [] [(186016, 1)] [] ?_ ?_ ?_ ?_ ?_ <;> simp only [go_sem, reduceIte, reduceCtorEq, Nat.reduceEqDiff, Nat.reduceAdd, Nat.reduceSub, Nat.reduceMul, Nat.reduceDiv, Nat.reduceMod, Nat.reduceLT, Nat.reduceLeDiff, Nat.reduceBEq, Nat.reducePow, Int.reduceLE, Int.reduceLT, Int.reduceEq, Int.reduceNeg, Int.reduceAdd, Int.reduceToNat]
      all_goals first | done | rfl | omega | trace_state
    · exact ⟨_, H, n, Weak_toH ⟨rfl, trivial⟩ (fun _ _ h => h) (Nat.le_refl _), g, hg, rfl, ho⟩
def V34 : Tbl := V33.add 186 (sp1 listM evPre)
theorem hV34 : TblOk Tryd.prog GA V34 := by
  refine sp1_ok ok186 hV33 fun f hpre _ => ?_
  have := f186 f.size f (Nat.le_refl _) hpre
  rw [enc_form, ← H0_eq]
  refine Wcall_mono this ?_
  rintro d H n' ⟨g, _, rfl, _⟩
  rfl

def V35 : Tbl := V34.add 132 (sp1p evM evPre)
set_option maxRecDepth 100000 in
set_option maxHeartbeats 1000000 in
theorem hV35 : TblOk Tryd.prog GA V35 := by
  refine sp1p_ok ok132 hV34 fun f hpre _ => ?_
  by_cases hk : f.kind = 9
  · obtain ⟨a, ha⟩ := one_of ((wfE_eq.1 hpre.1).2.1 hk)
    have hpa : evPre a := ⟨wfE_sub hpre.1 a (by rw [ha]; simp), by have := Form.size_sub (f := f) (g := a) (by rw [ha]; simp); have := hpre.2; omega⟩
    have hpe : partsE f = listM a := by unfold partsE; rw [ha]; rfl
    obtain ⟨x, tl, hx⟩ : ∃ x tl, listM a = x :: tl := by
      have := (listM_len a.size a (Nat.le_refl _)).1
      match h : listM a, this with
      | x :: tl, _ => exact ⟨x, tl, rfl⟩
    have hh : headE f = x := by unfold headE; rw [hpe, hx]; rfl
    obtain ⟨ok, hok⟩ : ∃ ok, okE f = ok := ⟨_, rfl⟩
    have e1 : evM f = (x :: tl, ok) := by unfold evM; rw [if_pos hk, hpe, hx, hok]
    unfold okE at hok
    rw [hh] at hok
    simp only [e1]
    by_cases c1 : x.kind = 2
    · by_cases c2 : x.words.length = 1
      · obtain ⟨w, hw⟩ : ∃ w, x.words = [w] := by
          match h : x.words, c2 with
          | [w], _ => exact ⟨w, rfl⟩
        by_cases c3 : w = f.name
        · have hb : ok = true := by rw [← hok]; simp [hk, c1, hw, c3]
          refine Wcall_K (N := 40) hm hV34 132000 (lst []) ok132 Tryd.func132 rfl rfl (by simp) (by kernel_rfl) ?_
          repeat' (first | refine ReqK.i hpa fun _ => ?_ | refine ReqK.i (by omega) fun _ => ?_ | refine ReqK.i (by unfold maxL; omega) fun _ => ?_ | refine ReqK.i (fits_of2 (by first | omega | (simp only [List.length_map, List.length_take, List.length_append, List.length_cons, List.length_nil]; omega)) (by decide)) fun _ => ?_ | simp only [go_sem, reduceIte, reduceCtorEq, Nat.reduceEqDiff, Nat.reduceAdd, Nat.reduceSub, Nat.reduceMul, Nat.reduceDiv, Nat.reduceMod, Nat.reduceLT, Nat.reduceLeDiff, Nat.reduceBEq, Nat.reducePow, Int.reduceLE, Int.reduceLT, Int.reduceEq, Int.reduceNeg, Int.reduceAdd, Int.reduceToNat, hk, ha, hx, c1, hw, c3, hb, form_eta, Tryd.f132, V34, V33, V32, V31, V30, V29, R28, R27, R22, R21, R20, R19, R18, R17, R16, R15, R14, R13, R12, R11, R10, R9, R8, R7, R6, R5, R4, R3, R2, R1, Q20, Q19, Q18, Q17, Q16, Q15, Q14, Q13, Q12, Q11, Q10, Q9, Q8, Q7, Q6, Q5, Q4, Q3, Q2, Q1, Tbl0])
        · have hb : ok = false := by rw [← hok]; simp [hk, c1, hw, c3]
          have c3' : (w = f.name) = False := eq_false c3
          refine Wcall_K (N := 40) hm hV34 132000 (lst []) ok132 Tryd.func132 rfl rfl (by simp) (by kernel_rfl) ?_
          repeat' (first | refine ReqK.i hpa fun _ => ?_ | refine ReqK.i (by omega) fun _ => ?_ | refine ReqK.i (by unfold maxL; omega) fun _ => ?_ | refine ReqK.i (fits_of2 (by first | omega | (simp only [List.length_map, List.length_take, List.length_append, List.length_cons, List.length_nil]; omega)) (by decide)) fun _ => ?_ | simp only [go_sem, reduceIte, reduceCtorEq, Nat.reduceEqDiff, Nat.reduceAdd, Nat.reduceSub, Nat.reduceMul, Nat.reduceDiv, Nat.reduceMod, Nat.reduceLT, Nat.reduceLeDiff, Nat.reduceBEq, Nat.reducePow, Int.reduceLE, Int.reduceLT, Int.reduceEq, Int.reduceNeg, Int.reduceAdd, Int.reduceToNat, hk, ha, hx, c1, hw, c3', hb, form_eta, Tryd.f132, V34, V33, V32, V31, V30, V29, R28, R27, R22, R21, R20, R19, R18, R17, R16, R15, R14, R13, R12, R11, R10, R9, R8, R7, R6, R5, R4, R3, R2, R1, Q20, Q19, Q18, Q17, Q16, Q15, Q14, Q13, Q12, Q11, Q10, Q9, Q8, Q7, Q6, Q5, Q4, Q3, Q2, Q1, Tbl0])
      · have hb : ok = false := by rw [← hok]; simp [hk, c1, c2]
        have c2' : ((x.words.length : Int) = 1) = False := eq_false (by omega)
        refine Wcall_K (N := 40) hm hV34 132000 (lst []) ok132 Tryd.func132 rfl rfl (by simp) (by kernel_rfl) ?_
        repeat' (first | refine ReqK.i hpa fun _ => ?_ | refine ReqK.i (by omega) fun _ => ?_ | refine ReqK.i (by unfold maxL; omega) fun _ => ?_ | refine ReqK.i (fits_of2 (by first | omega | (simp only [List.length_map, List.length_take, List.length_append, List.length_cons, List.length_nil]; omega)) (by decide)) fun _ => ?_ | simp only [go_sem, reduceIte, reduceCtorEq, Nat.reduceEqDiff, Nat.reduceAdd, Nat.reduceSub, Nat.reduceMul, Nat.reduceDiv, Nat.reduceMod, Nat.reduceLT, Nat.reduceLeDiff, Nat.reduceBEq, Nat.reducePow, Int.reduceLE, Int.reduceLT, Int.reduceEq, Int.reduceNeg, Int.reduceAdd, Int.reduceToNat, hk, ha, hx, c1, c2', hb, form_eta, Tryd.f132, V34, V33, V32, V31, V30, V29, R28, R27, R22, R21, R20, R19, R18, R17, R16, R15, R14, R13, R12, R11, R10, R9, R8, R7, R6, R5, R4, R3, R2, R1, Q20, Q19, Q18, Q17, Q16, Q15, Q14, Q13, Q12, Q11, Q10, Q9, Q8, Q7, Q6, Q5, Q4, Q3, Q2, Q1, Tbl0])
    · have hb : ok = false := by rw [← hok]; simp [hk, c1]
      refine Wcall_K (N := 40) hm hV34 132000 (lst []) ok132 Tryd.func132 rfl rfl (by simp) (by kernel_rfl) ?_
      repeat' (first | refine ReqK.i hpa fun _ => ?_ | refine ReqK.i (by omega) fun _ => ?_ | refine ReqK.i (by unfold maxL; omega) fun _ => ?_ | refine ReqK.i (fits_of2 (by first | omega | (simp only [List.length_map, List.length_take, List.length_append, List.length_cons, List.length_nil]; omega)) (by decide)) fun _ => ?_ | simp only [go_sem, reduceIte, reduceCtorEq, Nat.reduceEqDiff, Nat.reduceAdd, Nat.reduceSub, Nat.reduceMul, Nat.reduceDiv, Nat.reduceMod, Nat.reduceLT, Nat.reduceLeDiff, Nat.reduceBEq, Nat.reducePow, Int.reduceLE, Int.reduceLT, Int.reduceEq, Int.reduceNeg, Int.reduceAdd, Int.reduceToNat, hk, ha, hx, c1, hb, form_eta, Tryd.f132, V34, V33, V32, V31, V30, V29, R28, R27, R22, R21, R20, R19, R18, R17, R16, R15, R14, R13, R12, R11, R10, R9, R8, R7, R6, R5, R4, R3, R2, R1, Q20, Q19, Q18, Q17, Q16, Q15, Q14, Q13, Q12, Q11, Q10, Q9, Q8, Q7, Q6, Q5, Q4, Q3, Q2, Q1, Tbl0])
  · have e1 : evM f = ([], false) := by unfold evM; rw [if_neg hk]
    simp only [e1]
    refine Wcall_K (N := 40) hm hV34 132000 (lst []) ok132 Tryd.func132 rfl rfl (by simp) (by kernel_rfl) ?_
    repeat' (first | refine ReqK.i (by omega) fun _ => ?_ | refine ReqK.i (by unfold maxL; omega) fun _ => ?_ | refine ReqK.i (fits_of2 (by first | omega | (simp only [List.length_map, List.length_take, List.length_append, List.length_cons, List.length_nil]; omega)) (by decide)) fun _ => ?_ | simp only [go_sem, reduceIte, reduceCtorEq, Nat.reduceEqDiff, Nat.reduceAdd, Nat.reduceSub, Nat.reduceMul, Nat.reduceDiv, Nat.reduceMod, Nat.reduceLT, Nat.reduceLeDiff, Nat.reduceBEq, Nat.reducePow, Int.reduceLE, Int.reduceLT, Int.reduceEq, Int.reduceNeg, Int.reduceAdd, Int.reduceToNat, hk, form_eta, Tryd.f132, V34, V33, V32, V31, V30, V29, R28, R27, R22, R21, R20, R19, R18, R17, R16, R15, R14, R13, R12, R11, R10, R9, R8, R7, R6, R5, R4, R3, R2, R1, Q20, Q19, Q18, Q17, Q16, Q15, Q14, Q13, Q12, Q11, Q10, Q9, Q8, Q7, Q6, Q5, Q4, Q3, Q2, Q1, Tbl0])
end Go.Proofs.YtomhobohcejocaaDoor

namespace Go.Proofs.YtomhobohcejocaaDoor
open Go Go.Abs Go.Proofs

/-! ## PartsOf and EventName -/
structure PartI (f : Abs.Form) where
  c : Abs.Form
  acc : List Abs.Form
  m : Nat
  hm : 1 ≤ m
  h : listM f = listM c ++ acc
  hw : wfE c
  hs : acc.length + c.size ≤ f.size
def V36 : Tbl := V35.add 134 (sp1 listM evPre)
set_option maxRecDepth 100000 in
set_option maxHeartbeats 1000000 in
theorem hV36 : TblOk Tryd.prog GA V36 := by
  refine sp1_ok ok134 hV35 fun f hpre _ => ?_
  have hp2 := hpre.2
  refine Wcall_K (N := 28) hm hV35 134000 (lst []) ok134 Tryd.func134 rfl rfl (by simp) (by kernel_rfl) ?_
  repeat' (first | refine ReqK.i (by omega) fun _ => ?_ | refine ReqK.i (by unfold maxL; omega) fun _ => ?_ | refine ReqK.i (fits_of2 (by first | omega | (simp only [List.length_map, List.length_take, List.length_append, List.length_cons, List.length_nil]; omega)) (by decide)) fun _ => ?_ | simp only [go_sem, reduceIte, reduceCtorEq, Nat.reduceEqDiff, Nat.reduceAdd, Nat.reduceSub, Nat.reduceMul, Nat.reduceDiv, Nat.reduceMod, Nat.reduceLT, Nat.reduceLeDiff, Nat.reduceBEq, Nat.reducePow, Int.reduceLE, Int.reduceLT, Int.reduceEq, Int.reduceNeg, Int.reduceAdd, Int.reduceToNat, Tryd.f134, V35, V34, V33, V32, V31, V30, V29, R28, R27, R22, R21, R20, R19, R18, R17, R16, R15, R14, R13, R12, R11, R10, R9, R8, R7, R6, R5, R4, R3, R2, R1, Q20, Q19, Q18, Q17, Q16, Q15, Q14, Q13, Q12, Q11, Q10, Q9, Q8, Q7, Q6, Q5, Q4, Q3, Q2, Q1, Tbl0])
  refine WK_loop hm hV35 134000 (lst []) (ι := PartI f)
    ⟨fun q => ⟨frL [(1, .ptr (134001, 0) 0), (3, .fz (.sl (q.acc.map enc)))], hpL [((134001, 0), some ⟨[.fz (.i .i64 q.c.kind), .fz (.s q.c.name.l), .fz (.sl (q.c.words.map enc)), .fz (.sl (q.c.subs.map enc))], true, false⟩)], q.m⟩, fun q => q.c.size⟩
    ⟨f, [], 1, Nat.le_refl _, by simp, hpre.1, by simp⟩ (by kernel_rfl) ?_ ?_
  · refine Weak_g [] [] [] ?_ ?_ ?_ ?_ ?_ <;> simp only [go_sem, reduceIte, reduceCtorEq, Nat.reduceEqDiff, Nat.reduceAdd, Nat.reduceSub, Nat.reduceMul, Nat.reduceDiv, Nat.reduceMod, Nat.reduceLT, Nat.reduceLeDiff, Nat.reduceBEq, Nat.reducePow, Int.reduceLE, Int.reduceLT, Int.reduceEq, Int.reduceNeg, Int.reduceAdd, Int.reduceToNat]
    all_goals first | done | rfl | omega | trace_state
  rintro ⟨c, acc, m, hm1, h, hw, hs⟩
  try simp only at hm1 h hw hs
  by_cases hk : c.kind = 5
  · obtain ⟨a, b, hab⟩ := two_of ((wfE_eq.1 hw).1 hk)
    have hsa := Form.size_sub (f := c) (g := a) (by rw [hab]; simp)
    repeat' (first | refine ReqK.i (by omega) fun _ => ?_ | refine ReqK.i (by unfold maxL; omega) fun _ => ?_ | refine ReqK.i (fits_of2 (by first | omega | (simp only [List.length_map, List.length_take, List.length_append, List.length_cons, List.length_nil]; omega)) (by decide)) fun _ => ?_ | simp only [go_sem, reduceIte, reduceCtorEq, Nat.reduceEqDiff, Nat.reduceAdd, Nat.reduceSub, Nat.reduceMul, Nat.reduceDiv, Nat.reduceMod, Nat.reduceLT, Nat.reduceLeDiff, Nat.reduceBEq, Nat.reducePow, Int.reduceLE, Int.reduceLT, Int.reduceEq, Int.reduceNeg, Int.reduceAdd, Int.reduceToNat, hk, hab, Tryd.f134, V35, V34, V33, V32, V31, V30, V29, R28, R27, R22, R21, R20, R19, R18, R17, R16, R15, R14, R13, R12, R11, R10, R9, R8, R7, R6, R5, R4, R3, R2, R1, Q20, Q19, Q18, Q17, Q16, Q15, Q14, Q13, Q12, Q11, Q10, Q9, Q8, Q7, Q6, Q5, Q4, Q3, Q2, Q1, Tbl0])
    refine ⟨⟨a, b :: acc, m + 5, by omega, by rw [h, listM_and hk hab, List.append_assoc]; rfl, wfE_sub hw a (by rw [hab]; simp), by rw [List.length_cons]; omega⟩, by simp only; omega, ?_⟩
    refine Weak_g [] [] [] ?_ ?_ ?_ ?_ ?_ <;> (try simp only [go_sem, reduceIte, reduceCtorEq, Nat.reduceEqDiff, Nat.reduceAdd, Nat.reduceSub, Nat.reduceMul, Nat.reduceDiv, Nat.reduceMod, Nat.reduceLT, Nat.reduceLeDiff, Nat.reduceBEq, Nat.reducePow, Int.reduceLE, Int.reduceLT, Int.reduceEq, Int.reduceNeg, Int.reduceAdd, Int.reduceToNat])
    all_goals first | done | rfl | omega | trace_state
  · have hl := listM_one (f := c) (fun h => hk h.1)
    have hr : listM f = c :: acc := by rw [h, hl]; rfl
    rw [hr]
    repeat' (first | refine ReqK.i (by omega) fun _ => ?_ | refine ReqK.i (by unfold maxL; omega) fun _ => ?_ | refine ReqK.i (fits_of2 (by first | omega | (simp only [List.length_map, List.length_take, List.length_append, List.length_cons, List.length_nil]; omega)) (by decide)) fun _ => ?_ | simp only [go_sem, reduceIte, reduceCtorEq, Nat.reduceEqDiff, Nat.reduceAdd, Nat.reduceSub, Nat.reduceMul, Nat.reduceDiv, Nat.reduceMod, Nat.reduceLT, Nat.reduceLeDiff, Nat.reduceBEq, Nat.reducePow, Int.reduceLE, Int.reduceLT, Int.reduceEq, Int.reduceNeg, Int.reduceAdd, Int.reduceToNat, hk, form_eta, Tryd.f134, V35, V34, V33, V32, V31, V30, V29, R28, R27, R22, R21, R20, R19, R18, R17, R16, R15, R14, R13, R12, R11, R10, R9, R8, R7, R6, R5, R4, R3, R2, R1, Q20, Q19, Q18, Q17, Q16, Q15, Q14, Q13, Q12, Q11, Q10, Q9, Q8, Q7, Q6, Q5, Q4, Q3, Q2, Q1, Tbl0])

def nameE (f : Abs.Form) : Str := if okE f then (headE f).name else ⟨[]⟩
def V37 : Tbl := V36.add 133 (sp1 nameE evPre)
set_option maxRecDepth 100000 in
set_option maxHeartbeats 1000000 in
theorem hV37 : TblOk Tryd.prog GA V37 := by
  refine sp1_ok ok133 hV36 fun f hpre _ => ?_
  by_cases hk : f.kind = 9
  · obtain ⟨a, ha⟩ := one_of ((wfE_eq.1 hpre.1).2.1 hk)
    have hpa : evPre a := ⟨wfE_sub hpre.1 a (by rw [ha]; simp), by have := Form.size_sub (f := f) (g := a) (by rw [ha]; simp); have := hpre.2; omega⟩
    have hpe : partsE f = listM a := by unfold partsE; rw [ha]; rfl
    obtain ⟨x, tl, hx⟩ : ∃ x tl, listM a = x :: tl := by
      have := (listM_len a.size a (Nat.le_refl _)).1
      match h : listM a, this with
      | x :: tl, _ => exact ⟨x, tl, rfl⟩
    have hh : headE f = x := by unfold headE; rw [hpe, hx]; rfl
    obtain ⟨ok, hok⟩ : ∃ ok, okE f = ok := ⟨_, rfl⟩
    have e1 : nameE f = if ok then x.name else ⟨[]⟩ := by unfold nameE; rw [hok, hh]
    unfold okE at hok
    rw [hh] at hok
    rw [e1]
    by_cases c1 : x.kind = 2
    · by_cases c2 : x.words.length = 1
      · obtain ⟨w, hw⟩ : ∃ w, x.words = [w] := by
          match h : x.words, c2 with
          | [w], _ => exact ⟨w, rfl⟩
        by_cases c3 : w = f.name
        · have hb : ok = true := by rw [← hok]; simp [hk, c1, hw, c3]
          refine Wcall_K (N := 40) hm hV36 133000 (lst []) ok133 Tryd.func133 rfl rfl (by simp) (by kernel_rfl) ?_
          repeat' (first | refine ReqK.i hpa fun _ => ?_ | refine ReqK.i (by omega) fun _ => ?_ | refine ReqK.i (by unfold maxL; omega) fun _ => ?_ | refine ReqK.i (fits_of2 (by first | omega | (simp only [List.length_map, List.length_take, List.length_append, List.length_cons, List.length_nil]; omega)) (by decide)) fun _ => ?_ | simp only [go_sem, reduceIte, reduceCtorEq, Nat.reduceEqDiff, Nat.reduceAdd, Nat.reduceSub, Nat.reduceMul, Nat.reduceDiv, Nat.reduceMod, Nat.reduceLT, Nat.reduceLeDiff, Nat.reduceBEq, Nat.reducePow, Int.reduceLE, Int.reduceLT, Int.reduceEq, Int.reduceNeg, Int.reduceAdd, Int.reduceToNat, hk, ha, hx, c1, hw, c3, hb, form_eta, Tryd.f133, V36, V35, V34, V33, V32, V31, V30, V29, R28, R27, R22, R21, R20, R19, R18, R17, R16, R15, R14, R13, R12, R11, R10, R9, R8, R7, R6, R5, R4, R3, R2, R1, Q20, Q19, Q18, Q17, Q16, Q15, Q14, Q13, Q12, Q11, Q10, Q9, Q8, Q7, Q6, Q5, Q4, Q3, Q2, Q1, Tbl0])
        · have hb : ok = false := by rw [← hok]; simp [hk, c1, hw, c3]
          have c3' : (w = f.name) = False := eq_false c3
          refine Wcall_K (N := 40) hm hV36 133000 (lst []) ok133 Tryd.func133 rfl rfl (by simp) (by kernel_rfl) ?_
          repeat' (first | refine ReqK.i hpa fun _ => ?_ | refine ReqK.i (by omega) fun _ => ?_ | refine ReqK.i (by unfold maxL; omega) fun _ => ?_ | refine ReqK.i (fits_of2 (by first | omega | (simp only [List.length_map, List.length_take, List.length_append, List.length_cons, List.length_nil]; omega)) (by decide)) fun _ => ?_ | simp only [go_sem, reduceIte, reduceCtorEq, Nat.reduceEqDiff, Nat.reduceAdd, Nat.reduceSub, Nat.reduceMul, Nat.reduceDiv, Nat.reduceMod, Nat.reduceLT, Nat.reduceLeDiff, Nat.reduceBEq, Nat.reducePow, Int.reduceLE, Int.reduceLT, Int.reduceEq, Int.reduceNeg, Int.reduceAdd, Int.reduceToNat, hk, ha, hx, c1, hw, c3', hb, form_eta, Bool.false_eq_true, Tryd.f133, V36, V35, V34, V33, V32, V31, V30, V29, R28, R27, R22, R21, R20, R19, R18, R17, R16, R15, R14, R13, R12, R11, R10, R9, R8, R7, R6, R5, R4, R3, R2, R1, Q20, Q19, Q18, Q17, Q16, Q15, Q14, Q13, Q12, Q11, Q10, Q9, Q8, Q7, Q6, Q5, Q4, Q3, Q2, Q1, Tbl0])
      · have hb : ok = false := by rw [← hok]; simp [hk, c1, c2]
        have c2' : ((x.words.length : Int) = 1) = False := eq_false (by omega)
        refine Wcall_K (N := 40) hm hV36 133000 (lst []) ok133 Tryd.func133 rfl rfl (by simp) (by kernel_rfl) ?_
        repeat' (first | refine ReqK.i hpa fun _ => ?_ | refine ReqK.i (by omega) fun _ => ?_ | refine ReqK.i (by unfold maxL; omega) fun _ => ?_ | refine ReqK.i (fits_of2 (by first | omega | (simp only [List.length_map, List.length_take, List.length_append, List.length_cons, List.length_nil]; omega)) (by decide)) fun _ => ?_ | simp only [go_sem, reduceIte, reduceCtorEq, Nat.reduceEqDiff, Nat.reduceAdd, Nat.reduceSub, Nat.reduceMul, Nat.reduceDiv, Nat.reduceMod, Nat.reduceLT, Nat.reduceLeDiff, Nat.reduceBEq, Nat.reducePow, Int.reduceLE, Int.reduceLT, Int.reduceEq, Int.reduceNeg, Int.reduceAdd, Int.reduceToNat, hk, ha, hx, c1, c2', hb, form_eta, Bool.false_eq_true, Tryd.f133, V36, V35, V34, V33, V32, V31, V30, V29, R28, R27, R22, R21, R20, R19, R18, R17, R16, R15, R14, R13, R12, R11, R10, R9, R8, R7, R6, R5, R4, R3, R2, R1, Q20, Q19, Q18, Q17, Q16, Q15, Q14, Q13, Q12, Q11, Q10, Q9, Q8, Q7, Q6, Q5, Q4, Q3, Q2, Q1, Tbl0])
    · have hb : ok = false := by rw [← hok]; simp [hk, c1]
      refine Wcall_K (N := 40) hm hV36 133000 (lst []) ok133 Tryd.func133 rfl rfl (by simp) (by kernel_rfl) ?_
      repeat' (first | refine ReqK.i hpa fun _ => ?_ | refine ReqK.i (by omega) fun _ => ?_ | refine ReqK.i (by unfold maxL; omega) fun _ => ?_ | refine ReqK.i (fits_of2 (by first | omega | (simp only [List.length_map, List.length_take, List.length_append, List.length_cons, List.length_nil]; omega)) (by decide)) fun _ => ?_ | simp only [go_sem, reduceIte, reduceCtorEq, Nat.reduceEqDiff, Nat.reduceAdd, Nat.reduceSub, Nat.reduceMul, Nat.reduceDiv, Nat.reduceMod, Nat.reduceLT, Nat.reduceLeDiff, Nat.reduceBEq, Nat.reducePow, Int.reduceLE, Int.reduceLT, Int.reduceEq, Int.reduceNeg, Int.reduceAdd, Int.reduceToNat, hk, ha, hx, c1, hb, form_eta, Bool.false_eq_true, Tryd.f133, V36, V35, V34, V33, V32, V31, V30, V29, R28, R27, R22, R21, R20, R19, R18, R17, R16, R15, R14, R13, R12, R11, R10, R9, R8, R7, R6, R5, R4, R3, R2, R1, Q20, Q19, Q18, Q17, Q16, Q15, Q14, Q13, Q12, Q11, Q10, Q9, Q8, Q7, Q6, Q5, Q4, Q3, Q2, Q1, Tbl0])
  · have e1 : nameE f = ⟨[]⟩ := by
      unfold nameE okE
      rw [decide_eq_false hk]; rfl
    rw [e1]
    refine Wcall_K (N := 40) hm hV36 133000 (lst []) ok133 Tryd.func133 rfl rfl (by simp) (by kernel_rfl) ?_
    repeat' (first | refine ReqK.i (by omega) fun _ => ?_ | refine ReqK.i (by unfold maxL; omega) fun _ => ?_ | refine ReqK.i (fits_of2 (by first | omega | (simp only [List.length_map, List.length_take, List.length_append, List.length_cons, List.length_nil]; omega)) (by decide)) fun _ => ?_ | simp only [go_sem, reduceIte, reduceCtorEq, Nat.reduceEqDiff, Nat.reduceAdd, Nat.reduceSub, Nat.reduceMul, Nat.reduceDiv, Nat.reduceMod, Nat.reduceLT, Nat.reduceLeDiff, Nat.reduceBEq, Nat.reducePow, Int.reduceLE, Int.reduceLT, Int.reduceEq, Int.reduceNeg, Int.reduceAdd, Int.reduceToNat, hk, form_eta, Tryd.f133, V36, V35, V34, V33, V32, V31, V30, V29, R28, R27, R22, R21, R20, R19, R18, R17, R16, R15, R14, R13, R12, R11, R10, R9, R8, R7, R6, R5, R4, R3, R2, R1, Q20, Q19, Q18, Q17, Q16, Q15, Q14, Q13, Q12, Q11, Q10, Q9, Q8, Q7, Q6, Q5, Q4, Q3, Q2, Q1, Tbl0])
end Go.Proofs.YtomhobohcejocaaDoor

namespace Go.Proofs.YtomhobohcejocaaDoor
open Go Go.Abs Go.Proofs

/-! ## event.Merge$1 -/
theorem mergeBy_no {f : Abs.Form} (h : mergeOk f = false) : mergeBy f = f := by unfold mergeBy; rw [if_neg (by simp [h])]
theorem mergeOk_bad {f : Abs.Form} {i : Nat} (hi : i < (partsE f).length - 1) (h : goodE f i ((partsE f).getD (i + 1) defF) = false) : mergeOk f = false := by
  unfold mergeOk; rw [goodN_false hi h, Bool.and_false]
theorem wordsN_succ (f : Abs.Form) (i : Nat) : wordsN f (i + 1) = wordsN f i ++ [((partsE f).getD (i + 1) defF).words.getD 1 ⟨[]⟩] := by
  unfold wordsN; rw [List.range_succ, List.map_append]; rfl
theorem argI_nat (i : Nat) : argI (i : Int) = argS i := rfl
theorem cut_one {l : List Abs.Form} (y : FD) : cutFD (y :: l.map enc) (1 : Int) ((l.length : Int) + 1) = l.map enc := by
  unfold cutFD
  rw [show ((l.length : Int) + 1).toNat = l.length + 1 by omega, List.take_succ_cons, List.take_of_length_le (by rw [List.length_map]; exact Nat.le_refl _)]
  rfl
def V38 : Tbl := V37.add 131 (sp1 mergeBy evPre)
set_option maxRecDepth 100000 in
set_option maxHeartbeats 1000000 in
set_option maxHeartbeats 8000000 in
theorem hV38 : TblOk Tryd.prog GA V38 := by
  refine sp1_ok ok131 hV37 fun f hpre _ => ?_
  by_cases hk : f.kind = 9
  rotate_left
  · have e1 : evM f = ([], false) := by unfold evM; rw [if_neg hk]
    have e2 : mergeOk f = false := by unfold mergeOk okE; rw [decide_eq_false hk]; rfl
    rw [mergeBy_no e2]
    refine Wcall_K (N := 83) hm hV37 131000 (lsw [75] []) ok131 Tryd.func131 rfl rfl (by simp) (by kernel_rfl) ?_
    repeat' (first | refine ReqK.i hpre fun _ => ?_ | refine ReqK.i (by omega) fun _ => ?_ | refine ReqK.i (by unfold maxL; omega) fun _ => ?_ | refine ReqK.i (fits_of2 (by first | omega | (simp only [List.length_map, List.length_take, List.length_append, List.length_cons, List.length_nil]; omega)) (by decide)) fun _ => ?_ | simp only [go_sem, reduceIte, reduceCtorEq, Nat.reduceEqDiff, Nat.reduceAdd, Nat.reduceSub, Nat.reduceMul, Nat.reduceDiv, Nat.reduceMod, Nat.reduceLT, Nat.reduceLeDiff, Nat.reduceBEq, Nat.reducePow, Int.reduceLE, Int.reduceLT, Int.reduceEq, Int.reduceNeg, Int.reduceAdd, Int.reduceToNat, e1, form_eta, Tryd.f131, V37, V36, V35, V34, V33, V32, V31, V30, V29, R28, R27, R22, R21, R20, R19, R18, R17, R16, R15, R14, R13, R12, R11, R10, R9, R8, R7, R6, R5, R4, R3, R2, R1, Q20, Q19, Q18, Q17, Q16, Q15, Q14, Q13, Q12, Q11, Q10, Q9, Q8, Q7, Q6, Q5, Q4, Q3, Q2, Q1, Tbl0])
  have e1 : evM f = (partsE f, okE f) := by unfold evM; rw [if_pos hk]
  cases hok : okE f with
  | false =>
    have e2 : mergeOk f = false := by unfold mergeOk; rw [hok]; rfl
    rw [mergeBy_no e2]
    refine Wcall_K (N := 83) hm hV37 131000 (lsw [75] []) ok131 Tryd.func131 rfl rfl (by simp) (by kernel_rfl) ?_
    repeat' (first | refine ReqK.i hpre fun _ => ?_ | refine ReqK.i (by omega) fun _ => ?_ | refine ReqK.i (by unfold maxL; omega) fun _ => ?_ | refine ReqK.i (fits_of2 (by first | omega | (simp only [List.length_map, List.length_take, List.length_append, List.length_cons, List.length_nil]; omega)) (by decide)) fun _ => ?_ | simp only [go_sem, reduceIte, reduceCtorEq, Nat.reduceEqDiff, Nat.reduceAdd, Nat.reduceSub, Nat.reduceMul, Nat.reduceDiv, Nat.reduceMod, Nat.reduceLT, Nat.reduceLeDiff, Nat.reduceBEq, Nat.reducePow, Int.reduceLE, Int.reduceLT, Int.reduceEq, Int.reduceNeg, Int.reduceAdd, Int.reduceToNat, e1, hok, form_eta, Tryd.f131, V37, V36, V35, V34, V33, V32, V31, V30, V29, R28, R27, R22, R21, R20, R19, R18, R17, R16, R15, R14, R13, R12, R11, R10, R9, R8, R7, R6, R5, R4, R3, R2, R1, Q20, Q19, Q18, Q17, Q16, Q15, Q14, Q13, Q12, Q11, Q10, Q9, Q8, Q7, Q6, Q5, Q4, Q3, Q2, Q1, Tbl0])
  | true =>
    by_cases h2 : (partsE f).length < 2
    · have e2 : mergeOk f = false := by unfold mergeOk; rw [decide_eq_false (show ¬ 2 ≤ (partsE f).length by omega)]; simp
      have h2' : (((partsE f).length : Int) < 2) = True := eq_true (by omega)
      rw [mergeBy_no e2]
      refine Wcall_K (N := 83) hm hV37 131000 (lsw [75] []) ok131 Tryd.func131 rfl rfl (by simp) (by kernel_rfl) ?_
      repeat' (first | refine ReqK.i hpre fun _ => ?_ | refine ReqK.i (by omega) fun _ => ?_ | refine ReqK.i (by unfold maxL; omega) fun _ => ?_ | refine ReqK.i (fits_of2 (by first | omega | (simp only [List.length_map, List.length_take, List.length_append, List.length_cons, List.length_nil]; omega)) (by decide)) fun _ => ?_ | simp only [go_sem, reduceIte, reduceCtorEq, Nat.reduceEqDiff, Nat.reduceAdd, Nat.reduceSub, Nat.reduceMul, Nat.reduceDiv, Nat.reduceMod, Nat.reduceLT, Nat.reduceLeDiff, Nat.reduceBEq, Nat.reducePow, Int.reduceLE, Int.reduceLT, Int.reduceEq, Int.reduceNeg, Int.reduceAdd, Int.reduceToNat, e1, hok, h2', form_eta, Tryd.f131, V37, V36, V35, V34, V33, V32, V31, V30, V29, R28, R27, R22, R21, R20, R19, R18, R17, R16, R15, R14, R13, R12, R11, R10, R9, R8, R7, R6, R5, R4, R3, R2, R1, Q20, Q19, Q18, Q17, Q16, Q15, Q14, Q13, Q12, Q11, Q10, Q9, Q8, Q7, Q6, Q5, Q4, Q3, Q2, Q1, Tbl0])
    by_cases h4 : 4 < (partsE f).length
    · have e2 : mergeOk f = false := by unfold mergeOk; rw [decide_eq_false (show ¬ (partsE f).length ≤ 4 by omega)]; simp
      have h2' : (((partsE f).length : Int) < 2) = False := eq_false (by omega)
      have h4' : (4 < ((partsE f).length : Int)) = True := eq_true (by omega)
      rw [mergeBy_no e2]
      refine Wcall_K (N := 83) hm hV37 131000 (lsw [75] []) ok131 Tryd.func131 rfl rfl (by simp) (by kernel_rfl) ?_
      repeat' (first | refine ReqK.i hpre fun _ => ?_ | refine ReqK.i (by omega) fun _ => ?_ | refine ReqK.i (by unfold maxL; omega) fun _ => ?_ | refine ReqK.i (fits_of2 (by first | omega | (simp only [List.length_map, List.length_take, List.length_append, List.length_cons, List.length_nil]; omega)) (by decide)) fun _ => ?_ | simp only [go_sem, reduceIte, reduceCtorEq, Nat.reduceEqDiff, Nat.reduceAdd, Nat.reduceSub, Nat.reduceMul, Nat.reduceDiv, Nat.reduceMod, Nat.reduceLT, Nat.reduceLeDiff, Nat.reduceBEq, Nat.reducePow, Int.reduceLE, Int.reduceLT, Int.reduceEq, Int.reduceNeg, Int.reduceAdd, Int.reduceToNat, e1, hok, h2', h4', form_eta, Tryd.f131, V37, V36, V35, V34, V33, V32, V31, V30, V29, R28, R27, R22, R21, R20, R19, R18, R17, R16, R15, R14, R13, R12, R11, R10, R9, R8, R7, R6, R5, R4, R3, R2, R1, Q20, Q19, Q18, Q17, Q16, Q15, Q14, Q13, Q12, Q11, Q10, Q9, Q8, Q7, Q6, Q5, Q4, Q3, Q2, Q1, Tbl0])
    have h2' : (((partsE f).length : Int) < 2) = False := eq_false (by omega)
    have h4' : (4 < ((partsE f).length : Int)) = False := eq_false (by omega)
    obtain ⟨x0, tl, hx⟩ : ∃ x tl, partsE f = x :: tl := by
      match h : partsE f, h2 with
      | x :: tl, _ => exact ⟨x, tl, rfl⟩
      | [], h2 => simp at h2
    have hlen : (partsE f).length = tl.length + 1 := by rw [hx]; rfl
    have hh : headE f = x0 := by unfold headE; rw [hx]; rfl
    have hat : ∀ i (h : i < tl.length), (partsE f).getD (i + 1) defF = tl[i] := fun i h => by
      rw [hx, List.getD_cons_succ, List.getD_eq_getElem?_getD, List.getElem?_eq_getElem h]; rfl
    have hqc : (1 : Int) = (tl.length : Int) + 1 ∨ ((tl.map enc).getD 0 FD.nilf).cells.length = 4 := by
      cases tl with
      | nil => exact .inl rfl
      | cons x t => exact .inr (by show (enc x).cells.length = 4; rw [enc_form]; rfl)
    have hbad : ∀ i (h : i < tl.length), goodE f i tl[i] = false → mergeBy f = f := fun i h hg => mergeBy_no (mergeOk_bad (i := i) (by omega) (by rw [hat i h]; exact hg))
    have hws : ∀ i (h : i < tl.length), wordsN f (i + 1) = wordsN f i ++ [tl[i].words.getD 1 ⟨[]⟩] := fun i h => by rw [wordsN_succ, hat i h]
    have hgs : ∀ i (h : i < tl.length), goodN f i = true → goodE f i tl[i] = true → goodN f (i + 1) = true := fun i h h1 h3 => by rw [goodN, h1, hat i h, h3]; rfl
    have hend : goodN f tl.length = true → mergeBy f = .mk 2 x0.name (wordsN f tl.length) [] := fun h => by
      unfold mergeBy mergeOk
      rw [hok, hlen, hh, Nat.add_sub_cancel, h, decide_eq_true (show 2 ≤ tl.length + 1 by omega), decide_eq_true (show tl.length + 1 ≤ 4 by omega)]
      rfl
    rw [hx] at e1
    rw [hlen] at h2 h4 h2' h4'
    have h2'' : ((tl.length : Int) + 1 < 2) = False := eq_false (by omega)
    have h4'' : (4 < (tl.length : Int) + 1) = False := eq_false (by omega)
    obtain ⟨W, hW⟩ : ∃ W : Nat → List Str, W = wordsN f := ⟨_, rfl⟩
    have hW0 : W 0 = [] := by rw [hW]; rfl
    have hWl : ∀ i, (W i).length = i := fun i => by rw [hW]; exact wordsN_len f i
    rw [← hW] at hend hws
    have kb := Kp.mk hbad
    have kw := Kp.mk hws
    have kg := Kp.mk hgs
    have ke := Kp.mk hend
    clear hbad hws hgs hend hat hW hh hlen h2' h4'
    refine Wcall_K (N := 83) hm hV37 131000 (lsw [75] []) ok131 Tryd.func131 rfl rfl (by simp) (by kernel_rfl) ?_
    repeat' (first | refine ReqK.i hpre fun _ => ?_ | refine ReqK.i ⟨by omega, by omega, hqc⟩ fun _ => ?_ | refine ReqK.i (by omega) fun _ => ?_ | refine ReqK.i (by unfold maxL; omega) fun _ => ?_ | refine ReqK.i (fits_of2 (by first | omega | (simp only [List.length_map, List.length_take, List.length_append, List.length_cons, List.length_nil]; omega)) (by decide)) fun _ => ?_ | simp only [go_sem, reduceIte, reduceCtorEq, Nat.reduceEqDiff, Nat.reduceAdd, Nat.reduceSub, Nat.reduceMul, Nat.reduceDiv, Nat.reduceMod, Nat.reduceLT, Nat.reduceLeDiff, Nat.reduceBEq, Nat.reducePow, Int.reduceLE, Int.reduceLT, Int.reduceEq, Int.reduceNeg, Int.reduceAdd, Int.reduceToNat, e1, hok, h2'', h4'', cut_one, List.length_cons, Tryd.f131, V37, V36, V35, V34, V33, V32, V31, V30, V29, R28, R27, R22, R21, R20, R19, R18, R17, R16, R15, R14, R13, R12, R11, R10, R9, R8, R7, R6, R5, R4, R3, R2, R1, Q20, Q19, Q18, Q17, Q16, Q15, Q14, Q13, Q12, Q11, Q10, Q9, Q8, Q7, Q6, Q5, Q4, Q3, Q2, Q1, Tbl0])
    refine WK_loop hm hV37 131000 (lsw [75] []) (ι := LoopG tl.length 3 fun i => goodN f i = true)
      ⟨fun q => ⟨frL [(1, .ptr (131001, 0) 0), (2, .ptr (131002, 1) 0), (3, .fz (.sl (enc x0 :: tl.map enc))), (5, .ow (131075, q.g) 1 ((W q.i).map enc)), (27, .fz (.sl (tl.map enc))), (28, .fz (.i .i64 tl.length)), (29, .fz (.i .i64 q.i))],
        hpL [((131001, 0), some ⟨[.fz (.i .i64 f.kind), .fz (.s f.name.l), .fz (.sl (f.words.map enc)), .fz (.sl (f.subs.map enc))], true, false⟩), ((131002, 1), some ⟨[.fz (.i .i64 0), .fz (.s []), .full [], .full []], true, false⟩), ((131075, q.g), some tok)], q.m⟩, fun q => tl.length - q.i⟩
      ⟨0, 2, 3, by omega, by omega, by omega, rfl⟩ (by kernel_rfl) ?_ ?_
    · refine Weak_g [] [(131075, 2)] [] ?_ ?_ ?_ ?_ ?_ <;> simp only [go_sem, reduceIte, reduceCtorEq, Nat.reduceEqDiff, Nat.reduceAdd, Nat.reduceSub, Nat.reduceMul, Nat.reduceDiv, Nat.reduceMod, Nat.reduceLT, Nat.reduceLeDiff, Nat.reduceBEq, Nat.reducePow, Int.reduceLE, Int.reduceLT, Int.reduceEq, Int.reduceNeg, Int.reduceAdd, Int.reduceToNat, hW0, cut_one]
      all_goals first | done | rfl | omega | trace_state
    rintro ⟨i, g, m, hi, hg, hm1, hgd⟩
    try simp only at hi hg hm1 hgd
    rcases Nat.lt_or_ge i tl.length with h1 | h1
    · have hb := kb.out i h1
      have hw := kw.out i h1
      have hgg := kg.out i h1 hgd
      have hwl := hWl i
      obtain ⟨x, hxi⟩ : ∃ x, tl[i] = x := ⟨_, rfl⟩
      rw [hxi] at hb hw hgg
      unfold goodE at hb hgg
      by_cases c1 : x.kind = 2
      · by_cases c2 : x.name = argS i
        · by_cases c3 : x.words.length = 2
          · obtain ⟨u, v, huv⟩ : ∃ u v, x.words = [u, v] := by
              match h : x.words, c3 with
              | [u, v], _ => exact ⟨u, v, rfl⟩
            by_cases c4 : u = f.name
            · by_cases c5 : v = f.name
              · rw [hb (by simp [huv, c5])]
                repeat' (first | refine ReqK.i ⟨by omega, by omega⟩ fun _ => ?_ | refine ReqK.i (by omega) fun _ => ?_ | refine ReqK.i (by unfold maxL; omega) fun _ => ?_ | refine ReqK.i (fits_of2 (by first | omega | (simp only [List.length_map, List.length_take, List.length_append, List.length_cons, List.length_nil]; omega)) (by decide)) fun _ => ?_ | simp only [go_sem, reduceIte, reduceCtorEq, Nat.reduceEqDiff, Nat.reduceAdd, Nat.reduceSub, Nat.reduceMul, Nat.reduceDiv, Nat.reduceMod, Nat.reduceLT, Nat.reduceLeDiff, Nat.reduceBEq, Nat.reducePow, Int.reduceLE, Int.reduceLT, Int.reduceEq, Int.reduceNeg, Int.reduceAdd, Int.reduceToNat, h1, hxi, c1, c2, huv, c4, c5, argI_nat, getD_map_lt, form_eta, Tryd.f131, V37, V36, V35, V34, V33, V32, V31, V30, V29, R28, R27, R22, R21, R20, R19, R18, R17, R16, R15, R14, R13, R12, R11, R10, R9, R8, R7, R6, R5, R4, R3, R2, R1, Q20, Q19, Q18, Q17, Q16, Q15, Q14, Q13, Q12, Q11, Q10, Q9, Q8, Q7, Q6, Q5, Q4, Q3, Q2, Q1, Tbl0])
              · have hgo := hgg (by simp [c1, c2, huv, c4, c5])
                have c5' : (v = f.name) = False := eq_false c5
                repeat' (first | refine ReqK.i ⟨by omega, by omega⟩ fun _ => ?_ | refine ReqK.i (by omega) fun _ => ?_ | refine ReqK.i (by unfold maxL; omega) fun _ => ?_ | refine ReqK.i (fits_of2 (by first | omega | (simp only [List.length_map, List.length_take, List.length_append, List.length_cons, List.length_nil]; omega)) (by decide)) fun _ => ?_ | simp only [go_sem, reduceIte, reduceCtorEq, Nat.reduceEqDiff, Nat.reduceAdd, Nat.reduceSub, Nat.reduceMul, Nat.reduceDiv, Nat.reduceMod, Nat.reduceLT, Nat.reduceLeDiff, Nat.reduceBEq, Nat.reducePow, Int.reduceLE, Int.reduceLT, Int.reduceEq, Int.reduceNeg, Int.reduceAdd, Int.reduceToNat, h1, hxi, c1, c2, huv, c4, c5', argI_nat, getD_map_lt, form_eta, Tryd.f131, V37, V36, V35, V34, V33, V32, V31, V30, V29, R28, R27, R22, R21, R20, R19, R18, R17, R16, R15, R14, R13, R12, R11, R10, R9, R8, R7, R6, R5, R4, R3, R2, R1, Q20, Q19, Q18, Q17, Q16, Q15, Q14, Q13, Q12, Q11, Q10, Q9, Q8, Q7, Q6, Q5, Q4, Q3, Q2, Q1, Tbl0])
                refine ⟨⟨i + 1, m + 1, m + 10, by omega, by omega, by omega, hgo⟩, by simp only; omega, ?_⟩
                refine Weak_to ?_ ?_ ?_ <;> (try simp only [go_sem, reduceIte, reduceCtorEq, Nat.reduceEqDiff, Nat.reduceAdd, Nat.reduceSub, Nat.reduceMul, Nat.reduceDiv, Nat.reduceMod, Nat.reduceLT, Nat.reduceLeDiff, Nat.reduceBEq, Nat.reducePow, Int.reduceLE, Int.reduceLT, Int.reduceEq, Int.reduceNeg, Int.reduceAdd, Int.reduceToNat, hw, huv, List.map_append])
                all_goals first | done | omega | rfl | trace_state
            · have c4' : (u = f.name) = False := eq_false c4
              rw [hb (by simp [huv, c4])]
              repeat' (first | refine ReqK.i ⟨by omega, by omega⟩ fun _ => ?_ | refine ReqK.i (by omega) fun _ => ?_ | refine ReqK.i (by unfold maxL; omega) fun _ => ?_ | refine ReqK.i (fits_of2 (by first | omega | (simp only [List.length_map, List.length_take, List.length_append, List.length_cons, List.length_nil]; omega)) (by decide)) fun _ => ?_ | simp only [go_sem, reduceIte, reduceCtorEq, Nat.reduceEqDiff, Nat.reduceAdd, Nat.reduceSub, Nat.reduceMul, Nat.reduceDiv, Nat.reduceMod, Nat.reduceLT, Nat.reduceLeDiff, Nat.reduceBEq, Nat.reducePow, Int.reduceLE, Int.reduceLT, Int.reduceEq, Int.reduceNeg, Int.reduceAdd, Int.reduceToNat, h1, hxi, c1, c2, huv, c4', argI_nat, getD_map_lt, form_eta, Tryd.f131, V37, V36, V35, V34, V33, V32, V31, V30, V29, R28, R27, R22, R21, R20, R19, R18, R17, R16, R15, R14, R13, R12, R11, R10, R9, R8, R7, R6, R5, R4, R3, R2, R1, Q20, Q19, Q18, Q17, Q16, Q15, Q14, Q13, Q12, Q11, Q10, Q9, Q8, Q7, Q6, Q5, Q4, Q3, Q2, Q1, Tbl0])
          · have c3' : ((x.words.length : Int) = 2) = False := eq_false (by omega)
            rw [hb (by simp [c3])]
            repeat' (first | refine ReqK.i ⟨by omega, by omega⟩ fun _ => ?_ | refine ReqK.i (by omega) fun _ => ?_ | refine ReqK.i (by unfold maxL; omega) fun _ => ?_ | refine ReqK.i (fits_of2 (by first | omega | (simp only [List.length_map, List.length_take, List.length_append, List.length_cons, List.length_nil]; omega)) (by decide)) fun _ => ?_ | simp only [go_sem, reduceIte, reduceCtorEq, Nat.reduceEqDiff, Nat.reduceAdd, Nat.reduceSub, Nat.reduceMul, Nat.reduceDiv, Nat.reduceMod, Nat.reduceLT, Nat.reduceLeDiff, Nat.reduceBEq, Nat.reducePow, Int.reduceLE, Int.reduceLT, Int.reduceEq, Int.reduceNeg, Int.reduceAdd, Int.reduceToNat, h1, hxi, c1, c2, c3', argI_nat, getD_map_lt, form_eta, Tryd.f131, V37, V36, V35, V34, V33, V32, V31, V30, V29, R28, R27, R22, R21, R20, R19, R18, R17, R16, R15, R14, R13, R12, R11, R10, R9, R8, R7, R6, R5, R4, R3, R2, R1, Q20, Q19, Q18, Q17, Q16, Q15, Q14, Q13, Q12, Q11, Q10, Q9, Q8, Q7, Q6, Q5, Q4, Q3, Q2, Q1, Tbl0])
        · have c2' : (x.name = argS i) = False := eq_false c2
          rw [hb (by simp [c2])]
          repeat' (first | refine ReqK.i ⟨by omega, by omega⟩ fun _ => ?_ | refine ReqK.i (by omega) fun _ => ?_ | refine ReqK.i (by unfold maxL; omega) fun _ => ?_ | refine ReqK.i (fits_of2 (by first | omega | (simp only [List.length_map, List.length_take, List.length_append, List.length_cons, List.length_nil]; omega)) (by decide)) fun _ => ?_ | simp only [go_sem, reduceIte, reduceCtorEq, Nat.reduceEqDiff, Nat.reduceAdd, Nat.reduceSub, Nat.reduceMul, Nat.reduceDiv, Nat.reduceMod, Nat.reduceLT, Nat.reduceLeDiff, Nat.reduceBEq, Nat.reducePow, Int.reduceLE, Int.reduceLT, Int.reduceEq, Int.reduceNeg, Int.reduceAdd, Int.reduceToNat, h1, hxi, c1, c2', argI_nat, getD_map_lt, form_eta, Tryd.f131, V37, V36, V35, V34, V33, V32, V31, V30, V29, R28, R27, R22, R21, R20, R19, R18, R17, R16, R15, R14, R13, R12, R11, R10, R9, R8, R7, R6, R5, R4, R3, R2, R1, Q20, Q19, Q18, Q17, Q16, Q15, Q14, Q13, Q12, Q11, Q10, Q9, Q8, Q7, Q6, Q5, Q4, Q3, Q2, Q1, Tbl0])
      · have c1' : (x.kind = 2) = False := eq_false c1
        rw [hb (by simp [c1])]
        repeat' (first | refine ReqK.i ⟨by omega, by omega⟩ fun _ => ?_ | refine ReqK.i (by omega) fun _ => ?_ | refine ReqK.i (by unfold maxL; omega) fun _ => ?_ | refine ReqK.i (fits_of2 (by first | omega | (simp only [List.length_map, List.length_take, List.length_append, List.length_cons, List.length_nil]; omega)) (by decide)) fun _ => ?_ | simp only [go_sem, reduceIte, reduceCtorEq, Nat.reduceEqDiff, Nat.reduceAdd, Nat.reduceSub, Nat.reduceMul, Nat.reduceDiv, Nat.reduceMod, Nat.reduceLT, Nat.reduceLeDiff, Nat.reduceBEq, Nat.reducePow, Int.reduceLE, Int.reduceLT, Int.reduceEq, Int.reduceNeg, Int.reduceAdd, Int.reduceToNat, h1, hxi, c1', argI_nat, getD_map_lt, form_eta, Tryd.f131, V37, V36, V35, V34, V33, V32, V31, V30, V29, R28, R27, R22, R21, R20, R19, R18, R17, R16, R15, R14, R13, R12, R11, R10, R9, R8, R7, R6, R5, R4, R3, R2, R1, Q20, Q19, Q18, Q17, Q16, Q15, Q14, Q13, Q12, Q11, Q10, Q9, Q8, Q7, Q6, Q5, Q4, Q3, Q2, Q1, Tbl0])
    obtain rfl : i = tl.length := by omega
    rw [ke.out hgd]
    repeat' (first | refine ReqK.i (by omega) fun _ => ?_ | refine ReqK.i (by unfold maxL; omega) fun _ => ?_ | refine ReqK.i (fits_of2 (by first | omega | (simp only [List.length_map, List.length_take, List.length_append, List.length_cons, List.length_nil]; omega)) (by decide)) fun _ => ?_ | simp only [go_sem, reduceIte, reduceCtorEq, Nat.reduceEqDiff, Nat.reduceAdd, Nat.reduceSub, Nat.reduceMul, Nat.reduceDiv, Nat.reduceMod, Nat.reduceLT, Nat.reduceLeDiff, Nat.reduceBEq, Nat.reducePow, Int.reduceLE, Int.reduceLT, Int.reduceEq, Int.reduceNeg, Int.reduceAdd, Int.reduceToNat, Nat.lt_irrefl, predM, form_eta, Tryd.f131, V37, V36, V35, V34, V33, V32, V31, V30, V29, R28, R27, R22, R21, R20, R19, R18, R17, R16, R15, R14, R13, R12, R11, R10, R9, R8, R7, R6, R5, R4, R3, R2, R1, Q20, Q19, Q18, Q17, Q16, Q15, Q14, Q13, Q12, Q11, Q10, Q9, Q8, Q7, Q6, Q5, Q4, Q3, Q2, Q1, Tbl0])
end Go.Proofs.YtomhobohcejocaaDoor

namespace Go.Proofs.YtomhobohcejocaaDoor
open Go Go.Abs Go.Proofs

/-! ## event.Split$1 and event.change -/
def HP (ps : List Str) (ga : Nat) : List (Abs.Id × Option O) := [((55003, ga), some ⟨[.fz (.sl (ps.map enc))], true, false⟩)]
set_option maxRecDepth 100000 in
set_option maxHeartbeats 1000000 in
set_option maxHeartbeats 8000000 in
theorem f127 {ps : List Str} {ga : Nat} (c : Abs.Form) (n : Nat) (X : Heap) (hfit : c.fit = true) (_ : ga < n) (hX : ∀ id o, X id = some o → id.2 < n ∧ id.1 ≠ 55003) :
    Wcall Tryd.prog GA 127 [.fz (enc c), .ptr (55003, ga) 0] (hpX (HP ps ga) X) n (fun d' H' n' => d' = .fz (enc (splitBy qM ps c)) ∧ n ≤ n' ∧ HpOk H' (HP ps ga) ∧ ∀ id o, X id = some o → H' id = some o) := by
  obtain ⟨Q, hQ⟩ : ∃ Q : D → Heap → Nat → Prop, Q = (fun d' H' n' => d' = .fz (enc (splitBy qM ps c)) ∧ n ≤ n' ∧ HpOk H' (HP ps ga) ∧ ∀ id o, X id = some o → H' id = some o) := ⟨_, rfl⟩
  obtain ⟨QQ, hQQ⟩ : ∃ QQ : D → Heap → Nat → Prop, QQ = (fun d' H' n' => D.val d' = some (.fz (enc (splitBy qM ps c))) ∧ n ≤ n' ∧ HpOk H' (HP ps ga) ∧ ∀ id o, X id = some o → H' id = some o) := ⟨_, rfl⟩
  have hfin : ∀ d H m, QQ d H m → ∃ d' H' n', Weak GA 1 ⟨frL [(0, d)], H, m⟩ ⟨frL [(0, d')], H', n'⟩ ∧ Q d' H' n' := by
    rw [hQQ, hQ]
    rintro d H m ⟨h1, h2, h3, h4⟩
    exact ⟨_, H, m, Weak_val h1, rfl, h2, h3, h4⟩
  rw [← hQ]
  refine Wcall_post (Q := QQ) ?_ hfin
  clear hfin hQ
  have hX' : ∀ {l : List (Abs.Id × Option O)} (id o), X id = some o → (id.2 < n ∧ id.1 ≠ 55003 → apartL id l) → hpX l X id = some o := fun id o h1 h2 => (hpX_pass (h2 (hX id o h1))).trans h1
  obtain ⟨hwl, _, _⟩ := Form.fit_eq hfit
  have kX := Kp.mk @hX'
  by_cases c1 : c.kind = 2
  rotate_left
  · have e : splitBy qM ps c = c := by unfold splitBy; rw [if_neg (fun h => c1 h.1)]
    rw [e] at hQQ
    have kQ := Kp.mk hQQ
    clear hX' hQQ hX hfit e
    refine Wcall_K (N := 47) hm hV38 127000 (lst []) ok127 Tryd.func127 rfl rfl (by simp) (by kernel_rfl) ?_
    repeat' (first | refine ReqK.i (by omega) fun _ => ?_ | refine ReqK.i (by unfold maxL; omega) fun _ => ?_ | refine ReqK.i (fits_of2 (by first | omega | (simp only [List.length_map, List.length_take, List.length_append, List.length_cons, List.length_nil]; omega)) (by decide)) fun _ => ?_ | simp only [go_sem, reduceIte, reduceCtorEq, Nat.reduceEqDiff, Nat.reduceAdd, Nat.reduceSub, Nat.reduceMul, Nat.reduceDiv, Nat.reduceMod, Nat.reduceLT, Nat.reduceLeDiff, Nat.reduceBEq, Nat.reducePow, Int.reduceLE, Int.reduceLT, Int.reduceEq, Int.reduceNeg, Int.reduceAdd, Int.reduceToNat, HP, c1, form_eta, Tryd.f127, V38, V37, V36, V35, V34, V33, V32, V31, V30, V29, R28, R27, R22, R21, R20, R19, R18, R17, R16, R15, R14, R13, R12, R11, R10, R9, R8, R7, R6, R5, R4, R3, R2, R1, Q20, Q19, Q18, Q17, Q16, Q15, Q14, Q13, Q12, Q11, Q10, Q9, Q8, Q7, Q6, Q5, Q4, Q3, Q2, Q1, Tbl0])
    rw [kQ.out]
    refine ⟨?_, by omega, ?_, fun id o ho => kX.out id o ho fun h1 => ?_⟩
    · first | (simp only [go_sem, reduceIte, reduceCtorEq, Nat.reduceEqDiff, Nat.reduceAdd, Nat.reduceSub, Nat.reduceMul, Nat.reduceDiv, Nat.reduceMod, Nat.reduceLT, Nat.reduceLeDiff, Nat.reduceBEq, Nat.reducePow, Int.reduceLE, Int.reduceLT, Int.reduceEq, Int.reduceNeg, Int.reduceAdd, Int.reduceToNat, form_eta]; done) | simp only [go_sem, reduceIte, reduceCtorEq, Nat.reduceEqDiff, Nat.reduceAdd, Nat.reduceSub, Nat.reduceMul, Nat.reduceDiv, Nat.reduceMod, Nat.reduceLT, Nat.reduceLeDiff, Nat.reduceBEq, Nat.reducePow, Int.reduceLE, Int.reduceLT, Int.reduceEq, Int.reduceNeg, Int.reduceAdd, Int.reduceToNat, c1, form_eta]
    · simp only [go_sem, reduceIte, reduceCtorEq, Nat.reduceEqDiff, Nat.reduceAdd, Nat.reduceSub, Nat.reduceMul, Nat.reduceDiv, Nat.reduceMod, Nat.reduceLT, Nat.reduceLeDiff, Nat.reduceBEq, Nat.reducePow, Int.reduceLE, Int.reduceLT, Int.reduceEq, Int.reduceNeg, Int.reduceAdd, Int.reduceToNat, HP]
    · ((repeat' (first | exact trivial | apply And.intro)) <;> (rintro rfl; simp only at h1; omega))
  by_cases c2 : c.words.length = 0
  · have e : splitBy qM ps c = c := by unfold splitBy; rw [if_neg (fun h => by omega)]
    rw [e] at hQQ
    have kQ := Kp.mk hQQ
    have c2' : ((c.words.length : Int) = 0) = True := eq_true (by omega)
    clear hX' hQQ hX hfit e
    refine Wcall_K (N := 47) hm hV38 127000 (lst []) ok127 Tryd.func127 rfl rfl (by simp) (by kernel_rfl) ?_
    repeat' (first | refine ReqK.i (by omega) fun _ => ?_ | refine ReqK.i (by unfold maxL; omega) fun _ => ?_ | refine ReqK.i (fits_of2 (by first | omega | (simp only [List.length_map, List.length_take, List.length_append, List.length_cons, List.length_nil]; omega)) (by decide)) fun _ => ?_ | simp only [go_sem, reduceIte, reduceCtorEq, Nat.reduceEqDiff, Nat.reduceAdd, Nat.reduceSub, Nat.reduceMul, Nat.reduceDiv, Nat.reduceMod, Nat.reduceLT, Nat.reduceLeDiff, Nat.reduceBEq, Nat.reducePow, Int.reduceLE, Int.reduceLT, Int.reduceEq, Int.reduceNeg, Int.reduceAdd, Int.reduceToNat, HP, c1, c2', form_eta, Tryd.f127, V38, V37, V36, V35, V34, V33, V32, V31, V30, V29, R28, R27, R22, R21, R20, R19, R18, R17, R16, R15, R14, R13, R12, R11, R10, R9, R8, R7, R6, R5, R4, R3, R2, R1, Q20, Q19, Q18, Q17, Q16, Q15, Q14, Q13, Q12, Q11, Q10, Q9, Q8, Q7, Q6, Q5, Q4, Q3, Q2, Q1, Tbl0])
    rw [kQ.out]
    refine ⟨?_, by omega, ?_, fun id o ho => kX.out id o ho fun h1 => ?_⟩
    · first | (simp only [go_sem, reduceIte, reduceCtorEq, Nat.reduceEqDiff, Nat.reduceAdd, Nat.reduceSub, Nat.reduceMul, Nat.reduceDiv, Nat.reduceMod, Nat.reduceLT, Nat.reduceLeDiff, Nat.reduceBEq, Nat.reducePow, Int.reduceLE, Int.reduceLT, Int.reduceEq, Int.reduceNeg, Int.reduceAdd, Int.reduceToNat, form_eta]; done) | simp only [go_sem, reduceIte, reduceCtorEq, Nat.reduceEqDiff, Nat.reduceAdd, Nat.reduceSub, Nat.reduceMul, Nat.reduceDiv, Nat.reduceMod, Nat.reduceLT, Nat.reduceLeDiff, Nat.reduceBEq, Nat.reducePow, Int.reduceLE, Int.reduceLT, Int.reduceEq, Int.reduceNeg, Int.reduceAdd, Int.reduceToNat, c1, form_eta]
    · simp only [go_sem, reduceIte, reduceCtorEq, Nat.reduceEqDiff, Nat.reduceAdd, Nat.reduceSub, Nat.reduceMul, Nat.reduceDiv, Nat.reduceMod, Nat.reduceLT, Nat.reduceLeDiff, Nat.reduceBEq, Nat.reducePow, Int.reduceLE, Int.reduceLT, Int.reduceEq, Int.reduceNeg, Int.reduceAdd, Int.reduceToNat, HP]
    · ((repeat' (first | exact trivial | apply And.intro)) <;> (rintro rfl; simp only at h1; omega))
  have c2' : ((c.words.length : Int) = 0) = False := eq_false (by omega)
  by_cases c3 : c.name ∈ ps
  rotate_left
  · have e : splitBy qM ps c = c := by unfold splitBy; rw [if_neg (fun h => c3 h.2.2)]
    rw [e] at hQQ
    have kQ := Kp.mk hQQ
    clear hX' hQQ hX hfit e
    refine Wcall_K (N := 47) hm hV38 127000 (lst []) ok127 Tryd.func127 rfl rfl (by simp) (by kernel_rfl) ?_
    repeat' (first | refine ReqK.i (by omega) fun _ => ?_ | refine ReqK.i (by unfold maxL; omega) fun _ => ?_ | refine ReqK.i (fits_of2 (by first | omega | (simp only [List.length_map, List.length_take, List.length_append, List.length_cons, List.length_nil]; omega)) (by decide)) fun _ => ?_ | simp only [go_sem, reduceIte, reduceCtorEq, Nat.reduceEqDiff, Nat.reduceAdd, Nat.reduceSub, Nat.reduceMul, Nat.reduceDiv, Nat.reduceMod, Nat.reduceLT, Nat.reduceLeDiff, Nat.reduceBEq, Nat.reducePow, Int.reduceLE, Int.reduceLT, Int.reduceEq, Int.reduceNeg, Int.reduceAdd, Int.reduceToNat, HP, c1, c2', c3, str_eta, form_eta, Tryd.f127, V38, V37, V36, V35, V34, V33, V32, V31, V30, V29, R28, R27, R22, R21, R20, R19, R18, R17, R16, R15, R14, R13, R12, R11, R10, R9, R8, R7, R6, R5, R4, R3, R2, R1, Q20, Q19, Q18, Q17, Q16, Q15, Q14, Q13, Q12, Q11, Q10, Q9, Q8, Q7, Q6, Q5, Q4, Q3, Q2, Q1, Tbl0])
    rw [kQ.out]
    refine ⟨?_, by omega, ?_, fun id o ho => kX.out id o ho fun h1 => ?_⟩
    · first | (simp only [go_sem, reduceIte, reduceCtorEq, Nat.reduceEqDiff, Nat.reduceAdd, Nat.reduceSub, Nat.reduceMul, Nat.reduceDiv, Nat.reduceMod, Nat.reduceLT, Nat.reduceLeDiff, Nat.reduceBEq, Nat.reducePow, Int.reduceLE, Int.reduceLT, Int.reduceEq, Int.reduceNeg, Int.reduceAdd, Int.reduceToNat, form_eta]; done) | simp only [go_sem, reduceIte, reduceCtorEq, Nat.reduceEqDiff, Nat.reduceAdd, Nat.reduceSub, Nat.reduceMul, Nat.reduceDiv, Nat.reduceMod, Nat.reduceLT, Nat.reduceLeDiff, Nat.reduceBEq, Nat.reducePow, Int.reduceLE, Int.reduceLT, Int.reduceEq, Int.reduceNeg, Int.reduceAdd, Int.reduceToNat, c1, form_eta]
    · simp only [go_sem, reduceIte, reduceCtorEq, Nat.reduceEqDiff, Nat.reduceAdd, Nat.reduceSub, Nat.reduceMul, Nat.reduceDiv, Nat.reduceMod, Nat.reduceLT, Nat.reduceLeDiff, Nat.reduceBEq, Nat.reducePow, Int.reduceLE, Int.reduceLT, Int.reduceEq, Int.reduceNeg, Int.reduceAdd, Int.reduceToNat, HP]
    · ((repeat' (first | exact trivial | apply And.intro)) <;> (rintro rfl; simp only at h1; omega))
  obtain ⟨J, hJ⟩ : ∃ J : Nat → Abs.Form, J = fun i => joinM 5 (.mk 2 c.name [qM] [] :: (List.range i).map fun i => .mk 2 (argS i) [qM, c.words.getD i ⟨[]⟩] []) := ⟨_, rfl⟩
  have hJ0 : J 0 = predM c.name [qM] := by rw [hJ]; rfl
  have hJs : ∀ i (h : i < c.words.length), J (i + 1) = andF (J i) (predM (argS i) [qM, c.words[i]]) := fun i h => by
    rw [hJ]
    simp only [List.range_succ, List.map_append, List.map_cons, List.map_nil, ← List.cons_append]
    rw [joinM_snoc 5 (by simp), List.getD_eq_getElem?_getD, List.getElem?_eq_getElem h]
    rfl
  have e : splitBy qM ps c = .mk 9 qM [] [J c.words.length] := by
    unfold splitBy splitF
    rw [if_pos ⟨c1, by omega, c3⟩, hJ]
  rw [e] at hQQ
  have kQ := Kp.mk hQQ
  have kJ := Kp.mk hJs
  have dq : Str.mk [63] = qM := rfl
  have dql : qM.l = [63] := rfl
  clear hX' hQQ hX hfit e hJ hJs
  obtain ⟨j0, hj0⟩ : ∃ j0, predM c.name [qM] = j0 := ⟨_, rfl⟩
  rw [hj0] at hJ0
  refine Wcall_K (N := 47) hm hV38 127000 (lst []) ok127 Tryd.func127 rfl rfl (by simp) (by kernel_rfl) ?_
  repeat' (first | refine ReqK.i ⟨rfl, rfl⟩ fun _ => ?_ | refine ReqK.i rfl fun _ => ?_ | refine ReqK.i (by omega) fun _ => ?_ | refine ReqK.i (by unfold maxL; omega) fun _ => ?_ | refine ReqK.i (fits_of2 (by first | omega | (simp only [List.length_map, List.length_take, List.length_append, List.length_cons, List.length_nil]; omega)) (by decide)) fun _ => ?_ | simp only [go_sem, reduceIte, reduceCtorEq, Nat.reduceEqDiff, Nat.reduceAdd, Nat.reduceSub, Nat.reduceMul, Nat.reduceDiv, Nat.reduceMod, Nat.reduceLT, Nat.reduceLeDiff, Nat.reduceBEq, Nat.reducePow, Int.reduceLE, Int.reduceLT, Int.reduceEq, Int.reduceNeg, Int.reduceAdd, Int.reduceToNat, HP, c1, c2', c3, dq, hj0, str_eta, form_eta, Tryd.f127, V38, V37, V36, V35, V34, V33, V32, V31, V30, V29, R28, R27, R22, R21, R20, R19, R18, R17, R16, R15, R14, R13, R12, R11, R10, R9, R8, R7, R6, R5, R4, R3, R2, R1, Q20, Q19, Q18, Q17, Q16, Q15, Q14, Q13, Q12, Q11, Q10, Q9, Q8, Q7, Q6, Q5, Q4, Q3, Q2, Q1, Tbl0])
  refine WK_loop hm hV38 127000 (lst []) (ι := LoopI c.words.length fun _ => True)
    ⟨fun q => ⟨frL [(1, .ptr (55003, ga) 0), (3, .ptr (127003, n + 1) 0), (4, .ptr (127004, n + 1 + 1) 0), (29, .fz (.sl (c.words.map enc))), (30, .fz (.i .i64 c.words.length)), (31, .fz (.i .i64 q.i))],
      hpX ([((127003, n + 1), some ⟨[.fz (.i .i64 0), .fz (.s []), .full [], .full []], true, false⟩), ((127004, n + 1 + 1), some ⟨[.fz (.i .i64 (J q.i).kind), .fz (.s (J q.i).name.l), .fz (.sl ((J q.i).words.map enc)), .fz (.sl ((J q.i).subs.map enc))], true, false⟩)] ++ HP ps ga) X, n + 1 + 1 + 1⟩, fun q => c.words.length - q.i⟩
    ⟨0, by omega, trivial⟩ (by kernel_rfl) ?_ ?_
  · refine Weak_toX ?_ ?_ (fun id o ho => ?_) ?_
    · simp only [go_sem, reduceIte, reduceCtorEq, Nat.reduceEqDiff, Nat.reduceAdd, Nat.reduceSub, Nat.reduceMul, Nat.reduceDiv, Nat.reduceMod, Nat.reduceLT, Nat.reduceLeDiff, Nat.reduceBEq, Nat.reducePow, Int.reduceLE, Int.reduceLT, Int.reduceEq, Int.reduceNeg, Int.reduceAdd, Int.reduceToNat]
    · simp only [go_sem, reduceIte, reduceCtorEq, Nat.reduceEqDiff, Nat.reduceAdd, Nat.reduceSub, Nat.reduceMul, Nat.reduceDiv, Nat.reduceMod, Nat.reduceLT, Nat.reduceLeDiff, Nat.reduceBEq, Nat.reducePow, Int.reduceLE, Int.reduceLT, Int.reduceEq, Int.reduceNeg, Int.reduceAdd, Int.reduceToNat, HP, hJ0]
    · refine kX.out id o ho fun h1 => ?_
      ((repeat' (first | exact trivial | apply And.intro)) <;> (rintro rfl; simp only at h1; omega))
    · simp only [go_sem, reduceIte, reduceCtorEq, Nat.reduceEqDiff, Nat.reduceAdd, Nat.reduceSub, Nat.reduceMul, Nat.reduceDiv, Nat.reduceMod, Nat.reduceLT, Nat.reduceLeDiff, Nat.reduceBEq, Nat.reducePow, Int.reduceLE, Int.reduceLT, Int.reduceEq, Int.reduceNeg, Int.reduceAdd, Int.reduceToNat]
  rintro ⟨i, hi, _⟩
  try simp only at hi
  rcases Nat.lt_or_ge i c.words.length with h1 | h1
  · have hs := kJ.out i h1
    obtain ⟨w, hw⟩ : ∃ w, c.words[i] = w := ⟨_, rfl⟩
    rw [hw] at hs
    obtain ⟨y, hy⟩ : ∃ y, predM (argS i) [qM, w] = y := ⟨_, rfl⟩
    obtain ⟨z, hz⟩ : ∃ z, J i = z := ⟨_, rfl⟩
    rw [hy, hz] at hs
    repeat' (first | refine ReqK.i ⟨by omega, by omega⟩ fun _ => ?_ | refine ReqK.i ⟨rfl, rfl⟩ fun _ => ?_ | refine ReqK.i rfl fun _ => ?_ | refine ReqK.i (by omega) fun _ => ?_ | refine ReqK.i (by unfold maxL; omega) fun _ => ?_ | refine ReqK.i (fits_of2 (by first | omega | (simp only [List.length_map, List.length_take, List.length_append, List.length_cons, List.length_nil]; omega)) (by decide)) fun _ => ?_ | simp only [go_sem, reduceIte, reduceCtorEq, Nat.reduceEqDiff, Nat.reduceAdd, Nat.reduceSub, Nat.reduceMul, Nat.reduceDiv, Nat.reduceMod, Nat.reduceLT, Nat.reduceLeDiff, Nat.reduceBEq, Nat.reducePow, Int.reduceLE, Int.reduceLT, Int.reduceEq, Int.reduceNeg, Int.reduceAdd, Int.reduceToNat, HP, h1, hw, hy, hz, dq, argI_nat, str_eta, form_eta, getD_map_lt, Tryd.f127, V38, V37, V36, V35, V34, V33, V32, V31, V30, V29, R28, R27, R22, R21, R20, R19, R18, R17, R16, R15, R14, R13, R12, R11, R10, R9, R8, R7, R6, R5, R4, R3, R2, R1, Q20, Q19, Q18, Q17, Q16, Q15, Q14, Q13, Q12, Q11, Q10, Q9, Q8, Q7, Q6, Q5, Q4, Q3, Q2, Q1, Tbl0])
    refine ⟨⟨i + 1, by omega, trivial⟩, by simp only; omega, ?_⟩
    refine Weak_toX ?_ ?_ (fun id o ho => ?_) ?_
    · simp only [go_sem, reduceIte, reduceCtorEq, Nat.reduceEqDiff, Nat.reduceAdd, Nat.reduceSub, Nat.reduceMul, Nat.reduceDiv, Nat.reduceMod, Nat.reduceLT, Nat.reduceLeDiff, Nat.reduceBEq, Nat.reducePow, Int.reduceLE, Int.reduceLT, Int.reduceEq, Int.reduceNeg, Int.reduceAdd, Int.reduceToNat]
    · simp only [go_sem, reduceIte, reduceCtorEq, Nat.reduceEqDiff, Nat.reduceAdd, Nat.reduceSub, Nat.reduceMul, Nat.reduceDiv, Nat.reduceMod, Nat.reduceLT, Nat.reduceLeDiff, Nat.reduceBEq, Nat.reducePow, Int.reduceLE, Int.reduceLT, Int.reduceEq, Int.reduceNeg, Int.reduceAdd, Int.reduceToNat, HP, hs]
    · refine kX.out id o ho fun h1 => ?_
      ((repeat' (first | exact trivial | apply And.intro)) <;> (rintro rfl; simp only at h1; omega))
    · simp only [go_sem, reduceIte, reduceCtorEq, Nat.reduceEqDiff, Nat.reduceAdd, Nat.reduceSub, Nat.reduceMul, Nat.reduceDiv, Nat.reduceMod, Nat.reduceLT, Nat.reduceLeDiff, Nat.reduceBEq, Nat.reducePow, Int.reduceLE, Int.reduceLT, Int.reduceEq, Int.reduceNeg, Int.reduceAdd, Int.reduceToNat]
  obtain rfl : i = c.words.length := by omega
  repeat' (first | refine ReqK.i (by omega) fun _ => ?_ | refine ReqK.i (by unfold maxL; omega) fun _ => ?_ | refine ReqK.i (fits_of2 (by first | omega | (simp only [List.length_map, List.length_take, List.length_append, List.length_cons, List.length_nil]; omega)) (by decide)) fun _ => ?_ | simp only [go_sem, reduceIte, reduceCtorEq, Nat.reduceEqDiff, Nat.reduceAdd, Nat.reduceSub, Nat.reduceMul, Nat.reduceDiv, Nat.reduceMod, Nat.reduceLT, Nat.reduceLeDiff, Nat.reduceBEq, Nat.reducePow, Int.reduceLE, Int.reduceLT, Int.reduceEq, Int.reduceNeg, Int.reduceAdd, Int.reduceToNat, HP, Nat.lt_irrefl, form_eta, Tryd.f127, V38, V37, V36, V35, V34, V33, V32, V31, V30, V29, R28, R27, R22, R21, R20, R19, R18, R17, R16, R15, R14, R13, R12, R11, R10, R9, R8, R7, R6, R5, R4, R3, R2, R1, Q20, Q19, Q18, Q17, Q16, Q15, Q14, Q13, Q12, Q11, Q10, Q9, Q8, Q7, Q6, Q5, Q4, Q3, Q2, Q1, Tbl0])
  rw [kQ.out]
  refine ⟨?_, by omega, ?_, fun id o ho => kX.out id o ho fun h1 => ?_⟩
  · simp only [go_sem, reduceIte, reduceCtorEq, Nat.reduceEqDiff, Nat.reduceAdd, Nat.reduceSub, Nat.reduceMul, Nat.reduceDiv, Nat.reduceMod, Nat.reduceLT, Nat.reduceLeDiff, Nat.reduceBEq, Nat.reducePow, Int.reduceLE, Int.reduceLT, Int.reduceEq, Int.reduceNeg, Int.reduceAdd, Int.reduceToNat, dql, form_eta]
  · simp only [go_sem, reduceIte, reduceCtorEq, Nat.reduceEqDiff, Nat.reduceAdd, Nat.reduceSub, Nat.reduceMul, Nat.reduceDiv, Nat.reduceMod, Nat.reduceLT, Nat.reduceLeDiff, Nat.reduceBEq, Nat.reducePow, Int.reduceLE, Int.reduceLT, Int.reduceEq, Int.reduceNeg, Int.reduceAdd, Int.reduceToNat, HP]
  · ((repeat' (first | exact trivial | apply And.intro)) <;> (rintro rfl; simp only at h1; omega))

def tree1266M : Tv := (.q 0 (.q 2 (.q 3 (.br [(1, (.br [(4, (.q 5 (.br [(6, (.q 7 (.br [(8, .leaf)])))])))])), (4, (.q 1 (.q 5 (.br [(6, (.q 7 (.br [(8, .leaf)])))]))))]))))
set_option maxRecDepth 100000 in
set_option maxHeartbeats 1000000 in
set_option maxHeartbeats 8000000 in
theorem f126M : ∀ (s : Nat) (f : Abs.Form) (n : Nat) (X : Heap), f.size ≤ s → (enc f).Wf → f.fit = true → wfE f → f.size ≤ 100000 → (∀ id o, X id = some o → id.2 < n) →
    Wcall Tryd.prog GA 126 [.fz (enc f), .fn 131 []] (hpX ([]) X) n (fun d' H' n' => d' = .fz (enc (changeM mergeBy f)) ∧ n ≤ n' ∧ ∀ id o, X id = some o → H' id = some o) := by
  intro s
  induction s with
  | zero => intro f n X hs; have := f.size_pos; omega
  | succ s ih =>
    intro f n X hs hw hfit hwf hsz hX
    obtain ⟨R, hR⟩ : ∃ R, changeM mergeBy f = R := ⟨_, rfl⟩
    obtain ⟨Q, hQ⟩ : ∃ Q : D → Heap → Nat → Prop, Q = (fun d' H' n' => d' = .fz (enc (changeM mergeBy f)) ∧ n ≤ n' ∧ ∀ id o, X id = some o → H' id = some o) := ⟨_, rfl⟩
    obtain ⟨QQ, hQQ⟩ : ∃ QQ : D → Heap → Nat → Prop, QQ = (fun d' H' n' => D.val d' = some (.fz (enc (changeM mergeBy f))) ∧ n ≤ n' ∧ ∀ id o, X id = some o → H' id = some o) := ⟨_, rfl⟩
    have hfin : ∀ d H m, QQ d H m → ∃ d' H' n', Weak GA 1 ⟨frL [(0, d)], H, m⟩ ⟨frL [(0, d')], H', n'⟩ ∧ Q d' H' n' := by
      rw [hQQ, hQ]
      rintro d H m ⟨h1, h2, h3⟩
      exact ⟨_, H, m, Weak_val h1, rfl, h2, h3⟩
    rw [← hQ]
    refine Wcall_post (Q := QQ) ?_ hfin
    clear hfin hQ
    rw [hR] at hQQ
    have hX' : ∀ {l : List (Abs.Id × Option O)} (id o), X id = some o → (id.2 < n → apartL id l) → hpX l X id = some o := fun id o h1 h2 => (hpX_pass (h2 (hX id o h1))).trans h1
    obtain ⟨hwl, hsl, hfs⟩ := Form.fit_eq hfit
    have hsw : ∀ g ∈ f.subs, (enc g).Wf := fun g hg => Wf_mem (Wf_agg (by have h := hw; rw [enc_form] at h; exact h) (FD.sl (f.subs.map enc)) (by simp)) _ (List.mem_map_of_mem hg)
    have hss : ∀ g ∈ f.subs, g.size ≤ s ∧ g.fit = true ∧ wfE g ∧ g.size ≤ 100000 := fun g hg => ⟨by have := Form.size_sub hg; omega, Form.fits_mem hfs hg, wfE_sub hwf g hg, by have := Form.size_sub hg; omega⟩
    obtain ⟨A, hA⟩ : ∃ A : Nat → List Abs.Form, A = fun j => (f.subs.take j).map (changeM mergeBy) := ⟨_, rfl⟩
    have hA0 : A 0 = [] := by rw [hA]; rfl
    have hAs : ∀ j (h : j < f.subs.length), A (j + 1) = A j ++ [changeM mergeBy f.subs[j]] := fun j h => by rw [hA]; simp only [List.take_succ_eq_append_getElem h, List.map_append, List.map_cons, List.map_nil]
    have hAl : ∀ j, (A j).length ≤ f.subs.length := fun j => by rw [hA]; simp only [List.length_map, List.length_take]; omega
    have hRe : mergeBy (.mk f.kind f.name f.words (A f.subs.length)) = R := by rw [← hR, changeM_eq, hA]; simp only [List.take_length]
    have hAf : A f.subs.length = changeMs mergeBy f.subs := by rw [hA, changeMs_map]; simp only [List.take_length]
    have hgo : evPre (.mk f.kind f.name f.words (A f.subs.length)) ∧ (Abs.Form.mk f.kind f.name f.words (A f.subs.length)).fit = true := by
      rw [hAf]
      have h5 := wfE_eq.1 hwf
      refine ⟨⟨?_, ?_⟩, ?_⟩
      · rw [wfE]
        exact ⟨by rw [changeMs_map, List.length_map]; exact h5.1, by rw [changeMs_map, List.length_map]; exact h5.2.1, h5.2.2.1, changeMs_wfE (fun f h => mergeBy_wfE h) f.subs h5.2.2.2⟩
      · have h6 := changeMs_size (c := 0) (by' := mergeBy) (fun f => mergeBy_size f) f.subs
        have h7 : f.size = Form.sizes f.subs + 1 := by cases f; rw [Form.size]; rfl
        refine Nat.le_trans (m := Form.sizes f.subs * (0 + 1) + 1) ?_ (by omega)
        rw [Form.size]; omega
      · rw [Form.fit, changeMs_fit (fun f h => mergeBy_fit h) f.subs hfs, changeMs_map, List.length_map, decide_eq_true hwl, decide_eq_true hsl]; rfl
    have kX := Kp.mk @hX'
    have kQ := Kp.mk hQQ
    have kI := Kp.mk ih
    have kS := Kp.mk hsw
    have kZ := Kp.mk hss
    have kx := Kp.mk hX
    have kA := Kp.mk hAs
    have kL := Kp.mk hAl
    have kG := Kp.mk hgo
    have kR := Kp.mk hRe
    clear hX' hQQ ih hsw hss hX hfs hw hfit hA hAs hAl hR hgo hRe hAf
    refine Wcall_K (N := 29) hm hV38 126000 (lsw [23] [1000006]) ok126 Tryd.func126 rfl rfl (by simp) (by kernel_rfl) ?_
    repeat' (first | refine ReqK.i (by omega) fun _ => ?_ | refine ReqK.i (by unfold maxL; omega) fun _ => ?_ | refine ReqK.i (fits_of2 (by first | omega | (simp only [List.length_map, List.length_take, List.length_append, List.length_cons, List.length_nil]; omega)) (by decide)) fun _ => ?_ | simp only [go_sem, reduceIte, reduceCtorEq, Nat.reduceEqDiff, Nat.reduceAdd, Nat.reduceSub, Nat.reduceMul, Nat.reduceDiv, Nat.reduceMod, Nat.reduceLT, Nat.reduceLeDiff, Nat.reduceBEq, Nat.reducePow, Int.reduceLE, Int.reduceLT, Int.reduceEq, Int.reduceNeg, Int.reduceAdd, Int.reduceToNat, HP, Tryd.f126, V38, V37, V36, V35, V34, V33, V32, V31, V30, V29, R28, R27, R22, R21, R20, R19, R18, R17, R16, R15, R14, R13, R12, R11, R10, R9, R8, R7, R6, R5, R4, R3, R2, R1, Q20, Q19, Q18, Q17, Q16, Q15, Q14, Q13, Q12, Q11, Q10, Q9, Q8, Q7, Q6, Q5, Q4, Q3, Q2, Q1, Tbl0])
    refine WK_loop hm hV38 126000 (lsw [23] [1000006]) (ι := LoopX f.subs.length (n + 4) n)
      ⟨fun q => ⟨frL [(1, .fn 131 []), (4, .ptr (126004, n + 1) 0), (5, .ptr (126005, n + 1 + 1) 0), (11, .fz (.sl (f.subs.map enc))), (12, .fz (.i .i64 f.subs.length)), (13, .fz (.i .i64 q.i))],
        hpX ([((126004, n + 1), some ⟨[.fz (.i .i64 0), .fz (.s []), .full [], .full []], true, false⟩), ((126005, n + 1 + 1), some ⟨[.fz (.i .i64 f.kind), .fz (.s f.name.l), .fz (.sl (f.words.map enc)), .ow (126023, q.g) 4 ((A q.i).map enc)], true, false⟩), ((126023, q.g), some tok)]) X, q.m⟩, fun q => f.subs.length - q.i⟩
      ⟨0, n + 1 + 1 + 1, n + 1 + 1 + 1 + 1, by omega, by omega, by omega, by omega⟩ (by kernel_rfl) ?_ ?_
    · refine Weak_then (Weak_newvX 126023) (Weak_then (Weak_cellX (id := (126005, n + 1 + 1)) (id2 := (126023, n + 1 + 1 + 1)) (es := 4) (k := 3) (xs := []) (b := true) (by simp only [go_sem, reduceIte, reduceCtorEq, Nat.reduceEqDiff, Nat.reduceAdd, Nat.reduceSub, Nat.reduceMul, Nat.reduceDiv, Nat.reduceMod, Nat.reduceLT, Nat.reduceLeDiff, Nat.reduceBEq, Nat.reducePow, Int.reduceLE, Int.reduceLT, Int.reduceEq, Int.reduceNeg, Int.reduceAdd, Int.reduceToNat]; rfl) (by simp) (by rfl) (by simp only; omega)) ?_)
      refine Weak_toX ?_ ?_ (fun id o ho => ?_) ?_
      · simp only [go_sem, reduceIte, reduceCtorEq, Nat.reduceEqDiff, Nat.reduceAdd, Nat.reduceSub, Nat.reduceMul, Nat.reduceDiv, Nat.reduceMod, Nat.reduceLT, Nat.reduceLeDiff, Nat.reduceBEq, Nat.reducePow, Int.reduceLE, Int.reduceLT, Int.reduceEq, Int.reduceNeg, Int.reduceAdd, Int.reduceToNat]
      · simp only [go_sem, reduceIte, reduceCtorEq, Nat.reduceEqDiff, Nat.reduceAdd, Nat.reduceSub, Nat.reduceMul, Nat.reduceDiv, Nat.reduceMod, Nat.reduceLT, Nat.reduceLeDiff, Nat.reduceBEq, Nat.reducePow, Int.reduceLE, Int.reduceLT, Int.reduceEq, Int.reduceNeg, Int.reduceAdd, Int.reduceToNat, HP, hA0]
      · refine kX.out id o ho fun h1 => ?_
        ((repeat' (first | exact trivial | apply And.intro)) <;> (rintro rfl; simp only at h1; omega))
      · simp only [go_sem, reduceIte, reduceCtorEq, Nat.reduceEqDiff, Nat.reduceAdd, Nat.reduceSub, Nat.reduceMul, Nat.reduceDiv, Nat.reduceMod, Nat.reduceLT, Nat.reduceLeDiff, Nat.reduceBEq, Nat.reducePow, Int.reduceLE, Int.reduceLT, Int.reduceEq, Int.reduceNeg, Int.reduceAdd, Int.reduceToNat]
    rintro ⟨j, g2, m2, hj, hg2, hm2, hgl2⟩
    try simp only at hj hg2 hm2 hgl2
    rcases Nat.lt_or_ge j f.subs.length with h2 | h2
    · have hmem := List.getElem_mem h2
      obtain ⟨x, hx⟩ : ∃ x, f.subs[j] = x := ⟨_, rfl⟩
      have hz := kZ.out _ hmem
      have hwx := kS.out _ hmem
      have hAj := kA.out j h2
      have hAlj := kL.out j
      rw [hx] at hz hwx hAj
      obtain ⟨y, hy⟩ : ∃ y, changeM mergeBy x = y := ⟨_, rfl⟩
      rw [hy] at hAj
      have ih2 : ∀ (m3 : Nat), m2 ≤ m3 → _ := fun m3 hm3 => kI.out x m3 (hpX [((126004, n + 1), some ⟨[.fz (.i .i64 0), .fz (.s []), .full [], .full []], true, false⟩), ((126005, n + 1 + 1), some ⟨[.fz (.i .i64 f.kind), .fz (.s f.name.l), .fz (.sl (f.words.map enc)), .ow (126023, g2) 4 ((A j).map enc)], true, false⟩), ((126023, g2), some tok)] X) hz.1 hwx hz.2.1 hz.2.2.1 hz.2.2.2 (by
        intro id o ho
        simp only [hpX] at ho
        split at ho
        · rename_i e; subst e; simp only; omega
        split at ho
        · rename_i e; subst e; simp only; omega
        split at ho
        · rename_i e; subst e; simp only; omega
        · have := kx.out id o ho; omega)
      simp only [hy] at ih2
      rw [enc_form (f := x)] at ih2
      obtain ⟨fy, hfy⟩ : ∃ fy, enc y = fy := ⟨_, rfl⟩
      have hcy : fy.cells.length = 4 := by rw [← hfy, enc_form]; rfl
      have hff : (flatFz [fy]).all oneB = true := by rw [← hfy]; have h9 := @flats_forms [y]; exact eq_true h9 ▸ h9
      repeat' (first | refine ReqK.i (by omega) fun _ => ?_ | refine ReqK.i (by unfold maxL; omega) fun _ => ?_ | refine ReqK.i (fits_of2 (by first | omega | (simp only [List.length_map, List.length_take, List.length_append, List.length_cons, List.length_nil]; omega)) (by decide)) fun _ => ?_ | simp only [go_sem, reduceIte, reduceCtorEq, Nat.reduceEqDiff, Nat.reduceAdd, Nat.reduceSub, Nat.reduceMul, Nat.reduceDiv, Nat.reduceMod, Nat.reduceLT, Nat.reduceLeDiff, Nat.reduceBEq, Nat.reducePow, Int.reduceLE, Int.reduceLT, Int.reduceEq, Int.reduceNeg, Int.reduceAdd, Int.reduceToNat, HP, h2, hx, getD_map_lt, Tryd.f126, V38, V37, V36, V35, V34, V33, V32, V31, V30, V29, R28, R27, R22, R21, R20, R19, R18, R17, R16, R15, R14, R13, R12, R11, R10, R9, R8, R7, R6, R5, R4, R3, R2, R1, Q20, Q19, Q18, Q17, Q16, Q15, Q14, Q13, Q12, Q11, Q10, Q9, Q8, Q7, Q6, Q5, Q4, Q3, Q2, Q1, Tbl0])
      refine WK_weak2 (Weak_rpL (id := (126007, m2)) (t := 7) (b := true) (ys := [.i .i64 x.kind, .s x.name.l, .sl (x.words.map enc), .sl (x.subs.map enc)]) (by simp only [go_sem, reduceIte, reduceCtorEq, Nat.reduceEqDiff, Nat.reduceAdd, Nat.reduceSub, Nat.reduceMul, Nat.reduceDiv, Nat.reduceMod, Nat.reduceLT, Nat.reduceLeDiff, Nat.reduceBEq, Nat.reducePow, Int.reduceLE, Int.reduceLT, Int.reduceEq, Int.reduceNeg, Int.reduceAdd, Int.reduceToNat]) (by simp only [go_sem, reduceIte, reduceCtorEq, Nat.reduceEqDiff, Nat.reduceAdd, Nat.reduceSub, Nat.reduceMul, Nat.reduceDiv, Nat.reduceMod, Nat.reduceLT, Nat.reduceLeDiff, Nat.reduceBEq, Nat.reducePow, Int.reduceLE, Int.reduceLT, Int.reduceEq, Int.reduceNeg, Int.reduceAdd, Int.reduceToNat])) ?_
      refine WK_drawV hm hV38 126000 (lsw [23] [1000006]) tree1266M (by kernel_rfl) (by kernel_rfl) ?_
      repeat' (first | refine And.intro ?_ ?_ | exact True.intro | refine ReqK.i (by omega) fun _ => ?_ | refine ReqK.i (by unfold maxL; omega) fun _ => ?_ | refine ReqK.i (fits_of2 (by first | omega | (simp only [List.length_map, List.length_take, List.length_append, List.length_cons, List.length_nil]; omega)) (by decide)) fun _ => ?_ | simp only [go_sem, reduceIte, reduceCtorEq, Nat.reduceEqDiff, Nat.reduceAdd, Nat.reduceSub, Nat.reduceMul, Nat.reduceDiv, Nat.reduceMod, Nat.reduceLT, Nat.reduceLeDiff, Nat.reduceBEq, Nat.reducePow, Int.reduceLE, Int.reduceLT, Int.reduceEq, Int.reduceNeg, Int.reduceAdd, Int.reduceToNat, HP, tree1266M, h2, hx, getD_map_lt, Tryd.f126, V38, V37, V36, V35, V34, V33, V32, V31, V30, V29, R28, R27, R22, R21, R20, R19, R18, R17, R16, R15, R14, R13, R12, R11, R10, R9, R8, R7, R6, R5, R4, R3, R2, R1, Q20, Q19, Q18, Q17, Q16, Q15, Q14, Q13, Q12, Q11, Q10, Q9, Q8, Q7, Q6, Q5, Q4, Q3, Q2, Q1, Tbl0])
      all_goals
        refine WcallK.i (Wcall_toX (by simp only [go_sem, reduceIte, reduceCtorEq, Nat.reduceEqDiff, Nat.reduceAdd, Nat.reduceSub, Nat.reduceMul, Nat.reduceDiv, Nat.reduceMod, Nat.reduceLT, Nat.reduceLeDiff, Nat.reduceBEq, Nat.reducePow, Int.reduceLE, Int.reduceLT, Int.reduceEq, Int.reduceNeg, Int.reduceAdd, Int.reduceToNat, argL]) (by simp only [go_sem, reduceIte, reduceCtorEq, Nat.reduceEqDiff, Nat.reduceAdd, Nat.reduceSub, Nat.reduceMul, Nat.reduceDiv, Nat.reduceMod, Nat.reduceLT, Nat.reduceLeDiff, Nat.reduceBEq, Nat.reducePow, Int.reduceLE, Int.reduceLT, Int.reduceEq, Int.reduceNeg, Int.reduceAdd, Int.reduceToNat, HP]) (fun id o ho => ?_) (Nat.le_refl _) (Wcall_mono (ih2 _ (by omega)) ?_))
        · simp only [hpX] at ho
          split at ho
          · rename_i e; subst e; simp only [go_sem, reduceIte, reduceCtorEq, Nat.reduceEqDiff, Nat.reduceAdd, Nat.reduceSub, Nat.reduceMul, Nat.reduceDiv, Nat.reduceMod, Nat.reduceLT, Nat.reduceLeDiff, Nat.reduceBEq, Nat.reducePow, Int.reduceLE, Int.reduceLT, Int.reduceEq, Int.reduceNeg, Int.reduceAdd, Int.reduceToNat]; exact Option.some.inj ho
          split at ho
          · rename_i e; subst e; simp only [go_sem, reduceIte, reduceCtorEq, Nat.reduceEqDiff, Nat.reduceAdd, Nat.reduceSub, Nat.reduceMul, Nat.reduceDiv, Nat.reduceMod, Nat.reduceLT, Nat.reduceLeDiff, Nat.reduceBEq, Nat.reducePow, Int.reduceLE, Int.reduceLT, Int.reduceEq, Int.reduceNeg, Int.reduceAdd, Int.reduceToNat]; exact Option.some.inj ho
          split at ho
          · rename_i e; subst e; simp only [go_sem, reduceIte, reduceCtorEq, Nat.reduceEqDiff, Nat.reduceAdd, Nat.reduceSub, Nat.reduceMul, Nat.reduceDiv, Nat.reduceMod, Nat.reduceLT, Nat.reduceLeDiff, Nat.reduceBEq, Nat.reducePow, Int.reduceLE, Int.reduceLT, Int.reduceEq, Int.reduceNeg, Int.reduceAdd, Int.reduceToNat]; exact Option.some.inj ho
          · refine kX.out id o ho fun h1 => ?_
            ((repeat' (first | exact trivial | apply And.intro)) <;> (rintro rfl; simp only at h1; omega))
        rintro d' H' n' ⟨rfl, e1, e3⟩
        have c6 := e3 (126004, n + 1) ⟨[.fz (.i .i64 0), .fz (.s []), .full [], .full []], true, false⟩ (by simp only [go_sem, reduceIte, reduceCtorEq, Nat.reduceEqDiff, Nat.reduceAdd, Nat.reduceSub, Nat.reduceMul, Nat.reduceDiv, Nat.reduceMod, Nat.reduceLT, Nat.reduceLeDiff, Nat.reduceBEq, Nat.reducePow, Int.reduceLE, Int.reduceLT, Int.reduceEq, Int.reduceNeg, Int.reduceAdd, Int.reduceToNat])
        have c7 := e3 (126005, n + 1 + 1) ⟨[.fz (.i .i64 f.kind), .fz (.s f.name.l), .fz (.sl (f.words.map enc)), .ow (126023, g2) 4 ((A j).map enc)], true, false⟩ (by simp only [go_sem, reduceIte, reduceCtorEq, Nat.reduceEqDiff, Nat.reduceAdd, Nat.reduceSub, Nat.reduceMul, Nat.reduceDiv, Nat.reduceMod, Nat.reduceLT, Nat.reduceLeDiff, Nat.reduceBEq, Nat.reducePow, Int.reduceLE, Int.reduceLT, Int.reduceEq, Int.reduceNeg, Int.reduceAdd, Int.reduceToNat])
        have c8 := e3 (126023, g2) tok (by simp only [go_sem, reduceIte, reduceCtorEq, Nat.reduceEqDiff, Nat.reduceAdd, Nat.reduceSub, Nat.reduceMul, Nat.reduceDiv, Nat.reduceMod, Nat.reduceLT, Nat.reduceLeDiff, Nat.reduceBEq, Nat.reducePow, Int.reduceLE, Int.reduceLT, Int.reduceEq, Int.reduceNeg, Int.reduceAdd, Int.reduceToNat])
        have hX2 : ∀ id o, X id = some o → H' id = some o := fun id o ho => e3 id o (kX.out id o ho fun h1 => by
          ((repeat' (first | exact trivial | apply And.intro)) <;> (rintro rfl; simp only at h1; omega)))
        clear e3
        skip
        have c1 := e1
        rw [show H' = hpX [] H' from rfl]
        rw [hfy]
        repeat' (first | refine ReqK.i (by omega) fun _ => ?_ | refine ReqK.i (by unfold maxL; omega) fun _ => ?_ | refine ReqK.i (fits_of2 (by first | omega | (simp only [List.length_map, List.length_take, List.length_append, List.length_cons, List.length_nil]; omega)) (by decide)) fun _ => ?_ | simp only [go_sem, reduceIte, reduceCtorEq, Nat.reduceEqDiff, Nat.reduceAdd, Nat.reduceSub, Nat.reduceMul, Nat.reduceDiv, Nat.reduceMod, Nat.reduceLT, Nat.reduceLeDiff, Nat.reduceBEq, Nat.reducePow, Int.reduceLE, Int.reduceLT, Int.reduceEq, Int.reduceNeg, Int.reduceAdd, Int.reduceToNat, HP, tree1266M, c6, c7, c8, h2, hcy, hff, Tryd.f126, V38, V37, V36, V35, V34, V33, V32, V31, V30, V29, R28, R27, R22, R21, R20, R19, R18, R17, R16, R15, R14, R13, R12, R11, R10, R9, R8, R7, R6, R5, R4, R3, R2, R1, Q20, Q19, Q18, Q17, Q16, Q15, Q14, Q13, Q12, Q11, Q10, Q9, Q8, Q7, Q6, Q5, Q4, Q3, Q2, Q1, Tbl0])
        refine ⟨⟨j + 1, n', n' + 1, by omega, by omega, by omega, by omega⟩, by simp only; omega, ?_⟩
        refine Weak_toX ?_ ?_ (fun id o ho => ?_) ?_
        · simp only [go_sem, reduceIte, reduceCtorEq, Nat.reduceEqDiff, Nat.reduceAdd, Nat.reduceSub, Nat.reduceMul, Nat.reduceDiv, Nat.reduceMod, Nat.reduceLT, Nat.reduceLeDiff, Nat.reduceBEq, Nat.reducePow, Int.reduceLE, Int.reduceLT, Int.reduceEq, Int.reduceNeg, Int.reduceAdd, Int.reduceToNat]
        · simp only [go_sem, reduceIte, reduceCtorEq, Nat.reduceEqDiff, Nat.reduceAdd, Nat.reduceSub, Nat.reduceMul, Nat.reduceDiv, Nat.reduceMod, Nat.reduceLT, Nat.reduceLeDiff, Nat.reduceBEq, Nat.reducePow, Int.reduceLE, Int.reduceLT, Int.reduceEq, Int.reduceNeg, Int.reduceAdd, Int.reduceToNat, HP, c6, c7, c8, hAj, hfy, List.map_append]
        · have h1 := kx.out id o ho
          refine (hpX_pass ?_).trans (hX2 id o ho)
          ((repeat' (first | exact trivial | apply And.intro)) <;> (rintro rfl; simp only at h1; omega))
        · simp only [go_sem, reduceIte, reduceCtorEq, Nat.reduceEqDiff, Nat.reduceAdd, Nat.reduceSub, Nat.reduceMul, Nat.reduceDiv, Nat.reduceMod, Nat.reduceLT, Nat.reduceLeDiff, Nat.reduceBEq, Nat.reducePow, Int.reduceLE, Int.reduceLT, Int.reduceEq, Int.reduceNeg, Int.reduceAdd, Int.reduceToNat]
    · obtain rfl : j = f.subs.length := by omega
      have hE := kG.out
      have hRe := kR.out
      obtain ⟨AA, hAA⟩ : ∃ AA, A f.subs.length = AA := ⟨_, rfl⟩
      rw [hAA] at hE hRe
      repeat' (first | refine ReqK.i hE.1 fun _ => ?_ | refine ReqK.i (by omega) fun _ => ?_ | refine ReqK.i (by unfold maxL; omega) fun _ => ?_ | refine ReqK.i (fits_of2 (by first | omega | (simp only [List.length_map, List.length_take, List.length_append, List.length_cons, List.length_nil]; omega)) (by decide)) fun _ => ?_ | simp only [go_sem, reduceIte, reduceCtorEq, Nat.reduceEqDiff, Nat.reduceAdd, Nat.reduceSub, Nat.reduceMul, Nat.reduceDiv, Nat.reduceMod, Nat.reduceLT, Nat.reduceLeDiff, Nat.reduceBEq, Nat.reducePow, Int.reduceLE, Int.reduceLT, Int.reduceEq, Int.reduceNeg, Int.reduceAdd, Int.reduceToNat, HP, Nat.lt_irrefl, hAA, hRe, str_eta, form_eta, Tryd.f126, V38, V37, V36, V35, V34, V33, V32, V31, V30, V29, R28, R27, R22, R21, R20, R19, R18, R17, R16, R15, R14, R13, R12, R11, R10, R9, R8, R7, R6, R5, R4, R3, R2, R1, Q20, Q19, Q18, Q17, Q16, Q15, Q14, Q13, Q12, Q11, Q10, Q9, Q8, Q7, Q6, Q5, Q4, Q3, Q2, Q1, Tbl0])
      rw [kQ.out]
      refine ⟨?_, by omega, fun id o ho => kX.out id o ho fun h1 => ?_⟩
      · simp only [go_sem, reduceIte, reduceCtorEq, Nat.reduceEqDiff, Nat.reduceAdd, Nat.reduceSub, Nat.reduceMul, Nat.reduceDiv, Nat.reduceMod, Nat.reduceLT, Nat.reduceLeDiff, Nat.reduceBEq, Nat.reducePow, Int.reduceLE, Int.reduceLT, Int.reduceEq, Int.reduceNeg, Int.reduceAdd, Int.reduceToNat, form_eta]
      · ((repeat' (first | exact trivial | apply And.intro)) <;> (rintro rfl; simp only at h1; omega))
end Go.Proofs.YtomhobohcejocaaDoor
