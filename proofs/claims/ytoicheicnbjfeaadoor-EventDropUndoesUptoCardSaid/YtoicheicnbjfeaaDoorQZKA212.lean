/- several texts of this proof in one; no conditions -/
import Derived.Test.YtoicheicnbjfeaaDoorQ34
import Derived.Test.YtoicheicnbjfeaaDoorLW
set_option linter.unusedSimpArgs false
namespace Go.Abs
open Go
section
variable {P : Program} {G : Nat → List FD} {T : Tbl}
/-- a recursive function of one argument with two results -/
theorem sp1p_rec {α ρ σ : Type} [Enc α] [Enc ρ] [Enc σ] {f : FuncId} {g : α → ρ × σ} {pre : α → Prop} (m : α → Nat) (hc : CallOk P f) (hT : TblOk P G T)
    (h : ∀ n, TblOk P G (T.add f (sp1p g fun a => m a < n ∧ pre a)) → ∀ a, m a = n → pre a → (enc a).Wf → Wcall P G f [.fz (enc a)] (hpL []) 0 (fun d _ _ => D.val d = some (.tup [.fz (enc (g a).1), .fz (enc (g a).2)]))) : TblOk P G (T.add f (sp1p g pre)) := by
  have key : ∀ n, TblOk P G (T.add f (sp1p g fun a => m a < n ∧ pre a)) := by
    intro n
    induction n with
    | zero => exact sp1p_ok hc hT fun a ha => by omega
    | succ n ih =>
      refine sp1p_ok hc hT fun a ha hw => ?_
      rcases Nat.lt_or_ge (m a) n with h1 | h1
      · have h2 := ih f (sp1p g fun a => m a < n ∧ pre a) [enc a] _ _ (by simp [Tbl.add]) (k_sp1p) ⟨by rw [dec_enc], by rw [dec_enc]; exact ⟨h1, ha.2⟩⟩
        rw [dec_enc, H0_eq] at h2
        exact h2
      · exact h n ih a (by omega) ha.2 hw
  refine sp1p_ok hc hT fun a ha hw => h (m a) (key _) a rfl ha hw
end
theorem size_eq {f : Abs.Form} : f.size = Form.sizes f.subs + 1 := by cases f; rw [Form.size]; rfl
theorem depth_eq {f : Abs.Form} : f.depth = Form.depths f.subs + 1 := by cases f; rw [Form.depth]; rfl
theorem sizes_take_succ {fs : List Abs.Form} {j : Nat} (h : j < fs.length) : Form.sizes (fs.take (j + 1)) = Form.sizes (fs.take j) + fs[j].size := by
  rw [List.take_succ_eq_append_getElem h, Form.sizes_app, Form.sizes, Form.sizes]; omega
theorem depths_take_succ {fs : List Abs.Form} {j : Nat} (h : j < fs.length) : Form.depths (fs.take (j + 1)) = max (Form.depths (fs.take j)) fs[j].depth := by
  rw [List.take_succ_eq_append_getElem h, Form.depths_app, Form.depths, Form.depths]; omega
theorem depths_take_le {fs : List Abs.Form} (j : Nat) : Form.depths (fs.take j) ≤ Form.depths fs := by
  have := congrArg Form.depths (List.take_append_drop j fs)
  rw [Form.depths_app] at this; omega
end Go.Abs
namespace Go.Proofs.YtoicheicnbjfeaaDoor
open Go Go.Abs Go.Proofs

/-! ## size, depth, limits -/
def szPre (f : Abs.Form) : Prop := f.fit = true ∧ f.size ≤ 1000000
def R12 : Tbl := R11.add 87 (sp1 (fun f : Abs.Form => (f.size : Int)) szPre)
set_option maxRecDepth 100000 in
set_option maxHeartbeats 1000000 in
theorem hR12 : TblOk Tryd.prog GA R12 := by
  refine sp1_rec Form.size ok87 hR11 fun n hT f hn hpre _ => ?_
  obtain ⟨hfit, hsz⟩ := hpre
  obtain ⟨_, hsl, hfs⟩ := Form.fit_eq hfit
  have hse := @size_eq f
  have hr : ∀ g ∈ f.subs, g.size < n ∧ szPre g := fun g hg => ⟨by have := Form.size_sub hg; omega, Form.fits_mem hfs hg, by have := Form.size_sub hg; omega⟩
  have kT := Kp.mk hT
  have kr := Kp.mk hr
  obtain ⟨S, hS⟩ : ∃ S : Nat → Nat, S = fun j => Form.sizes (f.subs.take j) + 1 := ⟨_, rfl⟩
  have hS0 : S 0 = 1 := by rw [hS]; simp [Form.sizes]
  have hSs : ∀ j (h : j < f.subs.length), S (j + 1) = S j + f.subs[j].size := fun j h => by rw [hS]; simp only [sizes_take_succ h]; omega
  have hSl : ∀ j (h : j < f.subs.length), S j + f.subs[j].size ≤ 1000001 := fun j h => by have := sizes_take h; rw [hS]; simp only; omega
  have hSe : f.size = S f.subs.length := by rw [hS, hse]; simp only [List.take_length]
  have kS := Kp.mk hSs
  have kL := Kp.mk hSl
  rw [hSe]
  clear hT hr hS hSs hSl hSe hfit hfs hn
  refine Wcall_K (N := 21) hm kT.out 87000 (lst []) ok87 Tryd.func87 rfl rfl (by simp) (by kernel_rfl) ?_
  repeat' (first | refine ReqK.i (by omega) fun _ => ?_ | simp only [go_sem, reduceIte, reduceCtorEq, Nat.reduceEqDiff, Nat.reduceAdd, Nat.reduceSub, Nat.reduceMul, Nat.reduceDiv, Nat.reduceMod, Nat.reduceLT, Nat.reduceLeDiff, Nat.reduceBEq, Nat.reducePow, Int.reduceLE, Int.reduceLT, Int.reduceEq, Int.reduceNeg, Int.reduceAdd, Int.reduceToNat, Tryd.f87, R11, R10, R9, R8, R7, R6, R5, R4, R3, R2, R1, Q20, Q19, Q18, Q17, Q16, Q15, Q14, Q13, Q12, Q11, Q10, Q9, Q8, Q7, Q6, Q5, Q4, Q3, Q2, Q1, Tbl0])
  refine WK_weak2 (Weak_rpL (id := (87001, 0)) (t := 1) (b := true) (ys := [.i .i64 f.kind, .s f.name.l, .sl (f.words.map enc), .sl (f.subs.map enc)]) (by simp only [go_sem, reduceIte, reduceCtorEq, Nat.reduceEqDiff, Nat.reduceAdd, Nat.reduceSub, Nat.reduceMul, Nat.reduceDiv, Nat.reduceMod, Nat.reduceLT, Nat.reduceLeDiff, Nat.reduceBEq, Nat.reducePow, Int.reduceLE, Int.reduceLT, Int.reduceEq, Int.reduceNeg, Int.reduceAdd, Int.reduceToNat]) (by simp only [go_sem, reduceIte, reduceCtorEq, Nat.reduceEqDiff, Nat.reduceAdd, Nat.reduceSub, Nat.reduceMul, Nat.reduceDiv, Nat.reduceMod, Nat.reduceLT, Nat.reduceLeDiff, Nat.reduceBEq, Nat.reducePow, Int.reduceLE, Int.reduceLT, Int.reduceEq, Int.reduceNeg, Int.reduceAdd, Int.reduceToNat])) ?_
  refine WK_loop hm kT.out 87000 (lst []) (ι := LoopI f.subs.length fun _ => True)
    ⟨fun q => ⟨frL [(1, .rp [.i .i64 f.kind, .s f.name.l, .sl (f.words.map enc), .sl (f.subs.map enc)]), (3, .fz (.i .i64 (S q.i : Nat))), (7, .fz (.i .i64 f.subs.length)), (8, .fz (.i .i64 q.i))], hpL [], 1⟩, fun q => f.subs.length - q.i⟩
    ⟨0, by omega, trivial⟩ (by kernel_rfl) ?_ ?_
  · refine Weak_to ?_ ?_ ?_ <;> simp only [go_sem, reduceIte, reduceCtorEq, Nat.reduceEqDiff, Nat.reduceAdd, Nat.reduceSub, Nat.reduceMul, Nat.reduceDiv, Nat.reduceMod, Nat.reduceLT, Nat.reduceLeDiff, Nat.reduceBEq, Nat.reducePow, Int.reduceLE, Int.reduceLT, Int.reduceEq, Int.reduceNeg, Int.reduceAdd, Int.reduceToNat, hS0]
    all_goals first | done | rfl
  rintro ⟨j, hj, _⟩
  try simp only at hj
  rcases Nat.lt_or_ge j f.subs.length with h2 | h2
  · have hss := kS.out j h2
    have hsl2 := kL.out j h2
    have hr := kr.out _ (List.getElem_mem h2)
    obtain ⟨x, hx⟩ : ∃ x, f.subs[j] = x := ⟨_, rfl⟩
    rw [hx] at hss hsl2 hr
    repeat' (first | refine ReqK.i (by omega) fun _ => ?_ | refine ReqK.i hr fun _ => ?_ | simp only [go_sem, reduceIte, reduceCtorEq, Nat.reduceEqDiff, Nat.reduceAdd, Nat.reduceSub, Nat.reduceMul, Nat.reduceDiv, Nat.reduceMod, Nat.reduceLT, Nat.reduceLeDiff, Nat.reduceBEq, Nat.reducePow, Int.reduceLE, Int.reduceLT, Int.reduceEq, Int.reduceNeg, Int.reduceAdd, Int.reduceToNat, h2, hx, getD_map_lt, Tryd.f87, R11, R10, R9, R8, R7, R6, R5, R4, R3, R2, R1, Q20, Q19, Q18, Q17, Q16, Q15, Q14, Q13, Q12, Q11, Q10, Q9, Q8, Q7, Q6, Q5, Q4, Q3, Q2, Q1, Tbl0])
    refine ⟨⟨j + 1, by omega, trivial⟩, by simp only; omega, ?_⟩
    refine Weak_to ?_ ?_ ?_ <;> simp only [go_sem, reduceIte, reduceCtorEq, Nat.reduceEqDiff, Nat.reduceAdd, Nat.reduceSub, Nat.reduceMul, Nat.reduceDiv, Nat.reduceMod, Nat.reduceLT, Nat.reduceLeDiff, Nat.reduceBEq, Nat.reducePow, Int.reduceLE, Int.reduceLT, Int.reduceEq, Int.reduceNeg, Int.reduceAdd, Int.reduceToNat, hss, Int.natCast_add]
    all_goals first | done | rfl
  · obtain rfl : j = f.subs.length := by omega
    repeat' (first | refine ReqK.i (by omega) fun _ => ?_ | simp only [go_sem, reduceIte, reduceCtorEq, Nat.reduceEqDiff, Nat.reduceAdd, Nat.reduceSub, Nat.reduceMul, Nat.reduceDiv, Nat.reduceMod, Nat.reduceLT, Nat.reduceLeDiff, Nat.reduceBEq, Nat.reducePow, Int.reduceLE, Int.reduceLT, Int.reduceEq, Int.reduceNeg, Int.reduceAdd, Int.reduceToNat, Nat.lt_irrefl, Tryd.f87, R11, R10, R9, R8, R7, R6, R5, R4, R3, R2, R1, Q20, Q19, Q18, Q17, Q16, Q15, Q14, Q13, Q12, Q11, Q10, Q9, Q8, Q7, Q6, Q5, Q4, Q3, Q2, Q1, Tbl0])
def R13 : Tbl := R12.add 88 (sp1 (fun f : Abs.Form => (f.depth : Int)) szPre)
set_option maxRecDepth 100000 in
set_option maxHeartbeats 1000000 in
theorem hR13 : TblOk Tryd.prog GA R13 := by
  refine sp1_rec Form.size ok88 hR12 fun n hT f hn hpre _ => ?_
  obtain ⟨hfit, hsz⟩ := hpre
  obtain ⟨_, hsl, hfs⟩ := Form.fit_eq hfit
  have hde := f.depth_size
  have hse := @depth_eq f
  have hr : ∀ g ∈ f.subs, g.size < n ∧ szPre g := fun g hg => ⟨by have := Form.size_sub hg; omega, Form.fits_mem hfs hg, by have := Form.size_sub hg; omega⟩
  have kT := Kp.mk hT
  have kr := Kp.mk hr
  obtain ⟨S, hS⟩ : ∃ S : Nat → Nat, S = fun j => Form.depths (f.subs.take j) := ⟨_, rfl⟩
  have hS0 : S 0 = 0 := by rw [hS]; simp [Form.depths]
  have hSs : ∀ j (h : j < f.subs.length), S (j + 1) = max (S j) f.subs[j].depth := fun j h => by rw [hS]; simp only [depths_take_succ h]
  have hSl : ∀ j, S j ≤ 1000000 := fun j => by have := depths_take_le (fs := f.subs) j; rw [hS]; simp only; omega
  have hSe : f.depth = S f.subs.length + 1 := by rw [hS, hse]; simp only [List.take_length]
  have kS := Kp.mk hSs
  have hSn := hSl f.subs.length
  rw [hSe]
  clear hT hr hS hSs hSl hSe hfit hfs hn
  refine Wcall_K (N := 25) hm kT.out 88000 (lst []) ok88 Tryd.func88 rfl rfl (by simp) (by kernel_rfl) ?_
  repeat' (first | refine ReqK.i (by omega) fun _ => ?_ | simp only [go_sem, reduceIte, reduceCtorEq, Nat.reduceEqDiff, Nat.reduceAdd, Nat.reduceSub, Nat.reduceMul, Nat.reduceDiv, Nat.reduceMod, Nat.reduceLT, Nat.reduceLeDiff, Nat.reduceBEq, Nat.reducePow, Int.reduceLE, Int.reduceLT, Int.reduceEq, Int.reduceNeg, Int.reduceAdd, Int.reduceToNat, Tryd.f88, R12, R11, R10, R9, R8, R7, R6, R5, R4, R3, R2, R1, Q20, Q19, Q18, Q17, Q16, Q15, Q14, Q13, Q12, Q11, Q10, Q9, Q8, Q7, Q6, Q5, Q4, Q3, Q2, Q1, Tbl0])
  refine WK_weak2 (Weak_rpL (id := (88001, 0)) (t := 1) (b := true) (ys := [.i .i64 f.kind, .s f.name.l, .sl (f.words.map enc), .sl (f.subs.map enc)]) (by simp only [go_sem, reduceIte, reduceCtorEq, Nat.reduceEqDiff, Nat.reduceAdd, Nat.reduceSub, Nat.reduceMul, Nat.reduceDiv, Nat.reduceMod, Nat.reduceLT, Nat.reduceLeDiff, Nat.reduceBEq, Nat.reducePow, Int.reduceLE, Int.reduceLT, Int.reduceEq, Int.reduceNeg, Int.reduceAdd, Int.reduceToNat]) (by simp only [go_sem, reduceIte, reduceCtorEq, Nat.reduceEqDiff, Nat.reduceAdd, Nat.reduceSub, Nat.reduceMul, Nat.reduceDiv, Nat.reduceMod, Nat.reduceLT, Nat.reduceLeDiff, Nat.reduceBEq, Nat.reducePow, Int.reduceLE, Int.reduceLT, Int.reduceEq, Int.reduceNeg, Int.reduceAdd, Int.reduceToNat])) ?_
  refine WK_loop hm kT.out 88000 (lst []) (ι := LoopI f.subs.length fun _ => True)
    ⟨fun q => ⟨frL [(1, .rp [.i .i64 f.kind, .s f.name.l, .sl (f.words.map enc), .sl (f.subs.map enc)]), (3, .fz (.i .i64 (S q.i : Nat))), (8, .fz (.i .i64 f.subs.length)), (9, .fz (.i .i64 q.i))], hpL [], 1⟩, fun q => f.subs.length - q.i⟩
    ⟨0, by omega, trivial⟩ (by kernel_rfl) ?_ ?_
  · refine Weak_to ?_ ?_ ?_ <;> simp only [go_sem, reduceIte, reduceCtorEq, Nat.reduceEqDiff, Nat.reduceAdd, Nat.reduceSub, Nat.reduceMul, Nat.reduceDiv, Nat.reduceMod, Nat.reduceLT, Nat.reduceLeDiff, Nat.reduceBEq, Nat.reducePow, Int.reduceLE, Int.reduceLT, Int.reduceEq, Int.reduceNeg, Int.reduceAdd, Int.reduceToNat, hS0]
    all_goals first | done | rfl
  rintro ⟨j, hj, _⟩
  try simp only at hj
  rcases Nat.lt_or_ge j f.subs.length with h2 | h2
  · have hss := kS.out j h2
    have hr := kr.out _ (List.getElem_mem h2)
    obtain ⟨x, hx⟩ : ∃ x, f.subs[j] = x := ⟨_, rfl⟩
    rw [hx] at hss hr
    rcases Nat.lt_or_ge (S j) x.depth with h3 | h3
    · have h3' : (S j : Int) < (x.depth : Int) := by omega
      have h4 : S (j + 1) = x.depth := by omega
      repeat' (first | refine ReqK.i (by omega) fun _ => ?_ | refine ReqK.i hr fun _ => ?_ | simp only [go_sem, reduceIte, reduceCtorEq, Nat.reduceEqDiff, Nat.reduceAdd, Nat.reduceSub, Nat.reduceMul, Nat.reduceDiv, Nat.reduceMod, Nat.reduceLT, Nat.reduceLeDiff, Nat.reduceBEq, Nat.reducePow, Int.reduceLE, Int.reduceLT, Int.reduceEq, Int.reduceNeg, Int.reduceAdd, Int.reduceToNat, h2, hx, h3, h3', getD_map_lt, Tryd.f88, R12, R11, R10, R9, R8, R7, R6, R5, R4, R3, R2, R1, Q20, Q19, Q18, Q17, Q16, Q15, Q14, Q13, Q12, Q11, Q10, Q9, Q8, Q7, Q6, Q5, Q4, Q3, Q2, Q1, Tbl0])
      refine ⟨⟨j + 1, by omega, trivial⟩, by simp only; omega, ?_⟩
      refine Weak_to ?_ ?_ ?_ <;> simp only [go_sem, reduceIte, reduceCtorEq, Nat.reduceEqDiff, Nat.reduceAdd, Nat.reduceSub, Nat.reduceMul, Nat.reduceDiv, Nat.reduceMod, Nat.reduceLT, Nat.reduceLeDiff, Nat.reduceBEq, Nat.reducePow, Int.reduceLE, Int.reduceLT, Int.reduceEq, Int.reduceNeg, Int.reduceAdd, Int.reduceToNat, h4]
    · have h3' : ¬ (S j : Int) < (x.depth : Int) := by omega
      have h3'' : ¬ S j < x.depth := by omega
      have h4 : S (j + 1) = S j := by omega
      repeat' (first | refine ReqK.i (by omega) fun _ => ?_ | refine ReqK.i hr fun _ => ?_ | simp only [go_sem, reduceIte, reduceCtorEq, Nat.reduceEqDiff, Nat.reduceAdd, Nat.reduceSub, Nat.reduceMul, Nat.reduceDiv, Nat.reduceMod, Nat.reduceLT, Nat.reduceLeDiff, Nat.reduceBEq, Nat.reducePow, Int.reduceLE, Int.reduceLT, Int.reduceEq, Int.reduceNeg, Int.reduceAdd, Int.reduceToNat, h2, hx, h3', h3'', getD_map_lt, Tryd.f88, R12, R11, R10, R9, R8, R7, R6, R5, R4, R3, R2, R1, Q20, Q19, Q18, Q17, Q16, Q15, Q14, Q13, Q12, Q11, Q10, Q9, Q8, Q7, Q6, Q5, Q4, Q3, Q2, Q1, Tbl0])
      refine ⟨⟨j + 1, by omega, trivial⟩, by simp only; omega, ?_⟩
      refine Weak_to ?_ ?_ ?_ <;> simp only [go_sem, reduceIte, reduceCtorEq, Nat.reduceEqDiff, Nat.reduceAdd, Nat.reduceSub, Nat.reduceMul, Nat.reduceDiv, Nat.reduceMod, Nat.reduceLT, Nat.reduceLeDiff, Nat.reduceBEq, Nat.reducePow, Int.reduceLE, Int.reduceLT, Int.reduceEq, Int.reduceNeg, Int.reduceAdd, Int.reduceToNat, h4]
  · obtain rfl : j = f.subs.length := by omega
    repeat' (first | refine ReqK.i (by omega) fun _ => ?_ | simp only [go_sem, reduceIte, reduceCtorEq, Nat.reduceEqDiff, Nat.reduceAdd, Nat.reduceSub, Nat.reduceMul, Nat.reduceDiv, Nat.reduceMod, Nat.reduceLT, Nat.reduceLeDiff, Nat.reduceBEq, Nat.reducePow, Int.reduceLE, Int.reduceLT, Int.reduceEq, Int.reduceNeg, Int.reduceAdd, Int.reduceToNat, Nat.lt_irrefl, Tryd.f88, R12, R11, R10, R9, R8, R7, R6, R5, R4, R3, R2, R1, Q20, Q19, Q18, Q17, Q16, Q15, Q14, Q13, Q12, Q11, Q10, Q9, Q8, Q7, Q6, Q5, Q4, Q3, Q2, Q1, Tbl0])
    all_goals first | done | rfl
def R14 : Tbl := R13.add 118 (sp1 fitsM szPre)
set_option maxRecDepth 100000 in
set_option maxHeartbeats 1000000 in
theorem hR14 : TblOk Tryd.prog GA R14 := by
  refine sp1_ok ok118 hR13 fun f hpre _ => ?_
  refine Wcall_K (N := 11) hm hR13 118000 (lst []) ok118 Tryd.func118 rfl rfl (by simp) (by kernel_rfl) ?_
  by_cases h1 : f.size ≤ 200
  · have h1' : (f.size : Int) ≤ 200 := by omega
    by_cases h2 : f.depth ≤ 40
    · have h2' : (f.depth : Int) ≤ 40 := by omega
      have e : fitsM f = true := decide_eq_true ⟨h1, h2⟩
      repeat' (first | refine ReqK.i (by omega) fun _ => ?_ | refine ReqK.i hpre fun _ => ?_ | simp only [go_sem, reduceIte, reduceCtorEq, Nat.reduceEqDiff, Nat.reduceAdd, Nat.reduceSub, Nat.reduceMul, Nat.reduceDiv, Nat.reduceMod, Nat.reduceLT, Nat.reduceLeDiff, Nat.reduceBEq, Nat.reducePow, Int.reduceLE, Int.reduceLT, Int.reduceEq, Int.reduceNeg, Int.reduceAdd, Int.reduceToNat, h1', h2', e, form_eta, Tryd.f118, R13, R12, R11, R10, R9, R8, R7, R6, R5, R4, R3, R2, R1, Q20, Q19, Q18, Q17, Q16, Q15, Q14, Q13, Q12, Q11, Q10, Q9, Q8, Q7, Q6, Q5, Q4, Q3, Q2, Q1, Tbl0])
    · have h2' : ¬ (f.depth : Int) ≤ 40 := by omega
      have e : fitsM f = false := decide_eq_false fun h => h2 h.2
      repeat' (first | refine ReqK.i (by omega) fun _ => ?_ | refine ReqK.i hpre fun _ => ?_ | simp only [go_sem, reduceIte, reduceCtorEq, Nat.reduceEqDiff, Nat.reduceAdd, Nat.reduceSub, Nat.reduceMul, Nat.reduceDiv, Nat.reduceMod, Nat.reduceLT, Nat.reduceLeDiff, Nat.reduceBEq, Nat.reducePow, Int.reduceLE, Int.reduceLT, Int.reduceEq, Int.reduceNeg, Int.reduceAdd, Int.reduceToNat, h1', h2', e, form_eta, Tryd.f118, R13, R12, R11, R10, R9, R8, R7, R6, R5, R4, R3, R2, R1, Q20, Q19, Q18, Q17, Q16, Q15, Q14, Q13, Q12, Q11, Q10, Q9, Q8, Q7, Q6, Q5, Q4, Q3, Q2, Q1, Tbl0])
  · have h1' : ¬ (f.size : Int) ≤ 200 := by omega
    have e : fitsM f = false := decide_eq_false fun h => h1 h.1
    repeat' (first | refine ReqK.i (by omega) fun _ => ?_ | refine ReqK.i hpre fun _ => ?_ | simp only [go_sem, reduceIte, reduceCtorEq, Nat.reduceEqDiff, Nat.reduceAdd, Nat.reduceSub, Nat.reduceMul, Nat.reduceDiv, Nat.reduceMod, Nat.reduceLT, Nat.reduceLeDiff, Nat.reduceBEq, Nat.reducePow, Int.reduceLE, Int.reduceLT, Int.reduceEq, Int.reduceNeg, Int.reduceAdd, Int.reduceToNat, h1', e, form_eta, Tryd.f118, R13, R12, R11, R10, R9, R8, R7, R6, R5, R4, R3, R2, R1, Q20, Q19, Q18, Q17, Q16, Q15, Q14, Q13, Q12, Q11, Q10, Q9, Q8, Q7, Q6, Q5, Q4, Q3, Q2, Q1, Tbl0])
def R15 : Tbl := R14.add 158 (sp1p (fun f : Abs.Form => ((f.size : Int), (f.depth : Int))) szPre)
set_option maxRecDepth 100000 in
set_option maxHeartbeats 1000000 in
theorem hR15 : TblOk Tryd.prog GA R15 := by
  refine sp1p_rec Form.size ok158 hR14 fun n hT f hn hpre _ => ?_
  obtain ⟨hfit, hsz⟩ := hpre
  obtain ⟨_, hsl, hfs⟩ := Form.fit_eq hfit
  have hse := @size_eq f
  have hdd := f.depth_size
  have hde := @depth_eq f
  have hr : ∀ g ∈ f.subs, g.size < n ∧ szPre g := fun g hg => ⟨by have := Form.size_sub hg; omega, Form.fits_mem hfs hg, by have := Form.size_sub hg; omega⟩
  have kT := Kp.mk hT
  have kr := Kp.mk hr
  obtain ⟨S, hS⟩ : ∃ S : Nat → Nat, S = fun j => Form.sizes (f.subs.take j) + 1 := ⟨_, rfl⟩
  have hS0 : S 0 = 1 := by rw [hS]; simp [Form.sizes]
  have hSs : ∀ j (h : j < f.subs.length), S (j + 1) = S j + f.subs[j].size := fun j h => by rw [hS]; simp only [sizes_take_succ h]; omega
  have hSl : ∀ j (h : j < f.subs.length), S j + f.subs[j].size ≤ 1000001 := fun j h => by have := sizes_take h; rw [hS]; simp only; omega
  have hSe : f.size = S f.subs.length := by rw [hS, hse]; simp only [List.take_length]
  obtain ⟨E, hE⟩ : ∃ E : Nat → Nat, E = fun j => Form.depths (f.subs.take j) := ⟨_, rfl⟩
  have hE0 : E 0 = 0 := by rw [hE]; simp [Form.depths]
  have hEs : ∀ j (h : j < f.subs.length), E (j + 1) = max (E j) f.subs[j].depth := fun j h => by rw [hE]; simp only [depths_take_succ h]
  have hEl : ∀ j, E j ≤ 1000000 := fun j => by have := depths_take_le (fs := f.subs) j; rw [hE]; simp only; omega
  have hEe : f.depth = E f.subs.length + 1 := by rw [hE, hde]; simp only [List.take_length]
  have hEn := hEl f.subs.length
  have kS := Kp.mk hSs
  have kL := Kp.mk hSl
  have kE := Kp.mk hEs
  rw [hSe, hEe]
  clear hT hr hS hSs hSl hSe hE hEs hEl hEe hfit hfs hn
  refine Wcall_K (N := 32) hm kT.out 158000 (lst []) ok158 Tryd.func158 rfl rfl (by simp) (by kernel_rfl) ?_
  repeat' (first | refine ReqK.i (by omega) fun _ => ?_ | simp only [go_sem, reduceIte, reduceCtorEq, Nat.reduceEqDiff, Nat.reduceAdd, Nat.reduceSub, Nat.reduceMul, Nat.reduceDiv, Nat.reduceMod, Nat.reduceLT, Nat.reduceLeDiff, Nat.reduceBEq, Nat.reducePow, Int.reduceLE, Int.reduceLT, Int.reduceEq, Int.reduceNeg, Int.reduceAdd, Int.reduceToNat, Tryd.f158, R14, R13, R12, R11, R10, R9, R8, R7, R6, R5, R4, R3, R2, R1, Q20, Q19, Q18, Q17, Q16, Q15, Q14, Q13, Q12, Q11, Q10, Q9, Q8, Q7, Q6, Q5, Q4, Q3, Q2, Q1, Tbl0])
  refine WK_weak2 (Weak_rpL (id := (158001, 0)) (t := 1) (b := true) (ys := [.i .i64 f.kind, .s f.name.l, .sl (f.words.map enc), .sl (f.subs.map enc)]) (by simp only [go_sem, reduceIte, reduceCtorEq, Nat.reduceEqDiff, Nat.reduceAdd, Nat.reduceSub, Nat.reduceMul, Nat.reduceDiv, Nat.reduceMod, Nat.reduceLT, Nat.reduceLeDiff, Nat.reduceBEq, Nat.reducePow, Int.reduceLE, Int.reduceLT, Int.reduceEq, Int.reduceNeg, Int.reduceAdd, Int.reduceToNat]) (by simp only [go_sem, reduceIte, reduceCtorEq, Nat.reduceEqDiff, Nat.reduceAdd, Nat.reduceSub, Nat.reduceMul, Nat.reduceDiv, Nat.reduceMod, Nat.reduceLT, Nat.reduceLeDiff, Nat.reduceBEq, Nat.reducePow, Int.reduceLE, Int.reduceLT, Int.reduceEq, Int.reduceNeg, Int.reduceAdd, Int.reduceToNat])) ?_
  refine WK_loop hm kT.out 158000 (lst []) (ι := LoopM f.subs.length 1 fun _ => True)
    ⟨fun q => ⟨frL [(4, .fz (.i .i64 (S q.i : Nat))), (5, .fz (.i .i64 (E q.i : Nat))), (11, .fz (.sl (f.subs.map enc))), (12, .fz (.i .i64 f.subs.length)), (13, .fz (.i .i64 q.i))], hpL [], q.m⟩, fun q => f.subs.length - q.i⟩
    ⟨0, 1, by omega, by omega, trivial⟩ (by kernel_rfl) ?_ ?_
  · refine Weak_to ?_ ?_ ?_ <;> simp only [go_sem, reduceIte, reduceCtorEq, Nat.reduceEqDiff, Nat.reduceAdd, Nat.reduceSub, Nat.reduceMul, Nat.reduceDiv, Nat.reduceMod, Nat.reduceLT, Nat.reduceLeDiff, Nat.reduceBEq, Nat.reducePow, Int.reduceLE, Int.reduceLT, Int.reduceEq, Int.reduceNeg, Int.reduceAdd, Int.reduceToNat, hS0, hE0]
    all_goals first | done | rfl
  rintro ⟨j, m, hj, hm1, _⟩
  try simp only at hj hm1
  rcases Nat.lt_or_ge j f.subs.length with h2 | h2
  · have hss := kS.out j h2
    have hes := kE.out j h2
    have hsl2 := kL.out j h2
    have hr := kr.out _ (List.getElem_mem h2)
    obtain ⟨x, hx⟩ : ∃ x, f.subs[j] = x := ⟨_, rfl⟩
    rw [hx] at hss hsl2 hr hes
    repeat' (first | refine ReqK.i (by omega) fun _ => ?_ | refine ReqK.i hr fun _ => ?_ | simp only [go_sem, reduceIte, reduceCtorEq, Nat.reduceEqDiff, Nat.reduceAdd, Nat.reduceSub, Nat.reduceMul, Nat.reduceDiv, Nat.reduceMod, Nat.reduceLT, Nat.reduceLeDiff, Nat.reduceBEq, Nat.reducePow, Int.reduceLE, Int.reduceLT, Int.reduceEq, Int.reduceNeg, Int.reduceAdd, Int.reduceToNat, h2, hx, getD_map_lt, Tryd.f158, R14, R13, R12, R11, R10, R9, R8, R7, R6, R5, R4, R3, R2, R1, Q20, Q19, Q18, Q17, Q16, Q15, Q14, Q13, Q12, Q11, Q10, Q9, Q8, Q7, Q6, Q5, Q4, Q3, Q2, Q1, Tbl0])
    refine ⟨⟨j + 1, m + 1, by omega, by omega, trivial⟩, by simp only; omega, ?_⟩
    refine Weak_to ?_ ?_ ?_ <;> simp only [go_sem, reduceIte, reduceCtorEq, Nat.reduceEqDiff, Nat.reduceAdd, Nat.reduceSub, Nat.reduceMul, Nat.reduceDiv, Nat.reduceMod, Nat.reduceLT, Nat.reduceLeDiff, Nat.reduceBEq, Nat.reducePow, Int.reduceLE, Int.reduceLT, Int.reduceEq, Int.reduceNeg, Int.reduceAdd, Int.reduceToNat, hss, hes, Int.natCast_add]
    all_goals first | done | rfl | omega
  · obtain rfl : j = f.subs.length := by omega
    repeat' (first | refine ReqK.i (by omega) fun _ => ?_ | simp only [go_sem, reduceIte, reduceCtorEq, Nat.reduceEqDiff, Nat.reduceAdd, Nat.reduceSub, Nat.reduceMul, Nat.reduceDiv, Nat.reduceMod, Nat.reduceLT, Nat.reduceLeDiff, Nat.reduceBEq, Nat.reducePow, Int.reduceLE, Int.reduceLT, Int.reduceEq, Int.reduceNeg, Int.reduceAdd, Int.reduceToNat, Nat.lt_irrefl, Tryd.f158, R14, R13, R12, R11, R10, R9, R8, R7, R6, R5, R4, R3, R2, R1, Q20, Q19, Q18, Q17, Q16, Q15, Q14, Q13, Q12, Q11, Q10, Q9, Q8, Q7, Q6, Q5, Q4, Q3, Q2, Q1, Tbl0])
    all_goals first | done | rfl
def R16 : Tbl := R15.add 122 (sp1 fitsM szPre)
set_option maxRecDepth 100000 in
set_option maxHeartbeats 1000000 in
theorem hR16 : TblOk Tryd.prog GA R16 := by
  refine sp1_ok ok122 hR15 fun f hpre _ => ?_
  refine Wcall_K (N := 16) hm hR15 122000 (lst []) ok122 Tryd.func122 rfl rfl (by simp) (by kernel_rfl) ?_
  by_cases h1 : f.size ≤ 200
  · have h1' : (f.size : Int) ≤ 200 := by omega
    by_cases h2 : f.depth ≤ 40
    · have h2' : (f.depth : Int) ≤ 40 := by omega
      have e : fitsM f = true := decide_eq_true ⟨h1, h2⟩
      repeat' (first | refine ReqK.i (by omega) fun _ => ?_ | refine ReqK.i hpre fun _ => ?_ | simp only [go_sem, reduceIte, reduceCtorEq, Nat.reduceEqDiff, Nat.reduceAdd, Nat.reduceSub, Nat.reduceMul, Nat.reduceDiv, Nat.reduceMod, Nat.reduceLT, Nat.reduceLeDiff, Nat.reduceBEq, Nat.reducePow, Int.reduceLE, Int.reduceLT, Int.reduceEq, Int.reduceNeg, Int.reduceAdd, Int.reduceToNat, h1', h2', e, form_eta, Tryd.f122, R15, R14, R13, R12, R11, R10, R9, R8, R7, R6, R5, R4, R3, R2, R1, Q20, Q19, Q18, Q17, Q16, Q15, Q14, Q13, Q12, Q11, Q10, Q9, Q8, Q7, Q6, Q5, Q4, Q3, Q2, Q1, Tbl0])
    · have h2' : ¬ (f.depth : Int) ≤ 40 := by omega
      have e : fitsM f = false := decide_eq_false fun h => h2 h.2
      repeat' (first | refine ReqK.i (by omega) fun _ => ?_ | refine ReqK.i hpre fun _ => ?_ | simp only [go_sem, reduceIte, reduceCtorEq, Nat.reduceEqDiff, Nat.reduceAdd, Nat.reduceSub, Nat.reduceMul, Nat.reduceDiv, Nat.reduceMod, Nat.reduceLT, Nat.reduceLeDiff, Nat.reduceBEq, Nat.reducePow, Int.reduceLE, Int.reduceLT, Int.reduceEq, Int.reduceNeg, Int.reduceAdd, Int.reduceToNat, h1', h2', e, form_eta, Tryd.f122, R15, R14, R13, R12, R11, R10, R9, R8, R7, R6, R5, R4, R3, R2, R1, Q20, Q19, Q18, Q17, Q16, Q15, Q14, Q13, Q12, Q11, Q10, Q9, Q8, Q7, Q6, Q5, Q4, Q3, Q2, Q1, Tbl0])
  · have h1' : ¬ (f.size : Int) ≤ 200 := by omega
    have e : fitsM f = false := decide_eq_false fun h => h1 h.1
    repeat' (first | refine ReqK.i (by omega) fun _ => ?_ | refine ReqK.i hpre fun _ => ?_ | simp only [go_sem, reduceIte, reduceCtorEq, Nat.reduceEqDiff, Nat.reduceAdd, Nat.reduceSub, Nat.reduceMul, Nat.reduceDiv, Nat.reduceMod, Nat.reduceLT, Nat.reduceLeDiff, Nat.reduceBEq, Nat.reducePow, Int.reduceLE, Int.reduceLT, Int.reduceEq, Int.reduceNeg, Int.reduceAdd, Int.reduceToNat, h1', e, form_eta, Tryd.f122, R15, R14, R13, R12, R11, R10, R9, R8, R7, R6, R5, R4, R3, R2, R1, Q20, Q19, Q18, Q17, Q16, Q15, Q14, Q13, Q12, Q11, Q10, Q9, Q8, Q7, Q6, Q5, Q4, Q3, Q2, Q1, Tbl0])
end Go.Proofs.YtoicheicnbjfeaaDoor

namespace Go.Proofs.YtoicheicnbjfeaaDoor
open Go Go.Abs Go.Proofs

/-! ## formulas put together; a formula returned, if it keeps the limits -/
def doneR (f : Abs.Form) : Abs.Form := if fitsM f then wthM f [] else zeroF
def R17 : Tbl := R16.add 49 (sp1p (fun f : Abs.Form => (doneR f, doneE f)) szPre)
set_option maxRecDepth 100000 in
set_option maxHeartbeats 1000000 in
theorem hR17 : TblOk Tryd.prog GA R17 := by
  refine sp1p_ok ok49 hR16 fun f hpre hw => ?_
  cases hf : fitsM f with
  | true =>
    have h1 := of_decide_eq_true hf
    have hp : f.fit = true ∧ f.size ≤ 1000 := ⟨hpre.1, by omega⟩
    have e1 : doneR f = wthM f [] := by unfold doneR; rw [if_pos hf]
    have e2 : doneE f = ⟨0, 0⟩ := by unfold doneE; rw [if_pos hf]
    obtain ⟨c, hc⟩ : ∃ c, wthM f [] = c := ⟨_, rfl⟩
    simp only [e1, e2, hc]
    refine Wcall_K (N := 12) hm hR16 49000 (lst []) ok49 Tryd.func49 rfl rfl (by simp) (by kernel_rfl) ?_
    repeat' (first | refine ReqK.i hpre fun _ => ?_ | refine ReqK.i hp fun _ => ?_ | refine ReqK.i (by omega) fun _ => ?_ | refine ReqK.i (by unfold maxL; omega) fun _ => ?_ | simp only [go_sem, reduceIte, reduceCtorEq, Nat.reduceEqDiff, Nat.reduceAdd, Nat.reduceSub, Nat.reduceMul, Nat.reduceDiv, Nat.reduceMod, Nat.reduceLT, Nat.reduceLeDiff, Nat.reduceBEq, Nat.reducePow, Int.reduceLE, Int.reduceLT, Int.reduceEq, Int.reduceNeg, Int.reduceAdd, Int.reduceToNat, hf, hc, form_eta, Tryd.f49, R16, R15, R14, R13, R12, R11, R10, R9, R8, R7, R6, R5, R4, R3, R2, R1, Q20, Q19, Q18, Q17, Q16, Q15, Q14, Q13, Q12, Q11, Q10, Q9, Q8, Q7, Q6, Q5, Q4, Q3, Q2, Q1, Tbl0])
  | false =>
    have e1 : doneR f = zeroF := by unfold doneR; rw [if_neg (by simp [hf])]
    have e2 : doneE f = ⟨1, -1⟩ := by unfold doneE; rw [if_neg (by simp [hf])]
    simp only [e1, e2, zeroF]
    refine Wcall_K (N := 12) hm hR16 49000 (lst []) ok49 Tryd.func49 rfl rfl (by simp) (by kernel_rfl) ?_
    repeat' (first | refine ReqK.i hpre fun _ => ?_ | refine ReqK.i (by omega) fun _ => ?_ | refine ReqK.i (by unfold maxL; omega) fun _ => ?_ | simp only [go_sem, reduceIte, reduceCtorEq, Nat.reduceEqDiff, Nat.reduceAdd, Nat.reduceSub, Nat.reduceMul, Nat.reduceDiv, Nat.reduceMod, Nat.reduceLT, Nat.reduceLeDiff, Nat.reduceBEq, Nat.reducePow, Int.reduceLE, Int.reduceLT, Int.reduceEq, Int.reduceNeg, Int.reduceAdd, Int.reduceToNat, hf, form_eta, Tryd.f49, R16, R15, R14, R13, R12, R11, R10, R9, R8, R7, R6, R5, R4, R3, R2, R1, Q20, Q19, Q18, Q17, Q16, Q15, Q14, Q13, Q12, Q11, Q10, Q9, Q8, Q7, Q6, Q5, Q4, Q3, Q2, Q1, Tbl0])
def R18 : Tbl := R17.add 127 (sp1p (fun f : Abs.Form => (doneF f, doneE f)) szPre)
set_option maxRecDepth 100000 in
set_option maxHeartbeats 1000000 in
theorem hR18 : TblOk Tryd.prog GA R18 := by
  refine sp1p_ok ok127 hR17 fun f hpre hw => ?_
  cases hf : fitsM f with
  | true =>
    have h1 := of_decide_eq_true hf
    have hp : f.fit = true ∧ f.size ≤ 1000 := ⟨hpre.1, by omega⟩
    have e1 : doneF f = canonM f [] := by unfold doneF; rw [if_pos hf]
    have e2 : doneE f = ⟨0, 0⟩ := by unfold doneE; rw [if_pos hf]
    obtain ⟨c, hc⟩ : ∃ c, canonM f [] = c := ⟨_, rfl⟩
    simp only [e1, e2, hc]
    refine Wcall_K (N := 12) hm hR17 127000 (lst []) ok127 Tryd.func127 rfl rfl (by simp) (by kernel_rfl) ?_
    repeat' (first | refine ReqK.i hpre fun _ => ?_ | refine ReqK.i hp fun _ => ?_ | refine ReqK.i (by omega) fun _ => ?_ | refine ReqK.i (by unfold maxL; omega) fun _ => ?_ | simp only [go_sem, reduceIte, reduceCtorEq, Nat.reduceEqDiff, Nat.reduceAdd, Nat.reduceSub, Nat.reduceMul, Nat.reduceDiv, Nat.reduceMod, Nat.reduceLT, Nat.reduceLeDiff, Nat.reduceBEq, Nat.reducePow, Int.reduceLE, Int.reduceLT, Int.reduceEq, Int.reduceNeg, Int.reduceAdd, Int.reduceToNat, hf, hc, form_eta, Tryd.f127, R17, R16, R15, R14, R13, R12, R11, R10, R9, R8, R7, R6, R5, R4, R3, R2, R1, Q20, Q19, Q18, Q17, Q16, Q15, Q14, Q13, Q12, Q11, Q10, Q9, Q8, Q7, Q6, Q5, Q4, Q3, Q2, Q1, Tbl0])
  | false =>
    have e1 : doneF f = zeroF := by unfold doneF; rw [if_neg (by simp [hf])]
    have e2 : doneE f = ⟨1, -1⟩ := by unfold doneE; rw [if_neg (by simp [hf])]
    simp only [e1, e2, zeroF]
    refine Wcall_K (N := 12) hm hR17 127000 (lst []) ok127 Tryd.func127 rfl rfl (by simp) (by kernel_rfl) ?_
    repeat' (first | refine ReqK.i hpre fun _ => ?_ | refine ReqK.i (by omega) fun _ => ?_ | refine ReqK.i (by unfold maxL; omega) fun _ => ?_ | simp only [go_sem, reduceIte, reduceCtorEq, Nat.reduceEqDiff, Nat.reduceAdd, Nat.reduceSub, Nat.reduceMul, Nat.reduceDiv, Nat.reduceMod, Nat.reduceLT, Nat.reduceLeDiff, Nat.reduceBEq, Nat.reducePow, Int.reduceLE, Int.reduceLT, Int.reduceEq, Int.reduceNeg, Int.reduceAdd, Int.reduceToNat, hf, form_eta, Tryd.f127, R17, R16, R15, R14, R13, R12, R11, R10, R9, R8, R7, R6, R5, R4, R3, R2, R1, Q20, Q19, Q18, Q17, Q16, Q15, Q14, Q13, Q12, Q11, Q10, Q9, Q8, Q7, Q6, Q5, Q4, Q3, Q2, Q1, Tbl0])
theorem joinM_cast (k : Int) {l : List Abs.Form} {i : Nat} (h : i + 1 < l.length) : joinM k (l.take (i + 1 + 1)) = .mk k ⟨[]⟩ [] [joinM k (l.take (i + 1)), l[i + 1]] := joinM_take h
def joinPre (_ : Int) (l : List Abs.Form) : Prop := l ≠ [] ∧ l.length ≤ 1000
def R19 : Tbl := R18.add 128 (sp2 joinM joinPre)
set_option maxRecDepth 100000 in
set_option maxHeartbeats 1000000 in
theorem hR19 : TblOk Tryd.prog GA R19 := by
  refine sp2_ok ok128 hR18 fun k l hpre _ _ => ?_
  obtain ⟨hne, hll⟩ := hpre
  obtain ⟨f0, tl, rfl⟩ : ∃ f0 tl, l = f0 :: tl := by
    cases l with
    | nil => exact absurd rfl hne
    | cons a t => exact ⟨a, t, rfl⟩
  obtain ⟨J, hJ⟩ : ∃ J : Nat → Abs.Form, J = fun i => joinM k ((f0 :: tl).take (i + 1)) := ⟨_, rfl⟩
  have hJ0 : J 0 = f0 := by rw [hJ]; rfl
  have hJs : ∀ i (h : i < tl.length), J (i + 1) = .mk k ⟨[]⟩ [] [J i, tl[i]] := fun i h => by rw [hJ]; exact joinM_cast k (l := f0 :: tl) (by simpa using h)
  have hJe : joinM k (f0 :: tl) = J tl.length := by rw [hJ]; simp only [← List.length_cons (a := f0), List.take_length]
  have hcut : ∀ y, cutFD (y :: tl.map enc) (1 : Int) ((tl.length : Int) + 1) = tl.map enc := fun y => by
    unfold cutFD
    rw [show ((tl.length : Int) + 1).toNat = tl.length + 1 by omega, List.take_succ_cons, List.take_of_length_le (by rw [List.length_map]; exact Nat.le_refl _)]
    rfl
  have hq1 : (1 : Int) = (tl.length : Int) + 1 ∨ ((tl.map enc).getD 0 FD.nilf).cells.length = 4 := by
    cases tl with
    | nil => exact .inl rfl
    | cons x t => exact .inr (by show (enc x).cells.length = 4; rw [enc_form]; rfl)
  simp only [List.length_cons] at hll
  have kJ := Kp.mk hJs
  rw [hJe]
  clear hJ hJs hJe hne
  refine Wcall_K (N := 25) hm hR18 128000 (lst []) ok128 Tryd.func128 rfl rfl (by simp) (by kernel_rfl) ?_
  repeat' (first | refine ReqK.i ⟨by omega, by omega, hq1⟩ fun _ => ?_ | refine ReqK.i (by omega) fun _ => ?_ | refine ReqK.i (by unfold maxL; omega) fun _ => ?_ | simp only [go_sem, reduceIte, reduceCtorEq, Nat.reduceEqDiff, Nat.reduceAdd, Nat.reduceSub, Nat.reduceMul, Nat.reduceDiv, Nat.reduceMod, Nat.reduceLT, Nat.reduceLeDiff, Nat.reduceBEq, Nat.reducePow, Int.reduceLE, Int.reduceLT, Int.reduceEq, Int.reduceNeg, Int.reduceAdd, Int.reduceToNat, hcut, List.length_cons, Tryd.f128, R18, R17, R16, R15, R14, R13, R12, R11, R10, R9, R8, R7, R6, R5, R4, R3, R2, R1, Q20, Q19, Q18, Q17, Q16, Q15, Q14, Q13, Q12, Q11, Q10, Q9, Q8, Q7, Q6, Q5, Q4, Q3, Q2, Q1, Tbl0])
  refine WK_loop hm hR18 128000 (lst []) (ι := LoopM tl.length 2 fun _ => True)
    ⟨fun q => ⟨frL [(0, .fz (.i .i64 k)), (4, .ptr (128004, 0) 0), (5, .ptr (128005, 1) 0), (12, .fz (.sl (tl.map enc))), (13, .fz (.i .i64 tl.length)), (14, .fz (.i .i64 q.i))],
      hpL [((128004, 0), some ⟨[.fz (.i .i64 0), .fz (.s []), .full [], .full []], true, false⟩), ((128005, 1), some ⟨[.fz (.i .i64 (J q.i).kind), .fz (.s (J q.i).name.l), .fz (.sl ((J q.i).words.map enc)), .fz (.sl ((J q.i).subs.map enc))], true, false⟩)], q.m⟩, fun q => tl.length - q.i⟩
    ⟨0, 2, by omega, by omega, trivial⟩ (by kernel_rfl) ?_ ?_
  · refine Weak_to ?_ ?_ ?_ <;> simp only [go_sem, reduceIte, reduceCtorEq, Nat.reduceEqDiff, Nat.reduceAdd, Nat.reduceSub, Nat.reduceMul, Nat.reduceDiv, Nat.reduceMod, Nat.reduceLT, Nat.reduceLeDiff, Nat.reduceBEq, Nat.reducePow, Int.reduceLE, Int.reduceLT, Int.reduceEq, Int.reduceNeg, Int.reduceAdd, Int.reduceToNat, hJ0, enc_form, hcut]
    all_goals first | done | rfl | trace_state
  rintro ⟨i, m, hi, hm1, _⟩
  try simp only at hi hm1
  rcases Nat.lt_or_ge i tl.length with h2 | h2
  · have hs := kJ.out i h2
    obtain ⟨x, hx⟩ : ∃ x, tl[i] = x := ⟨_, rfl⟩
    rw [hx] at hs
    obtain ⟨y, hy⟩ : ∃ y, J i = y := ⟨_, rfl⟩
    rw [hy] at hs
    repeat' (first | refine ReqK.i (by omega) fun _ => ?_ | refine ReqK.i (by unfold maxL; omega) fun _ => ?_ | simp only [go_sem, reduceIte, reduceCtorEq, Nat.reduceEqDiff, Nat.reduceAdd, Nat.reduceSub, Nat.reduceMul, Nat.reduceDiv, Nat.reduceMod, Nat.reduceLT, Nat.reduceLeDiff, Nat.reduceBEq, Nat.reducePow, Int.reduceLE, Int.reduceLT, Int.reduceEq, Int.reduceNeg, Int.reduceAdd, Int.reduceToNat, h2, hx, hy, getD_map_lt, Tryd.f128, R18, R17, R16, R15, R14, R13, R12, R11, R10, R9, R8, R7, R6, R5, R4, R3, R2, R1, Q20, Q19, Q18, Q17, Q16, Q15, Q14, Q13, Q12, Q11, Q10, Q9, Q8, Q7, Q6, Q5, Q4, Q3, Q2, Q1, Tbl0])
    refine ⟨⟨i + 1, m + 3, by omega, by omega, trivial⟩, by simp only; omega, ?_⟩
    refine Weak_g [] [] [] ?_ ?_ ?_ ?_ ?_ <;> (try simp only [go_sem, reduceIte, reduceCtorEq, Nat.reduceEqDiff, Nat.reduceAdd, Nat.reduceSub, Nat.reduceMul, Nat.reduceDiv, Nat.reduceMod, Nat.reduceLT, Nat.reduceLeDiff, Nat.reduceBEq, Nat.reducePow, Int.reduceLE, Int.reduceLT, Int.reduceEq, Int.reduceNeg, Int.reduceAdd, Int.reduceToNat, hs])
    all_goals first | done | omega | rfl | trace_state
  · obtain rfl : i = tl.length := by omega
    repeat' (first | refine ReqK.i (by omega) fun _ => ?_ | refine ReqK.i (by unfold maxL; omega) fun _ => ?_ | simp only [go_sem, reduceIte, reduceCtorEq, Nat.reduceEqDiff, Nat.reduceAdd, Nat.reduceSub, Nat.reduceMul, Nat.reduceDiv, Nat.reduceMod, Nat.reduceLT, Nat.reduceLeDiff, Nat.reduceBEq, Nat.reducePow, Int.reduceLE, Int.reduceLT, Int.reduceEq, Int.reduceNeg, Int.reduceAdd, Int.reduceToNat, Nat.lt_irrefl, Tryd.f128, R18, R17, R16, R15, R14, R13, R12, R11, R10, R9, R8, R7, R6, R5, R4, R3, R2, R1, Q20, Q19, Q18, Q17, Q16, Q15, Q14, Q13, Q12, Q11, Q10, Q9, Q8, Q7, Q6, Q5, Q4, Q3, Q2, Q1, Tbl0])
def tree117 : Tv := (.q 0 (.q 1 (.q 2 (.q 3 (.q 4 (.q 5 (.q 6 (.q 7 (.br [(8, .leaf)])))))))))
def R20 : Tbl := R19.add 120 (sp2 joinM joinPre)
set_option maxRecDepth 100000 in
set_option maxHeartbeats 1000000 in
theorem hR20 : TblOk Tryd.prog GA R20 := by
  refine sp2_ok ok120 hR19 fun k l hpre _ _ => ?_
  obtain ⟨hne, hll⟩ := hpre
  have hl0 : 0 < l.length := List.length_pos_iff.2 hne
  obtain ⟨J, hJ⟩ : ∃ J : Nat → Abs.Form, J = fun i => joinM k (l.take (i + 1)) := ⟨_, rfl⟩
  obtain ⟨f0, hf0⟩ : ∃ f0, l[0] = f0 := ⟨_, rfl⟩
  have hJ0 : J 0 = f0 := by
    rw [hJ, ← hf0]
    cases l with
    | nil => exact absurd rfl hne
    | cons a t => rfl
  have hJs : ∀ i (h : i + 1 < l.length), J (i + 1) = .mk k ⟨[]⟩ [] [J i, l[i + 1]] := fun i h => by rw [hJ]; exact joinM_cast k h
  obtain ⟨n, hn⟩ : ∃ n, l.length = n + 1 := ⟨l.length - 1, by omega⟩
  have hJe : joinM k l = J n := by rw [hJ]; simp only [← hn, List.take_length]
  have kJ := Kp.mk hJs
  rw [hJe]
  clear hJ hJs hJe hne
  refine Wcall_K (N := 25) hm hR19 120000 (lst [1000005]) ok120 Tryd.func120 rfl rfl (by simp) (by kernel_rfl) ?_
  repeat' (first | refine ReqK.i (by omega) fun _ => ?_ | refine ReqK.i (by unfold maxL; omega) fun _ => ?_ | simp only [go_sem, reduceIte, reduceCtorEq, Nat.reduceEqDiff, Nat.reduceAdd, Nat.reduceSub, Nat.reduceMul, Nat.reduceDiv, Nat.reduceMod, Nat.reduceLT, Nat.reduceLeDiff, Nat.reduceBEq, Nat.reducePow, Int.reduceLE, Int.reduceLT, Int.reduceEq, Int.reduceNeg, Int.reduceAdd, Int.reduceToNat, hl0, hf0, getD_map_lt, Tryd.f120, R19, R18, R17, R16, R15, R14, R13, R12, R11, R10, R9, R8, R7, R6, R5, R4, R3, R2, R1, Q20, Q19, Q18, Q17, Q16, Q15, Q14, Q13, Q12, Q11, Q10, Q9, Q8, Q7, Q6, Q5, Q4, Q3, Q2, Q1, Tbl0])
  refine WK_loop hm hR19 120000 (lst [1000005]) (ι := LoopM n 2 fun _ => True)
    ⟨fun q => ⟨frL [(0, .fz (.i .i64 k)), (1, .fz (.sl (l.map enc))), (4, .ptr (120004, 0) 0), (5, .ptr (120005, 1) 0), (6, .fz (.i .i64 ((q.i + 1 : Nat) : Int)))],
      hpL [((120004, 0), some ⟨[.fz (.i .i64 0), .fz (.s []), .full [], .full []], true, false⟩), ((120005, 1), some ⟨[.fz (.i .i64 (J q.i).kind), .fz (.s (J q.i).name.l), .fz (.sl ((J q.i).words.map enc)), .fz (.sl ((J q.i).subs.map enc))], true, false⟩)], q.m⟩, fun q => n - q.i⟩
    ⟨0, 2, by omega, by omega, trivial⟩ (by kernel_rfl) ?_ ?_
  · refine Weak_to ?_ ?_ ?_ <;> simp only [go_sem, reduceIte, reduceCtorEq, Nat.reduceEqDiff, Nat.reduceAdd, Nat.reduceSub, Nat.reduceMul, Nat.reduceDiv, Nat.reduceMod, Nat.reduceLT, Nat.reduceLeDiff, Nat.reduceBEq, Nat.reducePow, Int.reduceLE, Int.reduceLT, Int.reduceEq, Int.reduceNeg, Int.reduceAdd, Int.reduceToNat, hJ0]
    all_goals first | done | rfl | trace_state
  rintro ⟨i, m, hi, hm1, _⟩
  try simp only at hi hm1
  rcases Nat.lt_or_ge i n with h2 | h2
  · have h3 : i + 1 < l.length := by omega
    have h3' : ((i : Int) + 1 < (l.length : Int)) = True := eq_true (by omega)
    have h4 : (0 ≤ (i : Int) + 1) = True := eq_true (by omega)
    have h5 : ((i : Int) + 1).toNat = i + 1 := by omega
    have hs := kJ.out i h3
    obtain ⟨x, hx⟩ : ∃ x, l[i + 1] = x := ⟨_, rfl⟩
    rw [hx] at hs
    obtain ⟨y, hy⟩ : ∃ y, J i = y := ⟨_, rfl⟩
    rw [hy] at hs
    repeat' (first | refine ReqK.i (by omega) fun _ => ?_ | refine ReqK.i (by unfold maxL; omega) fun _ => ?_ | simp only [go_sem, reduceIte, reduceCtorEq, Nat.reduceEqDiff, Nat.reduceAdd, Nat.reduceSub, Nat.reduceMul, Nat.reduceDiv, Nat.reduceMod, Nat.reduceLT, Nat.reduceLeDiff, Nat.reduceBEq, Nat.reducePow, Int.reduceLE, Int.reduceLT, Int.reduceEq, Int.reduceNeg, Int.reduceAdd, Int.reduceToNat, h4, h5, h3', h3, hx, hy, getD_map_lt, Tryd.f120, R19, R18, R17, R16, R15, R14, R13, R12, R11, R10, R9, R8, R7, R6, R5, R4, R3, R2, R1, Q20, Q19, Q18, Q17, Q16, Q15, Q14, Q13, Q12, Q11, Q10, Q9, Q8, Q7, Q6, Q5, Q4, Q3, Q2, Q1, Tbl0])
    refine WK_drawV hm hR19 120000 (lst [1000005]) tree117 (by kernel_rfl) (by kernel_rfl) ?_
    repeat' (first | refine And.intro ?_ ?_ | exact True.intro | refine ReqK.i (by omega) fun _ => ?_ | refine ReqK.i (by unfold maxL; omega) fun _ => ?_ | simp only [go_sem, reduceIte, reduceCtorEq, Nat.reduceEqDiff, Nat.reduceAdd, Nat.reduceSub, Nat.reduceMul, Nat.reduceDiv, Nat.reduceMod, Nat.reduceLT, Nat.reduceLeDiff, Nat.reduceBEq, Nat.reducePow, Int.reduceLE, Int.reduceLT, Int.reduceEq, Int.reduceNeg, Int.reduceAdd, Int.reduceToNat, tree117, h4, h5, h3', h3, hx, hy, getD_map_lt, Tryd.f120, R19, R18, R17, R16, R15, R14, R13, R12, R11, R10, R9, R8, R7, R6, R5, R4, R3, R2, R1, Q20, Q19, Q18, Q17, Q16, Q15, Q14, Q13, Q12, Q11, Q10, Q9, Q8, Q7, Q6, Q5, Q4, Q3, Q2, Q1, Tbl0])
    refine ⟨⟨i + 1, m + 3, by omega, by omega, trivial⟩, by simp only; omega, ?_⟩
    refine Weak_g [] [] [] ?_ ?_ ?_ ?_ ?_ <;> (try simp only [go_sem, reduceIte, reduceCtorEq, Nat.reduceEqDiff, Nat.reduceAdd, Nat.reduceSub, Nat.reduceMul, Nat.reduceDiv, Nat.reduceMod, Nat.reduceLT, Nat.reduceLeDiff, Nat.reduceBEq, Nat.reducePow, Int.reduceLE, Int.reduceLT, Int.reduceEq, Int.reduceNeg, Int.reduceAdd, Int.reduceToNat, hs])
    all_goals first | done | omega | rfl | trace_state
  · obtain rfl : i = n := by omega
    have h3 : ((i : Int) + 1 < (l.length : Int)) = False := eq_false (by omega)
    repeat' (first | refine ReqK.i (by omega) fun _ => ?_ | refine ReqK.i (by unfold maxL; omega) fun _ => ?_ | simp only [go_sem, reduceIte, reduceCtorEq, Nat.reduceEqDiff, Nat.reduceAdd, Nat.reduceSub, Nat.reduceMul, Nat.reduceDiv, Nat.reduceMod, Nat.reduceLT, Nat.reduceLeDiff, Nat.reduceBEq, Nat.reducePow, Int.reduceLE, Int.reduceLT, Int.reduceEq, Int.reduceNeg, Int.reduceAdd, Int.reduceToNat, h3, Tryd.f120, R19, R18, R17, R16, R15, R14, R13, R12, R11, R10, R9, R8, R7, R6, R5, R4, R3, R2, R1, Q20, Q19, Q18, Q17, Q16, Q15, Q14, Q13, Q12, Q11, Q10, Q9, Q8, Q7, Q6, Q5, Q4, Q3, Q2, Q1, Tbl0])
/-- what a group must be -/
def chkGo (at' : Int) : List Str → List Str → Fault
  | _, [] => ⟨0, 0⟩
  | pre, x :: xs => if isName x = false then ⟨10, at'⟩ else if x ∈ pre then ⟨7, at'⟩ else chkGo at' (pre ++ [x]) xs
def chkG (l : List Str) (at' : Int) : Fault := if l.length = 0 ∨ 5 < l.length then ⟨2, at'⟩ else chkGo at' [] l
theorem chkGo_step {at' : Int} {l : List Str} {i : Nat} (h : i < l.length) : chkGo at' (l.take i) (l.drop i) =
    if isName l[i] = false then ⟨10, at'⟩ else if l[i] ∈ l.take i then ⟨7, at'⟩ else chkGo at' (l.take (i + 1)) (l.drop (i + 1)) := by
  rw [List.drop_eq_getElem_cons h, chkGo, List.take_succ_eq_append_getElem h]
theorem chkGo_zero {at' : Int} : ∀ {xs pre : List Str}, (chkGo at' pre xs).code = 0 → chkGo at' pre xs = ⟨0, 0⟩ ∧ ∀ x ∈ xs, isName x = true
  | [], pre, h => by rw [chkGo]; exact ⟨rfl, by simp⟩
  | x :: xs, pre, h => by
    rw [chkGo] at h ⊢
    split at h
    · simp at h
    split at h
    · simp at h
    rename_i h1 h2
    have h3 := chkGo_zero h
    rw [if_neg h1, if_neg h2]
    refine ⟨h3.1, fun y hy => ?_⟩
    rcases List.mem_cons.1 hy with rfl | hy
    · simpa using h1
    · exact h3.2 y hy
theorem chkG_zero {l : List Str} {at' : Int} (h : (chkG l at').code = 0) : chkG l at' = ⟨0, 0⟩ ∧ 1 ≤ l.length ∧ l.length ≤ 5 ∧ ∀ x ∈ l, isName x = true := by
  unfold chkG at h ⊢
  split at h
  · simp at h
  rename_i h1
  rw [if_neg h1]
  have := chkGo_zero h
  exact ⟨this.1, by omega, by omega, this.2⟩
def R21 : Tbl := R20.add 125 (sp2 chkG fun _ _ => True)
set_option maxRecDepth 100000 in
set_option maxHeartbeats 1000000 in
theorem hR21 : TblOk Tryd.prog GA R21 := by
  refine sp2_ok ok125 hR20 fun l at' _ hl _ => ?_
  have la := Wf_sl hl
  simp only [List.length_map, maxL] at la
  refine Wcall_K (N := 38) hm hR20 125000 (lst []) ok125 Tryd.func125 rfl rfl (by simp) (by kernel_rfl) ?_
  simp only [go_sem, reduceIte, reduceCtorEq, Nat.reduceEqDiff, Nat.reduceAdd, Nat.reduceSub, Nat.reduceMul, Nat.reduceDiv, Nat.reduceMod, Nat.reduceLT, Nat.reduceLeDiff, Nat.reduceBEq, Nat.reducePow, Int.reduceLE, Int.reduceLT, Int.reduceEq, Int.reduceNeg, Int.reduceAdd, Int.reduceToNat]
  repeat' (first | refine CondK.d (fun _ => ?_) (fun _ => ?_) | refine ReqK.i (by omega) fun _ => ?_ | simp only [go_sem, reduceIte, reduceCtorEq, Nat.reduceEqDiff, Nat.reduceAdd, Nat.reduceSub, Nat.reduceMul, Nat.reduceDiv, Nat.reduceMod, Nat.reduceLT, Nat.reduceLeDiff, Nat.reduceBEq, Nat.reducePow, Int.reduceLE, Int.reduceLT, Int.reduceEq, Int.reduceNeg, Int.reduceAdd, Int.reduceToNat, Tryd.f125, *])
  · have e : chkG l at' = ⟨2, at'⟩ := by unfold chkG; rw [if_pos (by omega)]
    simp only [go_sem, reduceIte, reduceCtorEq, Nat.reduceEqDiff, Nat.reduceAdd, Nat.reduceSub, Nat.reduceMul, Nat.reduceDiv, Nat.reduceMod, Nat.reduceLT, Nat.reduceLeDiff, Nat.reduceBEq, Nat.reducePow, Int.reduceLE, Int.reduceLT, Int.reduceEq, Int.reduceNeg, Int.reduceAdd, Int.reduceToNat, e]
  · have e : chkG l at' = ⟨2, at'⟩ := by unfold chkG; rw [if_pos (by omega)]
    simp only [go_sem, reduceIte, reduceCtorEq, Nat.reduceEqDiff, Nat.reduceAdd, Nat.reduceSub, Nat.reduceMul, Nat.reduceDiv, Nat.reduceMod, Nat.reduceLT, Nat.reduceLeDiff, Nat.reduceBEq, Nat.reducePow, Int.reduceLE, Int.reduceLT, Int.reduceEq, Int.reduceNeg, Int.reduceAdd, Int.reduceToNat, e]
  · have e : chkG l at' = chkGo at' (l.take 0) (l.drop 0) := by unfold chkG; rw [if_neg (by omega)]; simp
    refine WK_loop hm hR20 125000 (lst []) (ι := LoopI l.length fun i => chkG l at' = chkGo at' (l.take i) (l.drop i))
      ⟨fun i => ⟨frL [(0, .fz (enc l)), (1, .fz (enc at')), (4, .ptr (125004, 0) 0), (17, .fz (enc l)), (18, .fz (.i .i64 l.length)), (19, .fz (.i .i64 i.i))], hpL [((125004, 0), some ⟨[.fz (.i .i64 0), .fz (.i .i64 0)], true, false⟩)], 1⟩, fun i => l.length - i.i⟩ ⟨0, by simp, e⟩ (by kernel_rfl) ?_ ?_
    · refine Weak_to ?_ ?_ ?_ <;> simp only [go_sem, reduceIte, reduceCtorEq, Nat.reduceEqDiff, Nat.reduceAdd, Nat.reduceSub, Nat.reduceMul, Nat.reduceDiv, Nat.reduceMod, Nat.reduceLT, Nat.reduceLeDiff, Nat.reduceBEq, Nat.reducePow, Int.reduceLE, Int.reduceLT, Int.reduceEq, Int.reduceNeg, Int.reduceAdd, Int.reduceToNat]
    · intro i
      have hi := i.hi
      have hp := i.hp
      simp only [go_sem, reduceIte, reduceCtorEq, Nat.reduceEqDiff, Nat.reduceAdd, Nat.reduceSub, Nat.reduceMul, Nat.reduceDiv, Nat.reduceMod, Nat.reduceLT, Nat.reduceLeDiff, Nat.reduceBEq, Nat.reducePow, Int.reduceLE, Int.reduceLT, Int.reduceEq, Int.reduceNeg, Int.reduceAdd, Int.reduceToNat]
      refine CondK.d (fun h2 => ?_) (fun h2 => ?_)
      · rw [chkGo_step h2] at hp
        simp only [go_sem, reduceIte, reduceCtorEq, Nat.reduceEqDiff, Nat.reduceAdd, Nat.reduceSub, Nat.reduceMul, Nat.reduceDiv, Nat.reduceMod, Nat.reduceLT, Nat.reduceLeDiff, Nat.reduceBEq, Nat.reducePow, Int.reduceLE, Int.reduceLT, Int.reduceEq, Int.reduceNeg, Int.reduceAdd, Int.reduceToNat, h2, getD_map_lt, R20, R19, R18, R17, R16, R15, R14, R13, R12, R11, R10, R9, R8, R7, R6, R5, R4, R3, R2, R1, Q20, Q19, Q18, Q17, Q16, Q15, Q14, Q13, Q12, Q11, Q10, Q9, Q8, Q7, Q6, Q5, Q4, Q3, Q2, Q1, Tbl0]
        refine CondK.i (fun h3 => ?_) (fun h3 => ?_)
        · rw [if_neg (by simp [h3])] at hp
          simp only [go_sem, reduceIte, reduceCtorEq, Nat.reduceEqDiff, Nat.reduceAdd, Nat.reduceSub, Nat.reduceMul, Nat.reduceDiv, Nat.reduceMod, Nat.reduceLT, Nat.reduceLeDiff, Nat.reduceBEq, Nat.reducePow, Int.reduceLE, Int.reduceLT, Int.reduceEq, Int.reduceNeg, Int.reduceAdd, Int.reduceToNat, h2, getD_map_lt, R20, R19, R18, R17, R16, R15, R14, R13, R12, R11, R10, R9, R8, R7, R6, R5, R4, R3, R2, R1, Q20, Q19, Q18, Q17, Q16, Q15, Q14, Q13, Q12, Q11, Q10, Q9, Q8, Q7, Q6, Q5, Q4, Q3, Q2, Q1, Tbl0]
          refine ReqK.i (by omega) fun _ => ?_
          simp only [go_sem, reduceIte, reduceCtorEq, Nat.reduceEqDiff, Nat.reduceAdd, Nat.reduceSub, Nat.reduceMul, Nat.reduceDiv, Nat.reduceMod, Nat.reduceLT, Nat.reduceLeDiff, Nat.reduceBEq, Nat.reducePow, Int.reduceLE, Int.reduceLT, Int.reduceEq, Int.reduceNeg, Int.reduceAdd, Int.reduceToNat, h2, getD_map_lt, R20, R19, R18, R17, R16, R15, R14, R13, R12, R11, R10, R9, R8, R7, R6, R5, R4, R3, R2, R1, Q20, Q19, Q18, Q17, Q16, Q15, Q14, Q13, Q12, Q11, Q10, Q9, Q8, Q7, Q6, Q5, Q4, Q3, Q2, Q1, Tbl0]
          refine CondK.d (fun h4 => ?_) (fun h4 => ?_)
          · rw [if_pos h4] at hp
            simp only [go_sem, reduceIte, reduceCtorEq, Nat.reduceEqDiff, Nat.reduceAdd, Nat.reduceSub, Nat.reduceMul, Nat.reduceDiv, Nat.reduceMod, Nat.reduceLT, Nat.reduceLeDiff, Nat.reduceBEq, Nat.reducePow, Int.reduceLE, Int.reduceLT, Int.reduceEq, Int.reduceNeg, Int.reduceAdd, Int.reduceToNat, Tryd.f125, hp]
          · rw [if_neg h4] at hp
            simp only [go_sem, reduceIte, reduceCtorEq, Nat.reduceEqDiff, Nat.reduceAdd, Nat.reduceSub, Nat.reduceMul, Nat.reduceDiv, Nat.reduceMod, Nat.reduceLT, Nat.reduceLeDiff, Nat.reduceBEq, Nat.reducePow, Int.reduceLE, Int.reduceLT, Int.reduceEq, Int.reduceNeg, Int.reduceAdd, Int.reduceToNat]
            refine ReqK.i (by omega) fun _ => ?_
            simp only [go_sem, reduceIte, reduceCtorEq, Nat.reduceEqDiff, Nat.reduceAdd, Nat.reduceSub, Nat.reduceMul, Nat.reduceDiv, Nat.reduceMod, Nat.reduceLT, Nat.reduceLeDiff, Nat.reduceBEq, Nat.reducePow, Int.reduceLE, Int.reduceLT, Int.reduceEq, Int.reduceNeg, Int.reduceAdd, Int.reduceToNat]
            refine ⟨⟨i.i + 1, by omega, hp⟩, by simp only; omega, ?_⟩
            refine Weak_to ?_ ?_ ?_ <;> simp only [go_sem, reduceIte, reduceCtorEq, Nat.reduceEqDiff, Nat.reduceAdd, Nat.reduceSub, Nat.reduceMul, Nat.reduceDiv, Nat.reduceMod, Nat.reduceLT, Nat.reduceLeDiff, Nat.reduceBEq, Nat.reducePow, Int.reduceLE, Int.reduceLT, Int.reduceEq, Int.reduceNeg, Int.reduceAdd, Int.reduceToNat]
        · rw [if_pos h3] at hp
          simp only [go_sem, reduceIte, reduceCtorEq, Nat.reduceEqDiff, Nat.reduceAdd, Nat.reduceSub, Nat.reduceMul, Nat.reduceDiv, Nat.reduceMod, Nat.reduceLT, Nat.reduceLeDiff, Nat.reduceBEq, Nat.reducePow, Int.reduceLE, Int.reduceLT, Int.reduceEq, Int.reduceNeg, Int.reduceAdd, Int.reduceToNat, Tryd.f125, hp]
      · have e2 : chkG l at' = ⟨0, 0⟩ := by rw [hp, List.drop_of_length_le (by omega), chkGo]
        simp only [go_sem, reduceIte, reduceCtorEq, Nat.reduceEqDiff, Nat.reduceAdd, Nat.reduceSub, Nat.reduceMul, Nat.reduceDiv, Nat.reduceMod, Nat.reduceLT, Nat.reduceLeDiff, Nat.reduceBEq, Nat.reducePow, Int.reduceLE, Int.reduceLT, Int.reduceEq, Int.reduceNeg, Int.reduceAdd, Int.reduceToNat, Tryd.f125, e2]
def R22 : Tbl := R21
theorem hR22 : TblOk Tryd.prog GA R22 := hR21
end Go.Proofs.YtoicheicnbjfeaaDoor

namespace Go.Proofs.YtoicheicnbjfeaaDoor
open Go Go.Abs Go.Proofs

section
variable {P : Program} {G : Nat → List FD} {T : Tbl}
/-- a recursive function of two arguments -/
theorem sp2_rec {α β ρ : Type} [Enc α] [Enc β] [Enc ρ] {f : FuncId} {g : α → β → ρ} (m : α → Nat) (hc : CallOk P f) (hT : TblOk P G T)
    (h : ∀ n, TblOk P G (T.add f (sp2 g fun a _ => m a < n)) → ∀ a b, m a = n → (enc a).Wf → (enc b).Wf → Wcall P G f [.fz (enc a), .fz (enc b)] (hpL []) 0 (fun d _ _ => D.val d = some (.fz (enc (g a b))))) : TblOk P G (T.add f (sp2 g fun _ _ => True)) := by
  have key : ∀ n, TblOk P G (T.add f (sp2 g fun a _ => m a < n)) := by
    intro n
    induction n with
    | zero => exact sp2_ok hc hT fun a _ ha => by omega
    | succ n ih =>
      refine sp2_ok hc hT fun a b ha hw hw2 => ?_
      rcases Nat.lt_or_ge (m a) n with h3 | h3
      · have h4 := ih f (sp2 g fun a _ => m a < n) [enc a, enc b] _ _ (by simp [Tbl.add]) (k_sp2) ⟨by rw [dec_enc], by rw [dec_enc], by rw [dec_enc]; exact h3⟩
        rw [dec_enc, dec_enc, H0_eq] at h4
        exact h4
      · exact h n ih a b (by omega) hw hw2
  exact sp2_ok hc hT fun a b _ hw hw2 => h (m a) (key _) a b rfl hw hw2
end
theorem form_ext {a b : Abs.Form} (h1 : a.kind = b.kind) (h2 : a.name = b.name) (h3 : a.words = b.words) (h4 : a.subs = b.subs) : a = b := by
  cases a; cases b; simp only [form_kind, form_name, form_words, form_subs] at *; subst h1 h2 h3 h4; rfl
theorem eq_of_take {α : Type} {a b : List α} (h : a.length = b.length) (h2 : a.take a.length = b.take a.length) : a = b := by
  rw [List.take_length] at h2
  rw [h, List.take_length] at h2
  exact h2
def R27 : Tbl := R22.add 38 (sp2 (fun a b : Abs.Form => decide (a = b)) fun _ _ => True)
set_option maxRecDepth 100000 in
set_option maxHeartbeats 1000000 in
theorem hR27 : TblOk Tryd.prog GA R27 := by
  refine sp2_rec Form.size ok38 hR22 fun n hT a b hn hwa hwb => ?_
  obtain ⟨Q, hQ⟩ : ∃ Q : D → Heap → Nat → Prop, Q = (fun d _ _ => D.val d = some (.fz (enc (decide (a = b))))) := ⟨_, rfl⟩
  rw [← hQ]
  have hf : a ≠ b → ∀ {H' n'}, Q (.fz (.b false)) H' n' := fun h H' n' => by rw [hQ]; show _ = some (D.fz (.b (decide (a = b)))); rw [decide_eq_false h]; rfl
  have ht : a = b → ∀ {H' n'}, Q (.fz (.b true)) H' n' := fun h H' n' => by rw [hQ]; show _ = some (D.fz (.b (decide (a = b)))); rw [decide_eq_true h]; rfl
  have hsl : a.subs.length ≤ maxL := by
    have h := Wf_agg (by have h := hwa; rw [enc_form] at h; exact h) (FD.sl (a.subs.map enc)) (by simp)
    have := Wf_sl h
    simpa using this
  unfold maxL at hsl
  have hsz : ∀ g ∈ a.subs, g.size < n := fun g hg => by have := Form.size_sub hg; omega
  have kf := Kp.mk @hf
  have kt := Kp.mk @ht
  have kz := Kp.mk hsz
  have kT := Kp.mk hT
  clear hf ht hQ hwa hwb hsz hT
  refine Wcall_K (N := 54) hm kT.out 38000 (lst []) ok38 Tryd.func38 rfl rfl (by simp) (by kernel_rfl) ?_
  repeat' (first | refine CondK.d (fun _ => ?_) (fun _ => ?_) | refine CondK.i (fun _ => ?_) (fun _ => ?_) | refine ReqK.i (by omega) fun _ => ?_ | simp only [go_sem, reduceIte, reduceCtorEq, Nat.reduceEqDiff, Nat.reduceAdd, Nat.reduceSub, Nat.reduceMul, Nat.reduceDiv, Nat.reduceMod, Nat.reduceLT, Nat.reduceLeDiff, Nat.reduceBEq, Nat.reducePow, Int.reduceLE, Int.reduceLT, Int.reduceEq, Int.reduceNeg, Int.reduceAdd, Int.reduceToNat, Tryd.f38, R22, R21, R20, R19, R18, R17, R16, R15, R14, R13, R12, R11, R10, R9, R8, R7, R6, R5, R4, R3, R2, R1, Q20, Q19, Q18, Q17, Q16, Q15, Q14, Q13, Q12, Q11, Q10, Q9, Q8, Q7, Q6, Q5, Q4, Q3, Q2, Q1, Tbl0, *])
  all_goals try (refine kf.out (fun e => ?_); subst e; contradiction)
  rename_i e1 e2 e3 e4
  have hlen : a.subs.length = b.subs.length := by omega
  refine WK_loop hm kT.out 38000 (lst []) (ι := LoopI a.subs.length fun i => a.subs.take i = b.subs.take i)
    ⟨fun q => ⟨frL [(2, .ptr (38002, 0) 0), (3, .ptr (38003, 1) 0), (37, .fz (.i .i64 a.subs.length)), (38, .fz (.i .i64 q.i))],
      hpL [((38002, 0), some ⟨[.fz (.i .i64 a.kind), .fz (.s a.name.l), .fz (.sl (a.words.map enc)), .fz (.sl (a.subs.map enc))], true, false⟩), ((38003, 1), some ⟨[.fz (.i .i64 b.kind), .fz (.s b.name.l), .fz (.sl (b.words.map enc)), .fz (.sl (b.subs.map enc))], true, false⟩)], 2⟩, fun q => a.subs.length - q.i⟩
    ⟨0, by omega, rfl⟩ (by kernel_rfl) ?_ ?_
  · refine Weak_to ?_ ?_ ?_ <;> simp only [go_sem, reduceIte, reduceCtorEq, Nat.reduceEqDiff, Nat.reduceAdd, Nat.reduceSub, Nat.reduceMul, Nat.reduceDiv, Nat.reduceMod, Nat.reduceLT, Nat.reduceLeDiff, Nat.reduceBEq, Nat.reducePow, Int.reduceLE, Int.reduceLT, Int.reduceEq, Int.reduceNeg, Int.reduceAdd, Int.reduceToNat, *]
  rintro ⟨i, hi, hpi⟩
  rcases Nat.lt_or_ge i a.subs.length with h1 | h1
  · have h2 : i < b.subs.length := by omega
    obtain ⟨x, hx⟩ : ∃ x, a.subs[i] = x := ⟨_, rfl⟩
    obtain ⟨y, hy⟩ : ∃ y, b.subs[i] = y := ⟨_, rfl⟩
    have hxs : x.size < n := kz.out x (by rw [← hx]; exact List.getElem_mem h1)
    by_cases hxy : x = y
    · repeat' (first | refine ReqK.i (by omega) fun _ => ?_ | simp only [go_sem, reduceIte, reduceCtorEq, Nat.reduceEqDiff, Nat.reduceAdd, Nat.reduceSub, Nat.reduceMul, Nat.reduceDiv, Nat.reduceMod, Nat.reduceLT, Nat.reduceLeDiff, Nat.reduceBEq, Nat.reducePow, Int.reduceLE, Int.reduceLT, Int.reduceEq, Int.reduceNeg, Int.reduceAdd, Int.reduceToNat, h1, h2, hx, hy, hxs, eq_true hxy, getD_map_lt, Tryd.f38, R22, R21, R20, R19, R18, R17, R16, R15, R14, R13, R12, R11, R10, R9, R8, R7, R6, R5, R4, R3, R2, R1, Q20, Q19, Q18, Q17, Q16, Q15, Q14, Q13, Q12, Q11, Q10, Q9, Q8, Q7, Q6, Q5, Q4, Q3, Q2, Q1, Tbl0])
      refine ⟨⟨i + 1, by omega, ?_⟩, by simp only; omega, ?_⟩
      · rw [List.take_succ_eq_append_getElem h1, List.take_succ_eq_append_getElem h2, hpi, hx, hy, hxy]
      · refine Weak_to ?_ ?_ ?_ <;> simp only [go_sem, reduceIte, reduceCtorEq, Nat.reduceEqDiff, Nat.reduceAdd, Nat.reduceSub, Nat.reduceMul, Nat.reduceDiv, Nat.reduceMod, Nat.reduceLT, Nat.reduceLeDiff, Nat.reduceBEq, Nat.reducePow, Int.reduceLE, Int.reduceLT, Int.reduceEq, Int.reduceNeg, Int.reduceAdd, Int.reduceToNat]
    · repeat' (first | refine ReqK.i (by omega) fun _ => ?_ | simp only [go_sem, reduceIte, reduceCtorEq, Nat.reduceEqDiff, Nat.reduceAdd, Nat.reduceSub, Nat.reduceMul, Nat.reduceDiv, Nat.reduceMod, Nat.reduceLT, Nat.reduceLeDiff, Nat.reduceBEq, Nat.reducePow, Int.reduceLE, Int.reduceLT, Int.reduceEq, Int.reduceNeg, Int.reduceAdd, Int.reduceToNat, h1, h2, hx, hy, hxs, eq_false hxy, getD_map_lt, Tryd.f38, R22, R21, R20, R19, R18, R17, R16, R15, R14, R13, R12, R11, R10, R9, R8, R7, R6, R5, R4, R3, R2, R1, Q20, Q19, Q18, Q17, Q16, Q15, Q14, Q13, Q12, Q11, Q10, Q9, Q8, Q7, Q6, Q5, Q4, Q3, Q2, Q1, Tbl0])
      exact kf.out fun e => hxy (by subst e; rw [← hx, ← hy])
  · have h1' : ¬ i < a.subs.length := by omega
    obtain rfl : i = a.subs.length := by omega
    repeat' (first | refine ReqK.i (by omega) fun _ => ?_ | simp only [go_sem, reduceIte, reduceCtorEq, Nat.reduceEqDiff, Nat.reduceAdd, Nat.reduceSub, Nat.reduceMul, Nat.reduceDiv, Nat.reduceMod, Nat.reduceLT, Nat.reduceLeDiff, Nat.reduceBEq, Nat.reducePow, Int.reduceLE, Int.reduceLT, Int.reduceEq, Int.reduceNeg, Int.reduceAdd, Int.reduceToNat, Nat.lt_irrefl, h1', Tryd.f38])
    exact kt.out (form_ext e1 e2 e3 (eq_of_take hlen hpi))

def twoM (k : Int) (f g : Abs.Form) : Abs.Form := .mk k ⟨[]⟩ [] [f, g]
def R28 : Tbl := R27.add 36 (sp3 twoM fun _ _ _ => True)
set_option maxRecDepth 100000 in
set_option maxHeartbeats 1000000 in
theorem hR28 : TblOk Tryd.prog GA R28 := by
  refine sp3_ok ok36 hR27 fun k f g _ _ _ _ => ?_
  simp only [twoM]
  refine Wcall_K (N := 12) hm hR27 36000 (lst []) ok36 Tryd.func36 rfl rfl (by simp) (by kernel_rfl) ?_
  repeat' (first | refine ReqK.i (by omega) fun _ => ?_ | refine ReqK.i (by unfold maxL; omega) fun _ => ?_ | simp only [go_sem, reduceIte, reduceCtorEq, Nat.reduceEqDiff, Nat.reduceAdd, Nat.reduceSub, Nat.reduceMul, Nat.reduceDiv, Nat.reduceMod, Nat.reduceLT, Nat.reduceLeDiff, Nat.reduceBEq, Nat.reducePow, Int.reduceLE, Int.reduceLT, Int.reduceEq, Int.reduceNeg, Int.reduceAdd, Int.reduceToNat, form_eta, Tryd.f36, R27, R22, R21, R20, R19, R18, R17, R16, R15, R14, R13, R12, R11, R10, R9, R8, R7, R6, R5, R4, R3, R2, R1, Q20, Q19, Q18, Q17, Q16, Q15, Q14, Q13, Q12, Q11, Q10, Q9, Q8, Q7, Q6, Q5, Q4, Q3, Q2, Q1, Tbl0])

def tree503 : Tv := (.q 0 (.br [(1, (.br [(2, (.br [(3, .leaf)]))])), (2, (.q 1 (.br [(3, .leaf)])))]))
theorem list_ne {α : Type} {l : List α} (h : 1 ≤ l.length) : l ≠ [] := fun e => by rw [e] at h; simp at h
theorem doneR_eq {f : Abs.Form} (h : clean f) : doneR f = doneF f := by
  unfold doneR doneF; rw [← canon_with h (by simp) (by simp)]
def sWalk : Str := ⟨[119, 97, 108, 107]⟩
def sKim : Str := ⟨[107, 105, 109]⟩
theorem zero_mk : Abs.Form.mk 0 ⟨[]⟩ [] [] = zeroF := rfl
end Go.Proofs.YtoicheicnbjfeaaDoor
