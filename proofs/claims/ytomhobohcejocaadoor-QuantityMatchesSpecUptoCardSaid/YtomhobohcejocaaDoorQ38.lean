import Derived.Test.YtomhobohcejocaaDoorQ37
set_option linter.unusedSimpArgs false
namespace Go.Abs
open Go
theorem cum_fit {pred : Str} {a b : List Str} : (cumM pred a b).fit = true := by
  refine joinM_fit 5 ((fits_mem _).2 fun g hg => ?_)
  have hh : ∀ x y : Str, (holdsM pred x y).fit = true := fun x y => by simp [holdsM, Form.fit, Form.fits]
  rcases List.mem_append.1 hg with h | h
  · obtain ⟨x, _, rfl⟩ := List.mem_map.1 h
    refine joinM_fit 6 ((fits_mem _).2 fun g hg => ?_)
    obtain ⟨y, _, rfl⟩ := List.mem_map.1 hg
    exact hh _ _
  · obtain ⟨x, _, rfl⟩ := List.mem_map.1 h
    refine joinM_fit 6 ((fits_mem _).2 fun g hg => ?_)
    obtain ⟨y, _, rfl⟩ := List.mem_map.1 hg
    exact hh _ _
theorem row_size {pred : Str} {b : List Str} (h : b.length ≤ 5) (x : Str) : (rowA pred b x).size ≤ 11 ∧ (rowB pred b x).size ≤ 11 := by
  have hh : ∀ x y : Str, (holdsM pred x y).size ≤ 1 := fun x y => by simp [holdsM, Form.size, Form.sizes]
  constructor
  · have h1 := joinM_size 6 (b.map fun y => holdsM pred x y)
    have h2 := sizes_mul (c := 1) (b.map fun y => holdsM pred x y) fun g hg => by
      obtain ⟨y, _, rfl⟩ := List.mem_map.1 hg; exact hh _ _
    unfold rowA; rw [List.length_map] at h1 h2; omega
  · have h1 := joinM_size 6 (b.map fun y => holdsM pred y x)
    have h2 := sizes_mul (c := 1) (b.map fun y => holdsM pred y x) fun g hg => by
      obtain ⟨y, _, rfl⟩ := List.mem_map.1 hg; exact hh _ _
    unfold rowB; rw [List.length_map] at h1 h2; omega
theorem cum_size {pred : Str} {a b : List Str} (ha : a.length ≤ 5) (hb : b.length ≤ 5) : (cumM pred a b).size ≤ 1000 := by
  have h1 := joinM_size 5 (a.map (rowA pred b) ++ b.map (rowB pred a))
  have h2 := sizes_mul (c := 11) (a.map (rowA pred b) ++ b.map (rowB pred a)) fun g hg => by
    rcases List.mem_append.1 hg with h | h
    · obtain ⟨x, _, rfl⟩ := List.mem_map.1 h; exact (row_size hb x).1
    · obtain ⟨x, _, rfl⟩ := List.mem_map.1 h; exact (row_size ha x).2
  unfold cumM
  rw [List.length_append, List.length_map, List.length_map] at h1 h2
  omega
end Go.Abs
namespace Go.Proofs.YtomhobohcejocaaDoor
open Go Go.Abs Go.Proofs

/-! ## plural.Cumulative -/
set_option maxRecDepth 100000 in
set_option maxHeartbeats 1000000 in
theorem f124 {x y pr : List UInt8} {id : Abs.Id} {H : Heap} {n : Nat} {R : D → Heap → Nat → Prop} (hid : id.2 < n) (ho : H id = some ⟨[.fz (.s pr)], true, false⟩) (hR : ∀ n', n ≤ n' → R (.agg [.fz (.i .i64 2), .fz (.s pr), .full [.s x, .s y], .full []]) H n') :
    Wcall Tryd.prog GA 124 [.fz (.s x), .fz (.s y), .ptr id 0] H n R := by
  refine Wcall_keep ok124 (fun hfr => ?_) hR
  have hne : id ≠ (124005, n) := by rintro rfl; simp at hid
  have hne' : (id = (124005, n)) = False := eq_false hne
  obtain ⟨Q, hQ⟩ : ∃ Q : D → Heap → Nat → Prop, Q = (fun d' H' n' => d' = .agg [.fz (.i .i64 2), .fz (.s pr), .full [.s x, .s y], .full []] ∧ n ≤ n' ∧ ∀ id, id.2 < n → H' id = H id) := ⟨_, rfl⟩
  rw [← hQ]
  have e : H = hpX [] H := rfl
  rw [e]
  refine Wcall_K (N := 11) hm hR24 124000 (lst []) ok124 Tryd.func124 rfl rfl (by simp) (by kernel_rfl) ?_
  repeat' (first | refine ReqK.i (by omega) fun _ => ?_ | refine ReqK.i (by unfold maxL; omega) fun _ => ?_ | refine ReqK.i (fits_of2 (by first | omega | (simp only [List.length_map, List.length_take, List.length_append, List.length_cons, List.length_nil]; omega)) (by decide)) fun _ => ?_ | simp only [go_sem, reduceIte, reduceCtorEq, Nat.reduceEqDiff, Nat.reduceAdd, Nat.reduceSub, Nat.reduceMul, Nat.reduceDiv, Nat.reduceMod, Nat.reduceLT, Nat.reduceLeDiff, Nat.reduceBEq, Nat.reducePow, Int.reduceLE, Int.reduceLT, Int.reduceEq, Int.reduceNeg, Int.reduceAdd, Int.reduceToNat, hne', ho, Tryd.f124, R24, R23, R22, R21, R20, R19, R18, R17, R16, R15, R14, R13, R12, R11, R10, R9, R8, R7, R6, R5, R4, R3, R2, R1, Q20, Q19, Q18, Q17, Q16, Q15, Q14, Q13, Q12, Q11, Q10, Q9, Q8, Q7, Q6, Q5, Q4, Q3, Q2, Q1, Tbl0])
  all_goals try (rw [if_neg hne, ho])
  repeat' (first | refine ReqK.i (by omega) fun _ => ?_ | refine ReqK.i (by unfold maxL; omega) fun _ => ?_ | refine ReqK.i (fits_of2 (by first | omega | (simp only [List.length_map, List.length_take, List.length_append, List.length_cons, List.length_nil]; omega)) (by decide)) fun _ => ?_ | simp only [go_sem, reduceIte, reduceCtorEq, Nat.reduceEqDiff, Nat.reduceAdd, Nat.reduceSub, Nat.reduceMul, Nat.reduceDiv, Nat.reduceMod, Nat.reduceLT, Nat.reduceLeDiff, Nat.reduceBEq, Nat.reducePow, Int.reduceLE, Int.reduceLT, Int.reduceEq, Int.reduceNeg, Int.reduceAdd, Int.reduceToNat, hne', ho, Tryd.f124, R24, R23, R22, R21, R20, R19, R18, R17, R16, R15, R14, R13, R12, R11, R10, R9, R8, R7, R6, R5, R4, R3, R2, R1, Q20, Q19, Q18, Q17, Q16, Q15, Q14, Q13, Q12, Q11, Q10, Q9, Q8, Q7, Q6, Q5, Q4, Q3, Q2, Q1, Tbl0])
  rw [hQ]
  refine ⟨?_, by omega, fun id hid => hpX_old (n := n) (by intro p hp; simp at hp; rcases hp with rfl | rfl <;> simp) id hid⟩
  simp only [go_sem, reduceIte, reduceCtorEq, Nat.reduceEqDiff, Nat.reduceAdd, Nat.reduceSub, Nat.reduceMul, Nat.reduceDiv, Nat.reduceMod, Nat.reduceLT, Nat.reduceLeDiff, Nat.reduceBEq, Nat.reducePow, Int.reduceLE, Int.reduceLT, Int.reduceEq, Int.reduceNeg, Int.reduceAdd, Int.reduceToNat]
def cumP (pred : Str) (a b : List Str) : Abs.Form × Fault :=
  if isName pred = false then (zeroF, ⟨10, -1⟩) else if (chkG a (-2)).code ≠ 0 then (zeroF, chkG a (-2)) else if (chkG b (-3)).code ≠ 0 then (zeroF, chkG b (-3)) else (doneF (cumM pred a b), doneE (cumM pred a b))
def R25 : Tbl := R24.add 53 (sp3p cumP fun _ _ _ => True)
set_option maxRecDepth 100000 in
set_option maxHeartbeats 1000000 in
set_option maxHeartbeats 8000000 in
theorem hR25 : TblOk Tryd.prog GA R25 := by
  refine sp3p_ok ok53 hR24 fun pred a b _ _ hwa hwb => ?_
  by_cases hc1 : isName pred = false
  · have e1 : cumP pred a b = (zeroF, ⟨10, -1⟩) := by unfold cumP; rw [if_pos hc1]
    simp only [e1, zeroF]
    refine Wcall_K (N := 99) hm hR24 53000 (lsw [60, 66, 86, 92] [1000005, 1000008]) ok53 Tryd.func53 rfl rfl (by simp) (by kernel_rfl) ?_
    repeat' (first | refine WK_drawV hm hR24 53000 (lsw [60, 66, 86, 92] [1000005, 1000008]) tree503 (by kernel_rfl) (by kernel_rfl) ?_ | refine And.intro ?_ ?_ | exact True.intro | refine ReqK.i (by omega) fun _ => ?_ | refine ReqK.i (by unfold maxL; omega) fun _ => ?_ | refine ReqK.i (fits_of2 (by first | omega | (simp only [List.length_map, List.length_take, List.length_append, List.length_cons, List.length_nil]; omega)) (by decide)) fun _ => ?_ | simp only [go_sem, reduceIte, reduceCtorEq, Nat.reduceEqDiff, Nat.reduceAdd, Nat.reduceSub, Nat.reduceMul, Nat.reduceDiv, Nat.reduceMod, Nat.reduceLT, Nat.reduceLeDiff, Nat.reduceBEq, Nat.reducePow, Int.reduceLE, Int.reduceLT, Int.reduceEq, Int.reduceNeg, Int.reduceAdd, Int.reduceToNat, hc1, str_eta, tree503, Tryd.f53, R24, R23, R22, R21, R20, R19, R18, R17, R16, R15, R14, R13, R12, R11, R10, R9, R8, R7, R6, R5, R4, R3, R2, R1, Q20, Q19, Q18, Q17, Q16, Q15, Q14, Q13, Q12, Q11, Q10, Q9, Q8, Q7, Q6, Q5, Q4, Q3, Q2, Q1, Tbl0])
  have hc1 : isName pred = true := by simpa using hc1
  by_cases hc2 : ¬ (chkG a (-2)).code = 0
  · have e1 : cumP pred a b = (zeroF, chkG a (-2)) := by unfold cumP; rw [if_neg (by simp [hc1]), if_pos hc2]
    simp only [e1, zeroF]
    refine Wcall_K (N := 99) hm hR24 53000 (lsw [60, 66, 86, 92] [1000005, 1000008]) ok53 Tryd.func53 rfl rfl (by simp) (by kernel_rfl) ?_
    repeat' (first | refine WK_drawV hm hR24 53000 (lsw [60, 66, 86, 92] [1000005, 1000008]) tree503 (by kernel_rfl) (by kernel_rfl) ?_ | refine And.intro ?_ ?_ | exact True.intro | refine ReqK.i (by omega) fun _ => ?_ | refine ReqK.i (by unfold maxL; omega) fun _ => ?_ | refine ReqK.i (fits_of2 (by first | omega | (simp only [List.length_map, List.length_take, List.length_append, List.length_cons, List.length_nil]; omega)) (by decide)) fun _ => ?_ | simp only [go_sem, reduceIte, reduceCtorEq, Nat.reduceEqDiff, Nat.reduceAdd, Nat.reduceSub, Nat.reduceMul, Nat.reduceDiv, Nat.reduceMod, Nat.reduceLT, Nat.reduceLeDiff, Nat.reduceBEq, Nat.reducePow, Int.reduceLE, Int.reduceLT, Int.reduceEq, Int.reduceNeg, Int.reduceAdd, Int.reduceToNat, hc1, hc2, str_eta, tree503, Tryd.f53, R24, R23, R22, R21, R20, R19, R18, R17, R16, R15, R14, R13, R12, R11, R10, R9, R8, R7, R6, R5, R4, R3, R2, R1, Q20, Q19, Q18, Q17, Q16, Q15, Q14, Q13, Q12, Q11, Q10, Q9, Q8, Q7, Q6, Q5, Q4, Q3, Q2, Q1, Tbl0])
  have hc2 := Decidable.not_not.1 hc2
  obtain ⟨hc2e, ha1, ha5, _⟩ := chkG_zero hc2
  by_cases hc3 : ¬ (chkG b (-3)).code = 0
  · have e1 : cumP pred a b = (zeroF, chkG b (-3)) := by unfold cumP; rw [if_neg (by simp [hc1]), if_neg (by simp [hc2]), if_pos hc3]
    simp only [e1, zeroF]
    refine Wcall_K (N := 99) hm hR24 53000 (lsw [60, 66, 86, 92] [1000005, 1000008]) ok53 Tryd.func53 rfl rfl (by simp) (by kernel_rfl) ?_
    repeat' (first | refine WK_drawV hm hR24 53000 (lsw [60, 66, 86, 92] [1000005, 1000008]) tree503 (by kernel_rfl) (by kernel_rfl) ?_ | refine And.intro ?_ ?_ | exact True.intro | refine ReqK.i (by omega) fun _ => ?_ | refine ReqK.i (by unfold maxL; omega) fun _ => ?_ | refine ReqK.i (fits_of2 (by first | omega | (simp only [List.length_map, List.length_take, List.length_append, List.length_cons, List.length_nil]; omega)) (by decide)) fun _ => ?_ | simp only [go_sem, reduceIte, reduceCtorEq, Nat.reduceEqDiff, Nat.reduceAdd, Nat.reduceSub, Nat.reduceMul, Nat.reduceDiv, Nat.reduceMod, Nat.reduceLT, Nat.reduceLeDiff, Nat.reduceBEq, Nat.reducePow, Int.reduceLE, Int.reduceLT, Int.reduceEq, Int.reduceNeg, Int.reduceAdd, Int.reduceToNat, hc1, hc2, hc2e, hc3, str_eta, tree503, Tryd.f53, R24, R23, R22, R21, R20, R19, R18, R17, R16, R15, R14, R13, R12, R11, R10, R9, R8, R7, R6, R5, R4, R3, R2, R1, Q20, Q19, Q18, Q17, Q16, Q15, Q14, Q13, Q12, Q11, Q10, Q9, Q8, Q7, Q6, Q5, Q4, Q3, Q2, Q1, Tbl0])
  have hc3 := Decidable.not_not.1 hc3
  obtain ⟨hc3e, hb1, hb5, _⟩ := chkG_zero hc3
  have e1 : cumP pred a b = (doneF (cumM pred a b), doneE (cumM pred a b)) := by unfold cumP; rw [if_neg (by simp [hc1]), if_neg (by simp [hc2]), if_neg (by simp [hc3])]
  have hdone : szPre (cumM pred a b) := ⟨cum_fit, by have := cum_size (pred := pred) ha5 hb5; omega⟩
  obtain ⟨A, hA⟩ : ∃ A : Nat → List Abs.Form, A = fun i => (a.take i).map (rowA pred b) := ⟨_, rfl⟩
  have hA0 : A 0 = [] := by rw [hA]; rfl
  have hAs : ∀ i (h : i < a.length), A (i + 1) = A i ++ [rowA pred b a[i]] := fun i h => by rw [hA]; simp only [List.take_succ_eq_append_getElem h, List.map_append, List.map_cons, List.map_nil]
  have hAl : ∀ i, (A i).length ≤ a.length := fun i => by rw [hA]; simp only [List.length_map, List.length_take]; omega
  obtain ⟨B, hB⟩ : ∃ B : Nat → List Abs.Form, B = fun i => A a.length ++ (b.take i).map (rowB pred a) := ⟨_, rfl⟩
  have hB0 : B 0 = A a.length := by rw [hB]; simp
  have hBs : ∀ i (h : i < b.length), B (i + 1) = B i ++ [rowB pred a b[i]] := fun i h => by rw [hB]; simp only [List.take_succ_eq_append_getElem h, List.map_append, List.map_cons, List.map_nil, List.append_assoc]
  have hBl : ∀ i, (B i).length ≤ a.length + b.length := fun i => by have := hAl a.length; rw [hB]; simp only [List.length_append, List.length_map, List.length_take]; omega
  have hBe : joinM 5 (B b.length) = cumM pred a b := by rw [hB, hA]; simp only [List.take_length]; rfl
  have hjp : joinPre 5 (B b.length) := by
    refine ⟨list_ne ?_, ?_⟩
    · rw [hB]; simp only [List.length_append, List.length_map, List.take_length]; omega
    · have := hBl b.length; omega
  obtain ⟨P, hP⟩ : ∃ P : Str → Nat → List Abs.Form, P = fun x j => (b.take j).map fun y => holdsM pred x y := ⟨_, rfl⟩
  have hP0 : ∀ x, P x 0 = [] := fun x => by rw [hP]; rfl
  have hPs : ∀ x j (h : j < b.length), P x (j + 1) = P x j ++ [.mk 2 pred [x, b[j]] []] := fun x j h => by rw [hP]; simp only [List.take_succ_eq_append_getElem h, List.map_append, List.map_cons, List.map_nil]; rfl
  have hPl : ∀ x j, (P x j).length ≤ b.length := fun x j => by rw [hP]; simp only [List.length_map, List.length_take]; omega
  have hPe : ∀ x, joinM 6 (P x b.length) = rowA pred b x := fun x => by rw [hP]; simp only [List.take_length]; rfl
  have hPj : ∀ x, joinPre 6 (P x b.length) := fun x => ⟨list_ne (by rw [hP]; simp only [List.length_map, List.take_length]; exact hb1), by have := hPl x b.length; omega⟩
  obtain ⟨S, hS⟩ : ∃ S : Str → Nat → List Abs.Form, S = fun y j => (a.take j).map fun x => holdsM pred x y := ⟨_, rfl⟩
  have hS0 : ∀ x, S x 0 = [] := fun x => by rw [hS]; rfl
  have hSs : ∀ y j (h : j < a.length), S y (j + 1) = S y j ++ [.mk 2 pred [a[j], y] []] := fun x j h => by rw [hS]; simp only [List.take_succ_eq_append_getElem h, List.map_append, List.map_cons, List.map_nil]; rfl
  have hSl : ∀ x j, (S x j).length ≤ a.length := fun x j => by rw [hS]; simp only [List.length_map, List.length_take]; omega
  have hSe : ∀ x, joinM 6 (S x a.length) = rowB pred a x := fun x => by rw [hS]; simp only [List.take_length]; rfl
  have hSj : ∀ x, joinPre 6 (S x a.length) := fun x => ⟨list_ne (by rw [hS]; simp only [List.length_map, List.take_length]; exact ha1), by have := hSl x a.length; omega⟩
  obtain ⟨E, hE⟩ : ∃ E, cumM pred a b = E := ⟨_, rfl⟩
  rw [hE] at hBe hdone
  obtain ⟨c, hcE⟩ : ∃ c, doneF E = c := ⟨_, rfl⟩
  simp only [e1, hE, hcE]
  have kA := Kp.mk hAs
  have kB := Kp.mk hBs
  have kP := Kp.mk hPs
  have kPe := Kp.mk hPe
  have kPj := Kp.mk hPj
  have kS := Kp.mk hSs
  have kSe := Kp.mk hSe
  have kSj := Kp.mk hSj
  have kP0 := Kp.mk hP0
  have kS0 := Kp.mk hS0
  clear hA hAs hB hBs hP hPs hPe hPj hS hSs hSe hSj hE hP0 hS0
  refine Wcall_K (N := 99) hm hR24 53000 (lsw [60, 66, 86, 92] [1000005, 1000008]) ok53 Tryd.func53 rfl rfl (by simp) (by kernel_rfl) ?_
  repeat' (first | refine ReqK.i (by omega) fun _ => ?_ | refine ReqK.i (by unfold maxL; omega) fun _ => ?_ | refine ReqK.i (fits_of2 (by first | omega | (simp only [List.length_map, List.length_take, List.length_append, List.length_cons, List.length_nil]; omega)) (by decide)) fun _ => ?_ | simp only [go_sem, reduceIte, reduceCtorEq, Nat.reduceEqDiff, Nat.reduceAdd, Nat.reduceSub, Nat.reduceMul, Nat.reduceDiv, Nat.reduceMod, Nat.reduceLT, Nat.reduceLeDiff, Nat.reduceBEq, Nat.reducePow, Int.reduceLE, Int.reduceLT, Int.reduceEq, Int.reduceNeg, Int.reduceAdd, Int.reduceToNat, hc1, hc2, hc2e, hc3, hc3e, str_eta, Tryd.f53, R24, R23, R22, R21, R20, R19, R18, R17, R16, R15, R14, R13, R12, R11, R10, R9, R8, R7, R6, R5, R4, R3, R2, R1, Q20, Q19, Q18, Q17, Q16, Q15, Q14, Q13, Q12, Q11, Q10, Q9, Q8, Q7, Q6, Q5, Q4, Q3, Q2, Q1, Tbl0])
  refine WK_loop hm hR24 53000 (lsw [60, 66, 86, 92] [1000005, 1000008]) (ι := LoopG a.length 6 fun _ => True)
    ⟨fun q => ⟨frL [(1, .fz (.sl (a.map enc))), (2, .fz (.sl (b.map enc))), (6, .ptr (53006, 1) 0), (7, .ptr (53007, 2) 0), (10, .fn 124 [.ptr (53003, 0) 0]), (11, .ow (53066, q.g) 4 ((A q.i).map enc)), (42, .fz (.sl (a.map enc))), (43, .fz (.i .i64 a.length)), (44, .fz (.i .i64 q.i))],
      hpL [((53003, 0), some ⟨[.fz (.s pred.l)], true, false⟩), ((53006, 1), some ⟨[.fz (.i .i64 0), .fz (.s []), .full [], .full []], true, false⟩), ((53007, 2), some ⟨[.fz (.i .i64 0), .fz (.i .i64 0)], true, false⟩), ((53066, q.g), some tok)], q.m⟩, fun q => a.length - q.i⟩
    ⟨0, 5, 6, by omega, by omega, by omega, trivial⟩ (by kernel_rfl) ?_ ?_
  · refine Weak_g [] [(53066, 5)] [] ?_ ?_ ?_ ?_ ?_ <;> simp only [go_sem, reduceIte, reduceCtorEq, Nat.reduceEqDiff, Nat.reduceAdd, Nat.reduceSub, Nat.reduceMul, Nat.reduceDiv, Nat.reduceMod, Nat.reduceLT, Nat.reduceLeDiff, Nat.reduceBEq, Nat.reducePow, Int.reduceLE, Int.reduceLT, Int.reduceEq, Int.reduceNeg, Int.reduceAdd, Int.reduceToNat, hA0]
    all_goals first | done | rfl | omega | trace_state
  rintro ⟨i, g, m, hi, hg, hm1, _⟩
  try simp only at hi hg hm1
  rcases Nat.lt_or_ge i a.length with h1 | h1
  · have hls := kA.out i h1
    have hll := hAl i
    obtain ⟨x, hx⟩ : ∃ x, a[i] = x := ⟨_, rfl⟩
    rw [hx] at hls
    have hpe := kPe.out x
    have hpj := kPj.out x
    have hp0 := kP0.out x
    obtain ⟨r, hr⟩ : ∃ r, rowA pred b x = r := ⟨_, rfl⟩
    rw [hr] at hls hpe
    repeat' (first | refine ReqK.i (by omega) fun _ => ?_ | refine ReqK.i (by unfold maxL; omega) fun _ => ?_ | refine ReqK.i (fits_of2 (by first | omega | (simp only [List.length_map, List.length_take, List.length_append, List.length_cons, List.length_nil]; omega)) (by decide)) fun _ => ?_ | simp only [go_sem, reduceIte, reduceCtorEq, Nat.reduceEqDiff, Nat.reduceAdd, Nat.reduceSub, Nat.reduceMul, Nat.reduceDiv, Nat.reduceMod, Nat.reduceLT, Nat.reduceLeDiff, Nat.reduceBEq, Nat.reducePow, Int.reduceLE, Int.reduceLT, Int.reduceEq, Int.reduceNeg, Int.reduceAdd, Int.reduceToNat, h1, hx, str_eta, getD_map_lt, Tryd.f53, R24, R23, R22, R21, R20, R19, R18, R17, R16, R15, R14, R13, R12, R11, R10, R9, R8, R7, R6, R5, R4, R3, R2, R1, Q20, Q19, Q18, Q17, Q16, Q15, Q14, Q13, Q12, Q11, Q10, Q9, Q8, Q7, Q6, Q5, Q4, Q3, Q2, Q1, Tbl0])
    refine WK_loop hm hR24 53000 (lsw [60, 66, 86, 92] [1000005, 1000008]) (ι := LoopG b.length (m + 1) fun _ => True)
      ⟨fun q => ⟨frL [(1, .fz (.sl (a.map enc))), (2, .fz (.sl (b.map enc))), (6, .ptr (53006, 1) 0), (7, .ptr (53007, 2) 0), (10, .fn 124 [.ptr (53003, 0) 0]), (11, .ow (53066, g) 4 ((A i).map enc)), (13, .fz (.s x.l)), (14, .ow (53060, q.g) 4 ((P x q.i).map enc)), (42, .fz (.sl (a.map enc))), (43, .fz (.i .i64 a.length)), (44, .fz (.i .i64 i)), (48, .fz (.sl (b.map enc))), (49, .fz (.i .i64 b.length)), (50, .fz (.i .i64 q.i))],
        hpL [((53003, 0), some ⟨[.fz (.s pred.l)], true, false⟩), ((53006, 1), some ⟨[.fz (.i .i64 0), .fz (.s []), .full [], .full []], true, false⟩), ((53007, 2), some ⟨[.fz (.i .i64 0), .fz (.i .i64 0)], true, false⟩), ((53066, g), some tok), ((53060, q.g), some tok)], q.m⟩, fun q => b.length - q.i⟩
      ⟨0, m, m + 1, by omega, by omega, by omega, trivial⟩ (by kernel_rfl) ?_ ?_
    · refine Weak_g [] [(53060, m)] [] ?_ ?_ ?_ ?_ ?_ <;> simp only [go_sem, reduceIte, reduceCtorEq, Nat.reduceEqDiff, Nat.reduceAdd, Nat.reduceSub, Nat.reduceMul, Nat.reduceDiv, Nat.reduceMod, Nat.reduceLT, Nat.reduceLeDiff, Nat.reduceBEq, Nat.reducePow, Int.reduceLE, Int.reduceLT, Int.reduceEq, Int.reduceNeg, Int.reduceAdd, Int.reduceToNat, hp0]
      all_goals first | done | rfl | omega | trace_state
    rintro ⟨j, g2, m2, hj, hg2, hm2, _⟩
    try simp only at hj hg2 hm2
    rcases Nat.lt_or_ge j b.length with h2 | h2
    · have hps := kP.out x j h2
      have hpl := hPl x j
      obtain ⟨y, hy⟩ : ∃ y, b[j] = y := ⟨_, rfl⟩
      rw [hy] at hps
      repeat' (first | refine WcallK.i (f124 (pr := pred.l) (by simp only; omega) (by simp only [go_sem, reduceIte, reduceCtorEq, Nat.reduceEqDiff, Nat.reduceAdd, Nat.reduceSub, Nat.reduceMul, Nat.reduceDiv, Nat.reduceMod, Nat.reduceLT, Nat.reduceLeDiff, Nat.reduceBEq, Nat.reducePow, Int.reduceLE, Int.reduceLT, Int.reduceEq, Int.reduceNeg, Int.reduceAdd, Int.reduceToNat]) fun n3 hn3 => ?_) | refine ReqK.i (by omega) fun _ => ?_ | refine ReqK.i (by unfold maxL; omega) fun _ => ?_ | refine ReqK.i (fits_of2 (by first | omega | (simp only [List.length_map, List.length_take, List.length_append, List.length_cons, List.length_nil]; omega)) (by decide)) fun _ => ?_ | simp only [go_sem, reduceIte, reduceCtorEq, Nat.reduceEqDiff, Nat.reduceAdd, Nat.reduceSub, Nat.reduceMul, Nat.reduceDiv, Nat.reduceMod, Nat.reduceLT, Nat.reduceLeDiff, Nat.reduceBEq, Nat.reducePow, Int.reduceLE, Int.reduceLT, Int.reduceEq, Int.reduceNeg, Int.reduceAdd, Int.reduceToNat, h1, h2, hx, hy, str_eta, getD_map_lt, Tryd.f53, R24, R23, R22, R21, R20, R19, R18, R17, R16, R15, R14, R13, R12, R11, R10, R9, R8, R7, R6, R5, R4, R3, R2, R1, Q20, Q19, Q18, Q17, Q16, Q15, Q14, Q13, Q12, Q11, Q10, Q9, Q8, Q7, Q6, Q5, Q4, Q3, Q2, Q1, Tbl0])
      refine ⟨⟨j + 1, n3, n3 + 1, by omega, by omega, by omega, trivial⟩, by simp only; omega, ?_⟩
      refine Weak_to ?_ ?_ ?_ <;> (try simp only [go_sem, reduceIte, reduceCtorEq, Nat.reduceEqDiff, Nat.reduceAdd, Nat.reduceSub, Nat.reduceMul, Nat.reduceDiv, Nat.reduceMod, Nat.reduceLT, Nat.reduceLeDiff, Nat.reduceBEq, Nat.reducePow, Int.reduceLE, Int.reduceLT, Int.reduceEq, Int.reduceNeg, Int.reduceAdd, Int.reduceToNat, hps, List.map_append])
      all_goals first | done | omega | rfl | trace_state
    · obtain rfl : j = b.length := by omega
      repeat' (first | refine ReqK.i hpj fun _ => ?_ | refine ReqK.i (by omega) fun _ => ?_ | refine ReqK.i (by unfold maxL; omega) fun _ => ?_ | refine ReqK.i (fits_of2 (by first | omega | (simp only [List.length_map, List.length_take, List.length_append, List.length_cons, List.length_nil]; omega)) (by decide)) fun _ => ?_ | simp only [go_sem, reduceIte, reduceCtorEq, Nat.reduceEqDiff, Nat.reduceAdd, Nat.reduceSub, Nat.reduceMul, Nat.reduceDiv, Nat.reduceMod, Nat.reduceLT, Nat.reduceLeDiff, Nat.reduceBEq, Nat.reducePow, Int.reduceLE, Int.reduceLT, Int.reduceEq, Int.reduceNeg, Int.reduceAdd, Int.reduceToNat, h1, Nat.lt_irrefl, hpe, form_eta, Tryd.f53, R24, R23, R22, R21, R20, R19, R18, R17, R16, R15, R14, R13, R12, R11, R10, R9, R8, R7, R6, R5, R4, R3, R2, R1, Q20, Q19, Q18, Q17, Q16, Q15, Q14, Q13, Q12, Q11, Q10, Q9, Q8, Q7, Q6, Q5, Q4, Q3, Q2, Q1, Tbl0])
      refine ⟨⟨i + 1, m2, m2 + 1, by omega, by omega, by omega, trivial⟩, by simp only; omega, ?_⟩
      refine Weak_to ?_ ?_ ?_ <;> (try simp only [go_sem, reduceIte, reduceCtorEq, Nat.reduceEqDiff, Nat.reduceAdd, Nat.reduceSub, Nat.reduceMul, Nat.reduceDiv, Nat.reduceMod, Nat.reduceLT, Nat.reduceLeDiff, Nat.reduceBEq, Nat.reducePow, Int.reduceLE, Int.reduceLT, Int.reduceEq, Int.reduceNeg, Int.reduceAdd, Int.reduceToNat, hls, List.map_append])
      all_goals first | done | omega | rfl | trace_state
  obtain rfl : i = a.length := by omega
  repeat' (first | refine ReqK.i (by omega) fun _ => ?_ | refine ReqK.i (by unfold maxL; omega) fun _ => ?_ | refine ReqK.i (fits_of2 (by first | omega | (simp only [List.length_map, List.length_take, List.length_append, List.length_cons, List.length_nil]; omega)) (by decide)) fun _ => ?_ | simp only [go_sem, reduceIte, reduceCtorEq, Nat.reduceEqDiff, Nat.reduceAdd, Nat.reduceSub, Nat.reduceMul, Nat.reduceDiv, Nat.reduceMod, Nat.reduceLT, Nat.reduceLeDiff, Nat.reduceBEq, Nat.reducePow, Int.reduceLE, Int.reduceLT, Int.reduceEq, Int.reduceNeg, Int.reduceAdd, Int.reduceToNat, Nat.lt_irrefl, Tryd.f53, R24, R23, R22, R21, R20, R19, R18, R17, R16, R15, R14, R13, R12, R11, R10, R9, R8, R7, R6, R5, R4, R3, R2, R1, Q20, Q19, Q18, Q17, Q16, Q15, Q14, Q13, Q12, Q11, Q10, Q9, Q8, Q7, Q6, Q5, Q4, Q3, Q2, Q1, Tbl0])
  obtain ⟨m0, hm0⟩ : ∃ m0, m = m0 := ⟨_, rfl⟩
  refine WK_loop hm hR24 53000 (lsw [60, 66, 86, 92] [1000005, 1000008]) (ι := LoopG b.length (m + 1) fun _ => True)
    ⟨fun q => ⟨frL [(1, .fz (.sl (a.map enc))), (2, .fz (.sl (b.map enc))), (6, .ptr (53006, 1) 0), (7, .ptr (53007, 2) 0), (10, .fn 124 [.ptr (53003, 0) 0]), (11, .ow (53092, q.g) 4 ((B q.i).map enc)), (68, .fz (.sl (b.map enc))), (69, .fz (.i .i64 b.length)), (70, .fz (.i .i64 q.i))],
      hpL [((53003, 0), some ⟨[.fz (.s pred.l)], true, false⟩), ((53006, 1), some ⟨[.fz (.i .i64 0), .fz (.s []), .full [], .full []], true, false⟩), ((53007, 2), some ⟨[.fz (.i .i64 0), .fz (.i .i64 0)], true, false⟩), ((53092, q.g), some tok)], q.m⟩, fun q => b.length - q.i⟩
    ⟨0, m, m + 1, by omega, by omega, by omega, trivial⟩ (by kernel_rfl) ?_ ?_
  · refine Weak_g [((53092, m), (53066, g))] [] [] ?_ ?_ ?_ ?_ ?_ <;> simp only [go_sem, reduceIte, reduceCtorEq, Nat.reduceEqDiff, Nat.reduceAdd, Nat.reduceSub, Nat.reduceMul, Nat.reduceDiv, Nat.reduceMod, Nat.reduceLT, Nat.reduceLeDiff, Nat.reduceBEq, Nat.reducePow, Int.reduceLE, Int.reduceLT, Int.reduceEq, Int.reduceNeg, Int.reduceAdd, Int.reduceToNat, hB0]
    all_goals first | done | rfl | omega | exact .inr ⟨Nat.le_refl _, rfl, by simp [preL]⟩ | exact ⟨by omega, by omega, by omega, ⟨Nat.lt_succ_self _, .inr ⟨Nat.le_refl _, rfl, by simp [preL]⟩⟩⟩ | trace_state
  rintro ⟨i, g, m, hi, hg, hm1, _⟩
  try simp only at hi hg hm1
  rcases Nat.lt_or_ge i b.length with h1 | h1
  · have hls := kB.out i h1
    have hll := hBl i
    obtain ⟨x, hx⟩ : ∃ x, b[i] = x := ⟨_, rfl⟩
    rw [hx] at hls
    have hpe := kSe.out x
    have hpj := kSj.out x
    have hp0 := kS0.out x
    obtain ⟨r, hr⟩ : ∃ r, rowB pred a x = r := ⟨_, rfl⟩
    rw [hr] at hls hpe
    repeat' (first | refine ReqK.i (by omega) fun _ => ?_ | refine ReqK.i (by unfold maxL; omega) fun _ => ?_ | refine ReqK.i (fits_of2 (by first | omega | (simp only [List.length_map, List.length_take, List.length_append, List.length_cons, List.length_nil]; omega)) (by decide)) fun _ => ?_ | simp only [go_sem, reduceIte, reduceCtorEq, Nat.reduceEqDiff, Nat.reduceAdd, Nat.reduceSub, Nat.reduceMul, Nat.reduceDiv, Nat.reduceMod, Nat.reduceLT, Nat.reduceLeDiff, Nat.reduceBEq, Nat.reducePow, Int.reduceLE, Int.reduceLT, Int.reduceEq, Int.reduceNeg, Int.reduceAdd, Int.reduceToNat, h1, hx, str_eta, getD_map_lt, Tryd.f53, R24, R23, R22, R21, R20, R19, R18, R17, R16, R15, R14, R13, R12, R11, R10, R9, R8, R7, R6, R5, R4, R3, R2, R1, Q20, Q19, Q18, Q17, Q16, Q15, Q14, Q13, Q12, Q11, Q10, Q9, Q8, Q7, Q6, Q5, Q4, Q3, Q2, Q1, Tbl0])
    refine WK_loop hm hR24 53000 (lsw [60, 66, 86, 92] [1000005, 1000008]) (ι := LoopG a.length (m + 1) fun _ => True)
      ⟨fun q => ⟨frL [(1, .fz (.sl (a.map enc))), (2, .fz (.sl (b.map enc))), (6, .ptr (53006, 1) 0), (7, .ptr (53007, 2) 0), (10, .fn 124 [.ptr (53003, 0) 0]), (11, .ow (53092, g) 4 ((B i).map enc)), (18, .fz (.s x.l)), (19, .ow (53086, q.g) 4 ((S x q.i).map enc)), (68, .fz (.sl (b.map enc))), (69, .fz (.i .i64 b.length)), (70, .fz (.i .i64 i)), (74, .fz (.sl (a.map enc))), (75, .fz (.i .i64 a.length)), (76, .fz (.i .i64 q.i))],
        hpL [((53003, 0), some ⟨[.fz (.s pred.l)], true, false⟩), ((53006, 1), some ⟨[.fz (.i .i64 0), .fz (.s []), .full [], .full []], true, false⟩), ((53007, 2), some ⟨[.fz (.i .i64 0), .fz (.i .i64 0)], true, false⟩), ((53092, g), some tok), ((53086, q.g), some tok)], q.m⟩, fun q => a.length - q.i⟩
      ⟨0, m, m + 1, by omega, by omega, by omega, trivial⟩ (by kernel_rfl) ?_ ?_
    · refine Weak_g [] [(53086, m)] [] ?_ ?_ ?_ ?_ ?_ <;> simp only [go_sem, reduceIte, reduceCtorEq, Nat.reduceEqDiff, Nat.reduceAdd, Nat.reduceSub, Nat.reduceMul, Nat.reduceDiv, Nat.reduceMod, Nat.reduceLT, Nat.reduceLeDiff, Nat.reduceBEq, Nat.reducePow, Int.reduceLE, Int.reduceLT, Int.reduceEq, Int.reduceNeg, Int.reduceAdd, Int.reduceToNat, hp0]
      all_goals first | done | rfl | omega | trace_state
    rintro ⟨j, g2, m2, hj, hg2, hm2, _⟩
    try simp only at hj hg2 hm2
    rcases Nat.lt_or_ge j a.length with h2 | h2
    · have hps := kS.out x j h2
      have hpl := hSl x j
      obtain ⟨y, hy⟩ : ∃ y, a[j] = y := ⟨_, rfl⟩
      rw [hy] at hps
      repeat' (first | refine WcallK.i (f124 (pr := pred.l) (by simp only; omega) (by simp only [go_sem, reduceIte, reduceCtorEq, Nat.reduceEqDiff, Nat.reduceAdd, Nat.reduceSub, Nat.reduceMul, Nat.reduceDiv, Nat.reduceMod, Nat.reduceLT, Nat.reduceLeDiff, Nat.reduceBEq, Nat.reducePow, Int.reduceLE, Int.reduceLT, Int.reduceEq, Int.reduceNeg, Int.reduceAdd, Int.reduceToNat]) fun n3 hn3 => ?_) | refine ReqK.i (by omega) fun _ => ?_ | refine ReqK.i (by unfold maxL; omega) fun _ => ?_ | refine ReqK.i (fits_of2 (by first | omega | (simp only [List.length_map, List.length_take, List.length_append, List.length_cons, List.length_nil]; omega)) (by decide)) fun _ => ?_ | simp only [go_sem, reduceIte, reduceCtorEq, Nat.reduceEqDiff, Nat.reduceAdd, Nat.reduceSub, Nat.reduceMul, Nat.reduceDiv, Nat.reduceMod, Nat.reduceLT, Nat.reduceLeDiff, Nat.reduceBEq, Nat.reducePow, Int.reduceLE, Int.reduceLT, Int.reduceEq, Int.reduceNeg, Int.reduceAdd, Int.reduceToNat, h1, h2, hx, hy, str_eta, getD_map_lt, Tryd.f53, R24, R23, R22, R21, R20, R19, R18, R17, R16, R15, R14, R13, R12, R11, R10, R9, R8, R7, R6, R5, R4, R3, R2, R1, Q20, Q19, Q18, Q17, Q16, Q15, Q14, Q13, Q12, Q11, Q10, Q9, Q8, Q7, Q6, Q5, Q4, Q3, Q2, Q1, Tbl0])
      refine ⟨⟨j + 1, n3, n3 + 1, by omega, by omega, by omega, trivial⟩, by simp only; omega, ?_⟩
      refine Weak_to ?_ ?_ ?_ <;> (try simp only [go_sem, reduceIte, reduceCtorEq, Nat.reduceEqDiff, Nat.reduceAdd, Nat.reduceSub, Nat.reduceMul, Nat.reduceDiv, Nat.reduceMod, Nat.reduceLT, Nat.reduceLeDiff, Nat.reduceBEq, Nat.reducePow, Int.reduceLE, Int.reduceLT, Int.reduceEq, Int.reduceNeg, Int.reduceAdd, Int.reduceToNat, hps, List.map_append])
      all_goals first | done | omega | rfl | trace_state
    · obtain rfl : j = a.length := by omega
      repeat' (first | refine ReqK.i hpj fun _ => ?_ | refine ReqK.i (by omega) fun _ => ?_ | refine ReqK.i (by unfold maxL; omega) fun _ => ?_ | refine ReqK.i (fits_of2 (by first | omega | (simp only [List.length_map, List.length_take, List.length_append, List.length_cons, List.length_nil]; omega)) (by decide)) fun _ => ?_ | simp only [go_sem, reduceIte, reduceCtorEq, Nat.reduceEqDiff, Nat.reduceAdd, Nat.reduceSub, Nat.reduceMul, Nat.reduceDiv, Nat.reduceMod, Nat.reduceLT, Nat.reduceLeDiff, Nat.reduceBEq, Nat.reducePow, Int.reduceLE, Int.reduceLT, Int.reduceEq, Int.reduceNeg, Int.reduceAdd, Int.reduceToNat, h1, Nat.lt_irrefl, hpe, form_eta, Tryd.f53, R24, R23, R22, R21, R20, R19, R18, R17, R16, R15, R14, R13, R12, R11, R10, R9, R8, R7, R6, R5, R4, R3, R2, R1, Q20, Q19, Q18, Q17, Q16, Q15, Q14, Q13, Q12, Q11, Q10, Q9, Q8, Q7, Q6, Q5, Q4, Q3, Q2, Q1, Tbl0])
      refine ⟨⟨i + 1, m2, m2 + 1, by omega, by omega, by omega, trivial⟩, by simp only; omega, ?_⟩
      refine Weak_to ?_ ?_ ?_ <;> (try simp only [go_sem, reduceIte, reduceCtorEq, Nat.reduceEqDiff, Nat.reduceAdd, Nat.reduceSub, Nat.reduceMul, Nat.reduceDiv, Nat.reduceMod, Nat.reduceLT, Nat.reduceLeDiff, Nat.reduceBEq, Nat.reducePow, Int.reduceLE, Int.reduceLT, Int.reduceEq, Int.reduceNeg, Int.reduceAdd, Int.reduceToNat, hls, List.map_append])
      all_goals first | done | omega | rfl | trace_state
  obtain rfl : i = b.length := by omega
  repeat' (first | refine ReqK.i hjp fun _ => ?_ | refine ReqK.i hdone fun _ => ?_ | refine ReqK.i (by omega) fun _ => ?_ | refine ReqK.i (by unfold maxL; omega) fun _ => ?_ | refine ReqK.i (fits_of2 (by first | omega | (simp only [List.length_map, List.length_take, List.length_append, List.length_cons, List.length_nil]; omega)) (by decide)) fun _ => ?_ | simp only [go_sem, reduceIte, reduceCtorEq, Nat.reduceEqDiff, Nat.reduceAdd, Nat.reduceSub, Nat.reduceMul, Nat.reduceDiv, Nat.reduceMod, Nat.reduceLT, Nat.reduceLeDiff, Nat.reduceBEq, Nat.reducePow, Int.reduceLE, Int.reduceLT, Int.reduceEq, Int.reduceNeg, Int.reduceAdd, Int.reduceToNat, Nat.lt_irrefl, hBe, hcE, form_eta, Tryd.f53, R24, R23, R22, R21, R20, R19, R18, R17, R16, R15, R14, R13, R12, R11, R10, R9, R8, R7, R6, R5, R4, R3, R2, R1, Q20, Q19, Q18, Q17, Q16, Q15, Q14, Q13, Q12, Q11, Q10, Q9, Q8, Q7, Q6, Q5, Q4, Q3, Q2, Q1, Tbl0])
end Go.Proofs.YtomhobohcejocaaDoor
