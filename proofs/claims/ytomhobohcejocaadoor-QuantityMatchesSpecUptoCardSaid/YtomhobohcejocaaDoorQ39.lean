import Derived.Test.YtomhobohcejocaaDoorQ38
set_option linter.unusedSimpArgs false
namespace Go.Abs
open Go
/-! the rows of the document's cumulative formula -/
def cumT (pred : Str) (a b : List Str) (k i j : Nat) : List Abs.Form := if i = k ∨ j + a.length = k then [holdsM pred (a.getD i default) (b.getD j default)] else []
def cumL (pred : Str) (a b : List Str) (k i j : Nat) : List Abs.Form := (List.range i).flatMap (fun i' => (List.range b.length).flatMap (cumT pred a b k i')) ++ (List.range j).flatMap (cumT pred a b k i)
theorem cumL_zero (pred : Str) (a b : List Str) (k : Nat) : cumL pred a b k 0 0 = [] := rfl
theorem cumL_row (pred : Str) (a b : List Str) (k i : Nat) : cumL pred a b k i b.length = cumL pred a b k (i + 1) 0 := by
  unfold cumL
  rw [List.range_succ, List.flatMap_append, List.flatMap_singleton, List.range_zero, List.flatMap_nil, List.append_nil]
theorem cumL_step (pred : Str) (a b : List Str) (k i j : Nat) (hi : i < a.length) (hj : j < b.length) : cumL pred a b k i (j + 1) = if i = k ∨ j + a.length = k then cumL pred a b k i j ++ [.mk 2 pred [a[i], b[j]] []] else cumL pred a b k i j := by
  unfold cumL
  rw [List.range_succ (n := j), List.flatMap_append, List.flatMap_singleton, ← List.append_assoc]
  conv => lhs; rhs; unfold cumT
  split
  · rw [List.getD_eq_getElem?_getD, List.getD_eq_getElem?_getD, List.getElem?_eq_getElem hi, List.getElem?_eq_getElem hj]; rfl
  · rw [List.append_nil]
theorem len_flat {f : Nat → List Abs.Form} {c : Nat} (h : ∀ i, (f i).length ≤ c) : ∀ n, ((List.range n).flatMap f).length ≤ n * c
  | 0 => by simp
  | n + 1 => by
    rw [List.range_succ, List.flatMap_append, List.flatMap_singleton, List.length_append, Nat.add_mul, Nat.one_mul]
    have := len_flat h n
    have := h n
    omega
theorem cumL_len (pred : Str) (a b : List Str) (k i j : Nat) : (cumL pred a b k i j).length ≤ i * b.length + j := by
  have h1 : ∀ i j, (cumT pred a b k i j).length ≤ 1 := fun i j => by unfold cumT; split <;> simp
  unfold cumL
  rw [List.length_append]
  have h2 := len_flat (fun i' => by have := len_flat (h1 i') b.length; rwa [Nat.mul_one] at this) i
  have h3 := len_flat (h1 i) j
  omega
theorem flat_if {X : List Abs.Form} {k : Nat} : ∀ n, ((List.range n).flatMap fun i => if i = k then X else []) = if k < n then X else []
  | 0 => by simp
  | n + 1 => by
    rw [List.range_succ, List.flatMap_append, List.flatMap_singleton, flat_if n]
    rcases Nat.lt_trichotomy k n with h | h | h
    · rw [if_pos h, if_neg (by omega), if_pos (by omega), List.append_nil]
    · rw [if_neg (by omega), if_pos (by omega), if_pos (by omega), List.nil_append]
    · rw [if_neg (by omega), if_neg (by omega), if_neg (by omega), List.append_nil]
theorem flat_cong {f g : Nat → List Abs.Form} {n : Nat} (h : ∀ i, i < n → f i = g i) : (List.range n).flatMap f = (List.range n).flatMap g := by
  induction n with
  | zero => rfl
  | succ n ih => rw [List.range_succ, List.flatMap_append, List.flatMap_append, ih fun i hi => h i (by omega), List.flatMap_singleton, List.flatMap_singleton, h n (by omega)]
theorem rng_take {α : Type} [Inhabited α] {f : α → Abs.Form} (l : List α) : ∀ n, n ≤ l.length → ((List.range n).flatMap fun i => [f (l.getD i default)]) = (l.take n).map f
  | 0, _ => rfl
  | n + 1, h => by
    rw [List.range_succ, List.flatMap_append, List.flatMap_singleton, rng_take l n (by omega), List.take_succ_eq_append_getElem (by omega), List.map_append, List.getD_eq_getElem?_getD, List.getElem?_eq_getElem (by omega)]
    rfl
theorem flat_map {α : Type} [Inhabited α] {f : α → Abs.Form} (l : List α) : ((List.range l.length).flatMap fun i => [f (l.getD i default)]) = l.map f := by
  have := rng_take (f := f) l l.length (Nat.le_refl _)
  rwa [List.take_length] at this
theorem cumL_all {pred : Str} {a b : List Str} {k : Nat} (h : k < a.length + b.length) : cumL pred a b k a.length 0 = if k < a.length then b.map (fun y => holdsM pred (a.getD k default) y) else a.map (fun x => holdsM pred x (b.getD (k - a.length) default)) := by
  unfold cumL
  rw [List.range_zero, List.flatMap_nil, List.append_nil]
  split
  · rename_i hk
    have h1 : ((List.range a.length).flatMap fun i' => (List.range b.length).flatMap (cumT pred a b k i')) = (List.range a.length).flatMap fun i => if i = k then b.map (fun y => holdsM pred (a.getD k default) y) else [] := flat_cong fun i hi => by
      by_cases e : i = k
      · subst e
        rw [if_pos rfl, ← flat_map]
        exact flat_cong fun j hj => by unfold cumT; rw [if_pos (.inl rfl)]
      · rw [if_neg e]
        have : (List.range b.length).flatMap (cumT pred a b k i) = (List.range b.length).flatMap fun _ => [] := flat_cong fun j hj => by unfold cumT; rw [if_neg (by omega)]
        rw [this]; simp
    rw [h1, flat_if, if_pos hk]
  · rename_i hk
    rw [← flat_map a]
    refine flat_cong fun i hi => ?_
    have h1 : (List.range b.length).flatMap (cumT pred a b k i) = (List.range b.length).flatMap fun j => if j = k - a.length then [holdsM pred (a.getD i default) (b.getD (k - a.length) default)] else [] := flat_cong fun j hj => by
      unfold cumT
      by_cases e : j = k - a.length
      · rw [if_pos (by omega), if_pos e, e]
      · rw [if_neg (by omega), if_neg e]
    rw [h1, flat_if, if_pos (by omega)]
def cumC (pred : Str) (a b : List Str) : List Abs.Form := a.map (rowA pred b) ++ b.map (rowB pred a)
theorem cumC_len {pred : Str} {a b : List Str} : (cumC pred a b).length = a.length + b.length := by unfold cumC; rw [List.length_append, List.length_map, List.length_map]
theorem cumC_at {pred : Str} {a b : List Str} {k : Nat} (h : k < a.length + b.length) : (cumC pred a b).take (k + 1) = (cumC pred a b).take k ++ [joinM 6 (cumL pred a b k a.length 0)] := by
  have hk : k < (a.map (rowA pred b) ++ b.map (rowB pred a)).length := by rw [List.length_append, List.length_map, List.length_map]; exact h
  suffices hg : (a.map (rowA pred b) ++ b.map (rowB pred a))[k] = joinM 6 (cumL pred a b k a.length 0) by
    unfold cumC
    rw [List.take_succ_eq_append_getElem hk, hg]
  rw [cumL_all h]
  split
  · rename_i h1
    rw [List.getElem_append_left (by rw [List.length_map]; exact h1), List.getElem_map]
    unfold rowA
    rw [List.getD_eq_getElem?_getD, List.getElem?_eq_getElem h1]; rfl
  · rename_i h1
    rw [List.getElem_append_right (by rw [List.length_map]; omega), List.getElem_map]
    unfold rowB
    simp only [List.length_map]
    rw [List.getD_eq_getElem?_getD, List.getElem?_eq_getElem (show k - a.length < b.length by omega)]; rfl
theorem cumL_ne {pred : Str} {a b : List Str} {k : Nat} (h : k < a.length + b.length) (ha : 1 ≤ a.length) (hb : 1 ≤ b.length) : 1 ≤ (cumL pred a b k a.length 0).length := by
  rw [cumL_all h]; split <;> rw [List.length_map] <;> assumption
end Go.Abs
namespace Go.Proofs.YtomhobohcejocaaDoor
open Go Go.Abs Go.Proofs

/-! ## the document's cumulative formula -/
def tree5413 : Tv := (.q 0 (.q 1 (.q 2 (.q 3 (.q 4 (.q 5 (.q 6 (.q 7 (.q 8 (.q 9 (.q 10 (.q 11 (.q 12 (.br [(13, (.q 14 .leaf))]))))))))))))))
def cumPre (_ : Str) (a b : List Str) : Prop := 1 ≤ a.length ∧ a.length ≤ 5 ∧ 1 ≤ b.length ∧ b.length ≤ 5
def R26 : Tbl := R25.add 54 (sp3 cumM cumPre)
set_option maxRecDepth 100000 in
set_option maxHeartbeats 1000000 in
set_option maxHeartbeats 8000000 in
theorem hR26 : TblOk Tryd.prog GA R26 := by
  refine sp3_ok ok54 hR25 fun pred a b hpre _ _ _ => ?_
  obtain ⟨ha1, ha5, hb1, hb5⟩ := hpre
  obtain ⟨C, hC⟩ : ∃ C : Nat → List Abs.Form, C = fun k => (cumC pred a b).take k := ⟨_, rfl⟩
  obtain ⟨L, hL⟩ : ∃ L : Nat → Nat → Nat → List Abs.Form, L = fun k i j => cumL pred a b k i j := ⟨_, rfl⟩
  have hC0 : C 0 = [] := by rw [hC]; rfl
  have hCs : ∀ k, k < a.length + b.length → C (k + 1) = C k ++ [joinM 6 (L k a.length 0)] := fun k h => by rw [hC, hL]; exact cumC_at h
  have hCl : ∀ k, (C k).length ≤ 10 := fun k => by rw [hC]; simp only [List.length_take, cumC_len]; omega
  have hCe : joinM 5 (C (a.length + b.length)) = cumM pred a b := by rw [hC]; simp only [← @cumC_len pred a b, List.take_length]; rfl
  have hjp : joinPre 5 (C (a.length + b.length)) := by
    refine ⟨list_ne ?_, ?_⟩
    · rw [hC]; simp only [← @cumC_len pred a b, List.take_length]; rw [cumC_len]; omega
    · have := hCl (a.length + b.length); omega
  have hLj : ∀ k, k < a.length + b.length → joinPre 6 (L k a.length 0) := fun k h => by
    refine ⟨list_ne ?_, ?_⟩
    · rw [hL]; exact cumL_ne h ha1 hb1
    · have := cumL_len pred a b k a.length 0
      have h2 : a.length * b.length ≤ 5 * 5 := Nat.mul_le_mul ha5 hb5
      rw [hL]; simp only; omega
  have hL0 : ∀ k, L k 0 0 = [] := fun k => by rw [hL]; rfl
  have hLr : ∀ k i, L k i b.length = L k (i + 1) 0 := fun k i => by rw [hL]; exact cumL_row _ _ _ _ _
  have hLs : ∀ k i j (hi : i < a.length) (hj : j < b.length), L k i (j + 1) = if i = k ∨ j + a.length = k then L k i j ++ [.mk 2 pred [a[i], b[j]] []] else L k i j := fun k i j hi hj => by rw [hL]; exact cumL_step _ _ _ _ _ _ hi hj
  have hLl : ∀ k i j, i < a.length → j < b.length → (L k i j).length ≤ 100 := fun k i j hi hj => by
    have := cumL_len pred a b k i j
    have h2 : i * b.length ≤ 5 * 5 := Nat.mul_le_mul (by omega) hb5
    rw [hL]; simp only; omega
  obtain ⟨E, hE⟩ : ∃ E, cumM pred a b = E := ⟨_, rfl⟩
  rw [hE] at hCe ⊢
  have kC := Kp.mk hCs
  have kj := Kp.mk hLj
  have k0 := Kp.mk hL0
  have kr := Kp.mk hLr
  have ks := Kp.mk hLs
  have kl := Kp.mk hLl
  clear hC hL hCs hLj hL0 hLr hLs hLl hE
  refine Wcall_K (N := 65) hm hR25 54000 (lsw [55, 62] [1000013]) ok54 Tryd.func54 rfl rfl (by simp) (by kernel_rfl) ?_
  repeat' (first | refine ReqK.i (by omega) fun _ => ?_ | refine ReqK.i (by unfold maxL; omega) fun _ => ?_ | refine ReqK.i (fits_of2 (by first | omega | (simp only [List.length_map, List.length_take, List.length_append, List.length_cons, List.length_nil]; omega)) (by decide)) fun _ => ?_ | simp only [go_sem, reduceIte, reduceCtorEq, Nat.reduceEqDiff, Nat.reduceAdd, Nat.reduceSub, Nat.reduceMul, Nat.reduceDiv, Nat.reduceMod, Nat.reduceLT, Nat.reduceLeDiff, Nat.reduceBEq, Nat.reducePow, Int.reduceLE, Int.reduceLT, Int.reduceEq, Int.reduceNeg, Int.reduceAdd, Int.reduceToNat, str_eta, Tryd.f54, R25, R24, R23, R22, R21, R20, R19, R18, R17, R16, R15, R14, R13, R12, R11, R10, R9, R8, R7, R6, R5, R4, R3, R2, R1, Q20, Q19, Q18, Q17, Q16, Q15, Q14, Q13, Q12, Q11, Q10, Q9, Q8, Q7, Q6, Q5, Q4, Q3, Q2, Q1, Tbl0])
  refine WK_loop hm hR25 54000 (lsw [55, 62] [1000013]) (ι := LoopG (a.length + b.length) 2 fun _ => True)
    ⟨fun q => ⟨frL [(0, .fz (.s pred.l)), (1, .fz (.sl (a.map enc))), (2, .fz (.sl (b.map enc))), (6, .ptr (54006, 0) 0), (7, .ow (54062, q.g) 4 ((C q.i).map enc)), (8, .fz (.i .i64 q.i))],
      hpL [((54006, 0), some ⟨[.fz (.i .i64 0), .fz (.s []), .full [], .full []], true, false⟩), ((54062, q.g), some tok)], q.m⟩, fun q => a.length + b.length - q.i⟩
    ⟨0, 1, 2, by omega, by omega, by omega, trivial⟩ (by kernel_rfl) ?_ ?_
  · refine Weak_g [] [(54062, 1)] [] ?_ ?_ ?_ ?_ ?_ <;> simp only [go_sem, reduceIte, reduceCtorEq, Nat.reduceEqDiff, Nat.reduceAdd, Nat.reduceSub, Nat.reduceMul, Nat.reduceDiv, Nat.reduceMod, Nat.reduceLT, Nat.reduceLeDiff, Nat.reduceBEq, Nat.reducePow, Int.reduceLE, Int.reduceLT, Int.reduceEq, Int.reduceNeg, Int.reduceAdd, Int.reduceToNat, hC0]
    all_goals first | done | rfl | omega | trace_state
  rintro ⟨k, g, m, hk, hg, hm1, _⟩
  try simp only at hk hg hm1
  rcases Nat.lt_or_ge k (a.length + b.length) with h1 | h1
  · have hcs := kC.out k h1
    have hcl := hCl k
    have hljp := kj.out k h1
    have hl0 := k0.out k
    have h1' : ((k : Int) < (a.length : Int) + (b.length : Int)) = True := eq_true (by omega)
    obtain ⟨r, hr⟩ : ∃ r, joinM 6 (L k a.length 0) = r := ⟨_, rfl⟩
    rw [hr] at hcs
    repeat' (first | refine ReqK.i (by omega) fun _ => ?_ | refine ReqK.i (by unfold maxL; omega) fun _ => ?_ | refine ReqK.i (fits_of2 (by first | omega | (simp only [List.length_map, List.length_take, List.length_append, List.length_cons, List.length_nil]; omega)) (by decide)) fun _ => ?_ | simp only [go_sem, reduceIte, reduceCtorEq, Nat.reduceEqDiff, Nat.reduceAdd, Nat.reduceSub, Nat.reduceMul, Nat.reduceDiv, Nat.reduceMod, Nat.reduceLT, Nat.reduceLeDiff, Nat.reduceBEq, Nat.reducePow, Int.reduceLE, Int.reduceLT, Int.reduceEq, Int.reduceNeg, Int.reduceAdd, Int.reduceToNat, h1', str_eta, Tryd.f54, R25, R24, R23, R22, R21, R20, R19, R18, R17, R16, R15, R14, R13, R12, R11, R10, R9, R8, R7, R6, R5, R4, R3, R2, R1, Q20, Q19, Q18, Q17, Q16, Q15, Q14, Q13, Q12, Q11, Q10, Q9, Q8, Q7, Q6, Q5, Q4, Q3, Q2, Q1, Tbl0])
    refine WK_loop hm hR25 54000 (lsw [55, 62] [1000013]) (ι := LoopG a.length (m + 1) fun _ => True)
      ⟨fun q => ⟨frL [(0, .fz (.s pred.l)), (1, .fz (.sl (a.map enc))), (2, .fz (.sl (b.map enc))), (6, .ptr (54006, 0) 0), (7, .ow (54062, g) 4 ((C k).map enc)), (8, .fz (.i .i64 k)), (9, .ow (54055, q.g) 4 ((L k q.i 0).map enc)), (22, .fz (.i .i64 a.length)), (23, .fz (.i .i64 q.i))],
        hpL [((54006, 0), some ⟨[.fz (.i .i64 0), .fz (.s []), .full [], .full []], true, false⟩), ((54062, g), some tok), ((54055, q.g), some tok)], q.m⟩, fun q => a.length - q.i⟩
      ⟨0, m, m + 1, by omega, by omega, by omega, trivial⟩ (by kernel_rfl) ?_ ?_
    · refine Weak_g [] [(54055, m)] [] ?_ ?_ ?_ ?_ ?_ <;> simp only [go_sem, reduceIte, reduceCtorEq, Nat.reduceEqDiff, Nat.reduceAdd, Nat.reduceSub, Nat.reduceMul, Nat.reduceDiv, Nat.reduceMod, Nat.reduceLT, Nat.reduceLeDiff, Nat.reduceBEq, Nat.reducePow, Int.reduceLE, Int.reduceLT, Int.reduceEq, Int.reduceNeg, Int.reduceAdd, Int.reduceToNat, hl0]
      all_goals first | done | rfl | omega | trace_state
    rintro ⟨i, g2, m2, hi, hg2, hm2, _⟩
    try simp only at hi hg2 hm2
    rcases Nat.lt_or_ge i a.length with h2 | h2
    · have hrw := kr.out k i
      obtain ⟨x, hx⟩ : ∃ x, a[i] = x := ⟨_, rfl⟩
      repeat' (first | refine ReqK.i (by omega) fun _ => ?_ | refine ReqK.i (by unfold maxL; omega) fun _ => ?_ | refine ReqK.i (fits_of2 (by first | omega | (simp only [List.length_map, List.length_take, List.length_append, List.length_cons, List.length_nil]; omega)) (by decide)) fun _ => ?_ | simp only [go_sem, reduceIte, reduceCtorEq, Nat.reduceEqDiff, Nat.reduceAdd, Nat.reduceSub, Nat.reduceMul, Nat.reduceDiv, Nat.reduceMod, Nat.reduceLT, Nat.reduceLeDiff, Nat.reduceBEq, Nat.reducePow, Int.reduceLE, Int.reduceLT, Int.reduceEq, Int.reduceNeg, Int.reduceAdd, Int.reduceToNat, h2, hx, str_eta, Tryd.f54, R25, R24, R23, R22, R21, R20, R19, R18, R17, R16, R15, R14, R13, R12, R11, R10, R9, R8, R7, R6, R5, R4, R3, R2, R1, Q20, Q19, Q18, Q17, Q16, Q15, Q14, Q13, Q12, Q11, Q10, Q9, Q8, Q7, Q6, Q5, Q4, Q3, Q2, Q1, Tbl0])
      refine WK_loop hm hR25 54000 (lsw [55, 62] [1000013]) (ι := LoopG b.length (m + 1) fun _ => True)
        ⟨fun q => ⟨frL [(0, .fz (.s pred.l)), (1, .fz (.sl (a.map enc))), (2, .fz (.sl (b.map enc))), (6, .ptr (54006, 0) 0), (7, .ow (54062, g) 4 ((C k).map enc)), (8, .fz (.i .i64 k)), (9, .ow (54055, q.g) 4 ((L k i q.i).map enc)), (10, .fz (.i .i64 i)), (22, .fz (.i .i64 a.length)), (23, .fz (.i .i64 i)), (27, .fz (.i .i64 b.length)), (28, .fz (.i .i64 q.i))],
          hpL [((54006, 0), some ⟨[.fz (.i .i64 0), .fz (.s []), .full [], .full []], true, false⟩), ((54062, g), some tok), ((54055, q.g), some tok)], q.m⟩, fun q => b.length - q.i⟩
        ⟨0, g2, m2, by omega, by omega, by omega, trivial⟩ (by kernel_rfl) ?_ ?_
      · refine Weak_to ?_ ?_ ?_ <;> simp only [go_sem, reduceIte, reduceCtorEq, Nat.reduceEqDiff, Nat.reduceAdd, Nat.reduceSub, Nat.reduceMul, Nat.reduceDiv, Nat.reduceMod, Nat.reduceLT, Nat.reduceLeDiff, Nat.reduceBEq, Nat.reducePow, Int.reduceLE, Int.reduceLT, Int.reduceEq, Int.reduceNeg, Int.reduceAdd, Int.reduceToNat]
      rintro ⟨j, g3, m3, hj, hg3, hm3, _⟩
      try simp only at hj hg3 hm3
      rcases Nat.lt_or_ge j b.length with h3 | h3
      · have hst := ks.out k i j h2 h3
        have hll := kl.out k i j h2 h3
        obtain ⟨y, hy⟩ : ∃ y, b[j] = y := ⟨_, rfl⟩
        rw [hx, hy] at hst
        by_cases hc1 : i = k
        · rw [if_pos (.inl hc1)] at hst
          have e1 : ((i : Int) = (k : Int)) = True := eq_true (by omega)
          repeat' (first | refine ReqK.i (by omega) fun _ => ?_ | refine ReqK.i (by unfold maxL; omega) fun _ => ?_ | refine ReqK.i (fits_of2 (by first | omega | (simp only [List.length_map, List.length_take, List.length_append, List.length_cons, List.length_nil]; omega)) (by decide)) fun _ => ?_ | simp only [go_sem, reduceIte, reduceCtorEq, Nat.reduceEqDiff, Nat.reduceAdd, Nat.reduceSub, Nat.reduceMul, Nat.reduceDiv, Nat.reduceMod, Nat.reduceLT, Nat.reduceLeDiff, Nat.reduceBEq, Nat.reducePow, Int.reduceLE, Int.reduceLT, Int.reduceEq, Int.reduceNeg, Int.reduceAdd, Int.reduceToNat, h2, h3, hx, hy, e1, str_eta, getD_map_lt, Tryd.f54, R25, R24, R23, R22, R21, R20, R19, R18, R17, R16, R15, R14, R13, R12, R11, R10, R9, R8, R7, R6, R5, R4, R3, R2, R1, Q20, Q19, Q18, Q17, Q16, Q15, Q14, Q13, Q12, Q11, Q10, Q9, Q8, Q7, Q6, Q5, Q4, Q3, Q2, Q1, Tbl0])
          refine WK_drawV hm hR25 54000 (lsw [55, 62] [1000013]) tree5413 (by kernel_rfl) (by kernel_rfl) ?_
          repeat' (first | refine And.intro ?_ ?_ | exact True.intro | refine ReqK.i (by omega) fun _ => ?_ | refine ReqK.i (by unfold maxL; omega) fun _ => ?_ | refine ReqK.i (fits_of2 (by first | omega | (simp only [List.length_map, List.length_take, List.length_append, List.length_cons, List.length_nil]; omega)) (by decide)) fun _ => ?_ | simp only [go_sem, reduceIte, reduceCtorEq, Nat.reduceEqDiff, Nat.reduceAdd, Nat.reduceSub, Nat.reduceMul, Nat.reduceDiv, Nat.reduceMod, Nat.reduceLT, Nat.reduceLeDiff, Nat.reduceBEq, Nat.reducePow, Int.reduceLE, Int.reduceLT, Int.reduceEq, Int.reduceNeg, Int.reduceAdd, Int.reduceToNat, tree5413, h2, h3, hx, hy, str_eta, getD_map_lt, Tryd.f54, R25, R24, R23, R22, R21, R20, R19, R18, R17, R16, R15, R14, R13, R12, R11, R10, R9, R8, R7, R6, R5, R4, R3, R2, R1, Q20, Q19, Q18, Q17, Q16, Q15, Q14, Q13, Q12, Q11, Q10, Q9, Q8, Q7, Q6, Q5, Q4, Q3, Q2, Q1, Tbl0])
          all_goals
            refine ⟨⟨j + 1, m3, m3 + 10, by omega, by omega, by omega, trivial⟩, by simp only; omega, ?_⟩
            refine Weak_to ?_ ?_ ?_ <;> (try simp only [go_sem, reduceIte, reduceCtorEq, Nat.reduceEqDiff, Nat.reduceAdd, Nat.reduceSub, Nat.reduceMul, Nat.reduceDiv, Nat.reduceMod, Nat.reduceLT, Nat.reduceLeDiff, Nat.reduceBEq, Nat.reducePow, Int.reduceLE, Int.reduceLT, Int.reduceEq, Int.reduceNeg, Int.reduceAdd, Int.reduceToNat, hst, List.map_append])
            all_goals first | done | omega | rfl | trace_state
        · have e1 : ((i : Int) = (k : Int)) = False := eq_false (by omega)
          by_cases hc2 : j + a.length = k
          · rw [if_pos (.inr hc2)] at hst
            have e2 : ((j : Int) = (k : Int) - (a.length : Int)) = True := eq_true (by omega)
            repeat' (first | refine ReqK.i (by omega) fun _ => ?_ | refine ReqK.i (by unfold maxL; omega) fun _ => ?_ | refine ReqK.i (fits_of2 (by first | omega | (simp only [List.length_map, List.length_take, List.length_append, List.length_cons, List.length_nil]; omega)) (by decide)) fun _ => ?_ | simp only [go_sem, reduceIte, reduceCtorEq, Nat.reduceEqDiff, Nat.reduceAdd, Nat.reduceSub, Nat.reduceMul, Nat.reduceDiv, Nat.reduceMod, Nat.reduceLT, Nat.reduceLeDiff, Nat.reduceBEq, Nat.reducePow, Int.reduceLE, Int.reduceLT, Int.reduceEq, Int.reduceNeg, Int.reduceAdd, Int.reduceToNat, h2, h3, hx, hy, e1, e2, str_eta, getD_map_lt, Tryd.f54, R25, R24, R23, R22, R21, R20, R19, R18, R17, R16, R15, R14, R13, R12, R11, R10, R9, R8, R7, R6, R5, R4, R3, R2, R1, Q20, Q19, Q18, Q17, Q16, Q15, Q14, Q13, Q12, Q11, Q10, Q9, Q8, Q7, Q6, Q5, Q4, Q3, Q2, Q1, Tbl0])
            refine WK_drawV hm hR25 54000 (lsw [55, 62] [1000013]) tree5413 (by kernel_rfl) (by kernel_rfl) ?_
            repeat' (first | refine And.intro ?_ ?_ | exact True.intro | refine ReqK.i (by omega) fun _ => ?_ | refine ReqK.i (by unfold maxL; omega) fun _ => ?_ | refine ReqK.i (fits_of2 (by first | omega | (simp only [List.length_map, List.length_take, List.length_append, List.length_cons, List.length_nil]; omega)) (by decide)) fun _ => ?_ | simp only [go_sem, reduceIte, reduceCtorEq, Nat.reduceEqDiff, Nat.reduceAdd, Nat.reduceSub, Nat.reduceMul, Nat.reduceDiv, Nat.reduceMod, Nat.reduceLT, Nat.reduceLeDiff, Nat.reduceBEq, Nat.reducePow, Int.reduceLE, Int.reduceLT, Int.reduceEq, Int.reduceNeg, Int.reduceAdd, Int.reduceToNat, tree5413, h2, h3, hx, hy, str_eta, getD_map_lt, Tryd.f54, R25, R24, R23, R22, R21, R20, R19, R18, R17, R16, R15, R14, R13, R12, R11, R10, R9, R8, R7, R6, R5, R4, R3, R2, R1, Q20, Q19, Q18, Q17, Q16, Q15, Q14, Q13, Q12, Q11, Q10, Q9, Q8, Q7, Q6, Q5, Q4, Q3, Q2, Q1, Tbl0])
            all_goals
              refine ⟨⟨j + 1, m3, m3 + 10, by omega, by omega, by omega, trivial⟩, by simp only; omega, ?_⟩
              refine Weak_to ?_ ?_ ?_ <;> (try simp only [go_sem, reduceIte, reduceCtorEq, Nat.reduceEqDiff, Nat.reduceAdd, Nat.reduceSub, Nat.reduceMul, Nat.reduceDiv, Nat.reduceMod, Nat.reduceLT, Nat.reduceLeDiff, Nat.reduceBEq, Nat.reducePow, Int.reduceLE, Int.reduceLT, Int.reduceEq, Int.reduceNeg, Int.reduceAdd, Int.reduceToNat, hst, List.map_append])
              all_goals first | done | omega | rfl | trace_state
          · rw [if_neg (by omega)] at hst
            have e2 : ((j : Int) = (k : Int) - (a.length : Int)) = False := eq_false (by omega)
            repeat' (first | refine ReqK.i (by omega) fun _ => ?_ | refine ReqK.i (by unfold maxL; omega) fun _ => ?_ | refine ReqK.i (fits_of2 (by first | omega | (simp only [List.length_map, List.length_take, List.length_append, List.length_cons, List.length_nil]; omega)) (by decide)) fun _ => ?_ | simp only [go_sem, reduceIte, reduceCtorEq, Nat.reduceEqDiff, Nat.reduceAdd, Nat.reduceSub, Nat.reduceMul, Nat.reduceDiv, Nat.reduceMod, Nat.reduceLT, Nat.reduceLeDiff, Nat.reduceBEq, Nat.reducePow, Int.reduceLE, Int.reduceLT, Int.reduceEq, Int.reduceNeg, Int.reduceAdd, Int.reduceToNat, h2, h3, hx, hy, e1, e2, str_eta, getD_map_lt, Tryd.f54, R25, R24, R23, R22, R21, R20, R19, R18, R17, R16, R15, R14, R13, R12, R11, R10, R9, R8, R7, R6, R5, R4, R3, R2, R1, Q20, Q19, Q18, Q17, Q16, Q15, Q14, Q13, Q12, Q11, Q10, Q9, Q8, Q7, Q6, Q5, Q4, Q3, Q2, Q1, Tbl0])
            refine ⟨⟨j + 1, g3, m3, by omega, by omega, by omega, trivial⟩, by simp only; omega, ?_⟩
            refine Weak_to ?_ ?_ ?_ <;> (try simp only [go_sem, reduceIte, reduceCtorEq, Nat.reduceEqDiff, Nat.reduceAdd, Nat.reduceSub, Nat.reduceMul, Nat.reduceDiv, Nat.reduceMod, Nat.reduceLT, Nat.reduceLeDiff, Nat.reduceBEq, Nat.reducePow, Int.reduceLE, Int.reduceLT, Int.reduceEq, Int.reduceNeg, Int.reduceAdd, Int.reduceToNat, hst])
            all_goals first | done | omega | rfl | trace_state
      · obtain rfl : j = b.length := by omega
        repeat' (first | refine ReqK.i (by omega) fun _ => ?_ | refine ReqK.i (by unfold maxL; omega) fun _ => ?_ | refine ReqK.i (fits_of2 (by first | omega | (simp only [List.length_map, List.length_take, List.length_append, List.length_cons, List.length_nil]; omega)) (by decide)) fun _ => ?_ | simp only [go_sem, reduceIte, reduceCtorEq, Nat.reduceEqDiff, Nat.reduceAdd, Nat.reduceSub, Nat.reduceMul, Nat.reduceDiv, Nat.reduceMod, Nat.reduceLT, Nat.reduceLeDiff, Nat.reduceBEq, Nat.reducePow, Int.reduceLE, Int.reduceLT, Int.reduceEq, Int.reduceNeg, Int.reduceAdd, Int.reduceToNat, h2, Nat.lt_irrefl, Tryd.f54, R25, R24, R23, R22, R21, R20, R19, R18, R17, R16, R15, R14, R13, R12, R11, R10, R9, R8, R7, R6, R5, R4, R3, R2, R1, Q20, Q19, Q18, Q17, Q16, Q15, Q14, Q13, Q12, Q11, Q10, Q9, Q8, Q7, Q6, Q5, Q4, Q3, Q2, Q1, Tbl0])
        refine ⟨⟨i + 1, g3, m3, by omega, by omega, by omega, trivial⟩, by simp only; omega, ?_⟩
        refine Weak_to ?_ ?_ ?_ <;> (try simp only [go_sem, reduceIte, reduceCtorEq, Nat.reduceEqDiff, Nat.reduceAdd, Nat.reduceSub, Nat.reduceMul, Nat.reduceDiv, Nat.reduceMod, Nat.reduceLT, Nat.reduceLeDiff, Nat.reduceBEq, Nat.reducePow, Int.reduceLE, Int.reduceLT, Int.reduceEq, Int.reduceNeg, Int.reduceAdd, Int.reduceToNat, hrw])
        all_goals first | done | omega | rfl | trace_state
    · obtain rfl : i = a.length := by omega
      repeat' (first | refine ReqK.i hljp fun _ => ?_ | refine ReqK.i (by omega) fun _ => ?_ | refine ReqK.i (by unfold maxL; omega) fun _ => ?_ | refine ReqK.i (fits_of2 (by first | omega | (simp only [List.length_map, List.length_take, List.length_append, List.length_cons, List.length_nil]; omega)) (by decide)) fun _ => ?_ | simp only [go_sem, reduceIte, reduceCtorEq, Nat.reduceEqDiff, Nat.reduceAdd, Nat.reduceSub, Nat.reduceMul, Nat.reduceDiv, Nat.reduceMod, Nat.reduceLT, Nat.reduceLeDiff, Nat.reduceBEq, Nat.reducePow, Int.reduceLE, Int.reduceLT, Int.reduceEq, Int.reduceNeg, Int.reduceAdd, Int.reduceToNat, h1', Nat.lt_irrefl, hr, form_eta, Tryd.f54, R25, R24, R23, R22, R21, R20, R19, R18, R17, R16, R15, R14, R13, R12, R11, R10, R9, R8, R7, R6, R5, R4, R3, R2, R1, Q20, Q19, Q18, Q17, Q16, Q15, Q14, Q13, Q12, Q11, Q10, Q9, Q8, Q7, Q6, Q5, Q4, Q3, Q2, Q1, Tbl0])
      refine ⟨⟨k + 1, m2, m2 + 10, by omega, by omega, by omega, trivial⟩, by simp only; omega, ?_⟩
      refine Weak_to ?_ ?_ ?_ <;> (try simp only [go_sem, reduceIte, reduceCtorEq, Nat.reduceEqDiff, Nat.reduceAdd, Nat.reduceSub, Nat.reduceMul, Nat.reduceDiv, Nat.reduceMod, Nat.reduceLT, Nat.reduceLeDiff, Nat.reduceBEq, Nat.reducePow, Int.reduceLE, Int.reduceLT, Int.reduceEq, Int.reduceNeg, Int.reduceAdd, Int.reduceToNat, hcs, List.map_append])
      all_goals first | done | omega | rfl | trace_state
  · obtain rfl : k = a.length + b.length := by omega
    have h1' : (((a.length + b.length : Nat) : Int) < (a.length : Int) + (b.length : Int)) = False := eq_false (by omega)
    have h2' : ((a.length : Int) + (b.length : Int) < (a.length : Int) + (b.length : Int)) = False := eq_false (by omega)
    repeat' (first | refine ReqK.i hjp fun _ => ?_ | refine ReqK.i (by omega) fun _ => ?_ | refine ReqK.i (by unfold maxL; omega) fun _ => ?_ | refine ReqK.i (fits_of2 (by first | omega | (simp only [List.length_map, List.length_take, List.length_append, List.length_cons, List.length_nil]; omega)) (by decide)) fun _ => ?_ | simp only [go_sem, reduceIte, reduceCtorEq, Nat.reduceEqDiff, Nat.reduceAdd, Nat.reduceSub, Nat.reduceMul, Nat.reduceDiv, Nat.reduceMod, Nat.reduceLT, Nat.reduceLeDiff, Nat.reduceBEq, Nat.reducePow, Int.reduceLE, Int.reduceLT, Int.reduceEq, Int.reduceNeg, Int.reduceAdd, Int.reduceToNat, h1', h2', Nat.lt_irrefl, Int.lt_irrefl, hCe, form_eta, Tryd.f54, R25, R24, R23, R22, R21, R20, R19, R18, R17, R16, R15, R14, R13, R12, R11, R10, R9, R8, R7, R6, R5, R4, R3, R2, R1, Q20, Q19, Q18, Q17, Q16, Q15, Q14, Q13, Q12, Q11, Q10, Q9, Q8, Q7, Q6, Q5, Q4, Q3, Q2, Q1, Tbl0])
end Go.Proofs.YtomhobohcejocaaDoor
