import Derived.Test.YtbbcinpmomjbgaaDoorP34
import Derived.Test.YtbbcinpmomjbgaaDoorP28
set_option linter.unusedSimpArgs false
namespace Go.Proofs.YtbbcinpmomjbgaaDoor
open Go Go.Abs Go.Proofs

def enc3 (a b c : Bool) : Int := (if a = true then 1 else 0) + (if b = true then 2 else 0) + (if c = true then 4 else 0)
theorem or_e1 {a b c : Bool} : orI (enc3 a b c) 1 = enc3 true b c := by revert a b c; decide
theorem or_e2 {a b c : Bool} : orI (enc3 a b c) 2 = enc3 a true c := by revert a b c; decide
theorem or_e4 {a b c : Bool} : orI (enc3 a b c) 4 = enc3 a b true := by revert a b c; decide
theorem clo2 : cloM 2 earlyM = ([[2, 1], [4, 2]], ⟨0, 0⟩) := by decide
theorem any_succ {α : Type} {O : List α} {f : α → Bool} {j : Nat} (h : j < O.length) : (O.take (j + 1)).any f = ((O.take j).any f || f O[j]) := by
  rw [List.take_succ_eq_append_getElem h, List.any_append]; simp
theorem all_succ {α : Type} {O : List α} {f : α → Bool} {j : Nat} (h : j < O.length) : (O.take (j + 1)).all f = ((O.take j).all f && f O[j]) := by
  rw [List.take_succ_eq_append_getElem h, List.all_append]; simp
section
variable {p : Nat} {l : List Time} (h : (timesM p l).code = 0)
include h
theorem any_lt {i k : Nat} (hi : i < p) (hk : k < p) : consM p (withM l 1 i k) = (orders p l).any fun o => decide (rf o i < rf o k) := by
  have hin : ∀ x ∈ l, InR p x := fun x hx => (okT_of h x hx).2
  rw [Bool.eq_iff_iff, cons_1 h hi hk, List.any_eq_true]
  constructor
  · rintro ⟨f, hf, hlt⟩
    obtain ⟨o, ho, hiso⟩ := orders_of hin hf
    exact ⟨o, ho, by rw [decide_eq_true_eq]; exact (hiso i k hi hk).2 hlt⟩
  · rintro ⟨o, ho, hlt⟩
    rw [decide_eq_true_eq] at hlt
    exact ⟨rf o, of_orders ho, hlt⟩
theorem any_eq {i k : Nat} (hi : i < p) (hk : k < p) : consM p (withM l 3 i k) = (orders p l).any fun o => decide (rf o i = rf o k) := by
  have hin : ∀ x ∈ l, InR p x := fun x hx => (okT_of h x hx).2
  rw [Bool.eq_iff_iff, cons_3 h hi hk, List.any_eq_true]
  constructor
  · rintro ⟨f, hf, hlt⟩
    obtain ⟨o, ho, hiso⟩ := orders_of hin hf
    have h1 := hiso i k hi hk
    have h2 := hiso k i hk hi
    exact ⟨o, ho, by rw [decide_eq_true_eq]; omega⟩
  · rintro ⟨o, ho, hlt⟩
    rw [decide_eq_true_eq] at hlt
    exact ⟨rf o, of_orders ho, hlt⟩
theorem bits_any {i k : Nat} (hi : i < p) (hk : k < p) : bitsM p l i k = enc3 ((orders p l).any fun o => decide (rf o i < rf o k)) ((orders p l).any fun o => decide (rf o i = rf o k)) ((orders p l).any fun o => decide (rf o k < rf o i)) := by
  unfold bitsM enc3
  rw [any_lt h hi hk, any_eq h hi hk, any_lt h hk hi]
theorem ent_all {x : Time} (hx : relCode p x = 0) : (!consM p (l ++ [negT x])) = (orders p l).all fun o => holdN o x := by
  have hk : 1 ≤ x.kind ∧ x.kind ≤ 4 := (rel_ok (by omega) hx).1
  have hin : ∀ x ∈ l, InR p x := fun x hx => (okT_of h x hx).2
  have h4 := (consPre_add h (relCode_neg hx)).2.2.2
  simp only [Int.toNat_natCast] at h4
  rw [Bool.eq_iff_iff, Bool.not_eq_true', Bool.eq_false_iff, ne_eq, cons_sat h4, List.all_eq_true]
  constructor
  · intro hn o ho
    unfold holdN
    rw [decide_eq_true_eq]
    refine Classical.byContradiction fun hh => hn ⟨rf o, fun y hy => ?_⟩
    rcases List.mem_append.1 hy with hy | hy
    · exact of_orders ho y hy
    · obtain rfl := List.mem_singleton.1 hy; exact (neg_iff hk).2 hh
  · rintro hall ⟨f, hf⟩
    obtain ⟨o, ho, hiso⟩ := orders_of hin fun y hy => hf y (List.mem_append_left _ hy)
    have h1 := hall o ho
    unfold holdN at h1
    rw [decide_eq_true_eq] at h1
    have h2 := (holds_iso (rel_ok (by omega) hx).2 hiso).1 h1
    exact (neg_iff hk).1 (hf _ (List.mem_append_right _ List.mem_cons_self)) h2
end

structure B3 (O : List (List Nat)) (i k : Nat) where
  j : Nat
  b1 : Bool
  b2 : Bool
  b4 : Bool
  hj : j ≤ O.length
  h1 : b1 = (O.take j).any fun o => decide (rf o i < rf o k)
  h2 : b2 = (O.take j).any fun o => decide (rf o i = rf o k)
  h4 : b4 = (O.take j).any fun o => decide (rf o k < rf o i)
structure LX (n : Nat) where
  j : Nat
  hj : j ≤ n
structure LA (n n0 : Nat) (q : Nat → Bool → Prop) where
  j : Nat
  b : Bool
  hj : j ≤ n
  hq : q j b

set_option maxRecDepth 100000 in
set_option maxHeartbeats 8000000 in
theorem lawF6 (hT : TblOk Tryd.prog G1 V6) (p : Int) (l : List Time) (x : Time) (_ : (enc p).Wf) (_ : (enc l).Wf) (_ : (enc x).Wf) : Wcall Tryd.prog G1 6 [.fz (enc p), .fz (enc l), .fz (enc x)] (hpL []) 0 (fun d _ _ => d = .fz (.b true)) := by
  refine Wcall_K (N := 184) hm hT 6000 (lst []) ok6 Tryd.func6 rfl rfl (by simp) (by kernel_rfl) ?_
  by_cases h1 : (timesM p l).code = 0
  · obtain ⟨hz, hp0, hp12, hll, _⟩ := times_zero h1
    obtain ⟨p, rfl⟩ := Int.eq_ofNat_of_zero_le hp0
    have e1 : cloM p l = (gridB p l p, ⟨0, 0⟩) := by unfold cloM; rw [if_pos h1]; rfl
    have hgl := gridB_len (p := p) (l := l) (n := p)
    obtain ⟨bx, cx, ix, e2, hcx, hix⟩ : ∃ (bx : Bool) (cx ix : Int), entM p l x = (bx, ⟨cx, ix⟩) ∧ cx = relCode p x ∧ (relCode p x = 0 ∧ ix = 0 ∧ bx = (orders p l).all (fun o => holdN o x) ∨ ¬ relCode p x = 0 ∧ ix = -3 ∧ bx = false) := by
      by_cases hr : relCode p x = 0
      · refine ⟨_, 0, 0, by unfold entM; rw [if_pos h1, if_pos hr], hr.symm, .inl ⟨hr, rfl, ?_⟩⟩
        rw [← ent_all h1 hr]; rfl
      · exact ⟨false, relCode p x, -3, by unfold entM; rw [if_pos h1, if_neg hr], rfl, .inr ⟨hr, rfl, rfl⟩⟩
    have hm3 : ¬ ((-3 : Int) = 0) := by decide
    by_cases h5 : 5 < p
    · have h5' : ((5 : Int) < (p : Int)) = True := eq_true (by omega)
      rcases hix with ⟨hr, rfl, hb⟩ | ⟨hr, rfl, rfl⟩
      · rw [hr] at hcx
        subst hcx
        repeat' (first | refine ReqK.i (by unfold maxL; decide) fun _ => ?_ | refine ReqK.i (by omega) fun _ => ?_ | refine ReqK.i (by unfold maxL; omega) fun _ => ?_ | simp only [go_sem, reduceIte, reduceCtorEq, Nat.reduceEqDiff, Nat.reduceAdd, Nat.reduceSub, Nat.reduceMul, Nat.reduceDiv, Nat.reduceMod, Nat.reduceLT, Nat.reduceLeDiff, Nat.reduceBEq, Nat.reducePow, Int.reduceLE, Int.reduceLT, Int.reduceEq, Int.reduceNeg, Int.reduceAdd, Int.reduceToNat, V6, V5, V4, V3, V2, V1, U12, U11, U10, U9, U8, U7, U6, U5, U4, U3, U2, U1, Tbl0, clo2, G1, Tryd.f6, hz, e1, e2, hr, hgl, h5'])
      · have hr2 : ¬ cx = 0 := by rw [hcx]; exact hr
        repeat' (first | refine ReqK.i (by unfold maxL; decide) fun _ => ?_ | refine ReqK.i (by omega) fun _ => ?_ | refine ReqK.i (by unfold maxL; omega) fun _ => ?_ | simp only [go_sem, reduceIte, reduceCtorEq, Nat.reduceEqDiff, Nat.reduceAdd, Nat.reduceSub, Nat.reduceMul, Nat.reduceDiv, Nat.reduceMod, Nat.reduceLT, Nat.reduceLeDiff, Nat.reduceBEq, Nat.reducePow, Int.reduceLE, Int.reduceLT, Int.reduceEq, Int.reduceNeg, Int.reduceAdd, Int.reduceToNat, V6, V5, V4, V3, V2, V1, U12, U11, U10, U9, U8, U7, U6, U5, U4, U3, U2, U1, Tbl0, clo2, G1, Tryd.f6, hz, e1, e2, hr, hr2, ← hcx, hgl, h5'])
    have h5' : ((5 : Int) < (p : Int)) = False := eq_false (by omega)
    have hpre' : (p : Int) ≤ 6 ∧ ∀ x ∈ l, OkT p x := ⟨by omega, okT_of h1⟩
    obtain ⟨O, hO⟩ : ∃ O, O = orders p l := ⟨_, rfl⟩
    have hon := orders_len (l := l) (show p ≤ 6 by omega)
    rw [← hO] at hon
    have hOm : ∀ o ∈ O, o.length = p ∧ ∀ k ∈ o, k < p := fun o ho => by rw [hO] at ho; exact (mem_orders.1 ho).1
    obtain ⟨W, hW⟩ : ∃ W, W = O.map ints := ⟨_, rfl⟩
    have hWe : (orders p l).map ints = W := by rw [hW, hO]
    have hWl : W.length = O.length := by rw [hW, List.length_map]
    have hWg : ∀ {j : Nat} (h : j < O.length), W[j]'(by omega) = ints O[j] := fun {j} h => by simp only [hW, List.getElem_map]
    rcases hix with ⟨hr, rfl, hb⟩ | ⟨hr, rfl, rfl⟩
    case' inl =>
      rw [hr] at hcx
      subst hcx
      repeat' (first | refine ReqK.i (by unfold maxL; decide) fun _ => ?_ | refine ReqK.i hpre' fun _ => ?_ | refine ReqK.i (by omega) fun _ => ?_ | refine ReqK.i (by unfold maxL; omega) fun _ => ?_ | simp only [go_sem, reduceIte, reduceCtorEq, Nat.reduceEqDiff, Nat.reduceAdd, Nat.reduceSub, Nat.reduceMul, Nat.reduceDiv, Nat.reduceMod, Nat.reduceLT, Nat.reduceLeDiff, Nat.reduceBEq, Nat.reducePow, Int.reduceLE, Int.reduceLT, Int.reduceEq, Int.reduceNeg, Int.reduceAdd, Int.reduceToNat, V6, V5, V4, V3, V2, V1, U12, U11, U10, U9, U8, U7, U6, U5, U4, U3, U2, U1, Tbl0, clo2, G1, Tryd.f6, hz, e1, e2, hr, hgl, h5', hWe])
      obtain ⟨cx, hcx⟩ : ∃ cx : Int, cx = 0 := ⟨_, rfl⟩
      obtain ⟨ix, hixx⟩ : ∃ ix : Int, ix = 0 := ⟨_, rfl⟩
      have hlast : cx = 0 ∧ ix = 0 ∧ relCode p x = 0 ∧ bx = O.all (fun o => holdN o x) ∨ ¬ cx = 0 := .inl ⟨hcx, hixx, hr, by rw [hO]; exact hb⟩
      refine WK_weak (l := [(16, .fz (.i .i64 0)), (0, .fz (.i .i64 p)), (1, .fz (enc l)), (5, .ptr (6005, 0) 0), (9, .fz (enc (gridB p l p))), (11, .fz (.b bx)), (12, .ptr (6012, 3) 0), (15, .fz (enc W))]) (hl := [((6005, 0), some ⟨[.fz (.i .i64 x.kind), .fz (.i .i64 x.a), .fz (.i .i64 x.b)], true, false⟩), ((6012, 3), some ⟨[.fz (.i .i64 cx), .fz (.i .i64 ix)], true, false⟩)]) (m := 5) ?_ ?_
      · refine Weak_to ?_ ?_ ?_ <;> simp only [go_sem, reduceIte, reduceCtorEq, Nat.reduceEqDiff, Nat.reduceAdd, Nat.reduceSub, Nat.reduceMul, Nat.reduceDiv, Nat.reduceMod, Nat.reduceLT, Nat.reduceLeDiff, Nat.reduceBEq, Nat.reducePow, Int.reduceLE, Int.reduceLT, Int.reduceEq, Int.reduceNeg, Int.reduceAdd, Int.reduceToNat, hcx, hixx]
    case' inr =>
      have hr2 : ¬ cx = 0 := by rw [hcx]; exact hr
      repeat' (first | refine ReqK.i (by unfold maxL; decide) fun _ => ?_ | refine ReqK.i hpre' fun _ => ?_ | refine ReqK.i (by omega) fun _ => ?_ | refine ReqK.i (by unfold maxL; omega) fun _ => ?_ | simp only [go_sem, reduceIte, reduceCtorEq, Nat.reduceEqDiff, Nat.reduceAdd, Nat.reduceSub, Nat.reduceMul, Nat.reduceDiv, Nat.reduceMod, Nat.reduceLT, Nat.reduceLeDiff, Nat.reduceBEq, Nat.reducePow, Int.reduceLE, Int.reduceLT, Int.reduceEq, Int.reduceNeg, Int.reduceAdd, Int.reduceToNat, V6, V5, V4, V3, V2, V1, U12, U11, U10, U9, U8, U7, U6, U5, U4, U3, U2, U1, Tbl0, clo2, G1, Tryd.f6, hz, e1, e2, hr, hr2, ← hcx, hgl, h5', hWe])
      obtain ⟨ix, hixx⟩ : ∃ ix : Int, ix = -3 := ⟨_, rfl⟩
      obtain ⟨bx, hbx⟩ : ∃ bx : Bool, bx = false := ⟨_, rfl⟩
      have hlast : cx = 0 ∧ ix = 0 ∧ relCode p x = 0 ∧ bx = O.all (fun o => holdN o x) ∨ ¬ cx = 0 := .inr hr2
      refine WK_weak (l := [(16, .fz (.i .i64 0)), (0, .fz (.i .i64 p)), (1, .fz (enc l)), (5, .ptr (6005, 0) 0), (9, .fz (enc (gridB p l p))), (11, .fz (.b bx)), (12, .ptr (6012, 3) 0), (15, .fz (enc W))]) (hl := [((6005, 0), some ⟨[.fz (.i .i64 x.kind), .fz (.i .i64 x.a), .fz (.i .i64 x.b)], true, false⟩), ((6012, 3), some ⟨[.fz (.i .i64 cx), .fz (.i .i64 ix)], true, false⟩)]) (m := 5) ?_ ?_
      · refine Weak_to ?_ ?_ ?_ <;> simp only [go_sem, reduceIte, reduceCtorEq, Nat.reduceEqDiff, Nat.reduceAdd, Nat.reduceSub, Nat.reduceMul, Nat.reduceDiv, Nat.reduceMod, Nat.reduceLT, Nat.reduceLeDiff, Nat.reduceBEq, Nat.reducePow, Int.reduceLE, Int.reduceLT, Int.reduceEq, Int.reduceNeg, Int.reduceAdd, Int.reduceToNat, hbx, hixx]
    all_goals
      clear e2 hcx hixx
      refine WK_loop hm hT 6000 (lst []) (ι := LX p)
        ⟨fun q => ⟨frL [(16, .fz (.i .i64 q.j)), (0, .fz (.i .i64 p)), (1, .fz (enc l)), (5, .ptr (6005, 0) 0), (9, .fz (enc (gridB p l p))), (11, .fz (.b bx)), (12, .ptr (6012, 3) 0), (15, .fz (enc W))], hpL [((6005, 0), some ⟨[.fz (.i .i64 x.kind), .fz (.i .i64 x.a), .fz (.i .i64 x.b)], true, false⟩), ((6012, 3), some ⟨[.fz (.i .i64 cx), .fz (.i .i64 ix)], true, false⟩)], 5⟩, fun q => p - q.j⟩ ⟨0, by omega⟩ (by kernel_rfl) ?_ ?_
      · refine Weak_to ?_ ?_ ?_ <;> simp only [go_sem, reduceIte, reduceCtorEq, Nat.reduceEqDiff, Nat.reduceAdd, Nat.reduceSub, Nat.reduceMul, Nat.reduceDiv, Nat.reduceMod, Nat.reduceLT, Nat.reduceLeDiff, Nat.reduceBEq, Nat.reducePow, Int.reduceLE, Int.reduceLT, Int.reduceEq, Int.reduceNeg, Int.reduceAdd, Int.reduceToNat]
      rintro ⟨i, hi⟩
      rcases Nat.lt_or_ge i p with h2 | h2x
      · have h2g : i < (gridB p l p).length := by omega
        have hgi := grid_get h2g
        have hrl := rowB_len (p := p) (l := l) (i := i) (n := p)
        repeat' (first | refine ReqK.i (by omega) fun _ => ?_ | refine ReqK.i (by unfold maxL; omega) fun _ => ?_ | simp only [go_sem, reduceIte, reduceCtorEq, Nat.reduceEqDiff, Nat.reduceAdd, Nat.reduceSub, Nat.reduceMul, Nat.reduceDiv, Nat.reduceMod, Nat.reduceLT, Nat.reduceLeDiff, Nat.reduceBEq, Nat.reducePow, Int.reduceLE, Int.reduceLT, Int.reduceEq, Int.reduceNeg, Int.reduceAdd, Int.reduceToNat, h2, hgl, h2g, getD_map_lt, hgi, hrl])
        refine WK_loop hm hT 6000 (lst []) (ι := LX p)
          ⟨fun q => ⟨frL [(17, .fz (.i .i64 q.j)), (16, .fz (.i .i64 i)), (0, .fz (.i .i64 p)), (1, .fz (enc l)), (5, .ptr (6005, 0) 0), (9, .fz (enc (gridB p l p))), (11, .fz (.b bx)), (12, .ptr (6012, 3) 0), (15, .fz (enc W))], hpL [((6005, 0), some ⟨[.fz (.i .i64 x.kind), .fz (.i .i64 x.a), .fz (.i .i64 x.b)], true, false⟩), ((6012, 3), some ⟨[.fz (.i .i64 cx), .fz (.i .i64 ix)], true, false⟩)], 5⟩, fun q => p - q.j⟩ ⟨0, by omega⟩ (by kernel_rfl) ?_ ?_
        · refine Weak_to ?_ ?_ ?_ <;> simp only [go_sem, reduceIte, reduceCtorEq, Nat.reduceEqDiff, Nat.reduceAdd, Nat.reduceSub, Nat.reduceMul, Nat.reduceDiv, Nat.reduceMod, Nat.reduceLT, Nat.reduceLeDiff, Nat.reduceBEq, Nat.reducePow, Int.reduceLE, Int.reduceLT, Int.reduceEq, Int.reduceNeg, Int.reduceAdd, Int.reduceToNat]
        rintro ⟨k, hk⟩
        rcases Nat.lt_or_ge k p with h3 | h3x
        · have hkr : k < (rowB p l i p).length := by omega
          have hik := row_get2 hkr
          have hbits := bits_any h1 h2 h3
          rw [← hO] at hbits
          repeat' (first | refine ReqK.i (by omega) fun _ => ?_ | refine ReqK.i (by unfold maxL; omega) fun _ => ?_ | simp only [go_sem, reduceIte, reduceCtorEq, Nat.reduceEqDiff, Nat.reduceAdd, Nat.reduceSub, Nat.reduceMul, Nat.reduceDiv, Nat.reduceMod, Nat.reduceLT, Nat.reduceLeDiff, Nat.reduceBEq, Nat.reducePow, Int.reduceLE, Int.reduceLT, Int.reduceEq, Int.reduceNeg, Int.reduceAdd, Int.reduceToNat, h3])
          refine WK_loop hm hT 6000 (lst []) (ι := B3 O i k)
            ⟨fun q => ⟨frL [(18, .fz (.i .i64 (enc3 q.b1 q.b2 q.b4))), (128, .fz (enc W)), (129, .fz (.i .i64 O.length)), (130, .fz (.i .i64 q.j)), (17, .fz (.i .i64 k)), (16, .fz (.i .i64 i)), (0, .fz (.i .i64 p)), (1, .fz (enc l)), (5, .ptr (6005, 0) 0), (9, .fz (enc (gridB p l p))), (11, .fz (.b bx)), (12, .ptr (6012, 3) 0), (15, .fz (enc W))], hpL [((6005, 0), some ⟨[.fz (.i .i64 x.kind), .fz (.i .i64 x.a), .fz (.i .i64 x.b)], true, false⟩), ((6012, 3), some ⟨[.fz (.i .i64 cx), .fz (.i .i64 ix)], true, false⟩)], 5⟩, fun q => O.length - q.j⟩ ⟨0, false, false, false, by omega, rfl, rfl, rfl⟩ (by kernel_rfl) ?_ ?_
          · have h30 : enc3 false false false = 0 := by decide
            refine Weak_to ?_ ?_ ?_ <;> simp only [go_sem, reduceIte, reduceCtorEq, Nat.reduceEqDiff, Nat.reduceAdd, Nat.reduceSub, Nat.reduceMul, Nat.reduceDiv, Nat.reduceMod, Nat.reduceLT, Nat.reduceLeDiff, Nat.reduceBEq, Nat.reducePow, Int.reduceLE, Int.reduceLT, Int.reduceEq, Int.reduceNeg, Int.reduceAdd, Int.reduceToNat, h30, hWl]
          rintro ⟨j, b1, b2, b4, hj, g1, g2, g4⟩
          by_cases h4 : j < O.length
          · have hjW : j < W.length := by omega
            have hWj := hWg h4
            obtain ⟨hol, hod⟩ := hOm _ (List.getElem_mem h4)
            have hil : (ints O[j]).length = p := by rw [ints_len]; exact hol
            have hii : i < (ints O[j]).length := by omega
            have hki : k < (ints O[j]).length := by omega
            have gi : (ints O[j])[i] = (rf O[j] i : Int) := by rw [ints_get]; unfold rf; rw [List.getD_eq_getElem?_getD, List.getElem?_eq_getElem (by omega)]; rfl
            have gk : (ints O[j])[k] = (rf O[j] k : Int) := by rw [ints_get]; unfold rf; rw [List.getD_eq_getElem?_getD, List.getElem?_eq_getElem (by omega)]; rfl
            have s1 := any_succ (f := fun o => decide (rf o i < rf o k)) h4
            have s2 := any_succ (f := fun o => decide (rf o i = rf o k)) h4
            have s4 := any_succ (f := fun o => decide (rf o k < rf o i)) h4
            rcases Nat.lt_trichotomy (rf O[j] i) (rf O[j] k) with h6 | h6 | h6
            · have c1 : (rf O[j] i < rf O[j] k) = True := eq_true h6
              have c2 : (rf O[j] k < rf O[j] i) = False := eq_false (by omega)
              repeat' (first | refine ReqK.i (by omega) fun _ => ?_ | refine ReqK.i (by unfold maxL; omega) fun _ => ?_ | simp only [go_sem, reduceIte, reduceCtorEq, Nat.reduceEqDiff, Nat.reduceAdd, Nat.reduceSub, Nat.reduceMul, Nat.reduceDiv, Nat.reduceMod, Nat.reduceLT, Nat.reduceLeDiff, Nat.reduceBEq, Nat.reducePow, Int.reduceLE, Int.reduceLT, Int.reduceEq, Int.reduceNeg, Int.reduceAdd, Int.reduceToNat, h4, hjW, getD_map_lt, hWj, hii, hki, hil, hol, h2, h3, gi, gk, c1, c2, or_e1])
              refine ⟨⟨j + 1, true, b2, b4, by omega, by rw [s1]; simp [h6], by rw [s2, ← g2]; simp; omega, by rw [s4, ← g4]; simp; omega⟩, by simp only; omega, ?_⟩
              refine Weak_to ?_ ?_ ?_ <;> simp only [go_sem, reduceIte, reduceCtorEq, Nat.reduceEqDiff, Nat.reduceAdd, Nat.reduceSub, Nat.reduceMul, Nat.reduceDiv, Nat.reduceMod, Nat.reduceLT, Nat.reduceLeDiff, Nat.reduceBEq, Nat.reducePow, Int.reduceLE, Int.reduceLT, Int.reduceEq, Int.reduceNeg, Int.reduceAdd, Int.reduceToNat]
            · have c1 : (rf O[j] i < rf O[j] k) = False := eq_false (by omega)
              have c2 : (rf O[j] k < rf O[j] i) = False := eq_false (by omega)
              repeat' (first | refine ReqK.i (by omega) fun _ => ?_ | refine ReqK.i (by unfold maxL; omega) fun _ => ?_ | simp only [go_sem, reduceIte, reduceCtorEq, Nat.reduceEqDiff, Nat.reduceAdd, Nat.reduceSub, Nat.reduceMul, Nat.reduceDiv, Nat.reduceMod, Nat.reduceLT, Nat.reduceLeDiff, Nat.reduceBEq, Nat.reducePow, Int.reduceLE, Int.reduceLT, Int.reduceEq, Int.reduceNeg, Int.reduceAdd, Int.reduceToNat, h4, hjW, getD_map_lt, hWj, hii, hki, hil, hol, h2, h3, gi, gk, c1, c2, or_e2])
              refine ⟨⟨j + 1, b1, true, b4, by omega, by rw [s1, ← g1]; simp; omega, by rw [s2]; simp [h6], by rw [s4, ← g4]; simp; omega⟩, by simp only; omega, ?_⟩
              refine Weak_to ?_ ?_ ?_ <;> simp only [go_sem, reduceIte, reduceCtorEq, Nat.reduceEqDiff, Nat.reduceAdd, Nat.reduceSub, Nat.reduceMul, Nat.reduceDiv, Nat.reduceMod, Nat.reduceLT, Nat.reduceLeDiff, Nat.reduceBEq, Nat.reducePow, Int.reduceLE, Int.reduceLT, Int.reduceEq, Int.reduceNeg, Int.reduceAdd, Int.reduceToNat]
            · have c1 : (rf O[j] i < rf O[j] k) = False := eq_false (by omega)
              have c2 : (rf O[j] k < rf O[j] i) = True := eq_true h6
              repeat' (first | refine ReqK.i (by omega) fun _ => ?_ | refine ReqK.i (by unfold maxL; omega) fun _ => ?_ | simp only [go_sem, reduceIte, reduceCtorEq, Nat.reduceEqDiff, Nat.reduceAdd, Nat.reduceSub, Nat.reduceMul, Nat.reduceDiv, Nat.reduceMod, Nat.reduceLT, Nat.reduceLeDiff, Nat.reduceBEq, Nat.reducePow, Int.reduceLE, Int.reduceLT, Int.reduceEq, Int.reduceNeg, Int.reduceAdd, Int.reduceToNat, h4, hjW, getD_map_lt, hWj, hii, hki, hil, hol, h2, h3, gi, gk, c1, c2, or_e4])
              refine ⟨⟨j + 1, b1, b2, true, by omega, by rw [s1, ← g1]; simp; omega, by rw [s2, ← g2]; simp; omega, by rw [s4]; simp [h6]⟩, by simp only; omega, ?_⟩
              refine Weak_to ?_ ?_ ?_ <;> simp only [go_sem, reduceIte, reduceCtorEq, Nat.reduceEqDiff, Nat.reduceAdd, Nat.reduceSub, Nat.reduceMul, Nat.reduceDiv, Nat.reduceMod, Nat.reduceLT, Nat.reduceLeDiff, Nat.reduceBEq, Nat.reducePow, Int.reduceLE, Int.reduceLT, Int.reduceEq, Int.reduceNeg, Int.reduceAdd, Int.reduceToNat]
          · rw [List.take_of_length_le (by omega)] at g1 g2 g4
            rw [← g1, ← g2, ← g4] at hbits
            repeat' (first | refine ReqK.i (by omega) fun _ => ?_ | refine ReqK.i (by unfold maxL; omega) fun _ => ?_ | simp only [go_sem, reduceIte, reduceCtorEq, Nat.reduceEqDiff, Nat.reduceAdd, Nat.reduceSub, Nat.reduceMul, Nat.reduceDiv, Nat.reduceMod, Nat.reduceLT, Nat.reduceLeDiff, Nat.reduceBEq, Nat.reducePow, Int.reduceLE, Int.reduceLT, Int.reduceEq, Int.reduceNeg, Int.reduceAdd, Int.reduceToNat, h4, h2, hgl, h2g, getD_map_lt, hgi, hrl, hkr, h3, hik, hbits])
            refine ⟨⟨k + 1, by omega⟩, by simp only; omega, ?_⟩
            refine Weak_to ?_ ?_ ?_ <;> simp only [go_sem, reduceIte, reduceCtorEq, Nat.reduceEqDiff, Nat.reduceAdd, Nat.reduceSub, Nat.reduceMul, Nat.reduceDiv, Nat.reduceMod, Nat.reduceLT, Nat.reduceLeDiff, Nat.reduceBEq, Nat.reducePow, Int.reduceLE, Int.reduceLT, Int.reduceEq, Int.reduceNeg, Int.reduceAdd, Int.reduceToNat]
        · have h3 : ¬ k < p := by omega
          repeat' (first | refine ReqK.i (by omega) fun _ => ?_ | refine ReqK.i (by unfold maxL; omega) fun _ => ?_ | simp only [go_sem, reduceIte, reduceCtorEq, Nat.reduceEqDiff, Nat.reduceAdd, Nat.reduceSub, Nat.reduceMul, Nat.reduceDiv, Nat.reduceMod, Nat.reduceLT, Nat.reduceLeDiff, Nat.reduceBEq, Nat.reducePow, Int.reduceLE, Int.reduceLT, Int.reduceEq, Int.reduceNeg, Int.reduceAdd, Int.reduceToNat, h3])
          refine ⟨⟨i + 1, by omega⟩, by simp only; omega, ?_⟩
          refine Weak_to ?_ ?_ ?_ <;> simp only [go_sem, reduceIte, reduceCtorEq, Nat.reduceEqDiff, Nat.reduceAdd, Nat.reduceSub, Nat.reduceMul, Nat.reduceDiv, Nat.reduceMod, Nat.reduceLT, Nat.reduceLeDiff, Nat.reduceBEq, Nat.reducePow, Int.reduceLE, Int.reduceLT, Int.reduceEq, Int.reduceNeg, Int.reduceAdd, Int.reduceToNat]
      · have h2 : ¬ i < p := by omega
        rcases hlast with ⟨rfl, rfl, hr, hbx⟩ | hcx0
        · have hin := (rel_ok (p := p) (by omega) hr)
          repeat' (first | refine ReqK.i (by omega) fun _ => ?_ | refine ReqK.i (by unfold maxL; omega) fun _ => ?_ | simp only [go_sem, reduceIte, reduceCtorEq, Nat.reduceEqDiff, Nat.reduceAdd, Nat.reduceSub, Nat.reduceMul, Nat.reduceDiv, Nat.reduceMod, Nat.reduceLT, Nat.reduceLeDiff, Nat.reduceBEq, Nat.reducePow, Int.reduceLE, Int.reduceLT, Int.reduceEq, Int.reduceNeg, Int.reduceAdd, Int.reduceToNat, h2, G1])
          refine WK_loop hm hT 6000 (lst []) (ι := LA O.length 0 fun j b => b = (O.take j).all fun o => holdN o x)
            ⟨fun q => ⟨frL [(5, .ptr (6005, 0) 0), (11, .fz (.b bx)), (22, .fz (.b q.b)), (168, .fz (enc W)), (169, .fz (.i .i64 O.length)), (170, .fz (.i .i64 q.j))], hpL [((6005, 0), some ⟨[.fz (.i .i64 x.kind), .fz (.i .i64 x.a), .fz (.i .i64 x.b)], true, false⟩), ((6012, 3), some ⟨[.fz (.i .i64 0), .fz (.i .i64 0)], true, false⟩)], 5⟩, fun q => O.length - q.j⟩ ⟨0, true, by omega, rfl⟩ (by kernel_rfl) ?_ ?_
          · refine Weak_to ?_ ?_ ?_ <;> simp only [go_sem, reduceIte, reduceCtorEq, Nat.reduceEqDiff, Nat.reduceAdd, Nat.reduceSub, Nat.reduceMul, Nat.reduceDiv, Nat.reduceMod, Nat.reduceLT, Nat.reduceLeDiff, Nat.reduceBEq, Nat.reducePow, Int.reduceLE, Int.reduceLT, Int.reduceEq, Int.reduceNeg, Int.reduceAdd, Int.reduceToNat, hWl]
          rintro ⟨j, b, hj, hq⟩
          by_cases h4 : j < O.length
          · have hjW : j < W.length := by omega
            have hWj := hWg h4
            obtain ⟨hol, hod⟩ := hOm _ (List.getElem_mem h4)
            have hfit : fitI (ints O[j]) x = holdN O[j] x := fitI_N hin.1 (by rw [hol]; exact hin.2)
            have hpr : InR O[j].length x ∧ ∀ v ∈ ints O[j], 0 ≤ v ∧ v ≤ 100 := ⟨by rw [hol]; exact hin.2, fun v hv => by
              simp only [ints, List.mem_map] at hv
              obtain ⟨c, hc, rfl⟩ := hv
              have := hod c hc; omega⟩
            have s1 := all_succ (f := fun o => holdN o x) h4
            rw [← hq] at s1
            cases b
            · repeat' (first | refine ReqK.i (by omega) fun _ => ?_ | refine ReqK.i (by unfold maxL; omega) fun _ => ?_ | simp only [go_sem, reduceIte, reduceCtorEq, Nat.reduceEqDiff, Nat.reduceAdd, Nat.reduceSub, Nat.reduceMul, Nat.reduceDiv, Nat.reduceMod, Nat.reduceLT, Nat.reduceLeDiff, Nat.reduceBEq, Nat.reducePow, Int.reduceLE, Int.reduceLT, Int.reduceEq, Int.reduceNeg, Int.reduceAdd, Int.reduceToNat, h4, hjW, getD_map_lt, hWj])
              refine ⟨⟨j + 1, false, by omega, by rw [s1]; rfl⟩, by simp only; omega, ?_⟩
              refine Weak_to ?_ ?_ ?_ <;> simp only [go_sem, reduceIte, reduceCtorEq, Nat.reduceEqDiff, Nat.reduceAdd, Nat.reduceSub, Nat.reduceMul, Nat.reduceDiv, Nat.reduceMod, Nat.reduceLT, Nat.reduceLeDiff, Nat.reduceBEq, Nat.reducePow, Int.reduceLE, Int.reduceLT, Int.reduceEq, Int.reduceNeg, Int.reduceAdd, Int.reduceToNat]
            · repeat' (first | refine ReqK.i hpr fun _ => ?_ | refine ReqK.i (by omega) fun _ => ?_ | refine ReqK.i (by unfold maxL; omega) fun _ => ?_ | simp only [go_sem, reduceIte, reduceCtorEq, Nat.reduceEqDiff, Nat.reduceAdd, Nat.reduceSub, Nat.reduceMul, Nat.reduceDiv, Nat.reduceMod, Nat.reduceLT, Nat.reduceLeDiff, Nat.reduceBEq, Nat.reducePow, Int.reduceLE, Int.reduceLT, Int.reduceEq, Int.reduceNeg, Int.reduceAdd, Int.reduceToNat, h4, hjW, getD_map_lt, hWj, hfit, V6, V5, V4, V3, V2, V1, U12, U11, U10, U9, U8, U7, U6, U5, U4, U3, U2, U1, Tbl0])
              refine ⟨⟨j + 1, holdN O[j] x, by omega, by rw [s1]; rfl⟩, by simp only; omega, ?_⟩
              refine Weak_to ?_ ?_ ?_ <;> simp only [go_sem, reduceIte, reduceCtorEq, Nat.reduceEqDiff, Nat.reduceAdd, Nat.reduceSub, Nat.reduceMul, Nat.reduceDiv, Nat.reduceMod, Nat.reduceLT, Nat.reduceLeDiff, Nat.reduceBEq, Nat.reducePow, Int.reduceLE, Int.reduceLT, Int.reduceEq, Int.reduceNeg, Int.reduceAdd, Int.reduceToNat]
          · rw [List.take_of_length_le (by omega), ← hbx] at hq
            subst hq
            repeat' (first | refine ReqK.i (by omega) fun _ => ?_ | refine ReqK.i (by unfold maxL; omega) fun _ => ?_ | simp only [go_sem, reduceIte, reduceCtorEq, Nat.reduceEqDiff, Nat.reduceAdd, Nat.reduceSub, Nat.reduceMul, Nat.reduceDiv, Nat.reduceMod, Nat.reduceLT, Nat.reduceLeDiff, Nat.reduceBEq, Nat.reducePow, Int.reduceLE, Int.reduceLT, Int.reduceEq, Int.reduceNeg, Int.reduceAdd, Int.reduceToNat, h4, Tryd.f6])
        · have hcx1 : (cx = 0) = False := eq_false hcx0
          repeat' (first | refine ReqK.i (by omega) fun _ => ?_ | refine ReqK.i (by unfold maxL; omega) fun _ => ?_ | simp only [go_sem, reduceIte, reduceCtorEq, Nat.reduceEqDiff, Nat.reduceAdd, Nat.reduceSub, Nat.reduceMul, Nat.reduceDiv, Nat.reduceMod, Nat.reduceLT, Nat.reduceLeDiff, Nat.reduceBEq, Nat.reducePow, Int.reduceLE, Int.reduceLT, Int.reduceEq, Int.reduceNeg, Int.reduceAdd, Int.reduceToNat, h2, G1, hcx1, Tryd.f6])
  · have hz : ¬ timesM p l = ⟨0, 0⟩ := fun e => h1 (by rw [e])
    have e1 : cloM p l = ([], timesM p l) := by unfold cloM; rw [if_neg h1]
    have e2 : entM p l x = (false, timesM p l) := by unfold entM; rw [if_neg h1]
    repeat' (first | refine ReqK.i (by unfold maxL; decide) fun _ => ?_ | simp only [go_sem, reduceIte, reduceCtorEq, Nat.reduceEqDiff, Nat.reduceAdd, Nat.reduceSub, Nat.reduceMul, Nat.reduceDiv, Nat.reduceMod, Nat.reduceLT, Nat.reduceLeDiff, Nat.reduceBEq, Nat.reducePow, Int.reduceLE, Int.reduceLT, Int.reduceEq, Int.reduceNeg, Int.reduceAdd, Int.reduceToNat, V6, V5, V4, V3, V2, V1, U12, U11, U10, U9, U8, U7, U6, U5, U4, U3, U2, U1, Tbl0, clo2, G1, Tryd.f6, h1, e1, e2])
end Go.Proofs.YtbbcinpmomjbgaaDoor
