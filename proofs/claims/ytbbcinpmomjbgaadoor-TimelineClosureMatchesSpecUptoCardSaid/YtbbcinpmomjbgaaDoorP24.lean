import Derived.Test.YtbbcinpmomjbgaaDoorP23
import Derived.Test.YtbbcinpmomjbgaaDoorPC
set_option linter.unusedSimpArgs false
namespace Go.Proofs.YtbbcinpmomjbgaaDoor
open Go Go.Abs Go.Proofs

@[go_sem] theorem and01 : andI 0 1 = 0 := by decide
@[go_sem] theorem and02 : andI 0 2 = 0 := by decide
@[go_sem] theorem and04 : andI 0 4 = 0 := by decide
@[go_sem] theorem and11 : andI 1 1 = 1 := by decide
@[go_sem] theorem and12 : andI 1 2 = 0 := by decide
@[go_sem] theorem and14 : andI 1 4 = 0 := by decide
@[go_sem] theorem and21 : andI 2 1 = 0 := by decide
@[go_sem] theorem and22 : andI 2 2 = 2 := by decide
@[go_sem] theorem and24 : andI 2 4 = 0 := by decide
@[go_sem] theorem and31 : andI 3 1 = 1 := by decide
@[go_sem] theorem and32 : andI 3 2 = 2 := by decide
@[go_sem] theorem and34 : andI 3 4 = 0 := by decide
@[go_sem] theorem and41 : andI 4 1 = 0 := by decide
@[go_sem] theorem and42 : andI 4 2 = 0 := by decide
@[go_sem] theorem and44 : andI 4 4 = 4 := by decide
@[go_sem] theorem and51 : andI 5 1 = 1 := by decide
@[go_sem] theorem and52 : andI 5 2 = 0 := by decide
@[go_sem] theorem and54 : andI 5 4 = 4 := by decide
@[go_sem] theorem and61 : andI 6 1 = 0 := by decide
@[go_sem] theorem and62 : andI 6 2 = 2 := by decide
@[go_sem] theorem and64 : andI 6 4 = 4 := by decide
@[go_sem] theorem and71 : andI 7 1 = 1 := by decide
@[go_sem] theorem and72 : andI 7 2 = 2 := by decide
@[go_sem] theorem and74 : andI 7 4 = 4 := by decide

theorem cons_w {p : Nat} {l : List Time} {k : Int} {i j : Nat} (h : consPre p (withM l k i j)) : consM p (withM l k i j) = true ↔ ∃ f : Nat → Nat, (∀ x ∈ l, HoldsF f x) ∧ HoldsF f ⟨k, i, j⟩ := by
  have h4 := h.2.2.2
  simp only [Int.toNat_natCast] at h4
  rw [cons_sat h4]
  constructor
  · rintro ⟨f, hf⟩
    exact ⟨f, fun x hx => hf x (List.mem_append_left _ hx), hf _ (List.mem_append_right _ List.mem_cons_self)⟩
  · rintro ⟨f, h1, h2⟩
    refine ⟨f, fun x hx => ?_⟩
    rcases List.mem_append.1 hx with hx | hx
    · exact h1 x hx
    · obtain rfl := List.mem_singleton.1 hx; exact h2
theorem holds1 {f : Nat → Nat} {i j : Nat} : HoldsF f ⟨1, i, j⟩ ↔ f i < f j := by
  unfold HoldsF; simp
theorem holds3 {f : Nat → Nat} {i j : Nat} : HoldsF f ⟨3, i, j⟩ ↔ f i = f j := by
  unfold HoldsF; simp
section
variable {p : Nat} {l : List Time} (h : (timesM p l).code = 0)
include h
theorem cons_l : consM p l = true ↔ ∃ f : Nat → Nat, ∀ x ∈ l, HoldsF f x := by
  have h4 := (consPre_of h).2.2.2
  simp only [Int.toNat_natCast] at h4
  exact cons_sat h4
theorem cons_1 {i j : Nat} (hi : i < p) (hj : j < p) : consM p (withM l 1 i j) = true ↔ ∃ f : Nat → Nat, (∀ x ∈ l, HoldsF f x) ∧ f i < f j := by
  rw [cons_w (consPre_w h (by decide) hi hj)]; simp only [holds1]
theorem cons_3 {i j : Nat} (hi : i < p) (hj : j < p) : consM p (withM l 3 i j) = true ↔ ∃ f : Nat → Nat, (∀ x ∈ l, HoldsF f x) ∧ f i = f j := by
  rw [cons_w (consPre_w h (by decide) hi hj)]; simp only [holds3]
theorem same_sym {i j : Nat} (hi : i < p) (hj : j < p) : consM p (withM l 3 i j) = consM p (withM l 3 j i) := by
  rw [Bool.eq_iff_iff, cons_3 h hi hj, cons_3 h hj hi]
  exact ⟨fun ⟨f, a, b⟩ => ⟨f, a, b.symm⟩, fun ⟨f, a, b⟩ => ⟨f, a, b.symm⟩⟩
theorem cons_or {i j : Nat} (hi : i < p) (hj : j < p) : consM p l = (consM p (withM l 1 i j) || consM p (withM l 3 i j) || consM p (withM l 1 j i)) := by
  rw [Bool.eq_iff_iff, Bool.or_eq_true, Bool.or_eq_true, cons_l h, cons_1 h hi hj, cons_3 h hi hj, cons_1 h hj hi]
  constructor
  · rintro ⟨f, hf⟩
    rcases Nat.lt_trichotomy (f i) (f j) with h' | h' | h'
    · exact .inl (.inl ⟨f, hf, h'⟩)
    · exact .inl (.inr ⟨f, hf, h'⟩)
    · exact .inr ⟨f, hf, h'⟩
  · rintro ((⟨f, hf, _⟩ | ⟨f, hf, _⟩) | ⟨f, hf, _⟩) <;> exact ⟨f, hf⟩
theorem cons_self1 {i : Nat} (hi : i < p) : consM p (withM l 1 i i) = false := by
  rw [Bool.eq_false_iff]
  intro hh
  obtain ⟨f, _, h2⟩ := (cons_1 h hi hi).1 hh
  omega
end
theorem grid_get {p n : Nat} {l : List Time} {i : Nat} (h : i < (gridB p l n).length) : (gridB p l n)[i] = rowB p l i p := by simp [gridB]
theorem row_get2 {p n : Nat} {l : List Time} {i k : Nat} (h : k < (rowB p l i n).length) : (rowB p l i n)[k] = bitsM p l i k := by simp [rowB]

theorem clo1 : cloM 1 [] = ([[2]], ⟨0, 0⟩) := by decide

set_option maxRecDepth 100000 in
set_option maxHeartbeats 1000000 in
theorem lawF5 (hT : TblOk Tryd.prog G1 U12) (p : Int) (l : List Time) (hp : (enc p).Wf) (hl : (enc l).Wf) : Wcall Tryd.prog G1 5 [.fz (enc p), .fz (enc l)] (hpL []) 0 (fun d _ _ => d = .fz (.b true)) := by
  have la := Wf_sl hl
  simp only [List.length_map, maxL] at la
  have dl : dec (α := List Time) (.sl []) = [] := rfl
  have dg : dec (α := List (List Int)) (.sl [.sl [.i .i64 2]]) = [[2]] := rfl
  refine Wcall_K (N := 130) hm hT 5000 (lst []) ok5 Tryd.func5 rfl rfl (by simp) (by kernel_rfl) ?_
  by_cases h1 : (timesM p l).code = 0
  · obtain ⟨_, hp0, hp12, hll, _⟩ := times_zero h1
    obtain ⟨p, rfl⟩ := Int.eq_ofNat_of_zero_le hp0
    have e : cloM p l = (gridB p l p, ⟨0, 0⟩) := by unfold cloM; rw [if_pos h1]; rfl
    have e2 : conM p l = (consM p l, ⟨0, 0⟩) := by unfold conM; rw [if_pos h1]; rfl
    have hgl := gridB_len (p := p) (l := l) (n := p)
    repeat' (first | refine ReqK.i (by unfold maxL; decide) fun _ => ?_ | simp only [go_sem, reduceIte, reduceCtorEq, Nat.reduceEqDiff, Nat.reduceAdd, Nat.reduceSub, Nat.reduceMul, Nat.reduceDiv, Nat.reduceMod, Nat.reduceLT, Nat.reduceLeDiff, Nat.reduceBEq, Nat.reducePow, Int.reduceLE, Int.reduceLT, Int.reduceEq, Int.reduceNeg, Int.reduceAdd, Int.reduceToNat, U12, U11, U10, U9, clo1, dl, dg, G1, Tryd.f5, e, e2, hgl])
    refine WK_loop hm hT 5000 (lst []) (ι := LoopI p fun _ => True)
      ⟨fun q => ⟨frL [(0, .fz (.i .i64 p)), (7, .fz (enc (gridB p l p))), (9, .fz (.b (consM p l))), (54, .fz (.i .i64 p)), (55, .fz (.i .i64 q.i))], hpL [], 3⟩, fun q => p - q.i⟩ ⟨0, by omega, trivial⟩ (by kernel_rfl) ?_ ?_
    · refine Weak_to ?_ ?_ ?_ <;> simp only [go_sem, reduceIte, reduceCtorEq, Nat.reduceEqDiff, Nat.reduceAdd, Nat.reduceSub, Nat.reduceMul, Nat.reduceDiv, Nat.reduceMod, Nat.reduceLT, Nat.reduceLeDiff, Nat.reduceBEq, Nat.reducePow, Int.reduceLE, Int.reduceLT, Int.reduceEq, Int.reduceNeg, Int.reduceAdd, Int.reduceToNat]
    rintro ⟨i, hi, _⟩
    rcases Nat.lt_or_ge i p with h2 | h2x
    · have h2g : i < (gridB p l p).length := by omega
      have hgi := grid_get h2g
      have hrl := rowB_len (p := p) (l := l) (i := i) (n := p)
      repeat' (first | refine ReqK.i (by omega) fun _ => ?_ | simp only [go_sem, reduceIte, reduceCtorEq, Nat.reduceEqDiff, Nat.reduceAdd, Nat.reduceSub, Nat.reduceMul, Nat.reduceDiv, Nat.reduceMod, Nat.reduceLT, Nat.reduceLeDiff, Nat.reduceBEq, Nat.reducePow, Int.reduceLE, Int.reduceLT, Int.reduceEq, Int.reduceNeg, Int.reduceAdd, Int.reduceToNat, h2, hgl, h2g, getD_map_lt, hgi, hrl])
      refine ⟨⟨i + 1, by omega, trivial⟩, by simp only; omega, ?_⟩
      refine Weak_to ?_ ?_ ?_ <;> simp only [go_sem, reduceIte, reduceCtorEq, Nat.reduceEqDiff, Nat.reduceAdd, Nat.reduceSub, Nat.reduceMul, Nat.reduceDiv, Nat.reduceMod, Nat.reduceLT, Nat.reduceLeDiff, Nat.reduceBEq, Nat.reducePow, Int.reduceLE, Int.reduceLT, Int.reduceEq, Int.reduceNeg, Int.reduceAdd, Int.reduceToNat]
    have h2 : ¬ i < p := by omega
    repeat' (first | refine ReqK.i (by omega) fun _ => ?_ | simp only [go_sem, reduceIte, reduceCtorEq, Nat.reduceEqDiff, Nat.reduceAdd, Nat.reduceSub, Nat.reduceMul, Nat.reduceDiv, Nat.reduceMod, Nat.reduceLT, Nat.reduceLeDiff, Nat.reduceBEq, Nat.reducePow, Int.reduceLE, Int.reduceLT, Int.reduceEq, Int.reduceNeg, Int.reduceAdd, Int.reduceToNat, h2, hgl])
    clear h2 h2x hi
    refine WK_loop hm hT 5000 (lst []) (ι := LoopI p fun _ => True)
      ⟨fun q => ⟨frL [(0, .fz (.i .i64 p)), (7, .fz (enc (gridB p l p))), (9, .fz (.b (consM p l))), (67, .fz (.i .i64 p)), (68, .fz (.i .i64 q.i))], hpL [], 3⟩, fun q => p - q.i⟩ ⟨0, by omega, trivial⟩ (by kernel_rfl) ?_ ?_
    · refine Weak_to ?_ ?_ ?_ <;> simp only [go_sem, reduceIte, reduceCtorEq, Nat.reduceEqDiff, Nat.reduceAdd, Nat.reduceSub, Nat.reduceMul, Nat.reduceDiv, Nat.reduceMod, Nat.reduceLT, Nat.reduceLeDiff, Nat.reduceBEq, Nat.reducePow, Int.reduceLE, Int.reduceLT, Int.reduceEq, Int.reduceNeg, Int.reduceAdd, Int.reduceToNat]
    rintro ⟨i, hi, _⟩
    rcases Nat.lt_or_ge i p with h2 | h2x
    · have h2g : i < (gridB p l p).length := by omega
      have hgi := grid_get h2g
      have hrl := rowB_len (p := p) (l := l) (i := i) (n := p)
      repeat' (first | refine ReqK.i (by omega) fun _ => ?_ | simp only [go_sem, reduceIte, reduceCtorEq, Nat.reduceEqDiff, Nat.reduceAdd, Nat.reduceSub, Nat.reduceMul, Nat.reduceDiv, Nat.reduceMod, Nat.reduceLT, Nat.reduceLeDiff, Nat.reduceBEq, Nat.reducePow, Int.reduceLE, Int.reduceLT, Int.reduceEq, Int.reduceNeg, Int.reduceAdd, Int.reduceToNat, h2, hgl, h2g, getD_map_lt, hgi, hrl])
      refine WK_loop hm hT 5000 (lst []) (ι := LoopI p fun _ => True)
        ⟨fun q => ⟨frL [(0, .fz (.i .i64 p)), (7, .fz (enc (gridB p l p))), (9, .fz (.b (consM p l))), (12, .fz (.i .i64 i)), (67, .fz (.i .i64 p)), (68, .fz (.i .i64 i)), (75, .fz (.i .i64 p)), (76, .fz (.i .i64 q.i))], hpL [], 3⟩, fun q => p - q.i⟩ ⟨0, by omega, trivial⟩ (by kernel_rfl) ?_ ?_
      · refine Weak_to ?_ ?_ ?_ <;> simp only [go_sem, reduceIte, reduceCtorEq, Nat.reduceEqDiff, Nat.reduceAdd, Nat.reduceSub, Nat.reduceMul, Nat.reduceDiv, Nat.reduceMod, Nat.reduceLT, Nat.reduceLeDiff, Nat.reduceBEq, Nat.reducePow, Int.reduceLE, Int.reduceLT, Int.reduceEq, Int.reduceNeg, Int.reduceAdd, Int.reduceToNat]
      rintro ⟨k, hk, _⟩
      rcases Nat.lt_or_ge k p with h3 | h3x
      · have h3g : k < (gridB p l p).length := by omega
        have hgk := grid_get h3g
        have hrk := rowB_len (p := p) (l := l) (i := k) (n := p)
        have h3r : k < (rowB p l i p).length := by omega
        have h2r : i < (rowB p l k p).length := by omega
        have hik := row_get2 h3r
        have hki := row_get2 h2r
        have hsym := same_sym h1 h2 h3
        have hor := cons_or h1 h2 h3
        obtain ⟨b1, hb1⟩ : ∃ b, b = consM p (withM l 1 k i) := ⟨_, rfl⟩
        obtain ⟨b2, hb2⟩ : ∃ b, b = consM p (withM l 3 k i) := ⟨_, rfl⟩
        obtain ⟨b3, hb3⟩ : ∃ b, b = consM p (withM l 1 i k) := ⟨_, rfl⟩
        have hn : bitsM p l k i = (if b1 = true then 1 else 0) + (if b2 = true then 2 else 0) + (if b3 = true then 4 else 0) := by unfold bitsM; rw [hb1, hb2, hb3]
        have hc : bitsM p l i k = (if b3 = true then 1 else 0) + (if b2 = true then 2 else 0) + (if b1 = true then 4 else 0) := by unfold bitsM; rw [hb1, hb2, hb3, hsym]
        rw [hsym, ← hb1, ← hb2, ← hb3] at hor
        have hself : i = k → b1 = false ∧ b3 = false := fun e => by
          subst e
          have := cons_self1 h1 h2
          exact ⟨hb1.trans this, hb3.trans this⟩
        by_cases eik : i = k
        · obtain ⟨rfl, rfl⟩ := hself eik
          clear hb1 hb3
          subst eik
          cases b2
          all_goals
            clear hb2
            simp only [Bool.false_eq_true, if_true, if_false, Int.reduceAdd, Bool.or_false, Bool.or_true] at hn hc hor
            repeat' (first | refine ReqK.i (by decide) fun _ => ?_ | refine ReqK.i (by omega) fun _ => ?_ | simp only [go_sem, reduceIte, reduceCtorEq, Nat.reduceEqDiff, Nat.reduceAdd, Nat.reduceSub, Nat.reduceMul, Nat.reduceDiv, Nat.reduceMod, Nat.reduceLT, Nat.reduceLeDiff, Nat.reduceBEq, Nat.reducePow, Int.reduceLE, Int.reduceLT, Int.reduceEq, Int.reduceNeg, Int.reduceAdd, Int.reduceToNat, h2, h3, hgl, h2g, h3g, getD_map_lt, hgi, hgk, hrl, hrk, h3r, h2r, hik, hki, hn, hc, hor, Int.reduceMul, Int.reduceDiv])
            refine ⟨⟨i + 1, by omega, trivial⟩, by simp only; omega, ?_⟩
            refine Weak_to ?_ ?_ ?_ <;> simp only [go_sem, reduceIte, reduceCtorEq, Nat.reduceEqDiff, Nat.reduceAdd, Nat.reduceSub, Nat.reduceMul, Nat.reduceDiv, Nat.reduceMod, Nat.reduceLT, Nat.reduceLeDiff, Nat.reduceBEq, Nat.reducePow, Int.reduceLE, Int.reduceLT, Int.reduceEq, Int.reduceNeg, Int.reduceAdd, Int.reduceToNat, hor]
        · cases b1 <;> cases b2 <;> cases b3
          all_goals
            clear hb1 hb2 hb3 hself
            simp only [Bool.false_eq_true, if_true, if_false, Int.reduceAdd, Bool.or_false, Bool.or_true] at hn hc hor
            repeat' (first | refine ReqK.i (by decide) fun _ => ?_ | refine ReqK.i (by omega) fun _ => ?_ | simp only [go_sem, reduceIte, reduceCtorEq, Nat.reduceEqDiff, Nat.reduceAdd, Nat.reduceSub, Nat.reduceMul, Nat.reduceDiv, Nat.reduceMod, Nat.reduceLT, Nat.reduceLeDiff, Nat.reduceBEq, Nat.reducePow, Int.reduceLE, Int.reduceLT, Int.reduceEq, Int.reduceNeg, Int.reduceAdd, Int.reduceToNat, h2, h3, hgl, h2g, h3g, getD_map_lt, hgi, hgk, hrl, hrk, h3r, h2r, hik, hki, hn, hc, hor, eik, Int.reduceMul, Int.reduceDiv])
            refine ⟨⟨k + 1, by omega, trivial⟩, by simp only; omega, ?_⟩
            refine Weak_to ?_ ?_ ?_ <;> simp only [go_sem, reduceIte, reduceCtorEq, Nat.reduceEqDiff, Nat.reduceAdd, Nat.reduceSub, Nat.reduceMul, Nat.reduceDiv, Nat.reduceMod, Nat.reduceLT, Nat.reduceLeDiff, Nat.reduceBEq, Nat.reducePow, Int.reduceLE, Int.reduceLT, Int.reduceEq, Int.reduceNeg, Int.reduceAdd, Int.reduceToNat, hor]
      · have h3 : ¬ k < p := by omega
        repeat' (first | refine ReqK.i (by omega) fun _ => ?_ | simp only [go_sem, reduceIte, reduceCtorEq, Nat.reduceEqDiff, Nat.reduceAdd, Nat.reduceSub, Nat.reduceMul, Nat.reduceDiv, Nat.reduceMod, Nat.reduceLT, Nat.reduceLeDiff, Nat.reduceBEq, Nat.reducePow, Int.reduceLE, Int.reduceLT, Int.reduceEq, Int.reduceNeg, Int.reduceAdd, Int.reduceToNat, h3])
        refine ⟨⟨i + 1, by omega, trivial⟩, by simp only; omega, ?_⟩
        refine Weak_to ?_ ?_ ?_ <;> simp only [go_sem, reduceIte, reduceCtorEq, Nat.reduceEqDiff, Nat.reduceAdd, Nat.reduceSub, Nat.reduceMul, Nat.reduceDiv, Nat.reduceMod, Nat.reduceLT, Nat.reduceLeDiff, Nat.reduceBEq, Nat.reducePow, Int.reduceLE, Int.reduceLT, Int.reduceEq, Int.reduceNeg, Int.reduceAdd, Int.reduceToNat]
    · have h2 : ¬ i < p := by omega
      repeat' (first | refine ReqK.i (by omega) fun _ => ?_ | simp only [go_sem, reduceIte, reduceCtorEq, Nat.reduceEqDiff, Nat.reduceAdd, Nat.reduceSub, Nat.reduceMul, Nat.reduceDiv, Nat.reduceMod, Nat.reduceLT, Nat.reduceLeDiff, Nat.reduceBEq, Nat.reducePow, Int.reduceLE, Int.reduceLT, Int.reduceEq, Int.reduceNeg, Int.reduceAdd, Int.reduceToNat, h2, Tryd.f5])
  · have e : cloM p l = ([], timesM p l) := by unfold cloM; rw [if_neg h1]
    repeat' (first | refine ReqK.i (by unfold maxL; decide) fun _ => ?_ | simp only [go_sem, reduceIte, reduceCtorEq, Nat.reduceEqDiff, Nat.reduceAdd, Nat.reduceSub, Nat.reduceMul, Nat.reduceDiv, Nat.reduceMod, Nat.reduceLT, Nat.reduceLeDiff, Nat.reduceBEq, Nat.reducePow, Int.reduceLE, Int.reduceLT, Int.reduceEq, Int.reduceNeg, Int.reduceAdd, Int.reduceToNat, U12, U11, U10, U9, clo1, dl, dg, G1, Tryd.f5, e, h1])
end Go.Proofs.YtbbcinpmomjbgaaDoor
