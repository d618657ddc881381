import Derived.Test.YtbbcinpmomjbgaaDoorP31
import Derived.Test.YtbbcinpmomjbgaaDoorOL
set_option linter.unusedSimpArgs false
namespace Go.Proofs.YtbbcinpmomjbgaaDoor
open Go Go.Abs Go.Proofs

theorem ints_get' {r : List Nat} {a : Nat} (h : a < r.length) : rk (ints r) (a : Int) = (rf r a : Int) := by
  have h' : a < (ints r).length := by rw [ints_len]; exact h
  rw [rk_get h']
  unfold rf
  rw [List.getD_eq_getElem?_getD, List.getElem?_eq_getElem h]
  simp [ints]
theorem holdI_N {r : List Nat} {x : Time} (hk : 1 ≤ x.kind ∧ x.kind ≤ 4) (hx : InR r.length x) : holdI (ints r) x = holdN r x := by
  obtain ⟨h1, h2, h3, h4⟩ := hx
  obtain ⟨k, xa, xb⟩ := x
  simp only at h1 h2 h3 h4 hk
  obtain ⟨a, rfl⟩ := Int.eq_ofNat_of_zero_le h1
  obtain ⟨b, rfl⟩ := Int.eq_ofNat_of_zero_le h3
  have ga := ints_get' (r := r) (a := a) (by omega)
  have gb := ints_get' (r := r) (a := b) (by omega)
  have hks : k = 1 ∨ k = 2 ∨ k = 3 ∨ k = 4 := by omega
  unfold holdI holdN HoldsF
  rw [Bool.eq_iff_iff]
  simp only [ga, gb, Int.toNat_natCast, decide_eq_true_eq]
  rcases hks with rfl | rfl | rfl | rfl <;> simp <;> omega
theorem fitI_N {r : List Nat} {x : Time} (hk : 1 ≤ x.kind ∧ x.kind ≤ 4) (hx : InR r.length x) : fitI (ints r) x = holdN r x := by
  obtain ⟨h1, h2, h3, h4⟩ := hx
  obtain ⟨k, xa, xb⟩ := x
  simp only at h1 h2 h3 h4 hk
  obtain ⟨a, rfl⟩ := Int.eq_ofNat_of_zero_le h1
  obtain ⟨b, rfl⟩ := Int.eq_ofNat_of_zero_le h3
  have ga := ints_get' (r := r) (a := a) (by omega)
  have gb := ints_get' (r := r) (a := b) (by omega)
  have hks : k = 1 ∨ k = 2 ∨ k = 3 ∨ k = 4 := by omega
  unfold fitI holdN HoldsF
  rw [Bool.eq_iff_iff]
  simp only [ga, gb, Int.toNat_natCast, decide_eq_true_eq]
  rcases hks with rfl | rfl | rfl | rfl <;> simp <;> omega
theorem mem_ints {r : List Nat} {k : Nat} : ((k : Int) ∈ ints r) ↔ k ∈ r := by
  simp only [ints, List.mem_map]
  constructor
  · rintro ⟨a, h1, h2⟩; rwa [← Int.ofNat_inj.1 h2]
  · exact fun h => ⟨k, h, rfl⟩
theorem ints_snoc {r : List Nat} {k : Nat} : ints (r ++ [k]) = ints r ++ [(k : Int)] := by simp [ints]
@[go_sem] theorem ints_take {r : List Nat} : (ints r).take r.length = ints r := List.take_of_length_le (by rw [ints_len]; exact Nat.le_refl _)
/-- a rank without the one below, among the first n -/
def badTo (r : List Nat) (n : Nat) : Bool := (List.range n).any fun k => decide (0 < k) && decide (k ∈ r) && !decide (k - 1 ∈ r)
theorem okR_bad {r : List Nat} {n : Nat} (h : ∀ k ∈ r, k < n) : okR r = !badTo r n := by
  unfold okR badTo
  rw [Bool.eq_iff_iff, List.all_eq_true, Bool.not_eq_true', List.any_eq_false]
  constructor
  · intro h1 k _ h2
    simp only [Bool.and_eq_true, decide_eq_true_eq, Bool.not_eq_true', decide_eq_false_iff_not] at h2
    have := h1 k h2.1.2
    simp only [Bool.or_eq_true, decide_eq_true_eq] at this
    rcases this with h3 | h3
    · omega
    · exact h2.2 h3
  · intro h1 k hk
    have := h1 k (List.mem_range.2 (h k hk))
    simp only [Bool.and_eq_true, decide_eq_true_eq, Bool.not_eq_true', decide_eq_false_iff_not, not_and, Classical.not_not] at this
    simp only [Bool.or_eq_true, decide_eq_true_eq]
    rcases Nat.eq_zero_or_pos k with h0 | h0
    · exact .inl h0
    · exact .inr (this ⟨h0, hk⟩)
theorem badTo_succ {r : List Nat} {n : Nat} : badTo r (n + 1) = (badTo r n || (decide (0 < n) && decide (n ∈ r) && !decide (n - 1 ∈ r))) := by
  unfold badTo; rw [List.range_succ, List.any_append]; simp

def outsI (W : List (List Nat)) : List (List Int) := W.map ints

def HHo (p : Nat) (l : List Time) (g : Nat) (outs : List (List Int)) : List (Abs.Id × Option O) :=
  [((23002, 0), some ⟨[.fz (.i .i64 p)], true, false⟩), ((23003, 1), some ⟨[.fz (enc l)], true, false⟩),
   ((23008, 5), some ⟨[.fn 34 [.ptr (23003, 1) 0, .ptr (23002, 0) 0, .ptr (23008, 5) 0, .ptr (23007, 4) 0]], true, false⟩),
   ((23007, 4), some ⟨[.ow (34075, g) 1 (outs.map enc)], true, false⟩), ((34075, g), some tok),
   ((23005, 2), some ⟨[.fz (.i .i64 0), .fz (.i .i64 0)], true, false⟩)]

structure OLI (n0 len : Nat) (q : Nat → Prop) where
  j : Nat
  m : Nat
  hj : j ≤ len
  hm : n0 ≤ m
  hq : q j
structure OLK (n0 len : Nat) (f : Nat → List (List Int)) where
  k : Nat
  g : Nat
  m : Nat
  o : List (List Int)
  hk : k ≤ len
  hg : g < m
  hm : n0 ≤ m
  ho : o = f k

def prunedTo (l : List Time) (r : List Nat) (j : Nat) : Bool := pruned (l.take j) r
theorem pruned_succ {l : List Time} {r : List Nat} {j : Nat} (h : j < l.length) : pruned (l.take (j + 1)) r = (pruned (l.take j) r || (decide (max l[j].a l[j].b = (r.length : Int) - 1) && !holdN r l[j])) := by
  unfold pruned; rw [List.take_succ_eq_append_getElem h, List.any_append]; simp
theorem pruned_at {l : List Time} {r : List Nat} {j : Nat} (h : j < l.length) (h1 : (decide (max l[j].a l[j].b = (r.length : Int) - 1) && !holdN r l[j]) = true) : pruned l r = true :=
  List.any_eq_true.2 ⟨l[j], List.getElem_mem h, h1⟩

theorem flat_monoI {α : Type} {f : Nat → List α} {k m : Nat} (h : k ≤ m) : ((List.range k).flatMap f).length ≤ ((List.range m).flatMap f).length := by
  induction m with
  | zero => obtain rfl : k = 0 := by omega
            exact Nat.le_refl _
  | succ m ih =>
    rcases Nat.lt_or_ge k (m + 1) with h' | h'
    · rw [List.range_succ (n := m), List.flatMap_append, List.length_append]
      exact Nat.le_trans (ih (by omega)) (Nat.le_add_right _ _)
    · obtain rfl : k = m + 1 := by omega
      exact Nat.le_refl _

set_option maxRecDepth 100000 in
set_option maxHeartbeats 1000000 in
theorem f34 (p : Nat) (l : List Time) (hp : p ≤ 6) (hll : l.length ≤ 300) (hl : ∀ x ∈ l, OkT p x) : ∀ (d : Nat) (r : List Nat) (outs : List (List Int)) (g n : Nat), r.length + d = p → (∀ k ∈ r, k < p) → g < n → 5 < n → outs.length + (walkN p l d r).length ≤ 1000000 →
    Wcall Tryd.prog G0 34 [.fz (enc (ints r)), .ptr (23003, 1) 0, .ptr (23002, 0) 0, .ptr (23008, 5) 0, .ptr (23007, 4) 0] (hpL (HHo p l g outs)) n
      (fun d' H' n' => d' = .tup [] ∧ ∃ g', g' < n' ∧ n ≤ n' ∧ HpOk H' (HHo p l g' (outs ++ (walkN p l d r).map ints)))
  | d, r, outs, g, n, hd, hr, hg, hn, hb => by
    have hrl : r.length ≤ 6 := by omega
    have hvals : ∀ v ∈ ints r, 0 ≤ v ∧ v ≤ 100 := fun v hv => by
      simp only [ints, List.mem_map] at hv
      obtain ⟨k, hk, rfl⟩ := hv
      have := hr k hk; omega
    refine Wcall_K (N := 76) hm hV4 34000 (lsw [75] []) ok34 Tryd.func34 rfl rfl (by simp) (by kernel_rfl) ?_
    repeat' (first | refine ReqK.i (by omega) fun _ => ?_ | simp only [go_sem, reduceIte, reduceCtorEq, Nat.reduceEqDiff, Nat.reduceAdd, Nat.reduceSub, Nat.reduceMul, Nat.reduceDiv, Nat.reduceMod, Nat.reduceLT, Nat.reduceLeDiff, Nat.reduceBEq, Nat.reducePow, Int.reduceLE, Int.reduceLT, Int.reduceEq, Int.reduceNeg, Int.reduceAdd, Int.reduceToNat, HHo])
    refine WK_loop hm hV4 34000 (lsw [75] []) (ι := OLI n l.length fun j => pruned (l.take j) r = false)
      ⟨fun q => ⟨frL [(0, .fz (enc (ints r))), (1, .ptr (23003, 1) 0), (2, .ptr (23002, 0) 0), (3, .ptr (23008, 5) 0), (4, .ptr (23007, 4) 0), (6, .fz (.i .i64 r.length)), (13, .fz (enc l)), (14, .fz (.i .i64 l.length)), (15, .fz (.i .i64 q.j))],
        hpL (HHo p l g outs), q.m⟩, fun q => l.length - q.j⟩ ⟨0, n, by omega, by omega, rfl⟩ (by kernel_rfl) ?_ ?_
    · refine Weak_to ?_ ?_ ?_ <;> simp only [go_sem, reduceIte, reduceCtorEq, Nat.reduceEqDiff, Nat.reduceAdd, Nat.reduceSub, Nat.reduceMul, Nat.reduceDiv, Nat.reduceMod, Nat.reduceLT, Nat.reduceLeDiff, Nat.reduceBEq, Nat.reducePow, Int.reduceLE, Int.reduceLT, Int.reduceEq, Int.reduceNeg, Int.reduceAdd, Int.reduceToNat, HHo]
    rintro ⟨j, m, hj, hm', hq⟩
    rcases Nat.lt_or_ge j l.length with h1 | h1
    · obtain ⟨hk, hin⟩ := hl _ (List.getElem_mem h1)
      obtain ⟨a1, a2, a3, a4⟩ := hin
      by_cases h2 : max l[j].a l[j].b = (r.length : Int) - 1
      · have hin2 : InR r.length l[j] := ⟨a1, by omega, a3, by omega⟩
        have hN := holdI_N hk hin2
        have hpre : InR r.length l[j] ∧ ∀ v ∈ ints r, 0 ≤ v ∧ v ≤ 100 := ⟨hin2, hvals⟩
        cases hb2 : holdN r l[j] with
        | true =>
          rw [hb2] at hN
          repeat' (first | refine ReqK.i hpre fun _ => ?_ | refine ReqK.i (by omega) fun _ => ?_ | simp only [go_sem, reduceIte, reduceCtorEq, Nat.reduceEqDiff, Nat.reduceAdd, Nat.reduceSub, Nat.reduceMul, Nat.reduceDiv, Nat.reduceMod, Nat.reduceLT, Nat.reduceLeDiff, Nat.reduceBEq, Nat.reducePow, Int.reduceLE, Int.reduceLT, Int.reduceEq, Int.reduceNeg, Int.reduceAdd, Int.reduceToNat, HHo, h1, getD_map_lt, h2, hN, V4, V3, V2, V1])
          refine ⟨⟨j + 1, m + 1, by omega, by omega, by rw [pruned_succ h1, hq, hb2]; simp⟩, by simp only; omega, ?_⟩
          refine Weak_to ?_ ?_ ?_ <;> simp only [go_sem, reduceIte, reduceCtorEq, Nat.reduceEqDiff, Nat.reduceAdd, Nat.reduceSub, Nat.reduceMul, Nat.reduceDiv, Nat.reduceMod, Nat.reduceLT, Nat.reduceLeDiff, Nat.reduceBEq, Nat.reducePow, Int.reduceLE, Int.reduceLT, Int.reduceEq, Int.reduceNeg, Int.reduceAdd, Int.reduceToNat, HHo]
        | false =>
          rw [hb2] at hN
          have hpr : pruned l r = true := pruned_at h1 (by rw [hb2]; simp [h2])
          have hw : walkN p l d r = [] := by cases d <;> (unfold walkN; rw [if_pos hpr])
          rw [hw]
          repeat' (first | refine ReqK.i hpre fun _ => ?_ | refine ReqK.i (by omega) fun _ => ?_ | simp only [go_sem, reduceIte, reduceCtorEq, Nat.reduceEqDiff, Nat.reduceAdd, Nat.reduceSub, Nat.reduceMul, Nat.reduceDiv, Nat.reduceMod, Nat.reduceLT, Nat.reduceLeDiff, Nat.reduceBEq, Nat.reducePow, Int.reduceLE, Int.reduceLT, Int.reduceEq, Int.reduceNeg, Int.reduceAdd, Int.reduceToNat, HHo, h1, getD_map_lt, h2, hN, V4, V3, V2, V1, Tryd.f34])
          exact ⟨g, by omega, by omega, rfl, by rw [if_pos rfl]⟩
      · have h3 := eq_false h2
        repeat' (first | refine ReqK.i (by omega) fun _ => ?_ | simp only [go_sem, reduceIte, reduceCtorEq, Nat.reduceEqDiff, Nat.reduceAdd, Nat.reduceSub, Nat.reduceMul, Nat.reduceDiv, Nat.reduceMod, Nat.reduceLT, Nat.reduceLeDiff, Nat.reduceBEq, Nat.reducePow, Int.reduceLE, Int.reduceLT, Int.reduceEq, Int.reduceNeg, Int.reduceAdd, Int.reduceToNat, HHo, h1, getD_map_lt, h3, V4, V3, V2, V1])
        refine ⟨⟨j + 1, m + 1, by omega, by omega, by rw [pruned_succ h1, hq]; simp [h2]⟩, by simp only; omega, ?_⟩
        refine Weak_to ?_ ?_ ?_ <;> simp only [go_sem, reduceIte, reduceCtorEq, Nat.reduceEqDiff, Nat.reduceAdd, Nat.reduceSub, Nat.reduceMul, Nat.reduceDiv, Nat.reduceMod, Nat.reduceLT, Nat.reduceLeDiff, Nat.reduceBEq, Nat.reducePow, Int.reduceLE, Int.reduceLT, Int.reduceEq, Int.reduceNeg, Int.reduceAdd, Int.reduceToNat, HHo]
    · rw [List.take_of_length_le h1] at hq
      have h1' : ¬ j < l.length := by omega
      cases d with
      | succ d =>
        have hrp : r.length < p := by omega
        have hw : walkN p l (d + 1) r = (List.range p).flatMap fun k => walkN p l d (r ++ [k]) := by rw [walkN, if_neg (by rw [hq]; simp)]
        rw [hw] at hb ⊢
        simp only [go_sem, reduceIte, reduceCtorEq, Nat.reduceEqDiff, Nat.reduceAdd, Nat.reduceSub, Nat.reduceMul, Nat.reduceDiv, Nat.reduceMod, Nat.reduceLT, Nat.reduceLeDiff, Nat.reduceBEq, Nat.reducePow, Int.reduceLE, Int.reduceLT, Int.reduceEq, Int.reduceNeg, Int.reduceAdd, Int.reduceToNat, HHo, h1']
        repeat' (first | refine ReqK.i (by omega) fun _ => ?_ | simp only [go_sem, reduceIte, reduceCtorEq, Nat.reduceEqDiff, Nat.reduceAdd, Nat.reduceSub, Nat.reduceMul, Nat.reduceDiv, Nat.reduceMod, Nat.reduceLT, Nat.reduceLeDiff, Nat.reduceBEq, Nat.reducePow, Int.reduceLE, Int.reduceLT, Int.reduceEq, Int.reduceNeg, Int.reduceAdd, Int.reduceToNat, HHo, h1', hrp])
        refine WK_loop hm hV4 34000 (lsw [75] []) (ι := OLK n p fun k => outs ++ ((List.range k).flatMap fun k => walkN p l d (r ++ [k])).map ints)
          ⟨fun q => ⟨frL [(0, .fz (enc (ints r))), (1, .ptr (23003, 1) 0), (2, .ptr (23002, 0) 0), (3, .ptr (23008, 5) 0), (4, .ptr (23007, 4) 0), (6, .fz (.i .i64 r.length)), (37, .fz (.i .i64 p)), (38, .fz (.i .i64 q.k))],
            hpL (HHo p l q.g q.o), q.m⟩, fun q => p - q.k⟩ ⟨0, g, m, outs, by omega, by omega, by omega, by simp⟩ (by kernel_rfl) ?_ ?_
        · refine Weak_to ?_ ?_ ?_ <;> simp only [go_sem, reduceIte, reduceCtorEq, Nat.reduceEqDiff, Nat.reduceAdd, Nat.reduceSub, Nat.reduceMul, Nat.reduceDiv, Nat.reduceMod, Nat.reduceLT, Nat.reduceLeDiff, Nat.reduceBEq, Nat.reducePow, Int.reduceLE, Int.reduceLT, Int.reduceEq, Int.reduceNeg, Int.reduceAdd, Int.reduceToNat, HHo]
        rintro ⟨k, g2, m2, o2, hk, hg2, hm2, ho2⟩
        rcases Nat.lt_or_ge k p with h2 | h2
        · have hstep : o2 ++ (walkN p l d (r ++ [k])).map ints = outs ++ ((List.range (k + 1)).flatMap fun k => walkN p l d (r ++ [k])).map ints := by
            rw [ho2, List.range_succ, List.flatMap_append, List.map_append, List.append_assoc]
            simp
          have hb2 : o2.length + (walkN p l d (r ++ [k])).length ≤ 1000000 := by
            have e1 := congrArg List.length hstep
            simp only [List.length_append, List.length_map] at e1
            have := flat_monoI (f := fun k => walkN p l d (r ++ [k])) (k := k + 1) (m := p) (by omega)
            omega
          repeat' (first | refine ReqK.i (by omega) fun _ => ?_ | refine ReqK.i (fits_of (by omega) (by decide)) fun _ => ?_ | refine ReqK.i (by unfold maxL; omega) fun _ => ?_ | simp only [go_sem, reduceIte, reduceCtorEq, Nat.reduceEqDiff, Nat.reduceAdd, Nat.reduceSub, Nat.reduceMul, Nat.reduceDiv, Nat.reduceMod, Nat.reduceLT, Nat.reduceLeDiff, Nat.reduceBEq, Nat.reducePow, Int.reduceLE, Int.reduceLT, Int.reduceEq, Int.reduceNeg, Int.reduceAdd, Int.reduceToNat, HHo, h2, V4, V3, V2, V1, U12, U11, U10, U9, U8, U7, U6, U5, U4, U3, U2, U1, Tbl0])
          have ea : (FD.sl (List.map enc (ints r) ++ [FD.i .i64 (k : Int)])) = enc (ints (r ++ [k])) := by rw [ints_snoc]; simp [enc_list, enc_int]
          have ih := f34 p l hp hll hl d (r ++ [k]) o2 g2 m2 (by simp; omega) (fun v hv => by
            rcases List.mem_append.1 hv with hv | hv
            · exact hr v hv
            · obtain rfl := List.mem_singleton.1 hv; exact h2) hg2 (by omega) hb2
          rw [← ea] at ih
          refine WcallK.i (Wcall_mono ih ?_)
          rintro d' H' n' ⟨rfl, g', e1, e2, e3⟩
          simp only [go_sem, reduceIte, reduceCtorEq, Nat.reduceEqDiff, Nat.reduceAdd, Nat.reduceSub, Nat.reduceMul, Nat.reduceDiv, Nat.reduceMod, Nat.reduceLT, Nat.reduceLeDiff, Nat.reduceBEq, Nat.reducePow, Int.reduceLE, Int.reduceLT, Int.reduceEq, Int.reduceNeg, Int.reduceAdd, Int.reduceToNat, HHo] at e3
          obtain ⟨b1, b2, b3, b4, b5, b6⟩ := e3
          repeat' (first | refine ReqK.i (by omega) fun _ => ?_ | simp only [go_sem, reduceIte, reduceCtorEq, Nat.reduceEqDiff, Nat.reduceAdd, Nat.reduceSub, Nat.reduceMul, Nat.reduceDiv, Nat.reduceMod, Nat.reduceLT, Nat.reduceLeDiff, Nat.reduceBEq, Nat.reducePow, Int.reduceLE, Int.reduceLT, Int.reduceEq, Int.reduceNeg, Int.reduceAdd, Int.reduceToNat, HHo])
          refine ⟨⟨k + 1, g', n', _, by omega, e1, by omega, hstep⟩, by simp only; omega, ?_⟩
          refine Weak_to ?_ ?_ ?_ <;> simp only [go_sem, reduceIte, reduceCtorEq, Nat.reduceEqDiff, Nat.reduceAdd, Nat.reduceSub, Nat.reduceMul, Nat.reduceDiv, Nat.reduceMod, Nat.reduceLT, Nat.reduceLeDiff, Nat.reduceBEq, Nat.reducePow, Int.reduceLE, Int.reduceLT, Int.reduceEq, Int.reduceNeg, Int.reduceAdd, Int.reduceToNat, HHo, b1, b2, b3, b4, b5, b6]
        · obtain rfl : k = p := by omega
          repeat' (first | refine ReqK.i (by omega) fun _ => ?_ | simp only [go_sem, reduceIte, reduceCtorEq, Nat.reduceEqDiff, Nat.reduceAdd, Nat.reduceSub, Nat.reduceMul, Nat.reduceDiv, Nat.reduceMod, Nat.reduceLT, Nat.reduceLeDiff, Nat.reduceBEq, Nat.reducePow, Int.reduceLE, Int.reduceLT, Int.reduceEq, Int.reduceNeg, Int.reduceAdd, Int.reduceToNat, HHo, Nat.lt_irrefl, Tryd.f34])
          exact ⟨g2, hg2, by omega, by rw [ho2]; simp [List.map_map], by rw [if_pos rfl]⟩
      | zero =>
        have hrp : ¬ r.length < p := by omega
        have hrpe : r.length = p := by omega
        have hok : okR r = !badTo r r.length := okR_bad (by rw [hrpe]; exact hr)
        have hw : walkN p l 0 r = if okR r then [r] else [] := by rw [walkN, if_neg (by rw [hq]; simp)]
        rw [hw] at hb ⊢
        repeat' (first | refine ReqK.i (by omega) fun _ => ?_ | simp only [go_sem, reduceIte, reduceCtorEq, Nat.reduceEqDiff, Nat.reduceAdd, Nat.reduceSub, Nat.reduceMul, Nat.reduceDiv, Nat.reduceMod, Nat.reduceLT, Nat.reduceLeDiff, Nat.reduceBEq, Nat.reducePow, Int.reduceLE, Int.reduceLT, Int.reduceEq, Int.reduceNeg, Int.reduceAdd, Int.reduceToNat, HHo, h1', hrp])
        refine WK_loop hm hV4 34000 (lsw [75] []) (ι := OLI n r.length fun k => badTo r k = false)
          ⟨fun q => ⟨frL [(0, .fz (enc (ints r))), (1, .ptr (23003, 1) 0), (2, .ptr (23002, 0) 0), (3, .ptr (23008, 5) 0), (4, .ptr (23007, 4) 0), (6, .fz (.i .i64 r.length)), (51, .fz (.i .i64 r.length)), (52, .fz (.i .i64 q.j))],
            hpL (HHo p l g outs), q.m⟩, fun q => r.length - q.j⟩ ⟨0, m, by omega, by omega, rfl⟩ (by kernel_rfl) ?_ ?_
        · refine Weak_to ?_ ?_ ?_ <;> simp only [go_sem, reduceIte, reduceCtorEq, Nat.reduceEqDiff, Nat.reduceAdd, Nat.reduceSub, Nat.reduceMul, Nat.reduceDiv, Nat.reduceMod, Nat.reduceLT, Nat.reduceLeDiff, Nat.reduceBEq, Nat.reducePow, Int.reduceLE, Int.reduceLT, Int.reduceEq, Int.reduceNeg, Int.reduceAdd, Int.reduceToNat, HHo]
        rintro ⟨k, m2, hk, hm2, hbd⟩
        rcases Nat.lt_or_ge k r.length with h2 | h2
        · cases hb2 : decide (0 < k) && decide (k ∈ r) && !decide (k - 1 ∈ r) with
          | true =>
            simp only [Bool.and_eq_true, decide_eq_true_eq, Bool.not_eq_true', decide_eq_false_iff_not] at hb2
            obtain ⟨⟨c1, c2⟩, c3⟩ := hb2
            have d1 : ((k : Int) ∈ ints r) = True := eq_true (mem_ints.2 c2)
            have d2 : ((k : Int) - 1 ∈ ints r) = False := eq_false fun h => c3 (by
              have : (k : Int) - 1 = ((k - 1 : Nat) : Int) := by omega
              rw [this] at h; exact mem_ints.1 h)
            have hbad : badTo r r.length = true := List.any_eq_true.2 ⟨k, List.mem_range.2 h2, by simp [c1, c2, c3]⟩
            rw [hbad] at hok
            have c1' : ((0 : Int) < (k : Int)) = True := eq_true (by omega)
            repeat' (first | refine ReqK.i (by omega) fun _ => ?_ | simp only [go_sem, reduceIte, reduceCtorEq, Nat.reduceEqDiff, Nat.reduceAdd, Nat.reduceSub, Nat.reduceMul, Nat.reduceDiv, Nat.reduceMod, Nat.reduceLT, Nat.reduceLeDiff, Nat.reduceBEq, Nat.reducePow, Int.reduceLE, Int.reduceLT, Int.reduceEq, Int.reduceNeg, Int.reduceAdd, Int.reduceToNat, HHo, h2, c1', d1, d2, hok, V4, V3, V2, V1, Tryd.f34])
            exact ⟨g, by omega, by omega, rfl, by rw [if_pos rfl]⟩
          | false =>
            have hnext : badTo r (k + 1) = false := by rw [badTo_succ, hbd, hb2]; rfl
            have hfin : ∀ {st : St}, True := fun {_} => trivial
            by_cases c1 : 0 < k
            · have c1' : ((0 : Int) < (k : Int)) = True := eq_true (by omega)
              by_cases c2 : k ∈ r
              · have c3 : k - 1 ∈ r := by simpa [c1, c2] using hb2
                have d1 : ((k : Int) ∈ ints r) = True := eq_true (mem_ints.2 c2)
                have d2 : ((k : Int) - 1 ∈ ints r) = True := eq_true (by
                  have : (k : Int) - 1 = ((k - 1 : Nat) : Int) := by omega
                  rw [this]; exact mem_ints.2 c3)
                repeat' (first | refine ReqK.i (by omega) fun _ => ?_ | simp only [go_sem, reduceIte, reduceCtorEq, Nat.reduceEqDiff, Nat.reduceAdd, Nat.reduceSub, Nat.reduceMul, Nat.reduceDiv, Nat.reduceMod, Nat.reduceLT, Nat.reduceLeDiff, Nat.reduceBEq, Nat.reducePow, Int.reduceLE, Int.reduceLT, Int.reduceEq, Int.reduceNeg, Int.reduceAdd, Int.reduceToNat, HHo, h2, c1', d1, d2, V4, V3, V2, V1])
                refine ⟨⟨k + 1, m2, by omega, by omega, hnext⟩, by simp only; omega, ?_⟩
                refine Weak_to ?_ ?_ ?_ <;> simp only [go_sem, reduceIte, reduceCtorEq, Nat.reduceEqDiff, Nat.reduceAdd, Nat.reduceSub, Nat.reduceMul, Nat.reduceDiv, Nat.reduceMod, Nat.reduceLT, Nat.reduceLeDiff, Nat.reduceBEq, Nat.reducePow, Int.reduceLE, Int.reduceLT, Int.reduceEq, Int.reduceNeg, Int.reduceAdd, Int.reduceToNat, HHo]
              · have d1 : ((k : Int) ∈ ints r) = False := eq_false fun h => c2 (mem_ints.1 h)
                repeat' (first | refine ReqK.i (by omega) fun _ => ?_ | simp only [go_sem, reduceIte, reduceCtorEq, Nat.reduceEqDiff, Nat.reduceAdd, Nat.reduceSub, Nat.reduceMul, Nat.reduceDiv, Nat.reduceMod, Nat.reduceLT, Nat.reduceLeDiff, Nat.reduceBEq, Nat.reducePow, Int.reduceLE, Int.reduceLT, Int.reduceEq, Int.reduceNeg, Int.reduceAdd, Int.reduceToNat, HHo, h2, c1', d1, V4, V3, V2, V1])
                refine ⟨⟨k + 1, m2, by omega, by omega, hnext⟩, by simp only; omega, ?_⟩
                refine Weak_to ?_ ?_ ?_ <;> simp only [go_sem, reduceIte, reduceCtorEq, Nat.reduceEqDiff, Nat.reduceAdd, Nat.reduceSub, Nat.reduceMul, Nat.reduceDiv, Nat.reduceMod, Nat.reduceLT, Nat.reduceLeDiff, Nat.reduceBEq, Nat.reducePow, Int.reduceLE, Int.reduceLT, Int.reduceEq, Int.reduceNeg, Int.reduceAdd, Int.reduceToNat, HHo]
            · have c1' : ((0 : Int) < (k : Int)) = False := eq_false (by omega)
              repeat' (first | refine ReqK.i (by omega) fun _ => ?_ | simp only [go_sem, reduceIte, reduceCtorEq, Nat.reduceEqDiff, Nat.reduceAdd, Nat.reduceSub, Nat.reduceMul, Nat.reduceDiv, Nat.reduceMod, Nat.reduceLT, Nat.reduceLeDiff, Nat.reduceBEq, Nat.reducePow, Int.reduceLE, Int.reduceLT, Int.reduceEq, Int.reduceNeg, Int.reduceAdd, Int.reduceToNat, HHo, h2, c1', V4, V3, V2, V1])
              refine ⟨⟨k + 1, m2, by omega, by omega, hnext⟩, by simp only; omega, ?_⟩
              refine Weak_to ?_ ?_ ?_ <;> simp only [go_sem, reduceIte, reduceCtorEq, Nat.reduceEqDiff, Nat.reduceAdd, Nat.reduceSub, Nat.reduceMul, Nat.reduceDiv, Nat.reduceMod, Nat.reduceLT, Nat.reduceLeDiff, Nat.reduceBEq, Nat.reducePow, Int.reduceLE, Int.reduceLT, Int.reduceEq, Int.reduceNeg, Int.reduceAdd, Int.reduceToNat, HHo]
        · obtain rfl : k = r.length := by omega
          rw [hbd] at hok
          rw [hok] at hb ⊢
          simp only [Bool.not_false, if_true, List.length_singleton, List.map_cons, List.map_nil] at hb ⊢
          repeat' (first | refine ReqK.i (by omega) fun _ => ?_ | refine ReqK.i (fits_of (by omega) (by decide)) fun _ => ?_ | refine ReqK.i (by unfold maxL; omega) fun _ => ?_ | simp only [go_sem, reduceIte, reduceCtorEq, Nat.reduceEqDiff, Nat.reduceAdd, Nat.reduceSub, Nat.reduceMul, Nat.reduceDiv, Nat.reduceMod, Nat.reduceLT, Nat.reduceLeDiff, Nat.reduceBEq, Nat.reducePow, Int.reduceLE, Int.reduceLT, Int.reduceEq, Int.reduceNeg, Int.reduceAdd, Int.reduceToNat, HHo, Nat.lt_irrefl, Tryd.f34])
          exact ⟨m2, by omega, by omega, rfl, by rw [if_pos rfl]⟩

def ordM (p : Int) (l : List Time) : List (List Int) × Fault :=
  if (timesM p l).code = 0 then (if 6 < p then ([], ⟨17, -1⟩) else ((orders p.toNat l).map ints, ⟨0, 0⟩)) else ([], timesM p l)
theorem codes_len {N : Nat} : ∀ n, (codes N n).length = N ^ n
  | 0 => rfl
  | n + 1 => by
    simp only [codes, List.length_flatMap, List.length_map, codes_len n]
    rw [Nat.pow_succ, Nat.mul_comm]
    rw [List.map_const', List.length_range, List.sum_replicate_nat]
theorem orders_len {p : Nat} {l : List Time} (hp : p ≤ 6) : (orders p l).length ≤ 46656 := by
  have h1 : (orders p l).length ≤ (codes p p).length := List.length_filter_le _ _
  rw [codes_len] at h1
  have h2 : p ^ p ≤ 46656 := by
    have : p = 0 ∨ p = 1 ∨ p = 2 ∨ p = 3 ∨ p = 4 ∨ p = 5 ∨ p = 6 := by omega
    rcases this with rfl | rfl | rfl | rfl | rfl | rfl | rfl <;> decide
  omega
theorem okT_of {p : Nat} {l : List Time} (h : (timesM p l).code = 0) : ∀ x ∈ l, OkT p x := by
  have := (consPre_of h).2.2.2
  simpa only [Int.toNat_natCast] using this

def V5 : Tbl := V4.add 23 (sp2p ordM fun _ _ => True)
set_option maxRecDepth 100000 in
set_option maxHeartbeats 1000000 in
theorem hV5 : TblOk Tryd.prog G0 V5 := by
  refine sp2p_ok ok23 hV4 fun p l _ _ _ => ?_
  refine Wcall_K (N := 24) hm hV4 23000 (lsw [] []) ok23 Tryd.func23 rfl rfl (by simp) (by kernel_rfl) ?_
  by_cases h1 : (timesM p l).code = 0
  · obtain ⟨hz, hp0, hp12, hll, _⟩ := times_zero h1
    by_cases h2 : 6 < p
    · have e : ordM p l = ([], ⟨17, -1⟩) := by unfold ordM; rw [if_pos h1, if_pos h2]
      repeat' (first | refine ReqK.i (by omega) fun _ => ?_ | simp only [go_sem, reduceIte, reduceCtorEq, Nat.reduceEqDiff, Nat.reduceAdd, Nat.reduceSub, Nat.reduceMul, Nat.reduceDiv, Nat.reduceMod, Nat.reduceLT, Nat.reduceLeDiff, Nat.reduceBEq, Nat.reducePow, Int.reduceLE, Int.reduceLT, Int.reduceEq, Int.reduceNeg, Int.reduceAdd, Int.reduceToNat, h1, h2, hz, e, V4, V3, V2, V1, U12, U11, U10, U9, U8, U7, U6, U5, U4, U3, U2, U1, Tbl0, Tryd.f23])
    · obtain ⟨p, rfl⟩ := Int.eq_ofNat_of_zero_le hp0
      have hp6 : p ≤ 6 := by omega
      have hT := okT_of h1
      have e : ordM p l = ((orders p l).map ints, ⟨0, 0⟩) := by unfold ordM; rw [if_pos h1, if_neg h2]; rfl
      have hW : walkN p l p [] = orders p l := walkN_orders fun x hx => (hT x hx).2
      have hol := orders_len (l := l) hp6
      repeat' (first | refine ReqK.i (by omega) fun _ => ?_ | simp only [go_sem, reduceIte, reduceCtorEq, Nat.reduceEqDiff, Nat.reduceAdd, Nat.reduceSub, Nat.reduceMul, Nat.reduceDiv, Nat.reduceMod, Nat.reduceLT, Nat.reduceLeDiff, Nat.reduceBEq, Nat.reducePow, Int.reduceLE, Int.reduceLT, Int.reduceEq, Int.reduceNeg, Int.reduceAdd, Int.reduceToNat, h1, h2, hz, e, V4, V3, V2, V1, U12, U11, U10, U9, U8, U7, U6, U5, U4, U3, U2, U1, Tbl0])
      refine WcallK.i (Wcall_g (args' := [.fz (enc (ints [])), .ptr (23003, 1) 0, .ptr (23002, 0) 0, .ptr (23008, 5) 0, .ptr (23007, 4) 0]) (hl := HHo p l 6 []) (n' := 7) [] [(34075, 6)] [] rfl ?_ ?_ ?_ ?_ ?_ ?_)
      · omega
      · simp only [go_sem, reduceIte, reduceCtorEq, Nat.reduceEqDiff, Nat.reduceAdd, Nat.reduceSub, Nat.reduceMul, Nat.reduceDiv, Nat.reduceMod, Nat.reduceLT, Nat.reduceLeDiff, Nat.reduceBEq, Nat.reducePow, Int.reduceLE, Int.reduceLT, Int.reduceEq, Int.reduceNeg, Int.reduceAdd, Int.reduceToNat]
      · simp only [go_sem, reduceIte, reduceCtorEq, Nat.reduceEqDiff, Nat.reduceAdd, Nat.reduceSub, Nat.reduceMul, Nat.reduceDiv, Nat.reduceMod, Nat.reduceLT, Nat.reduceLeDiff, Nat.reduceBEq, Nat.reducePow, Int.reduceLE, Int.reduceLT, Int.reduceEq, Int.reduceNeg, Int.reduceAdd, Int.reduceToNat, HHo]
      · simp only [go_sem, reduceIte, reduceCtorEq, Nat.reduceEqDiff, Nat.reduceAdd, Nat.reduceSub, Nat.reduceMul, Nat.reduceDiv, Nat.reduceMod, Nat.reduceLT, Nat.reduceLeDiff, Nat.reduceBEq, Nat.reducePow, Int.reduceLE, Int.reduceLT, Int.reduceEq, Int.reduceNeg, Int.reduceAdd, Int.reduceToNat, HHo]
      · simp only [go_sem, reduceIte, reduceCtorEq, Nat.reduceEqDiff, Nat.reduceAdd, Nat.reduceSub, Nat.reduceMul, Nat.reduceDiv, Nat.reduceMod, Nat.reduceLT, Nat.reduceLeDiff, Nat.reduceBEq, Nat.reducePow, Int.reduceLE, Int.reduceLT, Int.reduceEq, Int.reduceNeg, Int.reduceAdd, Int.reduceToNat, HHo, ints]
      refine Wcall_mono (f34 p l hp6 (by omega) hT p [] [] 6 7 (by simp) (by simp) (by omega) (by omega) (by rw [hW]; simp; omega)) ?_
      rintro d' H' n' ⟨rfl, g', e1, e2, e3⟩
      rw [hW] at e3
      simp only [go_sem, reduceIte, reduceCtorEq, Nat.reduceEqDiff, Nat.reduceAdd, Nat.reduceSub, Nat.reduceMul, Nat.reduceDiv, Nat.reduceMod, Nat.reduceLT, Nat.reduceLeDiff, Nat.reduceBEq, Nat.reducePow, Int.reduceLE, Int.reduceLT, Int.reduceEq, Int.reduceNeg, Int.reduceAdd, Int.reduceToNat, HHo] at e3
      obtain ⟨b1, b2, b3, b4, b5, b6⟩ := e3
      repeat' (first | refine ReqK.i (by omega) fun _ => ?_ | simp only [go_sem, reduceIte, reduceCtorEq, Nat.reduceEqDiff, Nat.reduceAdd, Nat.reduceSub, Nat.reduceMul, Nat.reduceDiv, Nat.reduceMod, Nat.reduceLT, Nat.reduceLeDiff, Nat.reduceBEq, Nat.reducePow, Int.reduceLE, Int.reduceLT, Int.reduceEq, Int.reduceNeg, Int.reduceAdd, Int.reduceToNat, HHo, b1, b2, b3, b4, b5, b6, e, Tryd.f23])
  · have e : ordM p l = ([], timesM p l) := by unfold ordM; rw [if_neg h1]
    repeat' (first | refine ReqK.i (by omega) fun _ => ?_ | simp only [go_sem, reduceIte, reduceCtorEq, Nat.reduceEqDiff, Nat.reduceAdd, Nat.reduceSub, Nat.reduceMul, Nat.reduceDiv, Nat.reduceMod, Nat.reduceLT, Nat.reduceLeDiff, Nat.reduceBEq, Nat.reducePow, Int.reduceLE, Int.reduceLT, Int.reduceEq, Int.reduceNeg, Int.reduceAdd, Int.reduceToNat, h1, e, V4, V3, V2, V1, U12, U11, U10, U9, U8, U7, U6, U5, U4, U3, U2, U1, Tbl0, Tryd.f23])
end Go.Proofs.YtbbcinpmomjbgaaDoor
