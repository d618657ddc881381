import Derived.Test.YtbbcinpmomjbgaaDoorPL
import Derived.Test.YtbbcinpmomjbgaaDoorA3
set_option linter.unusedSimpArgs false
namespace Go.Proofs.YtbbcinpmomjbgaaDoor
open Go Go.Abs Go.Proofs

def ints (l : List Nat) : List Int := l.map fun c : Nat => (c : Int)
@[go_sem] theorem ints_len {l : List Nat} : (ints l).length = l.length := by simp [ints]
theorem ints_get {l : List Nat} {i : Nat} (h : i < (ints l).length) : (ints l)[i] = (l[i]'(by simpa [ints] using h) : Int) := by simp [ints]
theorem ints_set {l : List Nat} {i c : Nat} : (ints l).set i (c : Int) = ints (l.set i c) := by simp [ints, List.map_set]
theorem mk1 {n : Nat} {d : D} : (List.range n).map (fun j => [d].getD (j % 1) .junk) = List.replicate n d := by
  simp [Nat.mod_one, List.map_const']
theorem rep_ints {n : Nat} : List.replicate n (D.fz (.i .i64 0)) = flatFz ((ints (List.replicate n 0)).map enc) := by
  rw [flat_one]; simp [ints, enc_int]

def mx (p : Nat) (cs : List Nat) : Nat := cs.foldl (fun p c => max p (c + 1)) p
theorem mx_le {n : Nat} : ∀ {cs : List Nat} {p : Nat}, p ≤ n → (∀ c ∈ cs, c < n) → mx p cs ≤ n
  | [], _, h, _ => h
  | c :: cs, p, h, hc => by
    have h1 := hc c List.mem_cons_self
    exact mx_le (cs := cs) (p := max p (c + 1)) (by omega) fun d hd => hc d (List.mem_cons_of_mem _ hd)
theorem le_mx : ∀ {cs : List Nat} {p : Nat}, p ≤ mx p cs
  | [], _ => Nat.le_refl _
  | c :: cs, p => Nat.le_trans (Nat.le_max_left p (c + 1)) (le_mx (cs := cs))

structure CI (n : Nat) (group : List Str) (W : List (List (List Str))) where
  code : List Nat
  outs : List (List (List Str))
  g : Nat
  m : Nat
  hl : code.length = n
  hd : ∀ c ∈ code, c < n
  hg : g < m
  hm : 1 ≤ m
  hW : outs ++ ((fromC n code).filter (okC 0)).map (fun cs => build group cs []) = W

structure MI (code : List Nat) (n : Nat) where
  j : Nat
  p : Nat
  b : Bool
  hj : j ≤ code.length
  hpn : p ≤ n
  hp : mx 0 code = mx p (code.drop j)
  hb : okC 0 code = (b && okC p (code.drop j))

structure PI (code : List Nat) (group : List Str) (p n0 : Nat) where
  i : Nat
  B : List (List Str)
  gs : Nat → Nat
  f : Heap
  m : Nat
  hi : i ≤ code.length
  hB : build (group.drop i) (code.drop i) B = build group code []
  hok : okC B.length (code.drop i) = true
  hp : mx B.length (code.drop i) = p
  hF : Fam 11058 m B gs f
  hm : n0 < m
  hlen : ∀ xs ∈ B, xs.length ≤ i

/-- what is left of the codes behind this one -/
def restC (N : Nat) (code : List Nat) : List (List Nat) := match nextC N code with | some c => fromC N c | none => []
structure KI (n : Nat) (code : List Nat) where
  k : Nat
  hk : k ≤ n
  hs : code.drop k = List.replicate (n - k) (n - 1)

def zc (n : Nat) (code : List Nat) (k : Nat) : List Nat := code.take k ++ List.replicate (n - k) 0
theorem zc_succ {n : Nat} {code : List Nat} {k : Nat} (h : k < code.length) : zc n code (k + 1) = code.take k ++ code[k] :: List.replicate (n - (k + 1)) 0 := by
  unfold zc; rw [List.take_succ_eq_append_getElem h, List.append_assoc]; rfl
theorem zc_get {n : Nat} {code : List Nat} {k : Nat} (h : k < code.length) : (flatFz ((ints (zc n code (k + 1))).map enc)).getD k .junk = .fz (.i .i64 (code[k] : Int)) := by
  have hl : k < (zc n code (k + 1)).length := by rw [zc_succ h]; simp; omega
  have hi : k < (ints (zc n code (k + 1))).length := by rw [ints_len]; exact hl
  rw [flat_getD hi, ints_get hi, enc_int]
  have : (zc n code (k + 1))[k] = code[k] := by
    simp only [zc_succ h]
    rw [List.getElem_append_right (by simp; omega)]
    simp [Nat.min_eq_left (Nat.le_of_lt h)]
  rw [this]
theorem zc_set {n : Nat} {code : List Nat} {k c : Nat} (h : k < code.length) : (ints (zc n code (k + 1))).set k (c : Int) = ints (code.take k ++ c :: List.replicate (n - (k + 1)) 0) := by
  rw [ints_set, zc_succ h, List.set_append_right _ _ (by simp; omega)]
  simp [Nat.min_eq_left (Nat.le_of_lt h)]
theorem zc_zero {n : Nat} {code : List Nat} {k : Nat} (h : k < code.length) (hn : code.length = n) : code.take k ++ 0 :: List.replicate (n - (k + 1)) 0 = zc n code k := by
  unfold zc
  rw [show n - k = n - (k + 1) + 1 by omega, List.replicate_succ]
theorem zc_len {n : Nat} {code : List Nat} {k : Nat} (hk : k ≤ n) (hn : code.length = n) : (zc n code k).length = n := by
  unfold zc; rw [List.length_append, List.length_take, List.length_replicate]; omega
theorem zc_all {n : Nat} {code : List Nat} (hn : code.length = n) : zc n code n = code := by
  unfold zc; rw [List.take_of_length_le (by omega), Nat.sub_self]; simp

theorem okC_zero {p : Nat} {cs : List Nat} (h : okC p cs = true) (hne : cs ≠ []) : cs.head hne ≤ p := by
  cases cs with
  | nil => exact absurd rfl hne
  | cons c cs => simp only [okC, Bool.and_eq_true, decide_eq_true_eq] at h; exact h.1
theorem build_cons {x : Str} {xs : List Str} {c : Nat} {cs : List Nat} {B : List (List Str)} : build (x :: xs) (c :: cs) B = build xs cs (addAt c x B) := rfl
theorem addAt_set {c : Nat} {x : Str} {B : List (List Str)} (h : c < B.length) : addAt c x B = B.set c (B[c] ++ [x]) := by
  unfold addAt; rw [if_pos h, List.getD_eq_getElem?_getD, List.getElem?_eq_getElem h]; rfl
theorem addAt_push {c : Nat} {x : Str} {B : List (List Str)} (h : c = B.length) : addAt c x B = B ++ [[x]] := by
  unfold addAt; rw [if_neg (by omega)]

theorem drop_at {α : Type} {l : List α} {j : Nat} (h : j < l.length) : l.drop j = l[j] :: l.drop (j + 1) := List.drop_eq_getElem_cons h

set_option maxRecDepth 100000 in
set_option maxHeartbeats 1000000 in
theorem hT12 : TblOk Tryd.prog G0 T12 := by
  refine sp1_ok ok11 hT11 fun l hl hw => ?_
  obtain ⟨hn1, hn5⟩ := hl
  obtain ⟨W, hW⟩ : ∃ W, W = walkM l [] := ⟨_, rfl⟩
  have hWn := walkM_len5 hn5
  rw [← hW] at hWn ⊢
  refine Wcall_post (Q := fun d H n => ∃ g, d = .arr (11064, g) 1 0 W.length ∧ g < n ∧ H (11064, g) = some ⟨flatFz (W.map enc), false, W.isEmpty⟩) ?_ ?_
  rotate_left
  · rintro d H n ⟨g, rfl, hg, hH⟩
    refine ⟨.fz (enc W), hpL [], n, ?_, rfl⟩
    refine Weak_g [] [] [((11064, g), W.map enc)] ?_ ?_ ?_ ?_ ?_ <;> simp only [go_sem, reduceIte, reduceCtorEq, Nat.reduceEqDiff, Nat.reduceAdd, Nat.reduceSub, Nat.reduceMul, Nat.reduceDiv, Nat.reduceMod, Nat.reduceLT, Nat.reduceLeDiff, Nat.reduceBEq, Nat.reducePow, Int.reduceLE, Int.reduceLT, Int.reduceEq, Int.reduceNeg, Int.reduceAdd, Int.reduceToNat, hH]
    intro hh; rw [List.isEmpty_iff.1 hh]; rfl
  have hn1' : ((1 : Int) ≤ l.length) = True := eq_true (by omega)
  refine Wcall_K (N := 92) hm hT11 11000 (lst [58, 63, 64]) ok11 Tryd.func11 rfl rfl (by simp) (by kernel_rfl) ?_
  simp only [go_sem, reduceIte, reduceCtorEq, Nat.reduceEqDiff, Nat.reduceAdd, Nat.reduceSub, Nat.reduceMul, Nat.reduceDiv, Nat.reduceMod, Nat.reduceLT, Nat.reduceLeDiff, Nat.reduceBEq, Nat.reducePow, Int.reduceLE, Int.reduceLT, Int.reduceEq, Int.reduceNeg, Int.reduceAdd, Int.reduceToNat]
  refine ReqK.i (by unfold maxL; omega) fun _ => ?_
  simp only [go_sem, reduceIte, reduceCtorEq, Nat.reduceEqDiff, Nat.reduceAdd, Nat.reduceSub, Nat.reduceMul, Nat.reduceDiv, Nat.reduceMod, Nat.reduceLT, Nat.reduceLeDiff, Nat.reduceBEq, Nat.reducePow, Int.reduceLE, Int.reduceLT, Int.reduceEq, Int.reduceNeg, Int.reduceAdd, Int.reduceToNat, mk1, rep_ints]
  refine WK_loop hm hT11 11000 (lst [58, 63, 64]) (ι := CI l.length l W)
    ⟨fun q => ⟨frL [(0, .fz (enc l)), (3, .fz (.i .i64 l.length)), (4, .arr (11017, 0) 1 0 l.length), (5, .arr (11064, q.g) 1 0 q.outs.length)],
      hpL [((11017, 0), some ⟨flatFz ((ints q.code).map enc), false, false⟩), ((11064, q.g), some ⟨flatFz (q.outs.map enc), false, q.outs.isEmpty⟩)], q.m⟩, fun q => (fromC l.length q.code).length⟩
    ⟨List.replicate l.length 0, [], 1, 2, by simp, fun c hc => by rw [List.eq_of_mem_replicate hc]; omega, by omega, by omega, by
      rw [fromC_zero _ (by omega), hW, walkM_codes l.length l [] (by simp)]; rfl⟩ (by kernel_rfl) ?_ ?_
  · refine Weak_g [] [(11064, 1)] [] ?_ ?_ ?_ ?_ ?_ <;> simp only [go_sem, reduceIte, reduceCtorEq, Nat.reduceEqDiff, Nat.reduceAdd, Nat.reduceSub, Nat.reduceMul, Nat.reduceDiv, Nat.reduceMod, Nat.reduceLT, Nat.reduceLeDiff, Nat.reduceBEq, Nat.reducePow, Int.reduceLE, Int.reduceLT, Int.reduceEq, Int.reduceNeg, Int.reduceAdd, Int.reduceToNat, List.getD_nil]
    all_goals omega
  · rintro ⟨code, outs, g, m, hcl, hcd, hg, hm1, hq⟩
    simp only [go_sem, reduceIte, reduceCtorEq, Nat.reduceEqDiff, Nat.reduceAdd, Nat.reduceSub, Nat.reduceMul, Nat.reduceDiv, Nat.reduceMod, Nat.reduceLT, Nat.reduceLeDiff, Nat.reduceBEq, Nat.reducePow, Int.reduceLE, Int.reduceLT, Int.reduceEq, Int.reduceNeg, Int.reduceAdd, Int.reduceToNat]
    have hlen : (ints code).length = l.length := by rw [ints_len]; exact hcl
    refine WK_loop hm hT11 11000 (lst [58, 63, 64]) (ι := MI code l.length)
      ⟨fun q => ⟨frL [(20, .fz (.i .i64 q.j)), (19, .fz (.i .i64 l.length)), (18, .arr (11017, 0) 1 0 l.length), (7, .fz (.b q.b)), (6, .fz (.i .i64 ((q.p : Int) - 1))), (0, .fz (enc l)), (3, .fz (.i .i64 l.length)), (4, .arr (11017, 0) 1 0 l.length), (5, .arr (11064, g) 1 0 outs.length)],
        hpL [((11017, 0), some ⟨flatFz ((ints code).map enc), false, false⟩), ((11064, g), some ⟨flatFz (outs.map enc), false, outs.isEmpty⟩)], m⟩, fun q => l.length - q.j⟩
      ⟨0, 0, true, by omega, by omega, rfl, by rw [Bool.true_and]; rfl⟩ (by kernel_rfl) ?_ ?_
    · refine Weak_to ?_ ?_ ?_ <;> simp only [go_sem, reduceIte, reduceCtorEq, Nat.reduceEqDiff, Nat.reduceAdd, Nat.reduceSub, Nat.reduceMul, Nat.reduceDiv, Nat.reduceMod, Nat.reduceLT, Nat.reduceLeDiff, Nat.reduceBEq, Nat.reducePow, Int.reduceLE, Int.reduceLT, Int.reduceEq, Int.reduceNeg, Int.reduceAdd, Int.reduceToNat, Int.zero_sub]
    · rintro ⟨j, p, b, hj, hpn, hp, hb⟩
      by_cases h2 : j < l.length
      · have hjc : j < code.length := by omega
        have hji : j < (ints code).length := by omega
        have hcn : code[j] < l.length := hcd _ (List.getElem_mem hjc)
        have hgd : (flatFz ((ints code).map enc)).getD j .junk = .fz (.i .i64 (code[j] : Int)) := by rw [flat_getD hji, ints_get hji, enc_int]
        have hg2 : code.drop j = code[j] :: code.drop (j + 1) := drop_at hjc
        have hdec : decide ((code[j] : Int) ≤ (p : Int) - 1 + 1) = decide (code[j] ≤ p) := by rw [decide_eq_decide]; omega
        have hok : okC p (code.drop j) = (decide (code[j] ≤ p) && okC (max p (code[j] + 1)) (code.drop (j + 1))) := by rw [hg2]; rfl
        have hmx : mx p (code.drop j) = mx (max p (code[j] + 1)) (code.drop (j + 1)) := by rw [hg2]; rfl
        cases b
        · repeat' (first | refine CondK.d (fun _ => ?_) (fun _ => ?_) | refine ReqK.i (by omega) fun _ => ?_ | simp only [go_sem, reduceIte, reduceCtorEq, Nat.reduceEqDiff, Nat.reduceAdd, Nat.reduceSub, Nat.reduceMul, Nat.reduceDiv, Nat.reduceMod, Nat.reduceLT, Nat.reduceLeDiff, Nat.reduceBEq, Nat.reducePow, Int.reduceLE, Int.reduceLT, Int.reduceEq, Int.reduceNeg, Int.reduceAdd, Int.reduceToNat, h2, hgd, hlen, hcl])
          · have hmm : max p (code[j] + 1) = code[j] + 1 := by omega
            refine ⟨⟨j + 1, code[j] + 1, false, by omega, by omega, by rw [hp, hmx, hmm], by rw [hb]; rfl⟩, by simp only; omega, ?_⟩
            refine Weak_to ?_ ?_ ?_ <;> simp only [go_sem, reduceIte, reduceCtorEq, Nat.reduceEqDiff, Nat.reduceAdd, Nat.reduceSub, Nat.reduceMul, Nat.reduceDiv, Nat.reduceMod, Nat.reduceLT, Nat.reduceLeDiff, Nat.reduceBEq, Nat.reducePow, Int.reduceLE, Int.reduceLT, Int.reduceEq, Int.reduceNeg, Int.reduceAdd, Int.reduceToNat, Int.add_sub_cancel]
          · have hmm : max p (code[j] + 1) = p := by omega
            refine ⟨⟨j + 1, p, false, by omega, by omega, by rw [hp, hmx, hmm], by rw [hb]; rfl⟩, by simp only; omega, ?_⟩
            refine Weak_to ?_ ?_ ?_ <;> simp only [go_sem, reduceIte, reduceCtorEq, Nat.reduceEqDiff, Nat.reduceAdd, Nat.reduceSub, Nat.reduceMul, Nat.reduceDiv, Nat.reduceMod, Nat.reduceLT, Nat.reduceLeDiff, Nat.reduceBEq, Nat.reducePow, Int.reduceLE, Int.reduceLT, Int.reduceEq, Int.reduceNeg, Int.reduceAdd, Int.reduceToNat]
        · repeat' (first | refine CondK.d (fun _ => ?_) (fun _ => ?_) | refine ReqK.i (by omega) fun _ => ?_ | simp only [go_sem, reduceIte, reduceCtorEq, Nat.reduceEqDiff, Nat.reduceAdd, Nat.reduceSub, Nat.reduceMul, Nat.reduceDiv, Nat.reduceMod, Nat.reduceLT, Nat.reduceLeDiff, Nat.reduceBEq, Nat.reducePow, Int.reduceLE, Int.reduceLT, Int.reduceEq, Int.reduceNeg, Int.reduceAdd, Int.reduceToNat, h2, hgd, hlen, hcl])
          · have hmm : max p (code[j] + 1) = code[j] + 1 := by omega
            refine ⟨⟨j + 1, code[j] + 1, decide (code[j] ≤ p), by omega, by omega, by rw [hp, hmx, hmm], by rw [hb, Bool.true_and, hok, hmm]⟩, by simp only; omega, ?_⟩
            refine Weak_to ?_ ?_ ?_ <;> simp only [go_sem, reduceIte, reduceCtorEq, Nat.reduceEqDiff, Nat.reduceAdd, Nat.reduceSub, Nat.reduceMul, Nat.reduceDiv, Nat.reduceMod, Nat.reduceLT, Nat.reduceLeDiff, Nat.reduceBEq, Nat.reducePow, Int.reduceLE, Int.reduceLT, Int.reduceEq, Int.reduceNeg, Int.reduceAdd, Int.reduceToNat, Int.add_sub_cancel, hdec]
          · have hmm : max p (code[j] + 1) = p := by omega
            refine ⟨⟨j + 1, p, decide (code[j] ≤ p), by omega, by omega, by rw [hp, hmx, hmm], by rw [hb, Bool.true_and, hok, hmm]⟩, by simp only; omega, ?_⟩
            refine Weak_to ?_ ?_ ?_ <;> simp only [go_sem, reduceIte, reduceCtorEq, Nat.reduceEqDiff, Nat.reduceAdd, Nat.reduceSub, Nat.reduceMul, Nat.reduceDiv, Nat.reduceMod, Nat.reduceLT, Nat.reduceLeDiff, Nat.reduceBEq, Nat.reducePow, Int.reduceLE, Int.reduceLT, Int.reduceEq, Int.reduceNeg, Int.reduceAdd, Int.reduceToNat, hdec]
      · have hdn : code.drop j = [] := List.drop_of_length_le (by omega)
        rw [hdn] at hp hb
        have hb2 : okC 0 code = b := by rw [hb]; cases b <;> rfl
        have hp2 : p = mx 0 code := by rw [hp]; rfl
        have hsub : (l.length : Int) - 1 ≤ 9223372036854775807 := by omega
        have hfc := fromC_next l.length code hcd
        cases b
        case' neg.false =>
          repeat' (first | refine ReqK.i (by omega) fun _ => ?_ | simp only [go_sem, reduceIte, reduceCtorEq, Nat.reduceEqDiff, Nat.reduceAdd, Nat.reduceSub, Nat.reduceMul, Nat.reduceDiv, Nat.reduceMod, Nat.reduceLT, Nat.reduceLeDiff, Nat.reduceBEq, Nat.reducePow, Int.reduceLE, Int.reduceLT, Int.reduceEq, Int.reduceNeg, Int.reduceAdd, Int.reduceToNat, h2, hlen, hcl])
          obtain ⟨outs2, ho2⟩ : ∃ o, o = outs := ⟨_, rfl⟩
          obtain ⟨g2, hg2⟩ : ∃ o, o = g := ⟨_, rfl⟩
          obtain ⟨m2, hm2⟩ : ∃ o, o = m := ⟨_, rfl⟩
          have hq2 : outs2 ++ ((restC l.length code).filter (okC 0)).map (fun cs => build l cs []) = W := by
            rw [ho2, ← hq, hfc, List.filter_cons, hb2]; rfl
          have hgm2 : g2 < m2 := by omega
          have hmm2 : 1 ≤ m2 := by omega
          refine WK_weak (l := [(0, .fz (enc l)), (3, .fz (.i .i64 l.length)), (4, .arr (11017, 0) 1 0 l.length), (5, .arr (11064, g2) 1 0 outs2.length), (13, .fz (.i .i64 ((l.length : Int) - 1)))]) (hl := [((11017, 0), some ⟨flatFz ((ints code).map enc), false, false⟩), ((11064, g2), some ⟨flatFz (outs2.map enc), false, outs2.isEmpty⟩)]) (m := m2) ?_ ?_
          · refine Weak_to ?_ ?_ ?_ <;> simp only [go_sem, reduceIte, reduceCtorEq, Nat.reduceEqDiff, Nat.reduceAdd, Nat.reduceSub, Nat.reduceMul, Nat.reduceDiv, Nat.reduceMod, Nat.reduceLT, Nat.reduceLeDiff, Nat.reduceBEq, Nat.reducePow, Int.reduceLE, Int.reduceLT, Int.reduceEq, Int.reduceNeg, Int.reduceAdd, Int.reduceToNat, ho2, hg2, hm2]
          clear ho2 hg2 hm2
        case' neg.true =>
          have hpt : ((p : Int) - 1 + 1) = (p : Int) := by omega
          repeat' (first | refine ReqK.i (by omega) fun _ => ?_ | refine ReqK.i (by unfold maxL; omega) fun _ => ?_ | simp only [go_sem, reduceIte, reduceCtorEq, Nat.reduceEqDiff, Nat.reduceAdd, Nat.reduceSub, Nat.reduceMul, Nat.reduceDiv, Nat.reduceMod, Nat.reduceLT, Nat.reduceLeDiff, Nat.reduceBEq, Nat.reducePow, Int.reduceLE, Int.reduceLT, Int.reduceEq, Int.reduceNeg, Int.reduceAdd, Int.reduceToNat, h2, hlen, hcl, hpt, mk1, ← famC_zero (α := Str) (tag := 11058) (gs := fun _ => 0)])
          refine WK_loop hm hT11 11000 (lst [58, 63, 64]) (ι := PI code l p m)
            ⟨fun q => ⟨frL [(42, .fz (.i .i64 q.i)), (41, .fz (.i .i64 l.length)), (40, .arr (11017, 0) 1 0 l.length), (10, .arr (11039, m) 1 0 p), (0, .fz (enc l)), (3, .fz (.i .i64 l.length)), (4, .arr (11017, 0) 1 0 l.length), (5, .arr (11064, g) 1 0 outs.length)],
              hpX [((11039, m), some ⟨famC 11058 q.B q.gs p, false, false⟩), ((11017, 0), some ⟨flatFz ((ints code).map enc), false, false⟩), ((11064, g), some ⟨flatFz (outs.map enc), false, outs.isEmpty⟩)] q.f, q.m⟩, fun q => l.length - q.i⟩
            ⟨0, [], fun _ => 0, H0, m + 1, by omega, rfl, hb2, by rw [hp2]; rfl, Fam.nil, by omega, by simp⟩ (by kernel_rfl) ?_ ?_
          · refine Weak_toX ?_ ?_ (by intro _ _ h; cases h) ?_ <;> simp only [go_sem, reduceIte, reduceCtorEq, Nat.reduceEqDiff, Nat.reduceAdd, Nat.reduceSub, Nat.reduceMul, Nat.reduceDiv, Nat.reduceMod, Nat.reduceLT, Nat.reduceLeDiff, Nat.reduceBEq, Nat.reducePow, Int.reduceLE, Int.reduceLT, Int.reduceEq, Int.reduceNeg, Int.reduceAdd, Int.reduceToNat]
          rintro ⟨i, B, gs, f, m3, hi, hB, hok, hpB, hF, hm3, hBl⟩
          rcases Nat.lt_or_ge i l.length with h4 | h4x
          · have hic : i < code.length := by omega
            have hii : i < (ints code).length := by omega
            have hcn : code[i] < l.length := hcd _ (List.getElem_mem hic)
            have hgd : (flatFz ((ints code).map enc)).getD i .junk = .fz (.i .i64 (code[i] : Int)) := by rw [flat_getD hii, ints_get hii, enc_int]
            have hg2 : code.drop i = code[i] :: code.drop (i + 1) := drop_at hic
            have hgl : l.drop i = l[i] :: l.drop (i + 1) := drop_at h4
            rw [hg2, hgl, build_cons] at hB
            rw [hg2] at hok hpB
            have hcB : code[i] ≤ B.length := okC_zero hok (List.cons_ne_nil _ _)
            have hok2 : okC (max B.length (code[i] + 1)) (code.drop (i + 1)) = true := by
              simp only [okC, Bool.and_eq_true] at hok; exact hok.2
            have hpB2 : mx (max B.length (code[i] + 1)) (code.drop (i + 1)) = p := hpB
            have hcp : code[i] < p := by
              have := le_mx (cs := code.drop (i + 1)) (p := max B.length (code[i] + 1))
              omega
            by_cases h5 : code[i] < B.length
            · have hgc := famC_get (tag := 11058) (gs := gs) hcp h5
              have hfc2 := famC_len (tag := 11058) (B := B) (gs := gs) (p := p)
              have hfg := hF.get _ h5
              have hlt := hF.lt _ h5
              have hbl := hBl _ (List.getElem_mem h5)
              have hmax : max B.length (code[i] + 1) = B.length := by omega
              rw [hmax] at hok2 hpB2
              rw [addAt_set h5] at hB
              repeat' (first | refine ReqK.i (by omega) fun _ => ?_ | refine ReqK.i (fits_of (by omega) (by decide)) fun _ => ?_ | simp only [go_sem, reduceIte, reduceCtorEq, Nat.reduceEqDiff, Nat.reduceAdd, Nat.reduceSub, Nat.reduceMul, Nat.reduceDiv, Nat.reduceMod, Nat.reduceLT, Nat.reduceLeDiff, Nat.reduceBEq, Nat.reducePow, Int.reduceLE, Int.reduceLT, Int.reduceEq, Int.reduceNeg, Int.reduceAdd, Int.reduceToNat, h4, hgd, hlen, hcl, hgc, hfc2, hcp, hfg, getD_map_lt])
              obtain ⟨ys, hys⟩ : ∃ ys, ys = B[code[i]] ++ [l[i]] := ⟨_, rfl⟩
              have hzc : flatFz (List.map enc B[code[i]]) ++ [D.fz (FD.s l[i].l)] = flatFz (List.map enc ys) := by rw [hys, ← flat_snoc]; rfl
              have hym : B[code[i]].length + 1 = ys.length := by rw [hys, List.length_append]; rfl
              rw [← hys] at hB
              refine ⟨⟨i + 1, B.set code[i] ys, _, _, m3 + 1, by omega, hB, by rw [List.length_set]; exact hok2, by rw [List.length_set]; exact hpB2, hF.set h5 (Nat.le_refl _), by omega, fun xs hx => ?_⟩, by simp only; omega, ?_⟩
              · rcases List.mem_or_eq_of_mem_set hx with hx | rfl
                · have := hBl _ hx; omega
                · omega
              refine Weak_toX ?_ ?_ (fun id o ho => ?_) ?_
              · simp only [go_sem, reduceIte, reduceCtorEq, Nat.reduceEqDiff, Nat.reduceAdd, Nat.reduceSub, Nat.reduceMul, Nat.reduceDiv, Nat.reduceMod, Nat.reduceLT, Nat.reduceLeDiff, Nat.reduceBEq, Nat.reducePow, Int.reduceLE, Int.reduceLT, Int.reduceEq, Int.reduceNeg, Int.reduceAdd, Int.reduceToNat]
              · simp only [go_sem, reduceIte, reduceCtorEq, Nat.reduceEqDiff, Nat.reduceAdd, Nat.reduceSub, Nat.reduceMul, Nat.reduceDiv, Nat.reduceMod, Nat.reduceLT, Nat.reduceLeDiff, Nat.reduceBEq, Nat.reducePow, Int.reduceLE, Int.reduceLT, Int.reduceEq, Int.reduceNeg, Int.reduceAdd, Int.reduceToNat, hzc, famC_set h5 hym]
              · have ht := (hF.set (xs := ys) h5 (Nat.le_refl _)).tg id o ho
                obtain ⟨a, b⟩ := id
                obtain rfl : a = 11058 := ht
                simp only [go_sem, reduceIte, reduceCtorEq, Nat.reduceEqDiff, Nat.reduceAdd, Nat.reduceSub, Nat.reduceMul, Nat.reduceDiv, Nat.reduceMod, Nat.reduceLT, Nat.reduceLeDiff, Nat.reduceBEq, Nat.reducePow, Int.reduceLE, Int.reduceLT, Int.reduceEq, Int.reduceNeg, Int.reduceAdd, Int.reduceToNat] at ho
                simp only [go_sem, reduceIte, reduceCtorEq, Nat.reduceEqDiff, Nat.reduceAdd, Nat.reduceSub, Nat.reduceMul, Nat.reduceDiv, Nat.reduceMod, Nat.reduceLT, Nat.reduceLeDiff, Nat.reduceBEq, Nat.reducePow, Int.reduceLE, Int.reduceLT, Int.reduceEq, Int.reduceNeg, Int.reduceAdd, Int.reduceToNat, hzc]
                exact ho
              · simp only [go_sem, reduceIte, reduceCtorEq, Nat.reduceEqDiff, Nat.reduceAdd, Nat.reduceSub, Nat.reduceMul, Nat.reduceDiv, Nat.reduceMod, Nat.reduceLT, Nat.reduceLeDiff, Nat.reduceBEq, Nat.reducePow, Int.reduceLE, Int.reduceLT, Int.reduceEq, Int.reduceNeg, Int.reduceAdd, Int.reduceToNat]
            · have h6 : code[i] = B.length := by omega
              have hgc := famC_get0 (tag := 11058) (gs := gs) hcp h5
              have hfc2 := famC_len (tag := 11058) (B := B) (gs := gs) (p := p)
              have hmax : max B.length (code[i] + 1) = (B ++ [[l[i]]]).length := by rw [List.length_append]; simp; omega
              rw [hmax] at hok2 hpB2
              rw [addAt_push h6] at hB
              repeat' (first | refine ReqK.i (by omega) fun _ => ?_ | refine ReqK.i (fits_of (by omega) (by decide)) fun _ => ?_ | simp only [go_sem, reduceIte, reduceCtorEq, Nat.reduceEqDiff, Nat.reduceAdd, Nat.reduceSub, Nat.reduceMul, Nat.reduceDiv, Nat.reduceMod, Nat.reduceLT, Nat.reduceLeDiff, Nat.reduceBEq, Nat.reducePow, Int.reduceLE, Int.reduceLT, Int.reduceEq, Int.reduceNeg, Int.reduceAdd, Int.reduceToNat, h4, hgd, hlen, hcl, hgc, hfc2, hcp, getD_map_lt])
              obtain ⟨ys, hys⟩ : ∃ ys, ys = [l[i]] := ⟨_, rfl⟩
              have hzc : [D.fz (FD.s l[i].l)] = flatFz (List.map enc ys) := by rw [hys]; rfl
              have hym : 1 = ys.length := by rw [hys]; rfl
              rw [← hys] at hB hok2 hpB2
              refine ⟨⟨i + 1, B ++ [ys], _, _, m3 + 1, by omega, hB, hok2, hpB2, hF.push (Nat.le_refl _), by omega, fun xs hx => ?_⟩, by simp only; omega, ?_⟩
              · rcases List.mem_append.1 hx with hx | hx
                · have := hBl _ hx; omega
                · obtain rfl := List.mem_singleton.1 hx; omega
              refine Weak_toX ?_ ?_ (fun id o ho => ?_) ?_
              · simp only [go_sem, reduceIte, reduceCtorEq, Nat.reduceEqDiff, Nat.reduceAdd, Nat.reduceSub, Nat.reduceMul, Nat.reduceDiv, Nat.reduceMod, Nat.reduceLT, Nat.reduceLeDiff, Nat.reduceBEq, Nat.reducePow, Int.reduceLE, Int.reduceLT, Int.reduceEq, Int.reduceNeg, Int.reduceAdd, Int.reduceToNat]
              · simp only [go_sem, reduceIte, reduceCtorEq, Nat.reduceEqDiff, Nat.reduceAdd, Nat.reduceSub, Nat.reduceMul, Nat.reduceDiv, Nat.reduceMod, Nat.reduceLT, Nat.reduceLeDiff, Nat.reduceBEq, Nat.reducePow, Int.reduceLE, Int.reduceLT, Int.reduceEq, Int.reduceNeg, Int.reduceAdd, Int.reduceToNat, hzc, famC_push h6 hym]
              · have ht := (hF.push (xs := ys) (Nat.le_refl _)).tg id o ho
                obtain ⟨a, b⟩ := id
                obtain rfl : a = 11058 := ht
                simp only [go_sem, reduceIte, reduceCtorEq, Nat.reduceEqDiff, Nat.reduceAdd, Nat.reduceSub, Nat.reduceMul, Nat.reduceDiv, Nat.reduceMod, Nat.reduceLT, Nat.reduceLeDiff, Nat.reduceBEq, Nat.reducePow, Int.reduceLE, Int.reduceLT, Int.reduceEq, Int.reduceNeg, Int.reduceAdd, Int.reduceToNat] at ho
                simp only [go_sem, reduceIte, reduceCtorEq, Nat.reduceEqDiff, Nat.reduceAdd, Nat.reduceSub, Nat.reduceMul, Nat.reduceDiv, Nat.reduceMod, Nat.reduceLT, Nat.reduceLeDiff, Nat.reduceBEq, Nat.reducePow, Int.reduceLE, Int.reduceLT, Int.reduceEq, Int.reduceNeg, Int.reduceAdd, Int.reduceToNat, hzc]
                exact ho
              · simp only [go_sem, reduceIte, reduceCtorEq, Nat.reduceEqDiff, Nat.reduceAdd, Nat.reduceSub, Nat.reduceMul, Nat.reduceDiv, Nat.reduceMod, Nat.reduceLT, Nat.reduceLeDiff, Nat.reduceBEq, Nat.reducePow, Int.reduceLE, Int.reduceLT, Int.reduceEq, Int.reduceNeg, Int.reduceAdd, Int.reduceToNat]
          have h4 : ¬ i < l.length := by omega
          have hie : i = code.length := by omega
          rw [List.drop_of_length_le (show l.length ≤ i by omega)] at hB
          rw [List.drop_of_length_le (show code.length ≤ i by omega)] at hpB
          have hBp : p = B.length := hpB.symm
          have hBe : B = build l code [] := hB
          have hon : outs.length ≤ 1000000 := by
            have := congrArg List.length hq
            rw [List.length_append] at this
            omega
          repeat' (first | refine ReqK.i (by omega) fun _ => ?_ | refine ReqK.i (fits_of (by omega) (by decide)) fun _ => ?_ | simp only [go_sem, reduceIte, reduceCtorEq, Nat.reduceEqDiff, Nat.reduceAdd, Nat.reduceSub, Nat.reduceMul, Nat.reduceDiv, Nat.reduceMod, Nat.reduceLT, Nat.reduceLeDiff, Nat.reduceBEq, Nat.reducePow, Int.reduceLE, Int.reduceLT, Int.reduceEq, Int.reduceNeg, Int.reduceAdd, Int.reduceToNat, h4, hlen, hcl])
          obtain ⟨outs2, ho2⟩ : ∃ o, o = outs ++ [B] := ⟨_, rfl⟩
          obtain ⟨g2, hg2⟩ : ∃ o, o = m3 + 1 := ⟨_, rfl⟩
          obtain ⟨m2, hm2⟩ : ∃ o, o = m3 + 1 + 1 := ⟨_, rfl⟩
          have hq2 : outs2 ++ ((restC l.length code).filter (okC 0)).map (fun cs => build l cs []) = W := by
            rw [ho2, ← hq, hfc, List.filter_cons, hb2, hBe, List.append_assoc]; rfl
          have hgm2 : g2 < m2 := by omega
          have hmm2 : 1 ≤ m2 := by omega
          have hol : outs2.length = outs.length + 1 := by rw [ho2, List.length_append]; rfl
          have hoe : outs2.isEmpty = false := by rw [ho2]; cases outs <;> rfl
          have hof : flatFz (outs2.map enc) = flatFz (outs.map enc) ++ [.fz (enc B)] := by rw [ho2, flat_snoc]
          refine WK_weak (l := [(0, .fz (enc l)), (3, .fz (.i .i64 l.length)), (4, .arr (11017, 0) 1 0 l.length), (5, .arr (11064, g2) 1 0 outs2.length), (13, .fz (.i .i64 ((l.length : Int) - 1)))]) (hl := [((11017, 0), some ⟨flatFz ((ints code).map enc), false, false⟩), ((11064, g2), some ⟨flatFz (outs2.map enc), false, outs2.isEmpty⟩)]) (m := m2) ?_ ?_
          · refine Weak_trans (b := ⟨frL [(0, .fz (enc l)), (3, .fz (.i .i64 l.length)), (4, .arr (11017, 0) 1 0 l.length), (5, .arr (11064, g2) 1 0 (outs.length + 1)), (13, .fz (.i .i64 ((l.length : Int) - 1)))], hpL [((11017, 0), some ⟨flatFz ((ints code).map enc), false, false⟩), ((11064, g2), some ⟨flatFz (outs.map enc) ++ [.arr (11039, m) 1 0 p], false, false⟩), ((11039, m), some ⟨flatFz (B.map enc), false, false⟩)], m2⟩) ?_ ?_
            · have z1 : famZ 11058 B gs (11017, 0) = none := famZ_ne (by simp)
              have z2 : famZ 11058 B gs (11064, m3 + 1) = none := famZ_ne (by simp)
              have z3 : famZ 11058 B gs (11039, m) = none := famZ_ne (by simp)
              refine Weak_gz [] [] (famZ 11058 B gs) ?_ (famZ_ok hF fun id o ho => ?_) ?_ ?_ ?_
              · simp only [go_sem, reduceIte, reduceCtorEq, Nat.reduceEqDiff, Nat.reduceAdd, Nat.reduceSub, Nat.reduceMul, Nat.reduceDiv, Nat.reduceMod, Nat.reduceLT, Nat.reduceLeDiff, Nat.reduceBEq, Nat.reducePow, Int.reduceLE, Int.reduceLT, Int.reduceEq, Int.reduceNeg, Int.reduceAdd, Int.reduceToNat, hm2]
              · have ht := hF.tg id o ho
                obtain ⟨a, b⟩ := id
                obtain rfl : a = 11058 := ht
                simp only [go_sem, reduceIte, reduceCtorEq, Nat.reduceEqDiff, Nat.reduceAdd, Nat.reduceSub, Nat.reduceMul, Nat.reduceDiv, Nat.reduceMod, Nat.reduceLT, Nat.reduceLeDiff, Nat.reduceBEq, Nat.reducePow, Int.reduceLE, Int.reduceLT, Int.reduceEq, Int.reduceNeg, Int.reduceAdd, Int.reduceToNat]
                exact ho
              · simp only [go_sem, reduceIte, reduceCtorEq, Nat.reduceEqDiff, Nat.reduceAdd, Nat.reduceSub, Nat.reduceMul, Nat.reduceDiv, Nat.reduceMod, Nat.reduceLT, Nat.reduceLeDiff, Nat.reduceBEq, Nat.reducePow, Int.reduceLE, Int.reduceLT, Int.reduceEq, Int.reduceNeg, Int.reduceAdd, Int.reduceToNat, z1, z2, z3, eq_true (famD hF hBp), hg2, hm2]
                omega
              · simp only [go_sem, reduceIte, reduceCtorEq, Nat.reduceEqDiff, Nat.reduceAdd, Nat.reduceSub, Nat.reduceMul, Nat.reduceDiv, Nat.reduceMod, Nat.reduceLT, Nat.reduceLeDiff, Nat.reduceBEq, Nat.reducePow, Int.reduceLE, Int.reduceLT, Int.reduceEq, Int.reduceNeg, Int.reduceAdd, Int.reduceToNat]
              · simp only [go_sem, reduceIte, reduceCtorEq, Nat.reduceEqDiff, Nat.reduceAdd, Nat.reduceSub, Nat.reduceMul, Nat.reduceDiv, Nat.reduceMod, Nat.reduceLT, Nat.reduceLeDiff, Nat.reduceBEq, Nat.reducePow, Int.reduceLE, Int.reduceLT, Int.reduceEq, Int.reduceNeg, Int.reduceAdd, Int.reduceToNat, hg2, hm2]
                omega
            · refine Weak_g [] [] [((11039, m), B.map enc)] ?_ ?_ ?_ ?_ ?_ <;> simp only [go_sem, reduceIte, reduceCtorEq, Nat.reduceEqDiff, Nat.reduceAdd, Nat.reduceSub, Nat.reduceMul, Nat.reduceDiv, Nat.reduceMod, Nat.reduceLT, Nat.reduceLeDiff, Nat.reduceBEq, Nat.reducePow, Int.reduceLE, Int.reduceLT, Int.reduceEq, Int.reduceNeg, Int.reduceAdd, Int.reduceToNat, hof, hoe, hol, hBp, hg2, hm2]
              all_goals omega
          clear ho2 hg2 hm2 hol hoe hof
        all_goals
          refine WK_loop hm hT11 11000 (lst [58, 63, 64]) (ι := KI l.length code)
            ⟨fun q => ⟨frL [(0, .fz (enc l)), (3, .fz (.i .i64 l.length)), (4, .arr (11017, 0) 1 0 l.length), (5, .arr (11064, g2) 1 0 outs2.length), (13, .fz (.i .i64 ((q.k : Int) - 1)))],
              hpL [((11017, 0), some ⟨flatFz ((ints (zc l.length code q.k)).map enc), false, false⟩), ((11064, g2), some ⟨flatFz (outs2.map enc), false, outs2.isEmpty⟩)], m2⟩, fun q => q.k⟩
            ⟨l.length, Nat.le_refl _, by rw [Nat.sub_self, List.drop_of_length_le (by omega)]; rfl⟩ (by kernel_rfl) ?_ ?_
          · refine Weak_to ?_ ?_ ?_ <;> simp only [go_sem, reduceIte, reduceCtorEq, Nat.reduceEqDiff, Nat.reduceAdd, Nat.reduceSub, Nat.reduceMul, Nat.reduceDiv, Nat.reduceMod, Nat.reduceLT, Nat.reduceLeDiff, Nat.reduceBEq, Nat.reducePow, Int.reduceLE, Int.reduceLT, Int.reduceEq, Int.reduceNeg, Int.reduceAdd, Int.reduceToNat, zc_all hcl]
          · rintro ⟨k, hk, hs⟩
            have hzl : (zc l.length code k).length = l.length := zc_len hk hcl
            cases k with
            | zero =>
              have hr : restC l.length code = [] := by
                unfold restC
                rw [show code = List.replicate l.length (l.length - 1) from by simpa using hs, nextC_full]
              rw [hr] at hq2
              have hq3 : outs2 = W := by simpa using hq2
              have e0 : decide ((0 : Int) ≤ 0 - 1) = false := by decide
              have e1 : decide ((0 : Int) - 1 < 0) = true := by decide
              repeat' (first | refine ReqK.i (by omega) fun _ => ?_ | simp only [go_sem, reduceIte, reduceCtorEq, Nat.reduceEqDiff, Nat.reduceAdd, Nat.reduceSub, Nat.reduceMul, Nat.reduceDiv, Nat.reduceMod, Nat.reduceLT, Nat.reduceLeDiff, Nat.reduceBEq, Nat.reducePow, Int.reduceLE, Int.reduceLT, Int.reduceEq, Int.reduceNeg, Int.reduceAdd, Int.reduceToNat, e0, e1, Tryd.f11])
              exact ⟨g2, by rw [hq3], hgm2, by rw [hq3, if_pos rfl]⟩
            | succ k =>
              have hkc : k < code.length := by omega
              have hkm : k < l.length := by omega
              have hg1 := zc_get (n := l.length) hkc
              have e0 : ((k : Int) + 1 - 1) = (k : Int) := by omega
              have e1 : decide ((k : Int) < 0) = false := decide_eq_false (by omega)
              have hcn : code[k] < l.length := hcd _ (List.getElem_mem hkc)
              have hs2 : code.drop (k + 1) = List.replicate (l.length - (k + 1)) (l.length - 1) := hs
              repeat' (first | refine CondK.d (fun _ => ?_) (fun _ => ?_) | refine ReqK.i (by omega) fun _ => ?_ | simp only [go_sem, reduceIte, reduceCtorEq, Nat.reduceEqDiff, Nat.reduceAdd, Nat.reduceSub, Nat.reduceMul, Nat.reduceDiv, Nat.reduceMod, Nat.reduceLT, Nat.reduceLeDiff, Nat.reduceBEq, Nat.reducePow, Int.reduceLE, Int.reduceLT, Int.reduceEq, Int.reduceNeg, Int.reduceAdd, Int.reduceToNat, e0, e1, hg1, hzl, hkm])
              · have hse : code[k] = l.length - 1 := by omega
                have hset : (flatFz (List.map enc (ints (zc l.length code (k + 1))))).set k (D.fz (FD.i .i64 0)) = flatFz (List.map enc (ints (zc l.length code k))) := by
                  rw [← zc_zero hkc hcl, ← zc_set hkc, ← flat_set]; rfl
                refine ⟨⟨k, by omega, by
                  rw [drop_at hkc, hs2, hse, ← List.replicate_succ]; congr 1; omega⟩, by simp only; omega, ?_⟩
                refine Weak_to ?_ ?_ ?_ <;> simp only [go_sem, reduceIte, reduceCtorEq, Nat.reduceEqDiff, Nat.reduceAdd, Nat.reduceSub, Nat.reduceMul, Nat.reduceDiv, Nat.reduceMod, Nat.reduceLT, Nat.reduceLeDiff, Nat.reduceBEq, Nat.reducePow, Int.reduceLE, Int.reduceLT, Int.reduceEq, Int.reduceNeg, Int.reduceAdd, Int.reduceToNat, hset]
              · have hse : code[k] + 1 < l.length := by omega
                have hset : (flatFz (List.map enc (ints (zc l.length code (k + 1))))).set k (D.fz (FD.i .i64 ((code[k] : Int) + 1))) = flatFz (List.map enc (ints (code.take k ++ (code[k] + 1) :: List.replicate (l.length - (k + 1)) 0))) := by
                  rw [← zc_set hkc, ← flat_set]; rfl
                have hcd2 : code = code.take k ++ code[k] :: List.replicate (l.length - (k + 1)) (l.length - 1) := by
                  rw [← hs2, ← drop_at hkc, List.take_append_drop]
                have hnx : nextC l.length code = some (code.take k ++ (code[k] + 1) :: List.replicate (l.length - (k + 1)) 0) := by
                  have := nextC_at l.length code[k] (l.length - (k + 1)) hse (code.take k)
                  rwa [← hcd2] at this
                have hrc : restC l.length code = fromC l.length (code.take k ++ (code[k] + 1) :: List.replicate (l.length - (k + 1)) 0) := by unfold restC; rw [hnx]
                rw [hrc] at hq2
                refine ⟨⟨code.take k ++ (code[k] + 1) :: List.replicate (l.length - (k + 1)) 0, outs2, g2, m2, ?_, ?_, hgm2, hmm2, hq2⟩, ?_, ?_⟩
                · rw [List.length_append, List.length_take, List.length_cons, List.length_replicate]; omega
                · intro c hc
                  rcases List.mem_append.1 hc with hc | hc
                  · exact hcd _ (List.mem_of_mem_take hc)
                  · rcases List.mem_cons.1 hc with rfl | hc
                    · exact hse
                    · rw [List.eq_of_mem_replicate hc]; omega
                · simp only
                  rw [← hrc, hfc]
                  exact Nat.lt_succ_self _
                · refine Weak_to ?_ ?_ ?_ <;> simp only [go_sem, reduceIte, reduceCtorEq, Nat.reduceEqDiff, Nat.reduceAdd, Nat.reduceSub, Nat.reduceMul, Nat.reduceDiv, Nat.reduceMod, Nat.reduceLT, Nat.reduceLeDiff, Nat.reduceBEq, Nat.reducePow, Int.reduceLE, Int.reduceLT, Int.reduceEq, Int.reduceNeg, Int.reduceAdd, Int.reduceToNat, hset]
end Go.Proofs.YtbbcinpmomjbgaaDoor
