import Derived.Test.YtbbcinpmomjbgaaDoorP32
import Derived.Test.YtbbcinpmomjbgaaDoorCL
set_option linter.unusedSimpArgs false
namespace Go.Proofs.YtbbcinpmomjbgaaDoor
open Go Go.Abs Go.Proofs

theorem ints_get {l : List Nat} {i : Nat} (h : i < (ints l).length) : (ints l)[i] = (l[i]'(by simpa [ints] using h) : Int) := by simp [ints]
theorem ints_set {l : List Nat} {i c : Nat} : (ints l).set i (c : Int) = ints (l.set i c) := by simp [ints, List.map_set]
theorem rep_ints {n : Nat} : List.replicate n (D.fz (.i .i64 0)) = flatFz ((ints (List.replicate n 0)).map enc) := by
  rw [flat_one]; simp [ints, enc_int]
def zc (n : Nat) (code : List Nat) (k : Nat) : List Nat := code.take k ++ List.replicate (n - k) 0
theorem zc_succ {n : Nat} {code : List Nat} {k : Nat} (h : k < code.length) : zc n code (k + 1) = code.take k ++ code[k] :: List.replicate (n - (k + 1)) 0 := by
  unfold zc; rw [List.take_succ_eq_append_getElem h, List.append_assoc]; rfl
theorem zc_get {n : Nat} {code : List Nat} {k : Nat} (h : k < code.length) : (flatFz ((ints (zc n code (k + 1))).map enc)).getD k .junk = .fz (.i .i64 (code[k] : Int)) := by
  have hl : k < (zc n code (k + 1)).length := by rw [zc_succ h]; simp; omega
  have hi : k < (ints (zc n code (k + 1))).length := by rw [ints_len]; exact hl
  rw [flat_getD hi, ints_get hi, enc_int]
  have : (zc n code (k + 1))[k] = code[k] := by
    simp only [zc_succ h]
    rw [List.getElem_append_right (by simp; omega)]
    simp [Nat.min_eq_left (Nat.le_of_lt h)]
  rw [this]
theorem zc_set {n : Nat} {code : List Nat} {k c : Nat} (h : k < code.length) : (ints (zc n code (k + 1))).set k (c : Int) = ints (code.take k ++ c :: List.replicate (n - (k + 1)) 0) := by
  rw [ints_set, zc_succ h, List.set_append_right _ _ (by simp; omega)]
  simp [Nat.min_eq_left (Nat.le_of_lt h)]
theorem zc_zero {n : Nat} {code : List Nat} {k : Nat} (h : k < code.length) (hn : code.length = n) : code.take k ++ 0 :: List.replicate (n - (k + 1)) 0 = zc n code k := by
  unfold zc
  rw [show n - k = n - (k + 1) + 1 by omega, List.replicate_succ]
theorem zc_len {n : Nat} {code : List Nat} {k : Nat} (hk : k ≤ n) (hn : code.length = n) : (zc n code k).length = n := by
  unfold zc; rw [List.length_append, List.length_take, List.length_replicate]; omega
theorem zc_all {n : Nat} {code : List Nat} (hn : code.length = n) : zc n code n = code := by
  unfold zc; rw [List.take_of_length_le (by omega), Nat.sub_self]; simp


def HHr (g : Nat) (r : List Nat) (s : List Bool) (g2 : Nat) : List (Abs.Id × Option O) :=
  [((21016, 0), some ⟨flatFz ((ints r).map enc), false, false⟩), ((21019, g), some ⟨flatFz (s.map enc), false, false⟩), ((21067, g2), some tok)]

set_option maxRecDepth 100000 in
set_option maxHeartbeats 1000000 in
theorem fit22 {r : List Nat} {x : Time} {g g2 n p : Nat} {s : List Bool} (hrl : r.length = p) (hp : p ≤ 100) (hin : InR p x) (hv : ∀ k ∈ r, k < p) : Wcall Tryd.prog G0 22 [.arr (21016, 0) 1 0 p, .fz (enc x)] (hpL (HHr g r s g2)) n
    (fun d H' n' => d = .fz (.b (fitI (ints r) x)) ∧ n ≤ n' ∧ HpOk H' (HHr g r s g2)) := by
  obtain ⟨h1, h2, h3, h4⟩ := hin
  obtain ⟨k, xa, xb⟩ := x
  simp only at h1 h2 h3 h4
  obtain ⟨a, rfl⟩ := Int.eq_ofNat_of_zero_le h1
  obtain ⟨b, rfl⟩ := Int.eq_ofNat_of_zero_le h3
  have ha : a < (ints r).length := by rw [ints_len]; omega
  have hb : b < (ints r).length := by rw [ints_len]; omega
  have ha' : a < p := by omega
  have hb' : b < p := by omega
  have ga := rk_get ha
  have gb := rk_get hb
  have da := flat_getD ha
  have db := flat_getD hb
  have va := hv _ (List.getElem_mem (show a < r.length by omega))
  have vb := hv _ (List.getElem_mem (show b < r.length by omega))
  rw [enc_int] at da db
  have e : fitI (ints r) ⟨k, a, b⟩ = (decide (k = 1) && decide (0 < (ints r)[b] - (ints r)[a]) || decide (k = 2) && decide (0 ≤ (ints r)[b] - (ints r)[a]) || decide (k = 3) && decide ((ints r)[b] - (ints r)[a] = 0) || decide (k = 4) && !decide ((ints r)[b] - (ints r)[a] = 0)) := by
    unfold fitI; simp only [ga, gb]
  rw [e]
  obtain ⟨d, hd⟩ : ∃ d, d = (ints r)[b] - (ints r)[a] := ⟨_, rfl⟩
  rw [← hd]
  have hk' : -9223372036854775808 ≤ d ∧ d ≤ 9223372036854775807 := by rw [hd, ints_get, ints_get]; omega
  refine Wcall_K (N := 51) hm hV5 22000 (lsw [] []) ok22 Tryd.func22 rfl rfl (by simp) (by kernel_rfl) ?_
  obtain ⟨c1, g1⟩ : ∃ c, decide (0 < d) = c := ⟨_, rfl⟩
  obtain ⟨c2, g2'⟩ : ∃ c, decide (0 ≤ d) = c := ⟨_, rfl⟩
  obtain ⟨c3, g3⟩ : ∃ c, decide (d = 0) = c := ⟨_, rfl⟩
  clear e ga gb va vb hv
  have hle : n ≤ n + 1 := Nat.le_succ n
  by_cases k1 : k = 1
  · cases c1 <;> (repeat' (first | refine ReqK.i (by omega) fun _ => ?_ | simp only [go_sem, reduceIte, reduceCtorEq, Nat.reduceEqDiff, Nat.reduceAdd, Nat.reduceSub, Nat.reduceMul, Nat.reduceDiv, Nat.reduceMod, Nat.reduceLT, Nat.reduceLeDiff, Nat.reduceBEq, Nat.reducePow, Int.reduceLE, Int.reduceLT, Int.reduceEq, Int.reduceNeg, Int.reduceAdd, Int.reduceToNat, HHr, hle, ints_len, hrl, ha', hb', da, db, k1, ← hd, hk', g1, g2', g3, Tryd.f22]))
  by_cases k2 : k = 2
  · cases c2 <;> (repeat' (first | refine ReqK.i (by omega) fun _ => ?_ | simp only [go_sem, reduceIte, reduceCtorEq, Nat.reduceEqDiff, Nat.reduceAdd, Nat.reduceSub, Nat.reduceMul, Nat.reduceDiv, Nat.reduceMod, Nat.reduceLT, Nat.reduceLeDiff, Nat.reduceBEq, Nat.reducePow, Int.reduceLE, Int.reduceLT, Int.reduceEq, Int.reduceNeg, Int.reduceAdd, Int.reduceToNat, HHr, hle, ints_len, hrl, ha', hb', da, db, k2, ← hd, hk', g1, g2', g3, Tryd.f22]))
  by_cases k3 : k = 3
  · cases c3 <;> (repeat' (first | refine ReqK.i (by omega) fun _ => ?_ | simp only [go_sem, reduceIte, reduceCtorEq, Nat.reduceEqDiff, Nat.reduceAdd, Nat.reduceSub, Nat.reduceMul, Nat.reduceDiv, Nat.reduceMod, Nat.reduceLT, Nat.reduceLeDiff, Nat.reduceBEq, Nat.reducePow, Int.reduceLE, Int.reduceLT, Int.reduceEq, Int.reduceNeg, Int.reduceAdd, Int.reduceToNat, HHr, hle, ints_len, hrl, ha', hb', da, db, k3, ← hd, hk', g1, g2', g3, Tryd.f22]))
  by_cases k4 : k = 4
  · cases c3 <;> (repeat' (first | refine ReqK.i (by omega) fun _ => ?_ | simp only [go_sem, reduceIte, reduceCtorEq, Nat.reduceEqDiff, Nat.reduceAdd, Nat.reduceSub, Nat.reduceMul, Nat.reduceDiv, Nat.reduceMod, Nat.reduceLT, Nat.reduceLeDiff, Nat.reduceBEq, Nat.reducePow, Int.reduceLE, Int.reduceLT, Int.reduceEq, Int.reduceNeg, Int.reduceAdd, Int.reduceToNat, HHr, hle, ints_len, hrl, ha', hb', da, db, k4, ← hd, hk', g1, g2', g3, Tryd.f22]))
  · repeat' (first | refine ReqK.i (by omega) fun _ => ?_ | simp only [go_sem, reduceIte, reduceCtorEq, Nat.reduceEqDiff, Nat.reduceAdd, Nat.reduceSub, Nat.reduceMul, Nat.reduceDiv, Nat.reduceMod, Nat.reduceLT, Nat.reduceLeDiff, Nat.reduceBEq, Nat.reducePow, Int.reduceLE, Int.reduceLT, Int.reduceEq, Int.reduceNeg, Int.reduceAdd, Int.reduceToNat, HHr, hle, ints_len, hrl, ha', hb', da, db, k1, k2, k3, k4, ← hd, hk', Tryd.f22])

theorem rep0_lt {p c : Nat} (h : c ∈ List.replicate p 0) : c < p := by
  have h1 := List.mem_replicate.1 h
  omega
structure CI (p : Nat) (l : List Time) (W : List (List Int)) where
  r : List Nat
  outs : List (List Int)
  g : Nat
  m : Nat
  hl : r.length = p
  hd : ∀ c ∈ r, c < p
  hg : g < m
  hm : 1 ≤ m
  hW : outs ++ ((fromC p r).filter (fine l)).map ints = W
structure LJ (n : Nat) (q : Nat → Nat → Prop) where
  j : Nat
  m : Nat
  hj : j ≤ n
  hq : q j m
structure LB (n n0 : Nat) (q : Nat → Bool → Prop) where
  j : Nat
  b : Bool
  m : Nat
  hj : j ≤ n
  hm : n0 ≤ m
  hq : q j b
structure KI (n : Nat) (code : List Nat) where
  k : Nat
  hk : k ≤ n
  hs : code.drop k = List.replicate (n - k) (n - 1)
theorem rep_bools' {n : Nat} : List.replicate n (D.fz (.b false)) = flatFz ((List.replicate n false).map enc) := by
  rw [flat_one]; simp [enc_bool]

theorem mx0 : mx 0 [] = 0 := rfl
def V6 : Tbl := V5.add 21 (sp2 (fun (p : Int) (l : List Time) => (orders p.toNat l).map ints) fun p l => 0 ≤ p ∧ p ≤ 6 ∧ ∀ x ∈ l, OkT p.toNat x)
set_option maxRecDepth 100000 in
set_option maxHeartbeats 4000000 in
theorem hV6 : TblOk Tryd.prog G0 V6 := by
  refine sp2_ok ok21 hV5 fun p l hpre _ hwl => ?_
  obtain ⟨hp0, hp6, hok⟩ := hpre
  have la := Wf_sl hwl
  simp only [List.length_map, maxL] at la
  obtain ⟨p, rfl⟩ := Int.eq_ofNat_of_zero_le hp0
  simp only [Int.toNat_natCast] at hok ⊢
  have hp6' : p ≤ 6 := by omega
  obtain ⟨W, hW⟩ : ∃ W, W = (orders p l).map ints := ⟨_, rfl⟩
  have hWn : W.length ≤ 46656 := by rw [hW, List.length_map]; exact orders_len hp6'
  rw [← hW]
  refine Wcall_K (N := 95) hm hU12 21000 (lsw [65, 67] []) ok21 Tryd.func21 rfl rfl (by simp) (by kernel_rfl) ?_
  repeat' (first | refine ReqK.i (by omega) fun _ => ?_ | refine ReqK.i (fits_of (by omega) (by decide)) fun _ => ?_ | refine ReqK.i (by unfold maxL; omega) fun _ => ?_ | simp only [go_sem, reduceIte, reduceCtorEq, Nat.reduceEqDiff, Nat.reduceAdd, Nat.reduceSub, Nat.reduceMul, Nat.reduceDiv, Nat.reduceMod, Nat.reduceLT, Nat.reduceLeDiff, Nat.reduceBEq, Nat.reducePow, Int.reduceLE, Int.reduceLT, Int.reduceEq, Int.reduceNeg, Int.reduceAdd, Int.reduceToNat, mk1', rep_ints])
  refine WK_loop hm hU12 21000 (lsw [65, 67] []) (ι := CI p l W)
    ⟨fun q => ⟨frL [(0, .fz (.i .i64 p)), (1, .fz (enc l)), (5, .arr (21016, 0) 1 0 p), (6, .ow (21067, q.g) 1 (q.outs.map enc))],
      hpL [((21016, 0), some ⟨flatFz ((ints q.r).map enc), false, false⟩), ((21067, q.g), some tok)], q.m⟩, fun q => (fromC p q.r).length⟩
    ⟨List.replicate p 0, [], 1, 2, by simp, fun c hc => rep0_lt hc, by omega, by omega, by
      rw [hW]; unfold orders
      rcases Nat.eq_zero_or_pos p with h | h
      · subst h; rfl
      · rw [fromC_zero _ h]; rfl⟩ (by kernel_rfl) ?_ ?_
  · refine Weak_g [] [(21067, 1)] [] ?_ ?_ ?_ ?_ ?_ <;> simp only [go_sem, reduceIte, reduceCtorEq, Nat.reduceEqDiff, Nat.reduceAdd, Nat.reduceSub, Nat.reduceMul, Nat.reduceDiv, Nat.reduceMod, Nat.reduceLT, Nat.reduceLeDiff, Nat.reduceBEq, Nat.reducePow, Int.reduceLE, Int.reduceLT, Int.reduceEq, Int.reduceNeg, Int.reduceAdd, Int.reduceToNat]
    all_goals omega
  rintro ⟨r, outs, g, m, hrl, hrd, hg, hm1, hq⟩
  have hil : (ints r).length = p := by rw [ints_len]; exact hrl
  have htn : ((p : Int) + 1).toNat = p + 1 := by omega
  have hs0 : flatFz ((seenL p []).map enc) = flatFz ((List.replicate p false).map enc) ++ [.fz (.b false)] := by rw [seenL_nil, List.replicate_succ', List.map_append, ← flat_app]; rfl
  repeat' (first | refine ReqK.i (by omega) fun _ => ?_ | refine ReqK.i (fits_of (by omega) (by decide)) fun _ => ?_ | refine ReqK.i (by unfold maxL; omega) fun _ => ?_ | simp only [go_sem, reduceIte, reduceCtorEq, Nat.reduceEqDiff, Nat.reduceAdd, Nat.reduceSub, Nat.reduceMul, Nat.reduceDiv, Nat.reduceMod, Nat.reduceLT, Nat.reduceLeDiff, Nat.reduceBEq, Nat.reducePow, Int.reduceLE, Int.reduceLT, Int.reduceEq, Int.reduceNeg, Int.reduceAdd, Int.reduceToNat, mk1', rep_bools', htn])
  refine WK_loop hm hU12 21000 (lsw [65, 67] []) (ι := LJ p fun j _ => True)
    ⟨fun q => ⟨frL [(0, .fz (.i .i64 p)), (1, .fz (enc l)), (5, .arr (21016, 0) 1 0 p), (6, .ow (21067, g) 1 (outs.map enc)), (7, .arr (21019, m) 1 0 (p + 1)), (8, .fz (.i .i64 ((mx 0 (r.take q.j) : Int) - 1))), (20, .arr (21016, 0) 1 0 p), (21, .fz (.i .i64 p)), (22, .fz (.i .i64 q.j))],
      hpL [((21016, 0), some ⟨flatFz ((ints r).map enc), false, false⟩), ((21019, m), some ⟨flatFz ((seenL p (r.take q.j)).map enc), false, false⟩), ((21067, g), some tok)], m + 1⟩, fun q => p - q.j⟩
    ⟨0, 0, by omega, trivial⟩ (by kernel_rfl) ?_ ?_
  · refine Weak_to ?_ ?_ ?_ <;> simp only [go_sem, reduceIte, reduceCtorEq, Nat.reduceEqDiff, Nat.reduceAdd, Nat.reduceSub, Nat.reduceMul, Nat.reduceDiv, Nat.reduceMod, Nat.reduceLT, Nat.reduceLeDiff, Nat.reduceBEq, Nat.reducePow, Int.reduceLE, Int.reduceLT, Int.reduceEq, Int.reduceNeg, Int.reduceAdd, Int.reduceToNat, List.take_zero, mx0, Int.zero_sub, htn, hs0, Nat.mod_one]
  rintro ⟨j, _, hj, _⟩
  rcases Nat.lt_or_ge j p with h1 | h1
  · have hjr : j < r.length := by omega
    have hji : j < (ints r).length := by omega
    have hgd : (flatFz ((ints r).map enc)).getD j .junk = .fz (.i .i64 (r[j] : Int)) := by rw [flat_getD hji, ints_get hji, enc_int]
    have hrj := hrd _ (List.getElem_mem hjr)
    have htk : r.take (j + 1) = r.take j ++ [r[j]] := List.take_succ_eq_append_getElem hjr
    have hsl := seenL_len (p := p) (s := r.take j)
    have hrj1 : r[j] < p + 1 := by omega
    have hst : (flatFz ((seenL p (r.take j)).map enc)).set r[j] (.fz (.b true)) = flatFz ((seenL p (r.take (j + 1))).map enc) := by rw [htk, ← seenL_snoc, ← flat_set]; rfl
    have hmx : mx 0 (r.take (j + 1)) = max (mx 0 (r.take j)) (r[j] + 1) := by rw [htk, mx_snoc]
    by_cases h2 : mx 0 (r.take j) ≤ r[j]
    · have h2' : ((mx 0 (r.take j) : Int) - 1 < (r[j] : Int)) = True := eq_true (by omega)
      have hm2 : ((mx 0 (r.take (j + 1)) : Int) - 1) = (r[j] : Int) := by rw [hmx]; omega
      repeat' (first | refine ReqK.i (by omega) fun _ => ?_ | refine ReqK.i (fits_of (by omega) (by decide)) fun _ => ?_ | refine ReqK.i (by unfold maxL; omega) fun _ => ?_ | simp only [go_sem, reduceIte, reduceCtorEq, Nat.reduceEqDiff, Nat.reduceAdd, Nat.reduceSub, Nat.reduceMul, Nat.reduceDiv, Nat.reduceMod, Nat.reduceLT, Nat.reduceLeDiff, Nat.reduceBEq, Nat.reducePow, Int.reduceLE, Int.reduceLT, Int.reduceEq, Int.reduceNeg, Int.reduceAdd, Int.reduceToNat, h1, hil, hgd, hsl, hrj1, hst, h2'])
      refine ⟨⟨j + 1, 0, by omega, trivial⟩, by simp only; omega, ?_⟩
      refine Weak_to ?_ ?_ ?_ <;> simp only [go_sem, reduceIte, reduceCtorEq, Nat.reduceEqDiff, Nat.reduceAdd, Nat.reduceSub, Nat.reduceMul, Nat.reduceDiv, Nat.reduceMod, Nat.reduceLT, Nat.reduceLeDiff, Nat.reduceBEq, Nat.reducePow, Int.reduceLE, Int.reduceLT, Int.reduceEq, Int.reduceNeg, Int.reduceAdd, Int.reduceToNat, hm2]
    · have h2' : ((mx 0 (r.take j) : Int) - 1 < (r[j] : Int)) = False := eq_false (by omega)
      have hm2 : mx 0 (r.take (j + 1)) = mx 0 (r.take j) := by rw [hmx]; omega
      repeat' (first | refine ReqK.i (by omega) fun _ => ?_ | refine ReqK.i (fits_of (by omega) (by decide)) fun _ => ?_ | refine ReqK.i (by unfold maxL; omega) fun _ => ?_ | simp only [go_sem, reduceIte, reduceCtorEq, Nat.reduceEqDiff, Nat.reduceAdd, Nat.reduceSub, Nat.reduceMul, Nat.reduceDiv, Nat.reduceMod, Nat.reduceLT, Nat.reduceLeDiff, Nat.reduceBEq, Nat.reducePow, Int.reduceLE, Int.reduceLT, Int.reduceEq, Int.reduceNeg, Int.reduceAdd, Int.reduceToNat, h1, hil, hgd, hsl, hrj1, hst, h2'])
      refine ⟨⟨j + 1, 0, by omega, trivial⟩, by simp only; omega, ?_⟩
      refine Weak_to ?_ ?_ ?_ <;> simp only [go_sem, reduceIte, reduceCtorEq, Nat.reduceEqDiff, Nat.reduceAdd, Nat.reduceSub, Nat.reduceMul, Nat.reduceDiv, Nat.reduceMod, Nat.reduceLT, Nat.reduceLeDiff, Nat.reduceBEq, Nat.reducePow, Int.reduceLE, Int.reduceLT, Int.reduceEq, Int.reduceNeg, Int.reduceAdd, Int.reduceToNat, hm2]
  obtain rfl : j = p := by omega
  have htr : r.take j = r := List.take_of_length_le (by omega)
  have hmle : mx 0 r ≤ j := mx_le (Nat.zero_le _) hrd
  have hsl := seenL_len (p := j) (s := r)
  obtain ⟨M, hM⟩ : ∃ M, M = mx 0 r := ⟨_, rfl⟩
  rw [← hM] at hmle
  repeat' (first | refine ReqK.i (by omega) fun _ => ?_ | refine ReqK.i (fits_of (by omega) (by decide)) fun _ => ?_ | refine ReqK.i (by unfold maxL; omega) fun _ => ?_ | simp only [go_sem, reduceIte, reduceCtorEq, Nat.reduceEqDiff, Nat.reduceAdd, Nat.reduceSub, Nat.reduceMul, Nat.reduceDiv, Nat.reduceMod, Nat.reduceLT, Nat.reduceLeDiff, Nat.reduceBEq, Nat.reducePow, Int.reduceLE, Int.reduceLT, Int.reduceEq, Int.reduceNeg, Int.reduceAdd, Int.reduceToNat, Nat.lt_irrefl, htr, ← hM])
  refine WK_loop hm hU12 21000 (lsw [65, 67] []) (ι := LJ M fun _ _ => True)
    ⟨fun q => ⟨frL [(0, .fz (.i .i64 j)), (1, .fz (enc l)), (5, .arr (21016, 0) 1 0 j), (6, .ow (21067, g) 1 (outs.map enc)), (7, .arr (21019, m) 1 0 (j + 1)), (8, .fz (.i .i64 ((M : Int) - 1))), (11, .fz (.b (contig r q.j))), (12, .fz (.i .i64 q.j))],
      hpL [((21016, 0), some ⟨flatFz ((ints r).map enc), false, false⟩), ((21019, m), some ⟨flatFz ((seenL j r).map enc), false, false⟩), ((21067, g), some tok)], m + 1⟩, fun q => M - q.j⟩
    ⟨0, 0, by omega, trivial⟩ (by kernel_rfl) ?_ ?_
  · have hc0 : contig r 0 = true := rfl
    refine Weak_to ?_ ?_ ?_ <;> simp only [go_sem, reduceIte, reduceCtorEq, Nat.reduceEqDiff, Nat.reduceAdd, Nat.reduceSub, Nat.reduceMul, Nat.reduceDiv, Nat.reduceMod, Nat.reduceLT, Nat.reduceLeDiff, Nat.reduceBEq, Nat.reducePow, Int.reduceLE, Int.reduceLT, Int.reduceEq, Int.reduceNeg, Int.reduceAdd, Int.reduceToNat, hc0, htr, ← hM]
  rintro ⟨k, _, hk, _⟩
  rcases Nat.lt_or_ge k M with h2 | h2
  · have hle : ((k : Int) ≤ (M : Int) - 1) = True := eq_true (by omega)
    have hki : k < (seenL j r).length := by omega
    have hki2 : k < j + 1 := by omega
    have hgd : (flatFz ((seenL j r).map enc)).getD k .junk = .fz (.b (decide (k ∈ r))) := by rw [flat_getD hki, seenL_get hki, enc_bool]
    have hcs := contig_succ (r := r) (n := k)
    cases hb : contig r k
    · rw [hb] at hcs
      repeat' (first | refine ReqK.i (by omega) fun _ => ?_ | refine ReqK.i (fits_of (by omega) (by decide)) fun _ => ?_ | refine ReqK.i (by unfold maxL; omega) fun _ => ?_ | simp only [go_sem, reduceIte, reduceCtorEq, Nat.reduceEqDiff, Nat.reduceAdd, Nat.reduceSub, Nat.reduceMul, Nat.reduceDiv, Nat.reduceMod, Nat.reduceLT, Nat.reduceLeDiff, Nat.reduceBEq, Nat.reducePow, Int.reduceLE, Int.reduceLT, Int.reduceEq, Int.reduceNeg, Int.reduceAdd, Int.reduceToNat, hle, hb])
      refine ⟨⟨k + 1, 0, by omega, trivial⟩, by simp only; omega, ?_⟩
      refine Weak_to ?_ ?_ ?_ <;> simp only [go_sem, reduceIte, reduceCtorEq, Nat.reduceEqDiff, Nat.reduceAdd, Nat.reduceSub, Nat.reduceMul, Nat.reduceDiv, Nat.reduceMod, Nat.reduceLT, Nat.reduceLeDiff, Nat.reduceBEq, Nat.reducePow, Int.reduceLE, Int.reduceLT, Int.reduceEq, Int.reduceNeg, Int.reduceAdd, Int.reduceToNat, hcs]
    · rw [hb] at hcs
      repeat' (first | refine ReqK.i (by omega) fun _ => ?_ | refine ReqK.i (fits_of (by omega) (by decide)) fun _ => ?_ | refine ReqK.i (by unfold maxL; omega) fun _ => ?_ | simp only [go_sem, reduceIte, reduceCtorEq, Nat.reduceEqDiff, Nat.reduceAdd, Nat.reduceSub, Nat.reduceMul, Nat.reduceDiv, Nat.reduceMod, Nat.reduceLT, Nat.reduceLeDiff, Nat.reduceBEq, Nat.reducePow, Int.reduceLE, Int.reduceLT, Int.reduceEq, Int.reduceNeg, Int.reduceAdd, Int.reduceToNat, hle, hb, hsl, hki2, hgd])
      refine ⟨⟨k + 1, 0, by omega, trivial⟩, by simp only; omega, ?_⟩
      refine Weak_to ?_ ?_ ?_ <;> simp only [go_sem, reduceIte, reduceCtorEq, Nat.reduceEqDiff, Nat.reduceAdd, Nat.reduceSub, Nat.reduceMul, Nat.reduceDiv, Nat.reduceMod, Nat.reduceLT, Nat.reduceLeDiff, Nat.reduceBEq, Nat.reducePow, Int.reduceLE, Int.reduceLT, Int.reduceEq, Int.reduceNeg, Int.reduceAdd, Int.reduceToNat, hcs]
  obtain rfl : k = M := by omega
  have hle : ((k : Int) ≤ (k : Int) - 1) = False := eq_false (by omega)
  have hcon : contig r k = okR r := by rw [okR_contig, hM]
  repeat' (first | refine ReqK.i (by omega) fun _ => ?_ | refine ReqK.i (fits_of (by omega) (by decide)) fun _ => ?_ | refine ReqK.i (by unfold maxL; omega) fun _ => ?_ | simp only [go_sem, reduceIte, reduceCtorEq, Nat.reduceEqDiff, Nat.reduceAdd, Nat.reduceSub, Nat.reduceMul, Nat.reduceDiv, Nat.reduceMod, Nat.reduceLT, Nat.reduceLeDiff, Nat.reduceBEq, Nat.reducePow, Int.reduceLE, Int.reduceLT, Int.reduceEq, Int.reduceNeg, Int.reduceAdd, Int.reduceToNat, hle, hcon])
  refine WK_loop hm hU12 21000 (lsw [65, 67] []) (ι := LB l.length (m + 1) fun i b => b = (okR r && (l.take i).all (holdN r)))
    ⟨fun q => ⟨frL [(0, .fz (.i .i64 j)), (1, .fz (enc l)), (5, .arr (21016, 0) 1 0 j), (6, .ow (21067, g) 1 (outs.map enc)), (11, .fz (.b q.b)), (13, .fz (.i .i64 q.j))],
      hpL (HHr m r (seenL j r) g), q.m⟩, fun q => l.length - q.j⟩
    ⟨0, okR r, m + 1, by omega, by omega, by simp⟩ (by kernel_rfl) ?_ ?_
  · refine Weak_to ?_ ?_ ?_ <;> simp only [go_sem, reduceIte, reduceCtorEq, Nat.reduceEqDiff, Nat.reduceAdd, Nat.reduceSub, Nat.reduceMul, Nat.reduceDiv, Nat.reduceMod, Nat.reduceLT, Nat.reduceLeDiff, Nat.reduceBEq, Nat.reducePow, Int.reduceLE, Int.reduceLT, Int.reduceEq, Int.reduceNeg, Int.reduceAdd, Int.reduceToNat, HHr, hcon]
  rintro ⟨i, b, m2, hi, hm2, hb⟩
  by_cases hgo : b = true ∧ i < l.length
  · obtain ⟨rfl, h3⟩ := hgo
    obtain ⟨hkk, hin⟩ := hok _ (List.getElem_mem h3)
    have hfit : fitI (ints r) l[i] = holdN r l[i] := fitI_N hkk (by rw [hrl]; exact hin)
    have hcall := fit22 (x := l[i]) (g := m) (g2 := g) (n := m2) (s := seenL j r) hrl (by omega) hin hrd
    rw [enc_time] at hcall
    simp only [go_sem, reduceIte, reduceCtorEq, Nat.reduceEqDiff, Nat.reduceAdd, Nat.reduceSub, Nat.reduceMul, Nat.reduceDiv, Nat.reduceMod, Nat.reduceLT, Nat.reduceLeDiff, Nat.reduceBEq, Nat.reducePow, Int.reduceLE, Int.reduceLT, Int.reduceEq, Int.reduceNeg, Int.reduceAdd, Int.reduceToNat, HHr] at hcall
    repeat' (first | refine ReqK.i (by omega) fun _ => ?_ | refine ReqK.i (fits_of (by omega) (by decide)) fun _ => ?_ | refine ReqK.i (by unfold maxL; omega) fun _ => ?_ | simp only [go_sem, reduceIte, reduceCtorEq, Nat.reduceEqDiff, Nat.reduceAdd, Nat.reduceSub, Nat.reduceMul, Nat.reduceDiv, Nat.reduceMod, Nat.reduceLT, Nat.reduceLeDiff, Nat.reduceBEq, Nat.reducePow, Int.reduceLE, Int.reduceLT, Int.reduceEq, Int.reduceNeg, Int.reduceAdd, Int.reduceToNat, HHr, h3, getD_map_lt, U12, U11, U10, U9, U8, U7, U6, U5, U4, U3, U2, U1, Tbl0])
    refine WcallK.i (Wcall_mono hcall ?_)
    rintro d' H' n' ⟨rfl, e1, e2, e3, e4⟩
    repeat' (first | refine ReqK.i (by omega) fun _ => ?_ | refine ReqK.i (fits_of (by omega) (by decide)) fun _ => ?_ | refine ReqK.i (by unfold maxL; omega) fun _ => ?_ | simp only [go_sem, reduceIte, reduceCtorEq, Nat.reduceEqDiff, Nat.reduceAdd, Nat.reduceSub, Nat.reduceMul, Nat.reduceDiv, Nat.reduceMod, Nat.reduceLT, Nat.reduceLeDiff, Nat.reduceBEq, Nat.reducePow, Int.reduceLE, Int.reduceLT, Int.reduceEq, Int.reduceNeg, Int.reduceAdd, Int.reduceToNat, HHr, hfit])
    refine ⟨⟨i + 1, holdN r l[i], n', by omega, by omega, ?_⟩, by simp only; omega, ?_⟩
    · have : okR r = true ∧ (l.take i).all (holdN r) = true := by simpa using hb.symm
      rw [List.take_succ_eq_append_getElem h3, List.all_append, this.1, this.2]; simp
    refine Weak_to ?_ ?_ ?_ <;> simp only [go_sem, reduceIte, reduceCtorEq, Nat.reduceEqDiff, Nat.reduceAdd, Nat.reduceSub, Nat.reduceMul, Nat.reduceDiv, Nat.reduceMod, Nat.reduceLT, Nat.reduceLeDiff, Nat.reduceBEq, Nat.reducePow, Int.reduceLE, Int.reduceLT, Int.reduceEq, Int.reduceNeg, Int.reduceAdd, Int.reduceToNat, HHr, e2, e3, e4]
  have hfin : b = fine l r := by
    unfold fine
    rw [hb]
    by_cases hi2 : i < l.length
    · have hbf : b = false := by
        cases b with
        | true => exact absurd ⟨rfl, hi2⟩ hgo
        | false => rfl
      rw [hbf] at hb
      rw [← hb]
      cases ho : okR r with
      | false => simp
      | true =>
        rw [ho, Bool.true_and] at hb
        have hall : l.all (holdN r) = false := by
          rw [List.all_eq_false]
          obtain ⟨x, hx, h5⟩ := List.all_eq_false.1 hb.symm
          exact ⟨x, List.mem_of_mem_take hx, h5⟩
        rw [hall]; rfl
    · rw [List.take_of_length_le (by omega), Bool.and_comm]
  have hsub : (j : Int) - 1 ≤ 9223372036854775807 := by omega
  have hfc := fromC_next j r hrd
  have hexit : b = false ∨ ¬ i < l.length := by
    cases b with
    | true => exact .inr fun h => hgo ⟨rfl, h⟩
    | false => exact .inl rfl
  have hol : outs.length ≤ 46656 := by
    have := congrArg List.length hq
    rw [List.length_append] at this
    omega
  cases b
  case' false =>
    repeat' (first | refine ReqK.i (by omega) fun _ => ?_ | refine ReqK.i (fits_of (by omega) (by decide)) fun _ => ?_ | refine ReqK.i (by unfold maxL; omega) fun _ => ?_ | simp only [go_sem, reduceIte, reduceCtorEq, Nat.reduceEqDiff, Nat.reduceAdd, Nat.reduceSub, Nat.reduceMul, Nat.reduceDiv, Nat.reduceMod, Nat.reduceLT, Nat.reduceLeDiff, Nat.reduceBEq, Nat.reducePow, Int.reduceLE, Int.reduceLT, Int.reduceEq, Int.reduceNeg, Int.reduceAdd, Int.reduceToNat, HHr])
    obtain ⟨outs2, ho2⟩ : ∃ o, o = outs := ⟨_, rfl⟩
    obtain ⟨g2, hg2⟩ : ∃ o, o = g := ⟨_, rfl⟩
    obtain ⟨n2, hn2⟩ : ∃ o, o = m2 := ⟨_, rfl⟩
    have hq2 : outs2 ++ ((restC j r).filter (fine l)).map ints = W := by
      rw [ho2, ← hq, hfc, List.filter_cons, ← hfin]; rfl
    have hgm2 : g2 < n2 := by omega
    have hmm2 : 1 ≤ n2 := by omega
    refine WK_weak (l := [(0, .fz (.i .i64 j)), (1, .fz (enc l)), (5, .arr (21016, 0) 1 0 j), (6, .ow (21067, g2) 1 (outs2.map enc)), (14, .fz (.i .i64 ((j : Int) - 1)))]) (hl := [((21016, 0), some ⟨flatFz ((ints r).map enc), false, false⟩), ((21067, g2), some tok)]) (m := n2) ?_ ?_
    · refine Weak_to ?_ ?_ ?_ <;> simp only [go_sem, reduceIte, reduceCtorEq, Nat.reduceEqDiff, Nat.reduceAdd, Nat.reduceSub, Nat.reduceMul, Nat.reduceDiv, Nat.reduceMod, Nat.reduceLT, Nat.reduceLeDiff, Nat.reduceBEq, Nat.reducePow, Int.reduceLE, Int.reduceLT, Int.reduceEq, Int.reduceNeg, Int.reduceAdd, Int.reduceToNat, ho2, hg2, hn2]
    clear ho2 hg2 hn2
  case' true =>
    have hi3 : ¬ i < l.length := hexit.resolve_left (by simp)
    have hti : (ints r).take j = ints r := List.take_of_length_le (by omega)
    repeat' (first | refine ReqK.i (by omega) fun _ => ?_ | refine ReqK.i (fits_of (by omega) (by decide)) fun _ => ?_ | refine ReqK.i (by unfold maxL; omega) fun _ => ?_ | simp only [go_sem, reduceIte, reduceCtorEq, Nat.reduceEqDiff, Nat.reduceAdd, Nat.reduceSub, Nat.reduceMul, Nat.reduceDiv, Nat.reduceMod, Nat.reduceLT, Nat.reduceLeDiff, Nat.reduceBEq, Nat.reducePow, Int.reduceLE, Int.reduceLT, Int.reduceEq, Int.reduceNeg, Int.reduceAdd, Int.reduceToNat, HHr, hi3, hil, hti])
    obtain ⟨outs2, ho2⟩ : ∃ o, o = outs ++ [ints r] := ⟨_, rfl⟩
    obtain ⟨g2, hg2⟩ : ∃ o, o = m2 + 1 := ⟨_, rfl⟩
    obtain ⟨n2, hn2⟩ : ∃ o, o = m2 + 1 + 1 := ⟨_, rfl⟩
    have hq2 : outs2 ++ ((restC j r).filter (fine l)).map ints = W := by
      rw [ho2, ← hq, hfc, List.filter_cons, ← hfin]; simp [restC]
    have hgm2 : g2 < n2 := by omega
    have hmm2 : 1 ≤ n2 := by omega
    refine WK_weak (l := [(0, .fz (.i .i64 j)), (1, .fz (enc l)), (5, .arr (21016, 0) 1 0 j), (6, .ow (21067, g2) 1 (outs2.map enc)), (14, .fz (.i .i64 ((j : Int) - 1)))]) (hl := [((21016, 0), some ⟨flatFz ((ints r).map enc), false, false⟩), ((21067, g2), some tok)]) (m := n2) ?_ ?_
    · refine Weak_to ?_ ?_ ?_ <;> simp only [go_sem, reduceIte, reduceCtorEq, Nat.reduceEqDiff, Nat.reduceAdd, Nat.reduceSub, Nat.reduceMul, Nat.reduceDiv, Nat.reduceMod, Nat.reduceLT, Nat.reduceLeDiff, Nat.reduceBEq, Nat.reducePow, Int.reduceLE, Int.reduceLT, Int.reduceEq, Int.reduceNeg, Int.reduceAdd, Int.reduceToNat, ho2, hg2, hn2]
    clear ho2 hg2 hn2
  all_goals
    refine WK_loop hm hU12 21000 (lsw [65, 67] []) (ι := KI j r)
      ⟨fun q => ⟨frL [(0, .fz (.i .i64 j)), (1, .fz (enc l)), (5, .arr (21016, 0) 1 0 j), (6, .ow (21067, g2) 1 (outs2.map enc)), (14, .fz (.i .i64 ((q.k : Int) - 1)))],
        hpL [((21016, 0), some ⟨flatFz ((ints (zc j r q.k)).map enc), false, false⟩), ((21067, g2), some tok)], n2⟩, fun q => q.k⟩
      ⟨j, Nat.le_refl _, by rw [Nat.sub_self, List.drop_of_length_le (by omega)]; rfl⟩ (by kernel_rfl) ?_ ?_
    · refine Weak_to ?_ ?_ ?_ <;> simp only [go_sem, reduceIte, reduceCtorEq, Nat.reduceEqDiff, Nat.reduceAdd, Nat.reduceSub, Nat.reduceMul, Nat.reduceDiv, Nat.reduceMod, Nat.reduceLT, Nat.reduceLeDiff, Nat.reduceBEq, Nat.reducePow, Int.reduceLE, Int.reduceLT, Int.reduceEq, Int.reduceNeg, Int.reduceAdd, Int.reduceToNat, zc_all hrl]
    · rintro ⟨k, hk, hs⟩
      have hzl : (ints (zc j r k)).length = j := by rw [ints_len]; exact zc_len hk hrl
      cases k with
      | zero =>
        have hr : restC j r = [] := by
          unfold restC
          rw [show r = List.replicate j (j - 1) from by simpa using hs, nextC_full]
        rw [hr] at hq2
        have hq3 : outs2 = W := by simpa using hq2
        have e0 : decide ((0 : Int) ≤ 0 - 1) = false := by decide
        have e1 : decide ((0 : Int) - 1 < 0) = true := by decide
        repeat' (first | refine ReqK.i (by omega) fun _ => ?_ | refine ReqK.i (fits_of (by omega) (by decide)) fun _ => ?_ | refine ReqK.i (by unfold maxL; omega) fun _ => ?_ | simp only [go_sem, reduceIte, reduceCtorEq, Nat.reduceEqDiff, Nat.reduceAdd, Nat.reduceSub, Nat.reduceMul, Nat.reduceDiv, Nat.reduceMod, Nat.reduceLT, Nat.reduceLeDiff, Nat.reduceBEq, Nat.reducePow, Int.reduceLE, Int.reduceLT, Int.reduceEq, Int.reduceNeg, Int.reduceAdd, Int.reduceToNat, e0, e1, hq3, Tryd.f21])
      | succ k =>
        have hkc : k < r.length := by omega
        have hkm : k < j := by omega
        have hg1 := zc_get (n := j) hkc
        have e0 : ((k : Int) + 1 - 1) = (k : Int) := by omega
        have e1 : decide ((k : Int) < 0) = false := decide_eq_false (by omega)
        have hcn : r[k] < j := hrd _ (List.getElem_mem hkc)
        have hs2 : r.drop (k + 1) = List.replicate (j - (k + 1)) (j - 1) := hs
        repeat' (first | refine CondK.d (fun _ => ?_) (fun _ => ?_) | refine ReqK.i (by omega) fun _ => ?_ | refine ReqK.i (fits_of (by omega) (by decide)) fun _ => ?_ | refine ReqK.i (by unfold maxL; omega) fun _ => ?_ | simp only [go_sem, reduceIte, reduceCtorEq, Nat.reduceEqDiff, Nat.reduceAdd, Nat.reduceSub, Nat.reduceMul, Nat.reduceDiv, Nat.reduceMod, Nat.reduceLT, Nat.reduceLeDiff, Nat.reduceBEq, Nat.reducePow, Int.reduceLE, Int.reduceLT, Int.reduceEq, Int.reduceNeg, Int.reduceAdd, Int.reduceToNat, e0, e1, hg1, hzl, hkm])
        · have hse : r[k] = j - 1 := by omega
          have hset : (flatFz (List.map enc (ints (zc j r (k + 1))))).set k (D.fz (FD.i .i64 0)) = flatFz (List.map enc (ints (zc j r k))) := by
            rw [← zc_zero hkc hrl, ← zc_set hkc, ← flat_set]; rfl
          refine ⟨⟨k, by omega, by
            rw [List.drop_eq_getElem_cons hkc, hs2, hse, ← List.replicate_succ]; congr 1; omega⟩, by simp only; omega, ?_⟩
          refine Weak_to ?_ ?_ ?_ <;> simp only [go_sem, reduceIte, reduceCtorEq, Nat.reduceEqDiff, Nat.reduceAdd, Nat.reduceSub, Nat.reduceMul, Nat.reduceDiv, Nat.reduceMod, Nat.reduceLT, Nat.reduceLeDiff, Nat.reduceBEq, Nat.reducePow, Int.reduceLE, Int.reduceLT, Int.reduceEq, Int.reduceNeg, Int.reduceAdd, Int.reduceToNat, hset]
        · have hse : r[k] + 1 < j := by omega
          have hset : (flatFz (List.map enc (ints (zc j r (k + 1))))).set k (D.fz (FD.i .i64 ((r[k] : Int) + 1))) = flatFz (List.map enc (ints (r.take k ++ (r[k] + 1) :: List.replicate (j - (k + 1)) 0))) := by
            rw [← zc_set hkc, ← flat_set]; rfl
          have hcd2 : r = r.take k ++ r[k] :: List.replicate (j - (k + 1)) (j - 1) := by
            rw [← hs2, ← List.drop_eq_getElem_cons hkc, List.take_append_drop]
          have hnx : nextC j r = some (r.take k ++ (r[k] + 1) :: List.replicate (j - (k + 1)) 0) := by
            have := nextC_at j r[k] (j - (k + 1)) hse (r.take k)
            rwa [← hcd2] at this
          have hrc : restC j r = fromC j (r.take k ++ (r[k] + 1) :: List.replicate (j - (k + 1)) 0) := by unfold restC; rw [hnx]
          rw [hrc] at hq2
          refine ⟨⟨r.take k ++ (r[k] + 1) :: List.replicate (j - (k + 1)) 0, outs2, g2, n2, ?_, ?_, hgm2, hmm2, hq2⟩, ?_, ?_⟩
          · rw [List.length_append, List.length_take, List.length_cons, List.length_replicate]; omega
          · intro c hc
            rcases List.mem_append.1 hc with hc | hc
            · exact hrd c (List.mem_of_mem_take hc)
            · rcases List.mem_cons.1 hc with rfl | hc
              · exact hse
              · rw [List.eq_of_mem_replicate hc]; omega
          · simp only
            rw [← hrc, hfc]
            exact Nat.lt_succ_self _
          · refine Weak_to ?_ ?_ ?_ <;> simp only [go_sem, reduceIte, reduceCtorEq, Nat.reduceEqDiff, Nat.reduceAdd, Nat.reduceSub, Nat.reduceMul, Nat.reduceDiv, Nat.reduceMod, Nat.reduceLT, Nat.reduceLeDiff, Nat.reduceBEq, Nat.reducePow, Int.reduceLE, Int.reduceLT, Int.reduceEq, Int.reduceNeg, Int.reduceAdd, Int.reduceToNat, hset]
end Go.Proofs.YtbbcinpmomjbgaaDoor
