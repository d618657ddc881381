import Derived.Test.YtbbcinpmomjbgaaDoorP3
import Derived.Test.YtbbcinpmomjbgaaDoorA2
set_option linter.unusedSimpArgs false
namespace Go.Proofs.YtbbcinpmomjbgaaDoor
open Go Go.Abs Go.Proofs

set_option maxRecDepth 100000 in
set_option maxHeartbeats 1000000 in
theorem clone_own {l : List Str} (hne : l ≠ []) (hl : l.length ≤ 4194304) {H : Heap} {n : Nat} {R : D → Heap → Nat → Prop}
    (hR : R (.arr (26007, n) 1 0 l.length) (updH H (26007, n) (some ⟨flatFz (l.map enc), false, false⟩)) (n + 1)) : Wcall Tryd.prog G0 26 [.fz (enc l)] H n R := by
  refine Wcall_K (N := 8) hm hT7 26000 (lst [7]) ok26 Tryd.func26 rfl rfl (by simp) (by kernel_rfl) ?_
  simp only [go_sem, reduceIte, reduceCtorEq, Nat.reduceEqDiff, Nat.reduceAdd, Nat.reduceSub, Nat.reduceMul, Nat.reduceDiv, Nat.reduceMod, Nat.reduceLT, Nat.reduceLeDiff, Nat.reduceBEq, Nat.reducePow, Int.reduceLE, Int.reduceLT, Int.reduceEq, Int.reduceNeg, Int.reduceAdd, Int.reduceToNat]
  refine AllN.i fun b hb => ?_
  have hpos : 0 < l.length := List.length_pos_iff.2 hne
  cases b
  · simp only [go_sem, reduceIte, reduceCtorEq, Nat.reduceEqDiff, Nat.reduceAdd, Nat.reduceSub, Nat.reduceMul, Nat.reduceDiv, Nat.reduceMod, Nat.reduceLT, Nat.reduceLeDiff, Nat.reduceBEq, Nat.reducePow, Int.reduceLE, Int.reduceLT, Int.reduceEq, Int.reduceNeg, Int.reduceAdd, Int.reduceToNat]
    refine ReqK.i (fits_of (by omega) (by decide)) fun _ => ?_
    have he : l.isEmpty = false := by cases l with
      | nil => exact absurd rfl hne
      | cons => rfl
    simp only [go_sem, reduceIte, reduceCtorEq, Nat.reduceEqDiff, Nat.reduceAdd, Nat.reduceSub, Nat.reduceMul, Nat.reduceDiv, Nat.reduceMod, Nat.reduceLT, Nat.reduceLeDiff, Nat.reduceBEq, Nat.reducePow, Int.reduceLE, Int.reduceLT, Int.reduceEq, Int.reduceNeg, Int.reduceAdd, Int.reduceToNat, Tryd.f26, he]
    exact hR
  · have := hb rfl
    omega

theorem clone_frz {l : List Str} (hl : l.length ≤ 4194304) {H : Heap} {n : Nat} {R : D → Heap → Nat → Prop} (hR : R (.fz (enc l)) H n) : Wcall Tryd.prog G0 26 [.fz (enc l)] H n R := by
  have ht : T8 26 = some (sp1 (fun l : List Str => l) fun l => l.length ≤ 4194304) := rfl
  refine Wcall_tbl hT8 (xs := [enc l]) ht rfl k_sp1 ?_ ?_
  · rw [dec_enc]; exact ⟨rfl, hl⟩
  · rw [dec_enc]; exact hR

/-- the cells of the new list of parts, when j parts are there; part k is an own array -/
def nx (parts : List (List Str)) (k : Nat) (d : D) (j : Nat) : List D := (flatFz ((parts.take j).map enc)).set k d
theorem nx_len {parts : List (List Str)} {k j : Nat} {d : D} (h : j ≤ parts.length) : (nx parts k d j).length = j := by
  unfold nx; rw [List.length_set, flat_len_enc, List.length_take]; omega
@[go_sem] theorem nx_take {parts : List (List Str)} {k j : Nat} {d : D} : (nx parts k d j).take j = nx parts k d j := by
  refine List.take_of_length_le ?_
  unfold nx; rw [List.length_set, flat_len_enc, List.length_take]; omega
theorem nx_ne {parts : List (List Str)} {k j : Nat} {d : D} (h : j < parts.length) (hk : j ≠ k) : nx parts k d j ++ [.fz (enc parts[j])] = nx parts k d (j + 1) := by
  unfold nx
  rw [List.take_succ_eq_append_getElem h, ← flat_snoc]
  rcases Nat.lt_or_ge k j with h' | h'
  · rw [List.set_append_left]
    rw [flat_len_enc, List.length_take]; omega
  · rw [List.set_eq_of_length_le (by rw [flat_len_enc, List.length_take]; omega), List.set_eq_of_length_le (by rw [List.length_append, flat_len_enc, List.length_take]; simp; omega)]
theorem nx_eq {parts : List (List Str)} {k : Nat} {d d0 : D} (h : k < parts.length) : nx parts k d0 k ++ [d] = nx parts k d (k + 1) := by
  unfold nx
  rw [List.take_succ_eq_append_getElem h, ← flat_snoc, List.set_eq_of_length_le (by rw [flat_len_enc, List.length_take]; omega), List.set_append_right _ _ (by rw [flat_len_enc, List.length_take]; omega)]
  rw [flat_len_enc, List.length_take, Nat.min_eq_left (by omega), Nat.sub_self]
  rfl
@[go_sem] theorem nx_zero {parts : List (List Str)} {k : Nat} {d : D} : nx parts k d 0 = [] := by simp [nx, flatFz]

theorem nx_get {parts : List (List Str)} {k j : Nat} {d : D} (h : k < j) (hj : j ≤ parts.length) : (nx parts k d j).getD k .junk = d := by
  unfold nx
  rw [List.getD_eq_getElem?_getD, List.getElem?_set_self (by rw [flat_len_enc, List.length_take]; omega)]
  rfl
@[go_sem] theorem nx_set {parts : List (List Str)} {k j : Nat} {d e : D} : (nx parts k d j).set k e = nx parts k e j := by
  unfold nx; rw [List.set_set]
theorem nx_getA {parts : List (List Str)} {k : Nat} {d e : D} : (nx parts k d parts.length ++ [e]).getD parts.length .junk = e := by
  have := nx_len (parts := parts) (k := k) (j := parts.length) (d := d) (Nat.le_refl _)
  rw [List.getD_eq_getElem?_getD, List.getElem?_append_right (by omega), this, Nat.sub_self]
  rfl
theorem nx_setA {parts : List (List Str)} {k : Nat} {d e e' : D} : (nx parts k d parts.length ++ [e]).set parts.length e' = nx parts k d parts.length ++ [e'] := by
  have := nx_len (parts := parts) (k := k) (j := parts.length) (d := d) (Nat.le_refl _)
  rw [List.set_append_right _ _ (by omega), this, Nat.sub_self]
  rfl

theorem hD_B {parts : List (List Str)} {k : Nat} {ys : List Str} {id : Abs.Id} {m n n' : Nat} {pre : Abs.Id → Abs.Id} {vn : Abs.Id → Bool} {z : Abs.Id → Option (List FD)} {H : Heap} (hm : m = ys.length) (hz : z id = some (ys.map enc)) :
    Drs n n' pre vn z H (nx parts k (.arr id 1 0 m) parts.length) (flatFz ((parts.set k ys).map enc)) := by
  unfold nx
  rw [List.take_length]
  refine Drs_set ?_
  rw [enc_list, r_frz]
  exact ⟨rfl, by simp [hm], hz, lens_map (f := enc) (k := 1) (fun _ => rfl) ys⟩
theorem hD_A {parts : List (List Str)} {k : Nat} {ys : List Str} {id : Abs.Id} {m n n' : Nat} {pre : Abs.Id → Abs.Id} {vn : Abs.Id → Bool} {z : Abs.Id → Option (List FD)} {H : Heap} {d0 : D} (hk : k = parts.length) (hm : m = ys.length) (hz : z id = some (ys.map enc)) :
    Drs n n' pre vn z H (nx parts k d0 parts.length ++ [.arr id 1 0 m]) (flatFz ((parts ++ [ys]).map enc)) := by
  have e : nx parts k d0 parts.length ++ [D.arr id 1 0 m] = (flatFz ((parts ++ [ys]).map enc)).set parts.length (.arr id 1 0 m) := by
    unfold nx
    rw [List.take_length, List.set_eq_of_length_le (by rw [flat_len_enc]; omega), ← flat_snoc, List.set_append_right _ _ (by rw [flat_len_enc]; omega), flat_len_enc, Nat.sub_self]
    rfl
  have e2 : (parts ++ [ys]).set parts.length ys = parts ++ [ys] := by
    rw [List.set_append_right _ _ (Nat.le_refl _), Nat.sub_self]; rfl
  rw [e]
  have := Drs_set (n := n) (n' := n') (pre := pre) (vn := vn) (z := z) (H := H) (l := parts ++ [ys]) (i := parts.length) (d := .arr id 1 0 m) (a := ys) (by
    rw [enc_list, r_frz]
    exact ⟨rfl, by simp [hm], hz, lens_map (f := enc) (k := 1) (fun _ => rfl) ys⟩)
  rwa [e2] at this

structure JI (m n0 : Nat) where
  j : Nat
  gn : Nat
  gc : Nat
  n : Nat
  hj : j ≤ m
  hgn : gn < n
  hgc : gc < n
  hn : n0 ≤ n

def addAt (k : Nat) (x : Str) (parts : List (List Str)) : List (List Str) := if k < parts.length then parts.set k (parts.getD k [] ++ [x]) else parts ++ [[x]]
def walkM : List Str → List (List Str) → List (List (List Str))
  | [], parts => [parts]
  | x :: xs, parts => (List.range (parts.length + 1)).flatMap fun k => walkM xs (addAt k x parts)

theorem flat_mono {α : Type} {f : Nat → List α} {k m : Nat} (h : k ≤ m) : ((List.range k).flatMap f).length ≤ ((List.range m).flatMap f).length := by
  induction m with
  | zero => obtain rfl : k = 0 := by omega
            exact Nat.le_refl _
  | succ m ih =>
    rcases Nat.lt_or_ge k (m + 1) with h' | h'
    · rw [List.range_succ (n := m), List.flatMap_append, List.length_append]
      exact Nat.le_trans (ih (by omega)) (Nat.le_add_right _ _)
    · obtain rfl : k = m + 1 := by omega
      exact Nat.le_refl _

def HHl (group : List Str) (g : Nat) (outs : List (List (List Str))) : List (Abs.Id × Option O) :=
  [((9001, 0), some ⟨[.fz (enc group)], true, false⟩), ((9005, 3), some ⟨[.arr (25018, g) 1 0 outs.length], true, false⟩),
   ((9006, 4), some ⟨[.fn 25 [.ptr (9001, 0) 0, .ptr (9005, 3) 0, .ptr (9006, 4) 0]], true, false⟩), ((9003, 1), some ⟨[.fz (.i .i64 0), .fz (.i .i64 0)], true, false⟩),
   ((25018, g), some ⟨flatFz (outs.map enc), false, outs.isEmpty⟩)]

structure Good (parts : List (List Str)) (m : Nat) : Prop where
  ne : ∀ p ∈ parts, p ≠ []
  len : ∀ p ∈ parts, p.length ≤ m
  num : parts.length ≤ m

structure OI (m n0 : Nat) (f : Nat → List (List (List Str))) where
  k : Nat
  g : Nat
  n : Nat
  o : List (List (List Str))
  hk : k ≤ m
  hg : g < n
  hn : n0 ≤ n
  ho : o = f k

set_option maxRecDepth 100000 in
set_option maxHeartbeats 1000000 in
theorem f25 (group : List Str) (hgr : group.length ≤ 5) : ∀ (r : List Str) (i : Nat) (parts : List (List Str)) (outs : List (List (List Str))) (g n : Nat), group.drop i = r → i ≤ group.length → g < n → 4 < n → Good parts i → outs.length + (walkM r parts).length ≤ 1000000 →
    Wcall Tryd.prog G0 25 [.fz (.i .i64 i), .fz (enc parts), .ptr (9001, 0) 0, .ptr (9005, 3) 0, .ptr (9006, 4) 0] (hpL (HHl group g outs)) n
      (fun d H' n' => d = .tup [] ∧ ∃ g', g' < n' ∧ n ≤ n' ∧ HpOk H' (HHl group g' (outs ++ walkM r parts)))
  | [], i, parts, outs, g, n, hr, hi, hg, hn, hp, hb => by
    have hi' : i = group.length := by
      have := congrArg List.length hr
      simp at this; omega
    simp only [walkM, List.length_singleton] at hb ⊢
    refine Wcall_K (N := 63) hm hT7 25000 (lst [18, 34, 35, 42, 43, 55]) ok25 Tryd.func25 rfl rfl (by simp) (by kernel_rfl) ?_
    simp only [go_sem, reduceIte, reduceCtorEq, Nat.reduceEqDiff, Nat.reduceAdd, Nat.reduceSub, Nat.reduceMul, Nat.reduceDiv, Nat.reduceMod, Nat.reduceLT, Nat.reduceLeDiff, Nat.reduceBEq, Nat.reducePow, Int.reduceLE, Int.reduceLT, Int.reduceEq, Int.reduceNeg, Int.reduceAdd, Int.reduceToNat, HHl, hi', T7, T6, T5, T4, T3, T2, T1]
    refine ReqK.i (by unfold maxL; omega) fun _ => ?_
    simp only [go_sem, reduceIte, reduceCtorEq, Nat.reduceEqDiff, Nat.reduceAdd, Nat.reduceSub, Nat.reduceMul, Nat.reduceDiv, Nat.reduceMod, Nat.reduceLT, Nat.reduceLeDiff, Nat.reduceBEq, Nat.reducePow, Int.reduceLE, Int.reduceLT, Int.reduceEq, Int.reduceNeg, Int.reduceAdd, Int.reduceToNat, HHl, hi', T7, T6, T5, T4, T3, T2, T1]
    refine ReqK.i (fits_of (by omega) (by decide)) fun _ => ?_
    simp only [go_sem, reduceIte, reduceCtorEq, Nat.reduceEqDiff, Nat.reduceAdd, Nat.reduceSub, Nat.reduceMul, Nat.reduceDiv, Nat.reduceMod, Nat.reduceLT, Nat.reduceLeDiff, Nat.reduceBEq, Nat.reducePow, Int.reduceLE, Int.reduceLT, Int.reduceEq, Int.reduceNeg, Int.reduceAdd, Int.reduceToNat, HHl, hi', Tryd.f25]
    exact ⟨n, by omega, by omega, rfl, by rw [if_pos rfl, ← flat_app]; rfl⟩
  | x :: xs, i, parts, outs, g, n, hr, hi, hg, hn, hp, hb => by
    have hi' : i < group.length := by
      have := congrArg List.length hr
      simp at this; omega
    have hx : group[i] = x := by
      have := List.drop_eq_getElem_cons hi'
      rw [hr] at this
      exact (List.cons.inj this).1.symm
    have hxs : group.drop (i + 1) = xs := by
      have := List.drop_eq_getElem_cons hi'
      rw [hr] at this
      exact (List.cons.inj this).2.symm
    have hne : (i = group.length) = False := eq_false (by omega)
    have hnum := hp.num
    refine Wcall_K (N := 63) hm hT7 25000 (lst [18, 34, 35, 42, 43, 55]) ok25 Tryd.func25 rfl rfl (by simp) (by kernel_rfl) ?_
    simp only [go_sem, reduceIte, reduceCtorEq, Nat.reduceEqDiff, Nat.reduceAdd, Nat.reduceSub, Nat.reduceMul, Nat.reduceDiv, Nat.reduceMod, Nat.reduceLT, Nat.reduceLeDiff, Nat.reduceBEq, Nat.reducePow, Int.reduceLE, Int.reduceLT, Int.reduceEq, Int.reduceNeg, Int.reduceAdd, Int.reduceToNat, HHl, hne, T7, T6, T5, T4, T3, T2, T1]
    refine ReqK.i (by omega) fun _ => ?_
    simp only [go_sem, reduceIte, reduceCtorEq, Nat.reduceEqDiff, Nat.reduceAdd, Nat.reduceSub, Nat.reduceMul, Nat.reduceDiv, Nat.reduceMod, Nat.reduceLT, Nat.reduceLeDiff, Nat.reduceBEq, Nat.reducePow, Int.reduceLE, Int.reduceLT, Int.reduceEq, Int.reduceNeg, Int.reduceAdd, Int.reduceToNat, HHl]
    obtain ⟨W, hW⟩ : ∃ W, W = outs ++ walkM (x :: xs) parts := ⟨_, rfl⟩
    rw [← hW]
    have hWl : W.length ≤ 1000000 := by rw [hW, List.length_append]; exact hb
    refine WK_loop hm hT7 25000 (lst [18, 34, 35, 42, 43, 55]) (ι := OI (parts.length + 1) n fun k => outs ++ (List.range k).flatMap fun k => walkM xs (addAt k x parts))
      ⟨fun q => ⟨frL [(0, .fz (.i .i64 i)), (1, .fz (enc parts)), (2, .ptr (9001, 0) 0), (3, .ptr (9005, 3) 0), (4, .ptr (9006, 4) 0), (21, .fz (.i .i64 (parts.length + 1))), (22, .fz (.i .i64 q.k))],
        hpL (HHl group q.g q.o), q.n⟩, fun q => parts.length + 1 - q.k⟩ ⟨0, g, n, outs, by omega, hg, by omega, by simp⟩ (by kernel_rfl) ?_ ?_
    · refine Weak_to ?_ ?_ ?_ <;> simp only [go_sem, reduceIte, reduceCtorEq, Nat.reduceEqDiff, Nat.reduceAdd, Nat.reduceSub, Nat.reduceMul, Nat.reduceDiv, Nat.reduceMod, Nat.reduceLT, Nat.reduceLeDiff, Nat.reduceBEq, Nat.reducePow, Int.reduceLE, Int.reduceLT, Int.reduceEq, Int.reduceNeg, Int.reduceAdd, Int.reduceToNat, HHl]
    · intro q
      have hk := q.hk
      have hqg := q.hg
      have hqn := q.hn
      simp only [go_sem, reduceIte, reduceCtorEq, Nat.reduceEqDiff, Nat.reduceAdd, Nat.reduceSub, Nat.reduceMul, Nat.reduceDiv, Nat.reduceMod, Nat.reduceLT, Nat.reduceLeDiff, Nat.reduceBEq, Nat.reducePow, Int.reduceLE, Int.reduceLT, Int.reduceEq, Int.reduceNeg, Int.reduceAdd, Int.reduceToNat, HHl]
      refine CondK.d (fun h2 => ?_) (fun h2 => ?_)
      · obtain ⟨P', hPa⟩ : ∃ P', P' = addAt q.k x parts := ⟨_, rfl⟩
        have hstep : q.o ++ walkM xs P' = outs ++ (List.range (q.k + 1)).flatMap fun k => walkM xs (addAt k x parts) := by
          rw [q.ho, hPa, List.range_succ, List.flatMap_append, List.append_assoc]
          simp
        have hb2 : (q.o ++ walkM xs P').length ≤ 1000000 := by
          rw [hstep, List.length_append]
          have := flat_mono (f := fun k => walkM xs (addAt k x parts)) (k := q.k + 1) (m := parts.length + 1) (by omega)
          have h0 : (walkM (x :: xs) parts).length = ((List.range (parts.length + 1)).flatMap fun k => walkM xs (addAt k x parts)).length := rfl
          omega
        simp only [go_sem, reduceIte, reduceCtorEq, Nat.reduceEqDiff, Nat.reduceAdd, Nat.reduceSub, Nat.reduceMul, Nat.reduceDiv, Nat.reduceMod, Nat.reduceLT, Nat.reduceLeDiff, Nat.reduceBEq, Nat.reducePow, Int.reduceLE, Int.reduceLT, Int.reduceEq, Int.reduceNeg, Int.reduceAdd, Int.reduceToNat, HHl]
        refine WK_loop hm hT7 25000 (lst [18, 34, 35, 42, 43, 55]) (ι := JI parts.length q.n)
          ⟨fun p => ⟨frL [(0, .fz (.i .i64 i)), (1, .fz (enc parts)), (2, .ptr (9001, 0) 0), (3, .ptr (9005, 3) 0), (4, .ptr (9006, 4) 0), (21, .fz (.i .i64 (parts.length + 1))), (22, .fz (.i .i64 q.k)), (7, .fz (.i .i64 q.k)),
              (8, .arr (25035, p.gn) 1 0 p.j), (25, .fz (enc parts)), (26, .fz (.i .i64 parts.length)), (27, .fz (.i .i64 p.j))],
            hpL (((25035, p.gn), some ⟨nx parts q.k (.arr (26007, p.gc) 1 0 (parts.getD q.k []).length) p.j, false, decide (p.j = 0)⟩) ::
              ((26007, p.gc), if q.k < p.j then some ⟨flatFz ((parts.getD q.k []).map enc), false, false⟩ else none) :: HHl group q.g q.o), p.n⟩, fun p => parts.length - p.j⟩ ⟨0, q.n, q.n, q.n + 1, by omega, by omega, by omega, by omega⟩ (by kernel_rfl) ?_ ?_
        · refine Weak_g [] [(25035, q.n)] [] ?_ ?_ ?_ ?_ ?_ <;> simp only [go_sem, reduceIte, reduceCtorEq, Nat.reduceEqDiff, Nat.reduceAdd, Nat.reduceSub, Nat.reduceMul, Nat.reduceDiv, Nat.reduceMod, Nat.reduceLT, Nat.reduceLeDiff, Nat.reduceBEq, Nat.reducePow, Int.reduceLE, Int.reduceLT, Int.reduceEq, Int.reduceNeg, Int.reduceAdd, Int.reduceToNat, HHl, List.getD_nil]
          all_goals omega
        · intro p
          have hj := p.hj
          simp only [go_sem, reduceIte, reduceCtorEq, Nat.reduceEqDiff, Nat.reduceAdd, Nat.reduceSub, Nat.reduceMul, Nat.reduceDiv, Nat.reduceMod, Nat.reduceLT, Nat.reduceLeDiff, Nat.reduceBEq, Nat.reducePow, Int.reduceLE, Int.reduceLT, Int.reduceEq, Int.reduceNeg, Int.reduceAdd, Int.reduceToNat, HHl]
          refine CondK.d (fun h3 => ?_) (fun h3 => ?_)
          · have hlen := hp.len parts[p.j] (List.getElem_mem h3)
            have hnep := hp.ne parts[p.j] (List.getElem_mem h3)
            simp only [go_sem, reduceIte, reduceCtorEq, Nat.reduceEqDiff, Nat.reduceAdd, Nat.reduceSub, Nat.reduceMul, Nat.reduceDiv, Nat.reduceMod, Nat.reduceLT, Nat.reduceLeDiff, Nat.reduceBEq, Nat.reducePow, Int.reduceLE, Int.reduceLT, Int.reduceEq, Int.reduceNeg, Int.reduceAdd, Int.reduceToNat, HHl, h3, getD_map_lt, T7, T6, T5, T4, T3, T2, T1]
            rcases Nat.lt_trichotomy p.j q.k with h4 | h4 | h4
            · have hz : (p.j + 1 = 0) = False := eq_false (by omega)
              have hk1 : (q.k < p.j + 1) = False := eq_false (by omega)
              have hk2 : (q.k < p.j) = False := eq_false (by omega)
              have ec : ∀ d, nx parts q.k d p.j ++ [D.fz (FD.sl (parts[p.j].map enc))] = nx parts q.k d (p.j + 1) := fun d => nx_ne h3 (by omega)
              refine WcallK.i (clone_frz (l := parts[p.j]) (by omega) ?_)
              simp only [go_sem, reduceIte, reduceCtorEq, Nat.reduceEqDiff, Nat.reduceAdd, Nat.reduceSub, Nat.reduceMul, Nat.reduceDiv, Nat.reduceMod, Nat.reduceLT, Nat.reduceLeDiff, Nat.reduceBEq, Nat.reducePow, Int.reduceLE, Int.reduceLT, Int.reduceEq, Int.reduceNeg, Int.reduceAdd, Int.reduceToNat, HHl, nx_len hj]
              refine ReqK.i (fits_of (by omega) (by decide)) fun _ => ?_
              simp only [go_sem, reduceIte, reduceCtorEq, Nat.reduceEqDiff, Nat.reduceAdd, Nat.reduceSub, Nat.reduceMul, Nat.reduceDiv, Nat.reduceMod, Nat.reduceLT, Nat.reduceLeDiff, Nat.reduceBEq, Nat.reducePow, Int.reduceLE, Int.reduceLT, Int.reduceEq, Int.reduceNeg, Int.reduceAdd, Int.reduceToNat, HHl]
              refine ReqK.i (by omega) fun _ => ?_
              simp only [go_sem, reduceIte, reduceCtorEq, Nat.reduceEqDiff, Nat.reduceAdd, Nat.reduceSub, Nat.reduceMul, Nat.reduceDiv, Nat.reduceMod, Nat.reduceLT, Nat.reduceLeDiff, Nat.reduceBEq, Nat.reducePow, Int.reduceLE, Int.reduceLT, Int.reduceEq, Int.reduceNeg, Int.reduceAdd, Int.reduceToNat, HHl]
              refine ⟨⟨p.j + 1, p.n + 1, p.gc, p.n + 1 + 1, by omega, by omega, by have := p.hgc; omega, by have := p.hn; omega⟩, by simp only; omega, ?_⟩
              refine Weak_to ?_ ?_ ?_ <;> simp only [go_sem, reduceIte, reduceCtorEq, Nat.reduceEqDiff, Nat.reduceAdd, Nat.reduceSub, Nat.reduceMul, Nat.reduceDiv, Nat.reduceMod, Nat.reduceLT, Nat.reduceLeDiff, Nat.reduceBEq, Nat.reducePow, Int.reduceLE, Int.reduceLT, Int.reduceEq, Int.reduceNeg, Int.reduceAdd, Int.reduceToNat, HHl, hz, hk1, hk2, ec]
            · have hz : (p.j + 1 = 0) = False := eq_false (by omega)
              have hk1 : (q.k < p.j + 1) = True := eq_true (by omega)
              have hk2 : (q.k < p.j) = False := eq_false (by omega)
              have eg : parts.getD q.k [] = parts[p.j] := by rw [← h4, List.getD_eq_getElem?_getD, List.getElem?_eq_getElem h3]; rfl
              have ec : ∀ d d', nx parts q.k d p.j ++ [d'] = nx parts q.k d' (p.j + 1) := fun d d' => by rw [h4]; exact nx_eq (by omega)
              refine WcallK.i (clone_own (l := parts[p.j]) hnep (by omega) ?_)
              simp only [go_sem, reduceIte, reduceCtorEq, Nat.reduceEqDiff, Nat.reduceAdd, Nat.reduceSub, Nat.reduceMul, Nat.reduceDiv, Nat.reduceMod, Nat.reduceLT, Nat.reduceLeDiff, Nat.reduceBEq, Nat.reducePow, Int.reduceLE, Int.reduceLT, Int.reduceEq, Int.reduceNeg, Int.reduceAdd, Int.reduceToNat, HHl, nx_len hj]
              refine ReqK.i (fits_of (by omega) (by decide)) fun _ => ?_
              simp only [go_sem, reduceIte, reduceCtorEq, Nat.reduceEqDiff, Nat.reduceAdd, Nat.reduceSub, Nat.reduceMul, Nat.reduceDiv, Nat.reduceMod, Nat.reduceLT, Nat.reduceLeDiff, Nat.reduceBEq, Nat.reducePow, Int.reduceLE, Int.reduceLT, Int.reduceEq, Int.reduceNeg, Int.reduceAdd, Int.reduceToNat, HHl]
              refine ReqK.i (by omega) fun _ => ?_
              simp only [go_sem, reduceIte, reduceCtorEq, Nat.reduceEqDiff, Nat.reduceAdd, Nat.reduceSub, Nat.reduceMul, Nat.reduceDiv, Nat.reduceMod, Nat.reduceLT, Nat.reduceLeDiff, Nat.reduceBEq, Nat.reducePow, Int.reduceLE, Int.reduceLT, Int.reduceEq, Int.reduceNeg, Int.reduceAdd, Int.reduceToNat, HHl]
              refine ⟨⟨p.j + 1, p.n + 1 + 1, p.n, p.n + 1 + 1 + 1, by omega, by omega, by omega, by have := p.hn; omega⟩, by simp only; omega, ?_⟩
              refine Weak_to ?_ ?_ ?_ <;> simp only [go_sem, reduceIte, reduceCtorEq, Nat.reduceEqDiff, Nat.reduceAdd, Nat.reduceSub, Nat.reduceMul, Nat.reduceDiv, Nat.reduceMod, Nat.reduceLT, Nat.reduceLeDiff, Nat.reduceBEq, Nat.reducePow, Int.reduceLE, Int.reduceLT, Int.reduceEq, Int.reduceNeg, Int.reduceAdd, Int.reduceToNat, HHl, hz, hk1, hk2, ec, eg]
            · have hz : (p.j + 1 = 0) = False := eq_false (by omega)
              have hk1 : (q.k < p.j + 1) = True := eq_true (by omega)
              have hk2 : (q.k < p.j) = True := eq_true (by omega)
              have ec : ∀ d, nx parts q.k d p.j ++ [D.fz (FD.sl (parts[p.j].map enc))] = nx parts q.k d (p.j + 1) := fun d => nx_ne h3 (by omega)
              refine WcallK.i (clone_frz (l := parts[p.j]) (by omega) ?_)
              simp only [go_sem, reduceIte, reduceCtorEq, Nat.reduceEqDiff, Nat.reduceAdd, Nat.reduceSub, Nat.reduceMul, Nat.reduceDiv, Nat.reduceMod, Nat.reduceLT, Nat.reduceLeDiff, Nat.reduceBEq, Nat.reducePow, Int.reduceLE, Int.reduceLT, Int.reduceEq, Int.reduceNeg, Int.reduceAdd, Int.reduceToNat, HHl, nx_len hj]
              refine ReqK.i (fits_of (by omega) (by decide)) fun _ => ?_
              simp only [go_sem, reduceIte, reduceCtorEq, Nat.reduceEqDiff, Nat.reduceAdd, Nat.reduceSub, Nat.reduceMul, Nat.reduceDiv, Nat.reduceMod, Nat.reduceLT, Nat.reduceLeDiff, Nat.reduceBEq, Nat.reducePow, Int.reduceLE, Int.reduceLT, Int.reduceEq, Int.reduceNeg, Int.reduceAdd, Int.reduceToNat, HHl]
              refine ReqK.i (by omega) fun _ => ?_
              simp only [go_sem, reduceIte, reduceCtorEq, Nat.reduceEqDiff, Nat.reduceAdd, Nat.reduceSub, Nat.reduceMul, Nat.reduceDiv, Nat.reduceMod, Nat.reduceLT, Nat.reduceLeDiff, Nat.reduceBEq, Nat.reducePow, Int.reduceLE, Int.reduceLT, Int.reduceEq, Int.reduceNeg, Int.reduceAdd, Int.reduceToNat, HHl]
              refine ⟨⟨p.j + 1, p.n + 1, p.gc, p.n + 1 + 1, by omega, by omega, by have := p.hgc; omega, by have := p.hn; omega⟩, by simp only; omega, ?_⟩
              refine Weak_to ?_ ?_ ?_ <;> simp only [go_sem, reduceIte, reduceCtorEq, Nat.reduceEqDiff, Nat.reduceAdd, Nat.reduceSub, Nat.reduceMul, Nat.reduceDiv, Nat.reduceMod, Nat.reduceLT, Nat.reduceLeDiff, Nat.reduceBEq, Nat.reducePow, Int.reduceLE, Int.reduceLT, Int.reduceEq, Int.reduceNeg, Int.reduceAdd, Int.reduceToNat, HHl, hz, hk1, hk2, ec]
          · have ej : p.j = parts.length := by omega
            simp only [go_sem, reduceIte, reduceCtorEq, Nat.reduceEqDiff, Nat.reduceAdd, Nat.reduceSub, Nat.reduceMul, Nat.reduceDiv, Nat.reduceMod, Nat.reduceLT, Nat.reduceLeDiff, Nat.reduceBEq, Nat.reducePow, Int.reduceLE, Int.reduceLT, Int.reduceEq, Int.reduceNeg, Int.reduceAdd, Int.reduceToNat, HHl, ej]
            refine CondK.d (fun h5 => ?_) (fun h5 => ?_)
            · have hl0 := nx_len (parts := parts) (k := q.k) (j := parts.length) (d := .arr (26007, p.gc) 1 0 (parts.getD q.k []).length) (Nat.le_refl _)
              have hg1 : (nx parts q.k (.arr (26007, p.gc) 1 0 (parts.getD q.k []).length) parts.length ++ [D.full []]).getD q.k .junk = .full [] := by rw [h5]; exact nx_getA
              have hs1 : ∀ e', (nx parts q.k (.arr (26007, p.gc) 1 0 (parts.getD q.k []).length) parts.length ++ [D.full []]).set q.k e' = nx parts q.k (.arr (26007, p.gc) 1 0 (parts.getD q.k []).length) parts.length ++ [e'] := fun e' => by rw [h5]; exact nx_setA
              repeat (first | refine ReqK.i (by omega) fun _ => ?_ | refine ReqK.i (fits_of (by omega) (by decide)) fun _ => ?_ | refine ReqK.i (by unfold maxL; omega) fun _ => ?_ | simp only [go_sem, reduceIte, reduceCtorEq, Nat.reduceEqDiff, Nat.reduceAdd, Nat.reduceSub, Nat.reduceMul, Nat.reduceDiv, Nat.reduceMod, Nat.reduceLT, Nat.reduceLeDiff, Nat.reduceBEq, Nat.reducePow, Int.reduceLE, Int.reduceLT, Int.reduceEq, Int.reduceNeg, Int.reduceAdd, Int.reduceToNat, HHl, hl0, hg1, hs1, getD_map_lt, hi', T7, T6, T5, T4, T3, T2, T1])
              obtain ⟨ys, hys⟩ : ∃ ys, ys = [x] := ⟨_, rfl⟩
              have hP : P' = parts ++ [ys] := by rw [hPa, addAt, if_neg (by omega), hys]
              have hzc : [D.fz (FD.s group[i].l)] = flatFz (List.map enc ys) := by rw [hys, hx]; rfl
              have hm : 1 = ys.length := by rw [hys]; rfl
              have hD : ∀ n n' H, Drs n n' (preL []) (vL []) (zL [((25055, p.n + 1 + 1), List.map enc ys)]) H (nx parts q.k (.arr (26007, p.gc) 1 0 (parts.getD q.k []).length) parts.length ++ [D.arr (25055, p.n + 1 + 1) 1 0 1]) (flatFz (List.map enc P')) := fun n n' H => by
                rw [hP]; exact hD_A h5 hm (by simp [zL])
              have hgood : Good P' (i + 1) := by
                rw [hP]
                refine ⟨fun z hz => ?_, fun z hz => ?_, by rw [List.length_append]; simp; omega⟩
                · rcases List.mem_append.1 hz with hz | hz
                  · exact hp.ne z hz
                  · obtain rfl := List.mem_singleton.1 hz
                    rw [hys]; simp
                · rcases List.mem_append.1 hz with hz | hz
                  · have := hp.len z hz; omega
                  · obtain rfl := List.mem_singleton.1 hz
                    omega
              have hPl : P'.length = parts.length + 1 := by rw [hP, List.length_append]; rfl
              have hgc := p.hgc
              have hgn := p.hgn
              have hpn := p.hn
              refine WcallK.i (Wcall_g (args' := [.fz (.i .i64 (i + 1)), .arr (25043, p.n + 1) 1 0 (parts.length + 1), .ptr (9001, 0) 0, .ptr (9005, 3) 0, .ptr (9006, 4) 0])
                (hl := ((25043, p.n + 1), some ⟨flatFz (List.map enc P'), false, false⟩) :: HHl group q.g q.o) (n' := p.n + 1 + 1 + 1) [] [] [((25055, p.n + 1 + 1), List.map enc ys)] rfl ?_ ?_ ?_ ?_ ?_ ?_)
              · exact Nat.le_refl _
              · simp only [go_sem, reduceIte, reduceCtorEq, Nat.reduceEqDiff, Nat.reduceAdd, Nat.reduceSub, Nat.reduceMul, Nat.reduceDiv, Nat.reduceMod, Nat.reduceLT, Nat.reduceLeDiff, Nat.reduceBEq, Nat.reducePow, Int.reduceLE, Int.reduceLT, Int.reduceEq, Int.reduceNeg, Int.reduceAdd, Int.reduceToNat, HHl, hzc]
              · simp only [go_sem, reduceIte, reduceCtorEq, Nat.reduceEqDiff, Nat.reduceAdd, Nat.reduceSub, Nat.reduceMul, Nat.reduceDiv, Nat.reduceMod, Nat.reduceLT, Nat.reduceLeDiff, Nat.reduceBEq, Nat.reducePow, Int.reduceLE, Int.reduceLT, Int.reduceEq, Int.reduceNeg, Int.reduceAdd, Int.reduceToNat, HHl, eq_true (hD _ _ _)]
                omega
              · simp only [go_sem, reduceIte, reduceCtorEq, Nat.reduceEqDiff, Nat.reduceAdd, Nat.reduceSub, Nat.reduceMul, Nat.reduceDiv, Nat.reduceMod, Nat.reduceLT, Nat.reduceLeDiff, Nat.reduceBEq, Nat.reducePow, Int.reduceLE, Int.reduceLT, Int.reduceEq, Int.reduceNeg, Int.reduceAdd, Int.reduceToNat, HHl]
              · simp only [go_sem, reduceIte, reduceCtorEq, Nat.reduceEqDiff, Nat.reduceAdd, Nat.reduceSub, Nat.reduceMul, Nat.reduceDiv, Nat.reduceMod, Nat.reduceLT, Nat.reduceLeDiff, Nat.reduceBEq, Nat.reducePow, Int.reduceLE, Int.reduceLT, Int.reduceEq, Int.reduceNeg, Int.reduceAdd, Int.reduceToNat, HHl]
                omega
              refine Wcall_g (args' := [.fz (.i .i64 ((i + 1 : Nat) : Int)), .fz (enc P'), .ptr (9001, 0) 0, .ptr (9005, 3) 0, .ptr (9006, 4) 0])
                (hl := HHl group q.g q.o) (n' := p.n + 1 + 1 + 1) [] [] [((25043, p.n + 1), List.map enc P')] rfl (Nat.le_refl _) ?_ ?_ ?_ ?_ ?_
              · simp only [go_sem, reduceIte, reduceCtorEq, Nat.reduceEqDiff, Nat.reduceAdd, Nat.reduceSub, Nat.reduceMul, Nat.reduceDiv, Nat.reduceMod, Nat.reduceLT, Nat.reduceLeDiff, Nat.reduceBEq, Nat.reducePow, Int.reduceLE, Int.reduceLT, Int.reduceEq, Int.reduceNeg, Int.reduceAdd, Int.reduceToNat, HHl]
              · simp only [go_sem, reduceIte, reduceCtorEq, Nat.reduceEqDiff, Nat.reduceAdd, Nat.reduceSub, Nat.reduceMul, Nat.reduceDiv, Nat.reduceMod, Nat.reduceLT, Nat.reduceLeDiff, Nat.reduceBEq, Nat.reducePow, Int.reduceLE, Int.reduceLT, Int.reduceEq, Int.reduceNeg, Int.reduceAdd, Int.reduceToNat, HHl]
                omega
              · simp only [go_sem, reduceIte, reduceCtorEq, Nat.reduceEqDiff, Nat.reduceAdd, Nat.reduceSub, Nat.reduceMul, Nat.reduceDiv, Nat.reduceMod, Nat.reduceLT, Nat.reduceLeDiff, Nat.reduceBEq, Nat.reducePow, Int.reduceLE, Int.reduceLT, Int.reduceEq, Int.reduceNeg, Int.reduceAdd, Int.reduceToNat, HHl]
              · simp only [go_sem, reduceIte, reduceCtorEq, Nat.reduceEqDiff, Nat.reduceAdd, Nat.reduceSub, Nat.reduceMul, Nat.reduceDiv, Nat.reduceMod, Nat.reduceLT, Nat.reduceLeDiff, Nat.reduceBEq, Nat.reducePow, Int.reduceLE, Int.reduceLT, Int.reduceEq, Int.reduceNeg, Int.reduceAdd, Int.reduceToNat, HHl, hPl]
                omega
              refine Wcall_mono (f25 group hgr xs (i + 1) P' q.o q.g (p.n + 1 + 1 + 1) hxs (by omega) (by omega) (by omega) hgood (by rw [List.length_append] at hb2; exact hb2)) ?_
              rintro d H' n' ⟨rfl, g', e1, e2, e3⟩
              simp only [go_sem, reduceIte, reduceCtorEq, Nat.reduceEqDiff, Nat.reduceAdd, Nat.reduceSub, Nat.reduceMul, Nat.reduceDiv, Nat.reduceMod, Nat.reduceLT, Nat.reduceLeDiff, Nat.reduceBEq, Nat.reducePow, Int.reduceLE, Int.reduceLT, Int.reduceEq, Int.reduceNeg, Int.reduceAdd, Int.reduceToNat, HHl] at e3
              obtain ⟨a1, a2, a3, a4, a5⟩ := e3
              repeat (first | refine ReqK.i (by omega) fun _ => ?_ | simp only [go_sem, reduceIte, reduceCtorEq, Nat.reduceEqDiff, Nat.reduceAdd, Nat.reduceSub, Nat.reduceMul, Nat.reduceDiv, Nat.reduceMod, Nat.reduceLT, Nat.reduceLeDiff, Nat.reduceBEq, Nat.reducePow, Int.reduceLE, Int.reduceLT, Int.reduceEq, Int.reduceNeg, Int.reduceAdd, Int.reduceToNat, HHl])
              refine ⟨⟨q.k + 1, g', n', q.o ++ walkM xs P', by omega, e1, by omega, hstep⟩, by simp only; omega, ?_⟩
              refine Weak_to ?_ ?_ ?_ <;> simp only [go_sem, reduceIte, reduceCtorEq, Nat.reduceEqDiff, Nat.reduceAdd, Nat.reduceSub, Nat.reduceMul, Nat.reduceDiv, Nat.reduceMod, Nat.reduceLT, Nat.reduceLeDiff, Nat.reduceBEq, Nat.reducePow, Int.reduceLE, Int.reduceLT, Int.reduceEq, Int.reduceNeg, Int.reduceAdd, Int.reduceToNat, HHl, a1, a2, a3, a4, a5]
            · have h6 : q.k < parts.length := by omega
              have hk1 : (q.k < parts.length) = True := eq_true h6
              have hl0 := nx_len (parts := parts) (k := q.k) (j := parts.length) (d := .arr (26007, p.gc) 1 0 (parts.getD q.k []).length) (Nat.le_refl _)
              have hl1 := nx_get (parts := parts) (k := q.k) (j := parts.length) (d := .arr (26007, p.gc) 1 0 (parts.getD q.k []).length) h6 (Nat.le_refl _)
              have hpl : (parts.getD q.k []).length ≤ i := by
                rw [List.getD_eq_getElem?_getD, List.getElem?_eq_getElem h6]
                exact hp.len _ (List.getElem_mem h6)
              have hd0 : decide (parts.length = 0) = false := decide_eq_false (by omega)
              repeat (first | refine ReqK.i (by omega) fun _ => ?_ | refine ReqK.i (fits_of (by omega) (by decide)) fun _ => ?_ | refine ReqK.i (by unfold maxL; omega) fun _ => ?_ | simp only [go_sem, reduceIte, reduceCtorEq, Nat.reduceEqDiff, Nat.reduceAdd, Nat.reduceSub, Nat.reduceMul, Nat.reduceDiv, Nat.reduceMod, Nat.reduceLT, Nat.reduceLeDiff, Nat.reduceBEq, Nat.reducePow, Int.reduceLE, Int.reduceLT, Int.reduceEq, Int.reduceNeg, Int.reduceAdd, Int.reduceToNat, HHl, hk1, hl0, hl1, hd0, getD_map_lt, hi', T7, T6, T5, T4, T3, T2, T1])
              obtain ⟨ys, hys⟩ : ∃ ys, ys = parts.getD q.k [] ++ [x] := ⟨_, rfl⟩
              have hP : P' = parts.set q.k ys := by rw [hPa, addAt, if_pos h6, hys]
              have hzc : flatFz (List.map enc (parts.getD q.k [])) ++ [D.fz (FD.s group[i].l)] = flatFz (List.map enc ys) := by rw [hys, ← flat_snoc, hx]; rfl
              have hm : (parts.getD q.k []).length + 1 = ys.length := by rw [hys, List.length_append]; rfl
              have hD : ∀ n n' H, Drs n n' (preL []) (vL []) (zL [((25055, p.n), List.map enc ys)]) H (nx parts q.k (.arr (25055, p.n) 1 0 ((parts.getD q.k []).length + 1)) parts.length) (flatFz (List.map enc P')) := fun n n' H => by
                rw [hP]; exact hD_B hm (by simp [zL])
              have hgood : Good P' (i + 1) := by
                rw [hP]
                refine ⟨fun z hz => ?_, fun z hz => ?_, by rw [List.length_set]; omega⟩
                · rcases List.mem_or_eq_of_mem_set hz with hz | rfl
                  · exact hp.ne z hz
                  · rw [hys]; simp
                · rcases List.mem_or_eq_of_mem_set hz with hz | rfl
                  · have := hp.len z hz; omega
                  · omega
              have hPl : P'.length = parts.length := by rw [hP, List.length_set]
              have hgc := p.hgc
              have hgn := p.hgn
              have hpn := p.hn
              refine WcallK.i (Wcall_g (args' := [.fz (.i .i64 (i + 1)), .arr (25035, p.gn) 1 0 parts.length, .ptr (9001, 0) 0, .ptr (9005, 3) 0, .ptr (9006, 4) 0])
                (hl := ((25035, p.gn), some ⟨flatFz (List.map enc P'), false, false⟩) :: HHl group q.g q.o) (n' := p.n + 1) [] [] [((25055, p.n), List.map enc ys)] rfl ?_ ?_ ?_ ?_ ?_ ?_)
              · exact Nat.le_refl _
              · simp only [go_sem, reduceIte, reduceCtorEq, Nat.reduceEqDiff, Nat.reduceAdd, Nat.reduceSub, Nat.reduceMul, Nat.reduceDiv, Nat.reduceMod, Nat.reduceLT, Nat.reduceLeDiff, Nat.reduceBEq, Nat.reducePow, Int.reduceLE, Int.reduceLT, Int.reduceEq, Int.reduceNeg, Int.reduceAdd, Int.reduceToNat, HHl, hzc]
              · simp only [go_sem, reduceIte, reduceCtorEq, Nat.reduceEqDiff, Nat.reduceAdd, Nat.reduceSub, Nat.reduceMul, Nat.reduceDiv, Nat.reduceMod, Nat.reduceLT, Nat.reduceLeDiff, Nat.reduceBEq, Nat.reducePow, Int.reduceLE, Int.reduceLT, Int.reduceEq, Int.reduceNeg, Int.reduceAdd, Int.reduceToNat, HHl, eq_true (hD _ _ _)]
                omega
              · simp only [go_sem, reduceIte, reduceCtorEq, Nat.reduceEqDiff, Nat.reduceAdd, Nat.reduceSub, Nat.reduceMul, Nat.reduceDiv, Nat.reduceMod, Nat.reduceLT, Nat.reduceLeDiff, Nat.reduceBEq, Nat.reducePow, Int.reduceLE, Int.reduceLT, Int.reduceEq, Int.reduceNeg, Int.reduceAdd, Int.reduceToNat, HHl]
              · simp only [go_sem, reduceIte, reduceCtorEq, Nat.reduceEqDiff, Nat.reduceAdd, Nat.reduceSub, Nat.reduceMul, Nat.reduceDiv, Nat.reduceMod, Nat.reduceLT, Nat.reduceLeDiff, Nat.reduceBEq, Nat.reducePow, Int.reduceLE, Int.reduceLT, Int.reduceEq, Int.reduceNeg, Int.reduceAdd, Int.reduceToNat, HHl]
                omega
              refine Wcall_g (args' := [.fz (.i .i64 ((i + 1 : Nat) : Int)), .fz (enc P'), .ptr (9001, 0) 0, .ptr (9005, 3) 0, .ptr (9006, 4) 0])
                (hl := HHl group q.g q.o) (n' := p.n + 1) [] [] [((25035, p.gn), List.map enc P')] rfl (Nat.le_refl _) ?_ ?_ ?_ ?_ ?_
              · simp only [go_sem, reduceIte, reduceCtorEq, Nat.reduceEqDiff, Nat.reduceAdd, Nat.reduceSub, Nat.reduceMul, Nat.reduceDiv, Nat.reduceMod, Nat.reduceLT, Nat.reduceLeDiff, Nat.reduceBEq, Nat.reducePow, Int.reduceLE, Int.reduceLT, Int.reduceEq, Int.reduceNeg, Int.reduceAdd, Int.reduceToNat, HHl]
              · simp only [go_sem, reduceIte, reduceCtorEq, Nat.reduceEqDiff, Nat.reduceAdd, Nat.reduceSub, Nat.reduceMul, Nat.reduceDiv, Nat.reduceMod, Nat.reduceLT, Nat.reduceLeDiff, Nat.reduceBEq, Nat.reducePow, Int.reduceLE, Int.reduceLT, Int.reduceEq, Int.reduceNeg, Int.reduceAdd, Int.reduceToNat, HHl]
                omega
              · simp only [go_sem, reduceIte, reduceCtorEq, Nat.reduceEqDiff, Nat.reduceAdd, Nat.reduceSub, Nat.reduceMul, Nat.reduceDiv, Nat.reduceMod, Nat.reduceLT, Nat.reduceLeDiff, Nat.reduceBEq, Nat.reducePow, Int.reduceLE, Int.reduceLT, Int.reduceEq, Int.reduceNeg, Int.reduceAdd, Int.reduceToNat, HHl]
              · simp only [go_sem, reduceIte, reduceCtorEq, Nat.reduceEqDiff, Nat.reduceAdd, Nat.reduceSub, Nat.reduceMul, Nat.reduceDiv, Nat.reduceMod, Nat.reduceLT, Nat.reduceLeDiff, Nat.reduceBEq, Nat.reducePow, Int.reduceLE, Int.reduceLT, Int.reduceEq, Int.reduceNeg, Int.reduceAdd, Int.reduceToNat, HHl, hPl]
                omega
              refine Wcall_mono (f25 group hgr xs (i + 1) P' q.o q.g (p.n + 1) hxs (by omega) (by omega) (by omega) hgood (by rw [List.length_append] at hb2; exact hb2)) ?_
              rintro d H' n' ⟨rfl, g', e1, e2, e3⟩
              simp only [go_sem, reduceIte, reduceCtorEq, Nat.reduceEqDiff, Nat.reduceAdd, Nat.reduceSub, Nat.reduceMul, Nat.reduceDiv, Nat.reduceMod, Nat.reduceLT, Nat.reduceLeDiff, Nat.reduceBEq, Nat.reducePow, Int.reduceLE, Int.reduceLT, Int.reduceEq, Int.reduceNeg, Int.reduceAdd, Int.reduceToNat, HHl] at e3
              obtain ⟨a1, a2, a3, a4, a5⟩ := e3
              repeat (first | refine ReqK.i (by omega) fun _ => ?_ | simp only [go_sem, reduceIte, reduceCtorEq, Nat.reduceEqDiff, Nat.reduceAdd, Nat.reduceSub, Nat.reduceMul, Nat.reduceDiv, Nat.reduceMod, Nat.reduceLT, Nat.reduceLeDiff, Nat.reduceBEq, Nat.reducePow, Int.reduceLE, Int.reduceLT, Int.reduceEq, Int.reduceNeg, Int.reduceAdd, Int.reduceToNat, HHl])
              refine ⟨⟨q.k + 1, g', n', q.o ++ walkM xs P', by omega, e1, by omega, hstep⟩, by simp only; omega, ?_⟩
              refine Weak_to ?_ ?_ ?_ <;> simp only [go_sem, reduceIte, reduceCtorEq, Nat.reduceEqDiff, Nat.reduceAdd, Nat.reduceSub, Nat.reduceMul, Nat.reduceDiv, Nat.reduceMod, Nat.reduceLT, Nat.reduceLeDiff, Nat.reduceBEq, Nat.reducePow, Int.reduceLE, Int.reduceLT, Int.reduceEq, Int.reduceNeg, Int.reduceAdd, Int.reduceToNat, HHl, a1, a2, a3, a4, a5]
      · have e : q.k = parts.length + 1 := by omega
        have eo : q.o = W := by rw [q.ho, e, hW]; rfl
        simp only [go_sem, reduceIte, reduceCtorEq, Nat.reduceEqDiff, Nat.reduceAdd, Nat.reduceSub, Nat.reduceMul, Nat.reduceDiv, Nat.reduceMod, Nat.reduceLT, Nat.reduceLeDiff, Nat.reduceBEq, Nat.reducePow, Int.reduceLE, Int.reduceLT, Int.reduceEq, Int.reduceNeg, Int.reduceAdd, Int.reduceToNat, HHl, Tryd.f25, eo]
        exact ⟨q.g, hqg, hqn, rfl, by rw [if_pos rfl]⟩
end Go.Proofs.YtbbcinpmomjbgaaDoor
