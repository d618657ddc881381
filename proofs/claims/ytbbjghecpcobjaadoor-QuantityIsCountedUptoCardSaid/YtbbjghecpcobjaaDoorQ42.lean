import Derived.Test.YtbbjghecpcobjaaDoorAT
import Derived.Test.YtbbjghecpcobjaaDoorQ41
set_option linter.unusedSimpArgs false
namespace Go.Abs
open Go
/-! the differences of the program, as they are made -/
def difR (v : Nat → Str) (i m : Nat) : List Abs.Form := (List.range' (i + 1) m).map fun k => notF (.mk 3 ⟨[]⟩ [v i, v k] [])
theorem difR_succ (v : Nat → Str) (i m : Nat) : difR v i (m + 1) = difR v i m ++ [notF (.mk 3 ⟨[]⟩ [v i, v (i + 1 + m)] [])] := by
  unfold difR
  rw [List.range'_concat, List.map_append, Nat.one_mul]; rfl
theorem diffs_eq (v : Nat → Str) (n : Nat) : diffs v n = (List.range n).flatMap fun i => difR v i (n - (i + 1)) := rfl
structure WrapI (v : Nat → Str) (R : Abs.Form) (n n0 : Nat) where
  p : Nat
  c : Abs.Form
  m : Nat
  hp : p ≤ n
  hm : n0 ≤ m
  h : wrap v p c = R
end Go.Abs
namespace Go.Proofs.YtbbjghecpcobjaaDoor
open Go Go.Abs Go.Proofs

/-! ## quantity.least -/
theorem f106 {i : Int} {H : Heap} {n : Nat} {R : D → Heap → Nat → Prop} (hi : 0 ≤ i ∧ i ≤ 1000) (h : R (.fz (.s (63 :: digits i.toNat))) H n) : Wcall Tryd.prog GA 106 [.fz (.i .i64 i)] H n R :=
  Wcall_tbl hR33 (t := sp1 qnS fun i => 0 ≤ i ∧ i ≤ 1000) (by simp only [R33, Tbl.add, if_true]) rfl k_sp1 ⟨rfl, hi⟩ h
def tree1124 : Tv := (.q 1 (.q 2 (.r 0 (.br [(3, (.q 4 (.br [(5, (.br [(6, .leaf)]))]))), (5, (.br [(3, (.q 4 (.br [(6, .leaf)])))]))]))))
def tree1128 : Tv := (.q 2 (.q 3 (.q 4 (.r 1 (.br [(0, (.br [(5, (.q 6 (.q 7 (.br [(8, .leaf)]))))])), (5, (.q 0 (.q 6 (.q 7 (.br [(8, .leaf)])))))])))))
def tree11215 : Tv := (.q 1 (.q 2 (.q 4 (.q 5 (.br [(0, (.br [(3, (.br [(6, (.q 7 (.q 8 (.q 9 (.q 10 (.br [(11, .leaf)]))))))]))])), (3, (.br [(0, (.br [(6, (.q 7 (.q 8 (.q 9 (.q 10 (.br [(11, .leaf)]))))))])), (6, (.q 0 (.q 7 (.q 8 (.q 9 (.q 10 (.br [(11, .leaf)])))))))]))])))))
def tree11220 : Tv := (.q 0 (.q 1 (.br [(2, (.q 3 (.q 4 (.q 5 (.br [(6, .leaf)]))))), (3, (.q 4 (.br [(2, (.q 5 (.br [(6, .leaf)])))])))])))
def leastPre (n : Int) (_ : Str) (f : Abs.Form) : Prop := 0 ≤ n ∧ n ≤ 4 ∧ (checkM false f).code = 0
def R36 : Tbl := R35.add 60 (sp3 (fun n name f => leastP f name n.toNat) leastPre)
attribute [go_sem] R36
set_option maxRecDepth 100000 in
set_option maxHeartbeats 1000000 in
set_option maxHeartbeats 8000000 in
theorem hR36 : TblOk Tryd.prog GA R36 := by
  refine sp3_ok ok60 hR35 fun n name f hpre _ _ _ => ?_
  obtain ⟨h0, h4, hc⟩ := hpre
  obtain ⟨N, rfl⟩ : ∃ N : Nat, n = (N : Int) := ⟨n.toNat, by omega⟩
  rw [show ((N : Int)).toNat = N from rfl]
  have hput : f.fit = true ∧ f.size ≤ 1000 := ⟨checkM_fit hc, by have := checkM_size hc; omega⟩
  by_cases hz : N = 0
  · subst hz
    have e : leastP f name 0 = .mk 1 ⟨[]⟩ [] [] := rfl
    rw [e]
    refine Wcall_K (N := 70) hm hR35 60000 (lst [1000004, 1000008, 1000015, 1000020]) ok60 Tryd.func60 rfl rfl (by simp) (by kernel_rfl) ?_
    repeat' (first | refine rq fun _ => ?_ | simp only [go_sem, Tryd.f60])
  obtain ⟨M, hN⟩ : ∃ M, M + 1 = N := ⟨N - 1, by omega⟩
  have hz' : ((N : Int) = 0) = False := eq_false (by omega)
  obtain ⟨R, hR⟩ : ∃ R, leastP f name N = R := ⟨_, rfl⟩
  obtain ⟨P, hP⟩ : ∃ P : Nat → List Abs.Form, P = fun i => (List.range i).map fun i => canonM f [⟨name, qn i⟩] := ⟨_, rfl⟩
  have hPl : ∀ i, (P i).length = i := fun i => by rw [hP]; simp only [List.length_map, List.length_range]
  obtain ⟨J, hJ⟩ : ∃ J : Nat → Abs.Form, J = fun i => joinM 5 (P (i + 1)) := ⟨_, rfl⟩
  have hJ0 : J 0 = canonM f [⟨name, qn 0⟩] := by rw [hJ, hP]; rfl
  have hJs : ∀ i, J (i + 1) = andF (J i) (canonM f [⟨name, qn (i + 1)⟩]) := fun i => by
    have : P (i + 1 + 1) = P (i + 1) ++ [canonM f [⟨name, qn (i + 1)⟩]] := by rw [hP]; simp only [List.range_succ (n := i + 1), List.map_append, List.map_cons, List.map_nil]
    rw [hJ]; simp only [this]
    exact joinM_snoc 5 (list_nep (by rw [hPl]; omega)) _
  obtain ⟨L, hL⟩ : ∃ L : Nat → List Abs.Form, L = fun i => P N ++ (List.range i).flatMap fun i => difR qn i (N - (i + 1)) := ⟨_, rfl⟩
  have hLn : ∀ i, L i ≠ [] := fun i => list_nep (by rw [hL]; simp only [List.length_append, hPl]; omega)
  obtain ⟨V, hV⟩ : ∃ V : Nat → Nat → Abs.Form, V = fun i m => joinM 5 (L i ++ difR qn i m) := ⟨_, rfl⟩
  obtain ⟨W, hW⟩ : ∃ W : Nat → Abs.Form, W = fun i => joinM 5 (L i) := ⟨_, rfl⟩
  have hW0 : W 0 = J M := by rw [hW, hJ, hL]; simp only [List.range_zero, List.flatMap_nil, List.append_nil, hN]
  have hV0 : ∀ i, V i 0 = W i := fun i => by rw [hV, hW]; simp [difR]
  have hVs : ∀ i m, V i (m + 1) = andF (V i m) (notF (.mk 3 ⟨[]⟩ [qn i, qn (i + 1 + m)] [])) := fun i m => by
    rw [hV]; simp only [difR_succ, ← List.append_assoc]
    exact joinM_snoc 5 (by simp [hLn i]) _
  have hVe : ∀ i, V i (N - (i + 1)) = W (i + 1) := fun i => by
    rw [hV, hW]
    have : L (i + 1) = L i ++ difR qn i (N - (i + 1)) := by rw [hL]; simp only [List.range_succ, List.flatMap_append, List.flatMap_singleton, List.append_assoc]
    simp only [this]
  have hWe : wrap qn N (W N) = R := by
    rw [← hR]
    unfold leastP leastG
    rw [if_neg (by omega), hW, hL, hP, diffs_eq]
  rw [hR]
  have kJ := Kp.mk hJs
  have kV := Kp.mk hVs
  have kVe := Kp.mk hVe
  have kV0 := Kp.mk hV0
  clear hP hPl hJ hJs hL hLn hV hW hVs hVe hV0 hR
  refine Wcall_K (N := 70) hm hR35 60000 (lst [1000004, 1000008, 1000015, 1000020]) ok60 Tryd.func60 rfl rfl (by simp) (by kernel_rfl) ?_
  repeat' (first | refine rq fun _ => ?_ | simp only [go_sem, hz', Tryd.f60])
  refine WK_weak2 (Weak_rpL (id := (60005, 0)) (t := 5) (b := true) (ys := [.i .i64 f.kind, .s f.name.l, .sl (f.words.map enc), .sl (f.subs.map enc)]) (by simp only [go_sem]) (by simp only [go_sem])) ?_
  obtain ⟨j0, hj0⟩ : ∃ j, canonM f [⟨name, qn 0⟩] = j := ⟨_, rfl⟩
  rw [hj0] at hJ0
  have hd0 : Str.mk (63 :: digits (Int.toNat 0)) = qn 0 := rfl
  have hq0 : qnS 0 = qn 0 := rfl
  have hqn : ∀ i : Nat, qnS (i : Int) = qn i := fun i => rfl
  have hqs : ∀ i : Nat, qnS ((i : Int) + 1) = qn (i + 1) := fun i => rfl
  refine WK_drawV hm hR35 60000 (lst [1000004, 1000008, 1000015, 1000020]) tree1124 (by kernel_rfl) (by kernel_rfl) ?_
  repeat' (first | refine And.intro ?_ ?_ | exact True.intro | refine ReqK.i hput fun _ => ?_ | refine WcallK.i (f106 (by omega) ?_) | refine rq fun _ => ?_ | simp only [go_sem, tree1124, hq0, hj0, form_eta, str_eta, Tryd.f60])
  all_goals
    refine WK_loop hm hR35 60000 (lst [1000004, 1000008, 1000015, 1000020]) (ι := LoopI M fun _ => True)
      ⟨fun q => ⟨frL [(0, .fz (.i .i64 N)), (1, .fz (.s name.l)), (5, .rp [.i .i64 f.kind, .s f.name.l, .sl (f.words.map enc), .sl (f.subs.map enc)]), (6, .ptr (60006, 1) 0), (7, .fn 106 []), (8, .ptr (60008, 2) 0), (9, .fz (.i .i64 ((q.i + 1 : Nat) : Int)))], hpL [((60006, 1), some ⟨[.fz (.i .i64 0), .fz (.s []), .full [], .full []], true, false⟩), ((60008, 2), some ⟨[.fz (.i .i64 (J q.i).kind), .fz (.s (J q.i).name.l), .fz (.sl ((J q.i).words.map enc)), .fz (.sl ((J q.i).subs.map enc))], true, false⟩)], 3⟩, fun q => M - q.i⟩
      ⟨0, by omega, trivial⟩ (by kernel_rfl) ?_ ?_
    · refine Weak_to ?_ ?_ ?_ <;> simp only [go_sem, hJ0]
      all_goals first | done | rfl | trace_state
    rintro ⟨i, hi, _⟩
    try simp only at hi
    rcases Nat.lt_or_ge i M with h1 | h1
    · have h1' : ((i : Int) + 1 < (N : Int)) = True := eq_true (by omega)
      have hs := kJ.out i
      obtain ⟨y, hy⟩ : ∃ y, canonM f [⟨name, qn (i + 1)⟩] = y := ⟨_, rfl⟩
      obtain ⟨z, hzz⟩ : ∃ z, J i = z := ⟨_, rfl⟩
      rw [hy, hzz] at hs
      repeat' (first | refine rq fun _ => ?_ | simp only [go_sem, h1', hzz, str_eta, Tryd.f60])
      refine WK_drawV hm hR35 60000 (lst [1000004, 1000008, 1000015, 1000020]) tree1128 (by kernel_rfl) (by kernel_rfl) ?_
      repeat' (first | refine And.intro ?_ ?_ | exact True.intro | refine ReqK.i hput fun _ => ?_ | refine WcallK.i (f106 (by omega) ?_) | refine rq fun _ => ?_ | simp only [go_sem, tree1128, hqs, hy, hzz, form_eta, str_eta, Tryd.f60])
      all_goals
        refine ⟨⟨i + 1, by omega, trivial⟩, by simp only; omega, ?_⟩
        refine Weak_to ?_ ?_ ?_ <;> simp only [go_sem, hs]
        all_goals first | done | rfl | trace_state
    obtain rfl : i = M := by omega
    have h1' : ((i : Int) + 1 < (N : Int)) = False := eq_false (by omega)
    repeat' (first | refine rq fun _ => ?_ | simp only [go_sem, h1', Tryd.f60])
    refine WK_loop hm hR35 60000 (lst [1000004, 1000008, 1000015, 1000020]) (ι := LoopI N fun _ => True)
      ⟨fun q => ⟨frL [(0, .fz (.i .i64 N)), (1, .fz (.s name.l)), (5, .rp [.i .i64 f.kind, .s f.name.l, .sl (f.words.map enc), .sl (f.subs.map enc)]), (6, .ptr (60006, 1) 0), (7, .fn 106 []), (8, .ptr (60008, 2) 0), (34, .fz (.i .i64 N)), (35, .fz (.i .i64 q.i))], hpL [((60006, 1), some ⟨[.fz (.i .i64 0), .fz (.s []), .full [], .full []], true, false⟩), ((60008, 2), some ⟨[.fz (.i .i64 (W q.i).kind), .fz (.s (W q.i).name.l), .fz (.sl ((W q.i).words.map enc)), .fz (.sl ((W q.i).subs.map enc))], true, false⟩)], 3⟩, fun q => N - q.i⟩
      ⟨0, by omega, trivial⟩ (by kernel_rfl) ?_ ?_
    · refine Weak_to ?_ ?_ ?_ <;> simp only [go_sem, hW0]
      all_goals first | done | rfl | trace_state
    rintro ⟨i2, hi2, _⟩
    try simp only at hi2
    rcases Nat.lt_or_ge i2 N with h2 | h2
    · have hv0 := kV0.out i2
      have hve := kVe.out i2
      repeat' (first | refine rq fun _ => ?_ | simp only [go_sem, h2, Tryd.f60])
      refine WK_loop hm hR35 60000 (lst [1000004, 1000008, 1000015, 1000020]) (ι := LoopI (N - (i2 + 1)) fun _ => True)
        ⟨fun q => ⟨frL [(0, .fz (.i .i64 N)), (1, .fz (.s name.l)), (5, .rp [.i .i64 f.kind, .s f.name.l, .sl (f.words.map enc), .sl (f.subs.map enc)]), (6, .ptr (60006, 1) 0), (7, .fn 106 []), (8, .ptr (60008, 2) 0), (34, .fz (.i .i64 N)), (35, .fz (.i .i64 i2)), (10, .fz (.i .i64 i2)), (11, .fz (.i .i64 ((i2 + 1 + q.i : Nat) : Int)))], hpL [((60006, 1), some ⟨[.fz (.i .i64 0), .fz (.s []), .full [], .full []], true, false⟩), ((60008, 2), some ⟨[.fz (.i .i64 (V i2 q.i).kind), .fz (.s (V i2 q.i).name.l), .fz (.sl ((V i2 q.i).words.map enc)), .fz (.sl ((V i2 q.i).subs.map enc))], true, false⟩)], 3⟩, fun q => N - (i2 + 1) - q.i⟩
        ⟨0, by omega, trivial⟩ (by kernel_rfl) ?_ ?_
      · refine Weak_to ?_ ?_ ?_ <;> simp only [go_sem, hv0]
        all_goals first | done | rfl | trace_state
      rintro ⟨m, hm3, _⟩
      try simp only at hm3
      obtain ⟨k, hk⟩ : ∃ k, i2 + 1 + m = k := ⟨_, rfl⟩
      simp only [hk]
      rcases Nat.lt_or_ge m (N - (i2 + 1)) with h3 | h3
      · have hkN : k < N := by omega
        have hvs := kV.out i2 m
        rw [hk] at hvs
        have hk1 : ((i2 + 1 + (m + 1) : Nat) : Int) = (k : Int) + 1 := by omega
        obtain ⟨z, hzz⟩ : ∃ z, V i2 m = z := ⟨_, rfl⟩
        rw [hzz] at hvs
        repeat' (first | refine rq fun _ => ?_ | simp only [go_sem, hkN, hzz, Tryd.f60])
        refine WK_drawV hm hR35 60000 (lst [1000004, 1000008, 1000015, 1000020]) tree11215 (by kernel_rfl) (by kernel_rfl) ?_
        repeat' (first | refine And.intro ?_ ?_ | exact True.intro | refine ReqK.i hput fun _ => ?_ | refine WcallK.i (f106 (by omega) ?_) | refine rq fun _ => ?_ | simp only [go_sem, tree11215, hqn, hzz, form_eta, str_eta, Tryd.f60])
        all_goals
          refine ⟨⟨m + 1, by omega, trivial⟩, by simp only; omega, ?_⟩
          simp only [hk1]
          refine Weak_to ?_ ?_ ?_ <;> simp only [go_sem, hvs]
          all_goals first | done | rfl | trace_state
      · obtain rfl : m = N - (i2 + 1) := by omega
        obtain rfl : k = N := by omega
        repeat' (first | refine rq fun _ => ?_ | simp only [go_sem, Nat.lt_irrefl, Tryd.f60])
        refine ⟨⟨i2 + 1, by omega, trivial⟩, by simp only; omega, ?_⟩
        refine Weak_to ?_ ?_ ?_ <;> simp only [go_sem, hve]
        all_goals first | done | rfl | trace_state
    obtain rfl : i2 = N := by omega
    repeat' (first | refine rq fun _ => ?_ | simp only [go_sem, Nat.lt_irrefl, Tryd.f60])
    refine WK_loop hm hR35 60000 (lst [1000004, 1000008, 1000015, 1000020]) (ι := WrapI qn R i2 3)
      ⟨fun q => ⟨frL [(6, .ptr (60006, 1) 0), (7, .fn 106 []), (8, .ptr (60008, 2) 0), (12, .fz (.i .i64 (idxV q.p)))], hpL [((60006, 1), some ⟨[.fz (.i .i64 0), .fz (.s []), .full [], .full []], true, false⟩), ((60008, 2), some ⟨[.fz (.i .i64 q.c.kind), .fz (.s q.c.name.l), .fz (.sl (q.c.words.map enc)), .fz (.sl (q.c.subs.map enc))], true, false⟩)], q.m⟩, fun q => q.p⟩
      ⟨i2, W i2, 3, Nat.le_refl _, Nat.le_refl _, hWe⟩ (by kernel_rfl) ?_ ?_
    · refine Weak_to ?_ ?_ ?_ <;> simp only [go_sem, idxV]
      all_goals first | done | rfl | trace_state
    rintro ⟨p, c, m, hp, hm4, hwr⟩
    try simp only at hp hm4 hwr
    cases p with
    | zero =>
      have hcR : c = R := hwr
      repeat' (first | refine rq fun _ => ?_ | simp only [go_sem, idxV_zero, hcR, form_eta, Tryd.f60])
    | succ p =>
      have hw2 : wrap qn p (.mk 9 (qn p) [] [c]) = R := hwr
      repeat' (first | refine rq fun _ => ?_ | simp only [go_sem, idxV_succ, Tryd.f60])
      refine WK_drawV hm hR35 60000 (lst [1000004, 1000008, 1000015, 1000020]) tree11220 (by kernel_rfl) (by kernel_rfl) ?_
      repeat' (first | refine And.intro ?_ ?_ | exact True.intro | refine ReqK.i hput fun _ => ?_ | refine WcallK.i (f106 (by omega) ?_) | refine rq fun _ => ?_ | simp only [go_sem, tree11220, hqn, idxV_succ, form_eta, str_eta, Tryd.f60])
      all_goals
        refine ⟨⟨p, .mk 9 (qn p) [] [c], m + 3, by omega, by omega, hw2⟩, by simp only; omega, ?_⟩
        refine Weak_g [] [] [] ?_ ?_ ?_ ?_ ?_ <;> (try simp only [go_sem, idxV])
        all_goals first | done | omega | rfl | trace_state
end Go.Proofs.YtbbjghecpcobjaaDoor
