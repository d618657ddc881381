import Derived.Test.YtoicheicnbjfeaaDoorAT
import Derived.Test.YtoicheicnbjfeaaDoorQ32
set_option linter.unusedSimpArgs false
namespace Go.Abs
open Go
theorem swp_eq {fr to : List Str} {f : Abs.Form} : swp fr to f = .mk f.kind (if isQ f.kind then swapW fr to f.name else f.name) (f.words.map (swapW fr to)) (f.subs.map (swp fr to)) := by cases f; rw [swp, swps_map]; rfl
theorem swapW_hit {fr to : List Str} {w : Str} {i : Nat} (h1 : i < fr.length) (h2 : i < to.length) (he : fr[i] = w) : swapW (fr.drop i) (to.drop i) w = to[i] := by
  rw [List.drop_eq_getElem_cons h1, List.drop_eq_getElem_cons h2]; unfold swapW; rw [if_pos he]
theorem swapW_miss {fr to : List Str} {w : Str} {i : Nat} (h1 : i < fr.length) (h2 : i < to.length) (he : ¬ fr[i] = w) : swapW (fr.drop i) (to.drop i) w = swapW (fr.drop (i + 1)) (to.drop (i + 1)) w := by
  rw [List.drop_eq_getElem_cons h1, List.drop_eq_getElem_cons h2]; conv => lhs; unfold swapW
  rw [if_neg he]
theorem swapW_end {fr to : List Str} {w : Str} {i : Nat} (h : fr.length ≤ i) : swapW (fr.drop i) (to.drop i) w = w := by
  rw [List.drop_of_length_le h]; unfold swapW; rfl
end Go.Abs
namespace Go.Proofs.YtoicheicnbjfeaaDoor
open Go Go.Abs Go.Proofs

/-! ## Swapped -/
def tree17s : Tv := (.q 0 (.q 1 (.q 2 (.q 3 (.q 4 (.q 5 (.q 6 .leaf)))))))
def tree23s : Tv := (.q 0 (.q 1 (.q 2 (.q 3 (.q 4 (.q 5 (.q 6 (.q 7 (.q 8 (.q 9 (.q 10 (.br [(11, (.q 12 (.br [(13, .leaf)])))]))))))))))))
def swpPre (f : Abs.Form) (fr to : List Str) : Prop := f.fit = true ∧ fr.length = to.length
def R9 : Tbl := R8.add 213 (sp3 (fun f fr to => swp fr to f) swpPre)
set_option maxRecDepth 100000 in
set_option maxHeartbeats 1000000 in
set_option maxHeartbeats 8000000 in
theorem hR9 : TblOk Tryd.prog GA R9 := by
  refine sp3_rec Form.size ok213 hR8 fun n hT f fr to hn hpre hw hwf hwt => ?_
  obtain ⟨hfit, hlen⟩ := hpre
  have la := Wf_sl hwf
  simp only [List.length_map, maxL] at la
  obtain ⟨hwl, hsl, hfs⟩ := Form.fit_eq hfit
  have hsz : ∀ g ∈ f.subs, g.size < n ∧ swpPre g fr to := fun g hg => ⟨by have := Form.size_sub hg; omega, Form.fits_mem hfs hg, hlen⟩
  obtain ⟨nm2, hnm2⟩ : ∃ nm2, (if isQ f.kind then swapW fr to f.name else f.name) = nm2 := ⟨_, rfl⟩
  obtain ⟨wl, hwl2⟩ : ∃ wl, f.words.map (swapW fr to) = wl := ⟨_, rfl⟩
  obtain ⟨A, hA⟩ : ∃ A : Nat → List Abs.Form, A = fun j => (f.subs.take j).map (swp fr to) := ⟨_, rfl⟩
  have hA0 : A 0 = [] := by rw [hA]; rfl
  have hAs : ∀ j (h : j < f.subs.length), A (j + 1) = A j ++ [swp fr to f.subs[j]] := fun j h => by rw [hA]; simp only [List.take_succ_eq_append_getElem h, List.map_append, List.map_cons, List.map_nil]
  have hAl : ∀ j, (A j).length ≤ f.subs.length := fun j => by rw [hA]; simp only [List.length_map, List.length_take]; omega
  have hres : swp fr to f = .mk f.kind nm2 wl (A f.subs.length) := by rw [swp_eq, hnm2, hwl2, hA]; simp only [List.take_length]
  rw [hres]
  have kT := Kp.mk hT
  have kz := Kp.mk hsz
  have kn := Kp.mk hnm2
  have kA := Kp.mk hAs
  have kL := Kp.mk hAl
  clear hT hsz hnm2 hAs hAl hA hres hw hwf hwt hfit hfs hn
  refine Wcall_K (N := 95) hm kT.out 213000 (lsw [45, 91] [1000017, 1000023]) ok213 Tryd.func213 rfl rfl (by simp) (by kernel_rfl) ?_
  repeat' (first | refine ReqK.i (by omega) fun _ => ?_ | refine ReqK.i (fits_of2 (by first | omega | (simp only [List.length_map, List.length_append, List.length_cons, List.length_nil]; omega)) (by decide)) fun _ => ?_ | refine ReqK.i (by unfold maxL; omega) fun _ => ?_ | simp only [go_sem, Tryd.f213, R8, R7, R6, R5, R4, R3, R2, R1, Q20, Q19, Q18, Q17, Q16, Q15, Q14, Q13, Q12, Q11, Q10, Q9, Q8, Q7, Q6, Q5, Q4, Q3, Q2, Q1, Tbl0])
  refine WK_weak2 (Weak_rpL (id := (213003, 0)) (t := 3) (b := true) (ys := [.i .i64 f.kind, .s f.name.l, .sl (f.words.map enc), .sl (f.subs.map enc)]) (by simp only [go_sem]) (by simp only [go_sem])) ?_
  refine WK_loop hm kT.out 213000 (lsw [45, 91] [1000017, 1000023]) (ι := LoopG f.words.length 5 fun _ => True)
    ⟨fun q => ⟨frL [(1, .fz (.sl (fr.map enc))), (2, .fz (.sl (to.map enc))), (3, .rp [.i .i64 f.kind, .s f.name.l, .sl (f.words.map enc), .sl (f.subs.map enc)]), (6, .ptr (213006, 1) 0), (7, .ptr (213007, 2) 0), (19, .fz (.sl (f.words.map enc))), (20, .fz (.i .i64 f.words.length)), (21, .fz (.i .i64 q.i))],
      hpL [((213006, 1), some ⟨[.fz (.i .i64 0), .fz (.s []), .full [], .full []], true, false⟩), ((213007, 2), some ⟨[.fz (.i .i64 f.kind), .fz (.s f.name.l), .ow (213045, q.g) 1 (((f.words.take q.i).map (swapW fr to)).map enc), .ow (213091, 3) 4 ([])], true, false⟩), ((213045, q.g), some tok), ((213091, 3), some tok)], q.m⟩, fun q => f.words.length - q.i⟩
    ⟨0, 4, 5, by omega, by omega, by omega, trivial⟩ (by kernel_rfl) ?_ ?_
  · refine Weak_g [] [(213091, 3), (213045, 4)] [] ?_ ?_ ?_ ?_ ?_ <;> simp only [go_sem]
    all_goals first | done | rfl | trace_state
  rintro ⟨i, g1, m1, hi, hg1, hm1, _⟩
  try simp only at hi hg1 hm1
  rcases Nat.lt_or_ge i f.words.length with h1 | h1
  · obtain ⟨w, hwi⟩ : ∃ w, f.words[i] = w := ⟨_, rfl⟩
    have e4 : ((f.words.take (i + 1)).map (swapW fr to)) = ((f.words.take i).map (swapW fr to)) ++ [swapW fr to w] := by rw [List.take_succ_eq_append_getElem h1, hwi, List.map_append]; rfl
    have e5 : ((f.words.take i).map (swapW fr to)).length = i := by rw [List.length_map, List.length_take]; omega
    obtain ⟨ws, hws⟩ : ∃ ws, (f.words.take i).map (swapW fr to) = ws := ⟨_, rfl⟩
    rw [hws] at e4 e5
    obtain ⟨v, hv⟩ : ∃ v, swapW fr to w = v := ⟨_, rfl⟩
    rw [hv] at e4
    repeat' (first | refine ReqK.i (by omega) fun _ => ?_ | refine ReqK.i (fits_of2 (by first | omega | (simp only [List.length_map, List.length_append, List.length_cons, List.length_nil]; omega)) (by decide)) fun _ => ?_ | refine ReqK.i (by unfold maxL; omega) fun _ => ?_ | simp only [go_sem, h1, hwi, hws, str_eta, getD_map_lt, Tryd.f213, R8, R7, R6, R5, R4, R3, R2, R1, Q20, Q19, Q18, Q17, Q16, Q15, Q14, Q13, Q12, Q11, Q10, Q9, Q8, Q7, Q6, Q5, Q4, Q3, Q2, Q1, Tbl0])
    refine WK_loop hm kT.out 213000 (lsw [45, 91] [1000017, 1000023]) (ι := LoopI fr.length fun p => v = swapW (fr.drop p) (to.drop p) w)
      ⟨fun q => ⟨frL [(1, .fz (.sl (fr.map enc))), (2, .fz (.sl (to.map enc))), (3, .rp [.i .i64 f.kind, .s f.name.l, .sl (f.words.map enc), .sl (f.subs.map enc)]), (6, .ptr (213006, 1) 0), (7, .ptr (213007, 2) 0), (9, .fz (.s w.l)), (19, .fz (.sl (f.words.map enc))), (20, .fz (.i .i64 f.words.length)), (21, .fz (.i .i64 i)), (26, .fz (.i .i64 fr.length)), (27, .fz (.i .i64 q.i))],
        hpL [((213006, 1), some ⟨[.fz (.i .i64 0), .fz (.s []), .full [], .full []], true, false⟩), ((213007, 2), some ⟨[.fz (.i .i64 f.kind), .fz (.s f.name.l), .ow (213045, g1) 1 (ws.map enc), .ow (213091, 3) 4 ([])], true, false⟩), ((213045, g1), some tok), ((213091, 3), some tok)], m1⟩, fun q => fr.length - q.i⟩
      ⟨0, by omega, hv.symm⟩ (by kernel_rfl) ?_ ?_
    · refine Weak_to ?_ ?_ ?_ <;> simp only [go_sem]
    rintro ⟨p, hp, hl⟩
    try simp only at hp hl
    rcases Nat.lt_or_ge p fr.length with h2 | h2
    · have h3 : p < to.length := by omega
      by_cases he : fr[p] = w
      · have hl2 := hl.trans (swapW_hit h2 h3 he)
        have he' : fr[p].l = w.l := by rw [he]
        repeat' (first | refine ReqK.i (by omega) fun _ => ?_ | refine ReqK.i (fits_of2 (by first | omega | (simp only [List.length_map, List.length_append, List.length_cons, List.length_nil]; omega)) (by decide)) fun _ => ?_ | refine ReqK.i (by unfold maxL; omega) fun _ => ?_ | simp only [go_sem, h1, h2, h3, he', hwi, getD_map_lt, Tryd.f213, R8, R7, R6, R5, R4, R3, R2, R1, Q20, Q19, Q18, Q17, Q16, Q15, Q14, Q13, Q12, Q11, Q10, Q9, Q8, Q7, Q6, Q5, Q4, Q3, Q2, Q1, Tbl0])
        refine ⟨⟨i + 1, m1, m1 + 1, by omega, by omega, by omega, trivial⟩, by simp only; omega, ?_⟩
        refine Weak_to ?_ ?_ ?_ <;> simp only [go_sem, e4, List.map_append, hl2]
      · have hl2 := hl.trans (swapW_miss h2 h3 he)
        have he' : ¬ fr[p].l = w.l := fun e => he (by cases h7 : fr[p]; cases w; rw [h7] at e; simp only at e; rw [e])
        repeat' (first | refine ReqK.i (by omega) fun _ => ?_ | refine ReqK.i (fits_of2 (by first | omega | (simp only [List.length_map, List.length_append, List.length_cons, List.length_nil]; omega)) (by decide)) fun _ => ?_ | refine ReqK.i (by unfold maxL; omega) fun _ => ?_ | simp only [go_sem, h1, h2, h3, he', hwi, getD_map_lt, Tryd.f213, R8, R7, R6, R5, R4, R3, R2, R1, Q20, Q19, Q18, Q17, Q16, Q15, Q14, Q13, Q12, Q11, Q10, Q9, Q8, Q7, Q6, Q5, Q4, Q3, Q2, Q1, Tbl0])
        refine ⟨⟨p + 1, by omega, hl2⟩, by simp only; omega, ?_⟩
        refine Weak_to ?_ ?_ ?_ <;> simp only [go_sem]
    · obtain rfl : p = fr.length := by omega
      have hl2 := hl.trans (swapW_end (Nat.le_refl _))
      repeat' (first | refine ReqK.i (by omega) fun _ => ?_ | refine ReqK.i (fits_of2 (by first | omega | (simp only [List.length_map, List.length_append, List.length_cons, List.length_nil]; omega)) (by decide)) fun _ => ?_ | refine ReqK.i (by unfold maxL; omega) fun _ => ?_ | simp only [go_sem, h1, Nat.lt_irrefl, hwi, Tryd.f213, R8, R7, R6, R5, R4, R3, R2, R1, Q20, Q19, Q18, Q17, Q16, Q15, Q14, Q13, Q12, Q11, Q10, Q9, Q8, Q7, Q6, Q5, Q4, Q3, Q2, Q1, Tbl0])
      refine ⟨⟨i + 1, m1, m1 + 1, by omega, by omega, by omega, trivial⟩, by simp only; omega, ?_⟩
      refine Weak_to ?_ ?_ ?_ <;> simp only [go_sem, e4, List.map_append, hl2]
  · obtain rfl : i = f.words.length := by omega
    by_cases hq : isQ f.kind
    case' pos =>
      have hn2 := kn.out
      rw [if_pos hq] at hn2
      unfold isQ at hq
      have hq8 : ((f.kind = 8) = True ∧ (f.kind = 8) = True) ∨ ((f.kind = 8) = False ∧ (f.kind = 9) = True) := by
        rcases hq with h | h
        · exact .inl ⟨eq_true h, eq_true h⟩
        · exact .inr ⟨eq_false (by omega), eq_true h⟩
      rcases hq8 with ⟨h8, h9⟩ | ⟨h8, h9⟩
      all_goals
        repeat' (first | refine ReqK.i (by omega) fun _ => ?_ | refine ReqK.i (fits_of2 (by first | omega | (simp only [List.length_map, List.length_append, List.length_cons, List.length_nil]; omega)) (by decide)) fun _ => ?_ | refine ReqK.i (by unfold maxL; omega) fun _ => ?_ | simp only [go_sem, h8, h9, Nat.lt_irrefl, List.take_length, hwl2, str_eta, Tryd.f213, R8, R7, R6, R5, R4, R3, R2, R1, Q20, Q19, Q18, Q17, Q16, Q15, Q14, Q13, Q12, Q11, Q10, Q9, Q8, Q7, Q6, Q5, Q4, Q3, Q2, Q1, Tbl0])
        refine WK_loop hm kT.out 213000 (lsw [45, 91] [1000017, 1000023]) (ι := LoopI fr.length fun p => nm2 = swapW (fr.drop p) (to.drop p) f.name)
          ⟨fun q => ⟨frL [(1, .fz (.sl (fr.map enc))), (2, .fz (.sl (to.map enc))), (3, .rp [.i .i64 f.kind, .s f.name.l, .sl (f.words.map enc), .sl (f.subs.map enc)]), (6, .ptr (213006, 1) 0), (7, .ptr (213007, 2) 0), (57, .fz (.i .i64 fr.length)), (58, .fz (.i .i64 q.i))],
            hpL [((213006, 1), some ⟨[.fz (.i .i64 0), .fz (.s []), .full [], .full []], true, false⟩), ((213007, 2), some ⟨[.fz (.i .i64 f.kind), .fz (.s f.name.l), .ow (213045, g1) 1 (wl.map enc), .ow (213091, 3) 4 ([])], true, false⟩), ((213091, 3), some tok)], m1⟩, fun q => fr.length - q.i⟩
          ⟨0, by omega, hn2.symm⟩ (by kernel_rfl) ?_ ?_
        · refine Weak_to ?_ ?_ ?_ <;> simp only [go_sem]
        rintro ⟨p, hp, hl⟩
        try simp only at hp hl
        rcases Nat.lt_or_ge p fr.length with h2 | h2
        have h3 : p < to.length := by omega
        by_cases he : fr[p] = f.name
        case' pos =>
          have hl2 := hl.trans (swapW_hit h2 h3 he)
          have he' : fr[p].l = f.name.l := by rw [he]
          repeat' (first | refine ReqK.i (by omega) fun _ => ?_ | refine ReqK.i (fits_of2 (by first | omega | (simp only [List.length_map, List.length_append, List.length_cons, List.length_nil]; omega)) (by decide)) fun _ => ?_ | refine ReqK.i (by unfold maxL; omega) fun _ => ?_ | simp only [go_sem, h2, h3, he', getD_map_lt, Tryd.f213, R8, R7, R6, R5, R4, R3, R2, R1, Q20, Q19, Q18, Q17, Q16, Q15, Q14, Q13, Q12, Q11, Q10, Q9, Q8, Q7, Q6, Q5, Q4, Q3, Q2, Q1, Tbl0])
          refine WK_drawV hm kT.out 213000 (lsw [45, 91] [1000017, 1000023]) tree17s (by kernel_rfl) (by kernel_rfl) ?_
          repeat' (first | refine And.intro ?_ ?_ | exact True.intro | refine ReqK.i (by omega) fun _ => ?_ | refine ReqK.i (fits_of2 (by first | omega | (simp only [List.length_map, List.length_append, List.length_cons, List.length_nil]; omega)) (by decide)) fun _ => ?_ | refine ReqK.i (by unfold maxL; omega) fun _ => ?_ | simp only [go_sem, tree17s, h2, h3, he', getD_map_lt, Tryd.f213, R8, R7, R6, R5, R4, R3, R2, R1, Q20, Q19, Q18, Q17, Q16, Q15, Q14, Q13, Q12, Q11, Q10, Q9, Q8, Q7, Q6, Q5, Q4, Q3, Q2, Q1, Tbl0])
        case neg =>
          have hl2 := hl.trans (swapW_miss h2 h3 he)
          have he' : ¬ fr[p].l = f.name.l := fun e => he (by cases h7 : fr[p]; cases h8 : f.name; rw [h7, h8] at e; simp only at e; rw [e])
          repeat' (first | refine ReqK.i (by omega) fun _ => ?_ | refine ReqK.i (fits_of2 (by first | omega | (simp only [List.length_map, List.length_append, List.length_cons, List.length_nil]; omega)) (by decide)) fun _ => ?_ | refine ReqK.i (by unfold maxL; omega) fun _ => ?_ | simp only [go_sem, h2, h3, he', getD_map_lt, Tryd.f213, R8, R7, R6, R5, R4, R3, R2, R1, Q20, Q19, Q18, Q17, Q16, Q15, Q14, Q13, Q12, Q11, Q10, Q9, Q8, Q7, Q6, Q5, Q4, Q3, Q2, Q1, Tbl0])
          refine WK_drawV hm kT.out 213000 (lsw [45, 91] [1000017, 1000023]) tree17s (by kernel_rfl) (by kernel_rfl) ?_
          repeat' (first | refine And.intro ?_ ?_ | exact True.intro | refine ReqK.i (by omega) fun _ => ?_ | refine ReqK.i (fits_of2 (by first | omega | (simp only [List.length_map, List.length_append, List.length_cons, List.length_nil]; omega)) (by decide)) fun _ => ?_ | refine ReqK.i (by unfold maxL; omega) fun _ => ?_ | simp only [go_sem, tree17s, h2, h3, he', getD_map_lt, Tryd.f213, R8, R7, R6, R5, R4, R3, R2, R1, Q20, Q19, Q18, Q17, Q16, Q15, Q14, Q13, Q12, Q11, Q10, Q9, Q8, Q7, Q6, Q5, Q4, Q3, Q2, Q1, Tbl0])
          refine ⟨⟨p + 1, by omega, hl2⟩, by simp only; omega, ?_⟩
          refine Weak_to ?_ ?_ ?_ <;> simp only [go_sem]
        case' inr =>
          obtain rfl : p = fr.length := by omega
          have hl2 := hl.trans (swapW_end (Nat.le_refl _))
          repeat' (first | refine ReqK.i (by omega) fun _ => ?_ | refine ReqK.i (fits_of2 (by first | omega | (simp only [List.length_map, List.length_append, List.length_cons, List.length_nil]; omega)) (by decide)) fun _ => ?_ | refine ReqK.i (by unfold maxL; omega) fun _ => ?_ | simp only [go_sem, Nat.lt_irrefl, Tryd.f213, R8, R7, R6, R5, R4, R3, R2, R1, Q20, Q19, Q18, Q17, Q16, Q15, Q14, Q13, Q12, Q11, Q10, Q9, Q8, Q7, Q6, Q5, Q4, Q3, Q2, Q1, Tbl0])
    case' neg =>
      have hl2 := kn.out.symm
      rw [if_neg hq] at hl2
      unfold isQ at hq
      have h8 : (f.kind = 8) = False := eq_false fun h => hq (.inl h)
      have h9 : (f.kind = 9) = False := eq_false fun h => hq (.inr h)
      repeat' (first | refine ReqK.i (by omega) fun _ => ?_ | refine ReqK.i (fits_of2 (by first | omega | (simp only [List.length_map, List.length_append, List.length_cons, List.length_nil]; omega)) (by decide)) fun _ => ?_ | refine ReqK.i (by unfold maxL; omega) fun _ => ?_ | simp only [go_sem, h8, h9, Nat.lt_irrefl, List.take_length, hwl2, str_eta, Tryd.f213, R8, R7, R6, R5, R4, R3, R2, R1, Q20, Q19, Q18, Q17, Q16, Q15, Q14, Q13, Q12, Q11, Q10, Q9, Q8, Q7, Q6, Q5, Q4, Q3, Q2, Q1, Tbl0])
    all_goals
      refine WK_loop hm kT.out 213000 (lsw [45, 91] [1000017, 1000023]) (ι := LoopG f.subs.length 5 fun _ => True)
        ⟨fun q => ⟨frL [(1, .fz (.sl (fr.map enc))), (2, .fz (.sl (to.map enc))), (3, .rp [.i .i64 f.kind, .s f.name.l, .sl (f.words.map enc), .sl (f.subs.map enc)]), (6, .ptr (213006, 1) 0), (7, .ptr (213007, 2) 0), (76, .fz (.i .i64 f.subs.length)), (77, .fz (.i .i64 q.i))],
          hpL [((213006, 1), some ⟨[.fz (.i .i64 0), .fz (.s []), .full [], .full []], true, false⟩), ((213007, 2), some ⟨[.fz (.i .i64 f.kind), .fz (.s nm2.l), .ow (213045, g1) 1 (wl.map enc), .ow (213091, q.g) 4 ((A q.i).map enc)], true, false⟩), ((213091, q.g), some tok)], q.m⟩, fun q => f.subs.length - q.i⟩
        ⟨0, 3, m1 + 10, by omega, by omega, by omega, trivial⟩ (by kernel_rfl) ?_ ?_
      · refine Weak_to ?_ ?_ ?_ <;> (try simp only [go_sem, hA0, hl2])
        all_goals first | done | omega
      rintro ⟨j, g2, m2, hj, hg2, hm2, _⟩
      try simp only at hj hg2 hm2
      rcases Nat.lt_or_ge j f.subs.length with h2 | h2
      · have hms := kA.out j h2
        have hml := kL.out j
        have hsz := kz.out _ (List.getElem_mem h2)
        obtain ⟨x, hx⟩ : ∃ x, f.subs[j] = x := ⟨_, rfl⟩
        rw [hx] at hms hsz
        repeat' (first | refine ReqK.i hsz fun _ => ?_ | refine ReqK.i (by omega) fun _ => ?_ | refine ReqK.i (fits_of2 (by first | omega | (simp only [List.length_map, List.length_append, List.length_cons, List.length_nil]; omega)) (by decide)) fun _ => ?_ | refine ReqK.i (by unfold maxL; omega) fun _ => ?_ | simp only [go_sem, h2, hx, getD_map_lt, Tryd.f213, R8, R7, R6, R5, R4, R3, R2, R1, Q20, Q19, Q18, Q17, Q16, Q15, Q14, Q13, Q12, Q11, Q10, Q9, Q8, Q7, Q6, Q5, Q4, Q3, Q2, Q1, Tbl0])
        refine WK_drawV hm kT.out 213000 (lsw [45, 91] [1000017, 1000023]) tree23s (by kernel_rfl) (by kernel_rfl) ?_
        repeat' (first | refine And.intro ?_ ?_ | exact True.intro | refine ReqK.i hsz fun _ => ?_ | refine ReqK.i (by omega) fun _ => ?_ | refine ReqK.i (fits_of2 (by first | omega | (simp only [List.length_map, List.length_append, List.length_cons, List.length_nil]; omega)) (by decide)) fun _ => ?_ | refine ReqK.i (by unfold maxL; omega) fun _ => ?_ | simp only [go_sem, tree23s, h2, hx, getD_map_lt, Tryd.f213, R8, R7, R6, R5, R4, R3, R2, R1, Q20, Q19, Q18, Q17, Q16, Q15, Q14, Q13, Q12, Q11, Q10, Q9, Q8, Q7, Q6, Q5, Q4, Q3, Q2, Q1, Tbl0])
        all_goals
          refine ⟨⟨j + 1, m2, m2 + 10, by omega, by omega, by omega, trivial⟩, by simp only; omega, ?_⟩
          refine Weak_to ?_ ?_ ?_ <;> (try simp only [go_sem, hms, List.map_append])
          all_goals first | done | omega
      · obtain rfl : j = f.subs.length := by omega
        repeat' (first | refine ReqK.i (by omega) fun _ => ?_ | refine ReqK.i (fits_of2 (by first | omega | (simp only [List.length_map, List.length_append, List.length_cons, List.length_nil]; omega)) (by decide)) fun _ => ?_ | refine ReqK.i (by unfold maxL; omega) fun _ => ?_ | simp only [go_sem, Nat.lt_irrefl, Tryd.f213, R8, R7, R6, R5, R4, R3, R2, R1, Q20, Q19, Q18, Q17, Q16, Q15, Q14, Q13, Q12, Q11, Q10, Q9, Q8, Q7, Q6, Q5, Q4, Q3, Q2, Q1, Tbl0])
end Go.Proofs.YtoicheicnbjfeaaDoor
