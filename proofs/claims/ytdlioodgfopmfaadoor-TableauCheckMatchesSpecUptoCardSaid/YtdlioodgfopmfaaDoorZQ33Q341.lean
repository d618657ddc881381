/- several texts of this proof in one; no conditions -/
import Derived.Test.YtdlioodgfopmfaaDoorAT
import Derived.Test.YtdlioodgfopmfaaDoorQ32
import Derived.Test.YtdlioodgfopmfaaDoorLW
set_option linter.unusedSimpArgs false
namespace Go.Abs
open Go
theorem swp_eq {fr to : List Str} {f : Abs.Form} : swp fr to f = .mk f.kind (if isQ f.kind then swapW fr to f.name else f.name) (f.words.map (swapW fr to)) (f.subs.map (swp fr to)) := by cases f; rw [swp, swps_map]; rfl
theorem swapW_hit {fr to : List Str} {w : Str} {i : Nat} (h1 : i < fr.length) (h2 : i < to.length) (he : fr[i] = w) : swapW (fr.drop i) (to.drop i) w = to[i] := by
  rw [List.drop_eq_getElem_cons h1, List.drop_eq_getElem_cons h2]; unfold swapW; rw [if_pos he]
theorem swapW_miss {fr to : List Str} {w : Str} {i : Nat} (h1 : i < fr.length) (h2 : i < to.length) (he : ¬ fr[i] = w) : swapW (fr.drop i) (to.drop i) w = swapW (fr.drop (i + 1)) (to.drop (i + 1)) w := by
  rw [List.drop_eq_getElem_cons h1, List.drop_eq_getElem_cons h2]; conv => lhs; unfold swapW
  rw [if_neg he]
theorem swapW_end {fr to : List Str} {w : Str} {i : Nat} (h : fr.length ≤ i) : swapW (fr.drop i) (to.drop i) w = w := by
  rw [List.drop_of_length_le h]; unfold swapW; rfl
end Go.Abs
namespace Go.Proofs.YtdlioodgfopmfaaDoor
open Go Go.Abs Go.Proofs

/-! ## Swapped -/
def tree17s : Tv := (.q 0 (.q 1 (.q 2 (.q 3 (.q 4 (.q 5 (.q 6 .leaf)))))))
def tree23s : Tv := (.q 0 (.q 1 (.q 2 (.q 3 (.q 4 (.q 5 (.q 6 (.q 7 (.q 8 (.q 9 (.q 10 (.br [(11, (.q 12 (.br [(13, .leaf)])))]))))))))))))
def swpPre (f : Abs.Form) (fr to : List Str) : Prop := f.fit = true ∧ fr.length = to.length
def R9 : Tbl := R8.add 61 (sp3 (fun f fr to => swp fr to f) swpPre)
attribute [go_sem] R9
set_option maxRecDepth 100000 in
set_option maxHeartbeats 1000000 in
set_option maxHeartbeats 8000000 in
theorem hR9 : TblOk Tryd.prog GA R9 := by
  refine sp3_rec Form.size ok61 hR8 fun n hT f fr to hn hpre hw hwf hwt => ?_
  obtain ⟨hfit, hlen⟩ := hpre
  have la := Wf_sl hwf
  simp only [List.length_map, maxL] at la
  obtain ⟨hwl, hsl, hfs⟩ := Form.fit_eq hfit
  have hsz : ∀ g ∈ f.subs, g.size < n ∧ swpPre g fr to := fun g hg => ⟨by have := Form.size_sub hg; omega, Form.fits_mem hfs hg, hlen⟩
  obtain ⟨nm2, hnm2⟩ : ∃ nm2, (if isQ f.kind then swapW fr to f.name else f.name) = nm2 := ⟨_, rfl⟩
  obtain ⟨wl, hwl2⟩ : ∃ wl, f.words.map (swapW fr to) = wl := ⟨_, rfl⟩
  obtain ⟨A, hA⟩ : ∃ A : Nat → List Abs.Form, A = fun j => (f.subs.take j).map (swp fr to) := ⟨_, rfl⟩
  have hA0 : A 0 = [] := by rw [hA]; rfl
  have hAs : ∀ j (h : j < f.subs.length), A (j + 1) = A j ++ [swp fr to f.subs[j]] := fun j h => by rw [hA]; simp only [List.take_succ_eq_append_getElem h, List.map_append, List.map_cons, List.map_nil]
  have hAl : ∀ j, (A j).length ≤ f.subs.length := fun j => by rw [hA]; simp only [List.length_map, List.length_take]; omega
  have hres : swp fr to f = .mk f.kind nm2 wl (A f.subs.length) := by rw [swp_eq, hnm2, hwl2, hA]; simp only [List.take_length]
  rw [hres]
  have kT := Kp.mk hT
  have kz := Kp.mk hsz
  have kn := Kp.mk hnm2
  have kA := Kp.mk hAs
  have kL := Kp.mk hAl
  clear hT hsz hnm2 hAs hAl hA hres hw hwf hwt hfit hfs hn
  refine Wcall_K (N := 95) hm kT.out 61000 (lsw [45, 91] [1000017, 1000023]) ok61 Tryd.func61 rfl rfl (by simp) (by kernel_rfl) ?_
  repeat' (first | refine rq fun _ => ?_ | refine ReqK.i (fits_of2 (by first | omega | (simp only [List.length_map, List.length_append, List.length_cons, List.length_nil]; omega)) (by decide)) fun _ => ?_ | refine rq fun _ => ?_ | simp only [go_sem, Tryd.f61])
  refine WK_weak2 (Weak_rpL (id := (61003, 0)) (t := 3) (b := true) (ys := [.i .i64 f.kind, .s f.name.l, .sl (f.words.map enc), .sl (f.subs.map enc)]) (by simp only [go_sem]) (by simp only [go_sem])) ?_
  refine WK_loop hm kT.out 61000 (lsw [45, 91] [1000017, 1000023]) (ι := LoopG f.words.length 5 fun _ => True)
    ⟨fun q => ⟨frL [(1, .fz (.sl (fr.map enc))), (2, .fz (.sl (to.map enc))), (3, .rp [.i .i64 f.kind, .s f.name.l, .sl (f.words.map enc), .sl (f.subs.map enc)]), (6, .ptr (61006, 1) 0), (7, .ptr (61007, 2) 0), (19, .fz (.sl (f.words.map enc))), (20, .fz (.i .i64 f.words.length)), (21, .fz (.i .i64 q.i))],
      hpL [((61006, 1), some ⟨[.fz (.i .i64 0), .fz (.s []), .full [], .full []], true, false⟩), ((61007, 2), some ⟨[.fz (.i .i64 f.kind), .fz (.s f.name.l), .ow (61045, q.g) 1 (((f.words.take q.i).map (swapW fr to)).map enc), .ow (61091, 3) 4 ([])], true, false⟩), ((61045, q.g), some tok), ((61091, 3), some tok)], q.m⟩, fun q => f.words.length - q.i⟩
    ⟨0, 4, 5, by omega, by omega, by omega, trivial⟩ (by kernel_rfl) ?_ ?_
  · refine Weak_g [] [(61091, 3), (61045, 4)] [] ?_ ?_ ?_ ?_ ?_ <;> simp only [go_sem]
    all_goals first | done | rfl | trace_state
  rintro ⟨i, g1, m1, hi, hg1, hm1, _⟩
  try simp only at hi hg1 hm1
  rcases Nat.lt_or_ge i f.words.length with h1 | h1
  · obtain ⟨w, hwi⟩ : ∃ w, f.words[i] = w := ⟨_, rfl⟩
    have e4 : ((f.words.take (i + 1)).map (swapW fr to)) = ((f.words.take i).map (swapW fr to)) ++ [swapW fr to w] := by rw [List.take_succ_eq_append_getElem h1, hwi, List.map_append]; rfl
    have e5 : ((f.words.take i).map (swapW fr to)).length = i := by rw [List.length_map, List.length_take]; omega
    obtain ⟨ws, hws⟩ : ∃ ws, (f.words.take i).map (swapW fr to) = ws := ⟨_, rfl⟩
    rw [hws] at e4 e5
    obtain ⟨v, hv⟩ : ∃ v, swapW fr to w = v := ⟨_, rfl⟩
    rw [hv] at e4
    repeat' (first | refine rq fun _ => ?_ | refine ReqK.i (fits_of2 (by first | omega | (simp only [List.length_map, List.length_append, List.length_cons, List.length_nil]; omega)) (by decide)) fun _ => ?_ | refine rq fun _ => ?_ | simp only [go_sem, h1, hwi, hws, str_eta, getD_map_lt, Tryd.f61])
    refine WK_loop hm kT.out 61000 (lsw [45, 91] [1000017, 1000023]) (ι := LoopI fr.length fun p => v = swapW (fr.drop p) (to.drop p) w)
      ⟨fun q => ⟨frL [(1, .fz (.sl (fr.map enc))), (2, .fz (.sl (to.map enc))), (3, .rp [.i .i64 f.kind, .s f.name.l, .sl (f.words.map enc), .sl (f.subs.map enc)]), (6, .ptr (61006, 1) 0), (7, .ptr (61007, 2) 0), (9, .fz (.s w.l)), (19, .fz (.sl (f.words.map enc))), (20, .fz (.i .i64 f.words.length)), (21, .fz (.i .i64 i)), (26, .fz (.i .i64 fr.length)), (27, .fz (.i .i64 q.i))],
        hpL [((61006, 1), some ⟨[.fz (.i .i64 0), .fz (.s []), .full [], .full []], true, false⟩), ((61007, 2), some ⟨[.fz (.i .i64 f.kind), .fz (.s f.name.l), .ow (61045, g1) 1 (ws.map enc), .ow (61091, 3) 4 ([])], true, false⟩), ((61045, g1), some tok), ((61091, 3), some tok)], m1⟩, fun q => fr.length - q.i⟩
      ⟨0, by omega, hv.symm⟩ (by kernel_rfl) ?_ ?_
    · refine Weak_to ?_ ?_ ?_ <;> simp only [go_sem]
    rintro ⟨p, hp, hl⟩
    try simp only at hp hl
    rcases Nat.lt_or_ge p fr.length with h2 | h2
    · have h3 : p < to.length := by omega
      by_cases he : fr[p] = w
      · have hl2 := hl.trans (swapW_hit h2 h3 he)
        have he' : fr[p].l = w.l := by rw [he]
        repeat' (first | refine rq fun _ => ?_ | refine ReqK.i (fits_of2 (by first | omega | (simp only [List.length_map, List.length_append, List.length_cons, List.length_nil]; omega)) (by decide)) fun _ => ?_ | refine rq fun _ => ?_ | simp only [go_sem, h1, h2, h3, he', hwi, getD_map_lt, Tryd.f61])
        refine ⟨⟨i + 1, m1, m1 + 1, by omega, by omega, by omega, trivial⟩, by simp only; omega, ?_⟩
        refine Weak_to ?_ ?_ ?_ <;> simp only [go_sem, e4, List.map_append, hl2]
      · have hl2 := hl.trans (swapW_miss h2 h3 he)
        have he' : ¬ fr[p].l = w.l := fun e => he (by cases h7 : fr[p]; cases w; rw [h7] at e; simp only at e; rw [e])
        repeat' (first | refine rq fun _ => ?_ | refine ReqK.i (fits_of2 (by first | omega | (simp only [List.length_map, List.length_append, List.length_cons, List.length_nil]; omega)) (by decide)) fun _ => ?_ | refine rq fun _ => ?_ | simp only [go_sem, h1, h2, h3, he', hwi, getD_map_lt, Tryd.f61])
        refine ⟨⟨p + 1, by omega, hl2⟩, by simp only; omega, ?_⟩
        refine Weak_to ?_ ?_ ?_ <;> simp only [go_sem]
    · obtain rfl : p = fr.length := by omega
      have hl2 := hl.trans (swapW_end (Nat.le_refl _))
      repeat' (first | refine rq fun _ => ?_ | refine ReqK.i (fits_of2 (by first | omega | (simp only [List.length_map, List.length_append, List.length_cons, List.length_nil]; omega)) (by decide)) fun _ => ?_ | refine rq fun _ => ?_ | simp only [go_sem, h1, Nat.lt_irrefl, hwi, Tryd.f61])
      refine ⟨⟨i + 1, m1, m1 + 1, by omega, by omega, by omega, trivial⟩, by simp only; omega, ?_⟩
      refine Weak_to ?_ ?_ ?_ <;> simp only [go_sem, e4, List.map_append, hl2]
  · obtain rfl : i = f.words.length := by omega
    by_cases hq : isQ f.kind
    case' pos =>
      have hn2 := kn.out
      rw [if_pos hq] at hn2
      unfold isQ at hq
      have hq8 : ((f.kind = 8) = True ∧ (f.kind = 8) = True) ∨ ((f.kind = 8) = False ∧ (f.kind = 9) = True) := by
        rcases hq with h | h
        · exact .inl ⟨eq_true h, eq_true h⟩
        · exact .inr ⟨eq_false (by omega), eq_true h⟩
      rcases hq8 with ⟨h8, h9⟩ | ⟨h8, h9⟩
      all_goals
        repeat' (first | refine rq fun _ => ?_ | refine ReqK.i (fits_of2 (by first | omega | (simp only [List.length_map, List.length_append, List.length_cons, List.length_nil]; omega)) (by decide)) fun _ => ?_ | refine rq fun _ => ?_ | simp only [go_sem, h8, h9, Nat.lt_irrefl, List.take_length, hwl2, str_eta, Tryd.f61])
        refine WK_loop hm kT.out 61000 (lsw [45, 91] [1000017, 1000023]) (ι := LoopI fr.length fun p => nm2 = swapW (fr.drop p) (to.drop p) f.name)
          ⟨fun q => ⟨frL [(1, .fz (.sl (fr.map enc))), (2, .fz (.sl (to.map enc))), (3, .rp [.i .i64 f.kind, .s f.name.l, .sl (f.words.map enc), .sl (f.subs.map enc)]), (6, .ptr (61006, 1) 0), (7, .ptr (61007, 2) 0), (57, .fz (.i .i64 fr.length)), (58, .fz (.i .i64 q.i))],
            hpL [((61006, 1), some ⟨[.fz (.i .i64 0), .fz (.s []), .full [], .full []], true, false⟩), ((61007, 2), some ⟨[.fz (.i .i64 f.kind), .fz (.s f.name.l), .ow (61045, g1) 1 (wl.map enc), .ow (61091, 3) 4 ([])], true, false⟩), ((61091, 3), some tok)], m1⟩, fun q => fr.length - q.i⟩
          ⟨0, by omega, hn2.symm⟩ (by kernel_rfl) ?_ ?_
        · refine Weak_to ?_ ?_ ?_ <;> simp only [go_sem]
        rintro ⟨p, hp, hl⟩
        try simp only at hp hl
        rcases Nat.lt_or_ge p fr.length with h2 | h2
        have h3 : p < to.length := by omega
        by_cases he : fr[p] = f.name
        case' pos =>
          have hl2 := hl.trans (swapW_hit h2 h3 he)
          have he' : fr[p].l = f.name.l := by rw [he]
          repeat' (first | refine rq fun _ => ?_ | refine ReqK.i (fits_of2 (by first | omega | (simp only [List.length_map, List.length_append, List.length_cons, List.length_nil]; omega)) (by decide)) fun _ => ?_ | refine rq fun _ => ?_ | simp only [go_sem, h2, h3, he', getD_map_lt, Tryd.f61])
          refine WK_drawV hm kT.out 61000 (lsw [45, 91] [1000017, 1000023]) tree17s (by kernel_rfl) (by kernel_rfl) ?_
          repeat' (first | refine And.intro ?_ ?_ | exact True.intro | refine rq fun _ => ?_ | refine ReqK.i (fits_of2 (by first | omega | (simp only [List.length_map, List.length_append, List.length_cons, List.length_nil]; omega)) (by decide)) fun _ => ?_ | refine rq fun _ => ?_ | simp only [go_sem, tree17s, h2, h3, he', getD_map_lt, Tryd.f61])
        case neg =>
          have hl2 := hl.trans (swapW_miss h2 h3 he)
          have he' : ¬ fr[p].l = f.name.l := fun e => he (by cases h7 : fr[p]; cases h8 : f.name; rw [h7, h8] at e; simp only at e; rw [e])
          repeat' (first | refine rq fun _ => ?_ | refine ReqK.i (fits_of2 (by first | omega | (simp only [List.length_map, List.length_append, List.length_cons, List.length_nil]; omega)) (by decide)) fun _ => ?_ | refine rq fun _ => ?_ | simp only [go_sem, h2, h3, he', getD_map_lt, Tryd.f61])
          refine WK_drawV hm kT.out 61000 (lsw [45, 91] [1000017, 1000023]) tree17s (by kernel_rfl) (by kernel_rfl) ?_
          repeat' (first | refine And.intro ?_ ?_ | exact True.intro | refine rq fun _ => ?_ | refine ReqK.i (fits_of2 (by first | omega | (simp only [List.length_map, List.length_append, List.length_cons, List.length_nil]; omega)) (by decide)) fun _ => ?_ | refine rq fun _ => ?_ | simp only [go_sem, tree17s, h2, h3, he', getD_map_lt, Tryd.f61])
          refine ⟨⟨p + 1, by omega, hl2⟩, by simp only; omega, ?_⟩
          refine Weak_to ?_ ?_ ?_ <;> simp only [go_sem]
        case' inr =>
          obtain rfl : p = fr.length := by omega
          have hl2 := hl.trans (swapW_end (Nat.le_refl _))
          repeat' (first | refine rq fun _ => ?_ | refine ReqK.i (fits_of2 (by first | omega | (simp only [List.length_map, List.length_append, List.length_cons, List.length_nil]; omega)) (by decide)) fun _ => ?_ | refine rq fun _ => ?_ | simp only [go_sem, Nat.lt_irrefl, Tryd.f61])
    case' neg =>
      have hl2 := kn.out.symm
      rw [if_neg hq] at hl2
      unfold isQ at hq
      have h8 : (f.kind = 8) = False := eq_false fun h => hq (.inl h)
      have h9 : (f.kind = 9) = False := eq_false fun h => hq (.inr h)
      repeat' (first | refine rq fun _ => ?_ | refine ReqK.i (fits_of2 (by first | omega | (simp only [List.length_map, List.length_append, List.length_cons, List.length_nil]; omega)) (by decide)) fun _ => ?_ | refine rq fun _ => ?_ | simp only [go_sem, h8, h9, Nat.lt_irrefl, List.take_length, hwl2, str_eta, Tryd.f61])
    all_goals
      refine WK_loop hm kT.out 61000 (lsw [45, 91] [1000017, 1000023]) (ι := LoopG f.subs.length 5 fun _ => True)
        ⟨fun q => ⟨frL [(1, .fz (.sl (fr.map enc))), (2, .fz (.sl (to.map enc))), (3, .rp [.i .i64 f.kind, .s f.name.l, .sl (f.words.map enc), .sl (f.subs.map enc)]), (6, .ptr (61006, 1) 0), (7, .ptr (61007, 2) 0), (76, .fz (.i .i64 f.subs.length)), (77, .fz (.i .i64 q.i))],
          hpL [((61006, 1), some ⟨[.fz (.i .i64 0), .fz (.s []), .full [], .full []], true, false⟩), ((61007, 2), some ⟨[.fz (.i .i64 f.kind), .fz (.s nm2.l), .ow (61045, g1) 1 (wl.map enc), .ow (61091, q.g) 4 ((A q.i).map enc)], true, false⟩), ((61091, q.g), some tok)], q.m⟩, fun q => f.subs.length - q.i⟩
        ⟨0, 3, m1 + 10, by omega, by omega, by omega, trivial⟩ (by kernel_rfl) ?_ ?_
      · refine Weak_to ?_ ?_ ?_ <;> (try simp only [go_sem, hA0, hl2])
        all_goals first | done | omega
      rintro ⟨j, g2, m2, hj, hg2, hm2, _⟩
      try simp only at hj hg2 hm2
      rcases Nat.lt_or_ge j f.subs.length with h2 | h2
      · have hms := kA.out j h2
        have hml := kL.out j
        have hsz := kz.out _ (List.getElem_mem h2)
        obtain ⟨x, hx⟩ : ∃ x, f.subs[j] = x := ⟨_, rfl⟩
        rw [hx] at hms hsz
        repeat' (first | refine ReqK.i hsz fun _ => ?_ | refine rq fun _ => ?_ | refine ReqK.i (fits_of2 (by first | omega | (simp only [List.length_map, List.length_append, List.length_cons, List.length_nil]; omega)) (by decide)) fun _ => ?_ | refine rq fun _ => ?_ | simp only [go_sem, h2, hx, getD_map_lt, Tryd.f61])
        refine WK_drawV hm kT.out 61000 (lsw [45, 91] [1000017, 1000023]) tree23s (by kernel_rfl) (by kernel_rfl) ?_
        repeat' (first | refine And.intro ?_ ?_ | exact True.intro | refine ReqK.i hsz fun _ => ?_ | refine rq fun _ => ?_ | refine ReqK.i (fits_of2 (by first | omega | (simp only [List.length_map, List.length_append, List.length_cons, List.length_nil]; omega)) (by decide)) fun _ => ?_ | refine rq fun _ => ?_ | simp only [go_sem, tree23s, h2, hx, getD_map_lt, Tryd.f61])
        all_goals
          refine ⟨⟨j + 1, m2, m2 + 10, by omega, by omega, by omega, trivial⟩, by simp only; omega, ?_⟩
          refine Weak_to ?_ ?_ ?_ <;> (try simp only [go_sem, hms, List.map_append])
          all_goals first | done | omega
      · obtain rfl : j = f.subs.length := by omega
        repeat' (first | refine rq fun _ => ?_ | refine ReqK.i (fits_of2 (by first | omega | (simp only [List.length_map, List.length_append, List.length_cons, List.length_nil]; omega)) (by decide)) fun _ => ?_ | refine rq fun _ => ?_ | simp only [go_sem, Nat.lt_irrefl, Tryd.f61])
end Go.Proofs.YtdlioodgfopmfaaDoor

namespace Go.Proofs.YtdlioodgfopmfaaDoor
open Go Go.Abs Go.Proofs

/-! ## With, the document's canonical form -/
theorem zip_fr : ∀ {fr to : List Str}, fr.length = to.length → (List.zipWith Abs.Bind.mk fr to).map (·.fr) = fr ∧ (List.zipWith Abs.Bind.mk fr to).map (·.to) = to
  | [], [], _ => ⟨rfl, rfl⟩
  | a :: fr, b :: to, h => by
    have := zip_fr (fr := fr) (to := to) (by simpa using h)
    simp only [List.zipWith_cons_cons, List.map_cons, this.1, this.2, and_self]
theorem oldsM_succ (i : Nat) : oldsM (i + 1) = oldsM i ++ [bnum i] := by unfold oldsM; rw [List.range_succ, List.map_append]; rfl
theorem newsM_succ (us : List Str) (i : Nat) : newsM us (i + 1) = newsM us i ++ [vnum (nextM us (ctr us 0 i))] := by unfold newsM; rw [List.range_succ, List.map_append]; rfl
theorem oldsM_len (i : Nat) : (oldsM i).length = i := by unfold oldsM; rw [List.length_map, List.length_range]
theorem newsM_len (us : List Str) (i : Nat) : (newsM us i).length = i := by unfold newsM; rw [List.length_map, List.length_range]
theorem ctr_le (us : List Str) : ∀ i, ctr us 0 i ≤ i * (us.length + 1)
  | 0 => by simp [ctr]
  | i + 1 => by
    rw [ctr_succ, Nat.add_mul, Nat.one_mul]
    have h1 := ctr_le us i
    have h2 := (nextM_spec us (ctr us 0 i)).2.1
    omega
structure LoopW (len n0 : Nat) where
  i : Nat
  g1 : Nat
  g2 : Nat
  m : Nat
  hi : i ≤ len
  h1 : g1 < m
  h2 : g2 < m
  hm : n0 ≤ m
structure CtrI (us : List Str) (k0 : Nat) where
  k : Nat
  hk : k0 ≤ k
  h : nextM us k = nextM us k0
def wthPre (f : Abs.Form) (fr to : List Str) : Prop := f.fit = true ∧ f.size ≤ 1000 ∧ fr.length = to.length ∧ fr.length ≤ 1000
def R10 : Tbl := R9.add 30 (sp3 (fun f fr to => wthM f (List.zipWith Abs.Bind.mk fr to)) wthPre)
attribute [go_sem] R10
set_option maxRecDepth 100000 in
set_option maxHeartbeats 1000000 in
set_option maxHeartbeats 8000000 in
theorem hR10 : TblOk Tryd.prog GA R10 := by
  refine sp3_ok ok30 hR9 fun f fr to hpre hw _ _ => ?_
  obtain ⟨hfit, hsz, hlen, hle⟩ := hpre
  obtain ⟨z1, z2⟩ := zip_fr hlen
  obtain ⟨env, henv⟩ : ∃ env, List.zipWith Abs.Bind.mk fr to = env := ⟨_, rfl⟩
  rw [henv] at z1 z2 ⊢
  have hel : env.length ≤ 1000 := by rw [← z1, List.length_map] at hle; exact hle
  have h183 := f59 (ga := 2) f.size f env 0 3 (hpL [((30006, 1), some ⟨[.fz (.i .i64 0), .fz (.s []), .full [], .full []], true, false⟩)]) (Nat.le_refl _) hw hfit (by omega) (by omega) (by omega) (fun id o ho => by
    simp only [hpL] at ho
    split at ho
    · rename_i e; subst e; simp only; omega
    · cases ho)
  rw [z1, z2] at h183
  obtain ⟨g, hg⟩ : ∃ g, (ren bg f env 0).1 = g := ⟨_, rfl⟩
  obtain ⟨c2, hc2⟩ : ∃ c2, (ren bg f env 0).2 = c2 := ⟨_, rfl⟩
  have hc2l : c2 ≤ 1000 := by have := ((ren_le bg_le).1 f env 0).2; omega
  have hgs : g.size ≤ 1000 := by rw [← hg, ren_size]; exact hsz
  have hgf : g.fit = true := by rw [← hg, ren_fit]; exact hfit
  obtain ⟨us, hus⟩ : ∃ us, cstR g [] [] = us := ⟨_, rfl⟩
  have hul : us.length ≤ 1000000 := by
    have := cstR_len g [] [] hgf
    rw [hus] at this; simp only [List.length_nil] at this; omega
  have hres : wthM f env = swp (oldsM c2) (newsM us c2) g := by
    unfold wthM usedR markM; rw [hg, hc2, hus]
  obtain ⟨r, hr⟩ : ∃ r, swp (oldsM c2) (newsM us c2) g = r := ⟨_, rfl⟩
  rw [hres, hr]
  rw [hg, hc2] at h183
  rw [enc_form (f := f)] at h183
  clear hres z1 z2 henv hlen hg hc2 hw
  refine Wcall_K (N := 62) hm hR9 30000 (lsw [30, 49, 55] []) ok30 Tryd.func30 rfl rfl (by simp) (by kernel_rfl) ?_
  repeat' (first | refine rq fun _ => ?_ | refine ReqK.i (fits_of2 (by first | omega | (simp only [List.length_map, List.length_append, List.length_cons, List.length_nil]; omega)) (by decide)) fun _ => ?_ | refine rq fun _ => ?_ | refine ReqK.i ⟨by omega, by omega⟩ fun _ => ?_ | simp only [go_sem, Tryd.f30])
  refine WcallK.i (Wcall_hd rfl (Wcall_toX (by simp only [go_sem, argL]) (by simp only [go_sem, HM]; try rfl) (fun id o ho => ?_) (Nat.le_refl _) (Wcall_mono h183 ?_)))
  · simp only [hpL] at ho
    split at ho
    · rename_i e; subst e; simp only [go_sem]; exact Option.some.inj ho
    · cases ho
  rintro d' H' n1 ⟨rfl, e1, e2, e3⟩
  have b6 := e3 (30006, 1) ⟨[.fz (.i .i64 0), .fz (.s []), .full [], .full []], true, false⟩ (by simp only [go_sem])
  simp only [go_sem, HM] at e2
  have b7 := e2
  clear e3 e2
  rw [show H' = hpX [] H' from rfl, enc_form (f := g)]
  repeat' (first | refine ReqK.i ⟨hgf, hgs⟩ fun _ => ?_ | refine rq fun _ => ?_ | refine ReqK.i (fits_of2 (by first | omega | (simp only [List.length_map, List.length_append, List.length_cons, List.length_nil]; omega)) (by decide)) fun _ => ?_ | refine rq fun _ => ?_ | refine ReqK.i ⟨by omega, by omega⟩ fun _ => ?_ | simp only [go_sem, b6, b7, hgf, hgs, hus, form_eta, Tryd.f30])
  refine WK_weak2 (Weak_to (l := [(6, .ptr (30006, 1) 0), (7, .ptr (30007, 2) 0), (8, .ptr (30008, n1) 0), (9, .full []), (21, .fz (.sl (us.map enc))), (22, .fz (.i .i64 us.length)), (23, .fz (.i .i64 0))]) (hl := [((30006, 1), some ⟨[.fz (.i .i64 0), .fz (.s []), .full [], .full []], true, false⟩), ((30007, 2), some ⟨[.fz (.i .i64 (c2 : Nat))], true, false⟩), ((30008, n1), some ⟨[.fz (.i .i64 g.kind), .fz (.s g.name.l), .fz (.sl (g.words.map enc)), .fz (.sl (g.subs.map enc))], true, false⟩)]) (n := n1 + 1) ?_ ?_ ?_) ?_
  · simp only [go_sem]
  · simp only [go_sem, b6, b7]
  · simp only [go_sem]
  clear b6 b7
  refine WK_loop hm hR9 30000 (lsw [30, 49, 55] []) (ι := LoopG us.length (n1 + 2) fun _ => True)
    ⟨fun q => ⟨frL [(6, .ptr (30006, 1) 0), (7, .ptr (30007, 2) 0), (8, .ptr (30008, n1) 0), (9, .ow (30030, q.g) 1 ((us.take q.i).map enc)), (21, .fz (.sl (us.map enc))), (22, .fz (.i .i64 us.length)), (23, .fz (.i .i64 q.i))],
      hpL [((30006, 1), some ⟨[.fz (.i .i64 0), .fz (.s []), .full [], .full []], true, false⟩), ((30007, 2), some ⟨[.fz (.i .i64 (c2 : Nat))], true, false⟩), ((30008, n1), some ⟨[.fz (.i .i64 g.kind), .fz (.s g.name.l), .fz (.sl (g.words.map enc)), .fz (.sl (g.subs.map enc))], true, false⟩), ((30030, q.g), some tok)], q.m⟩, fun q => us.length - q.i⟩
    ⟨0, n1 + 1, n1 + 2, by omega, by omega, by omega, trivial⟩ (by kernel_rfl) ?_ ?_
  · refine Weak_g [] [(30030, n1 + 1)] [] ?_ ?_ ?_ ?_ ?_ <;> simp only [go_sem]
    all_goals first | done | rfl | omega | (repeat' (first | omega | rfl | apply And.intro)) | trace_state
  rintro ⟨i, gg, m, hi, hgg, hmm, _⟩
  try simp only at hi hgg hmm
  rcases Nat.lt_or_ge i us.length with h1 | h1
  · obtain ⟨w, hwi⟩ : ∃ w, us[i] = w := ⟨_, rfl⟩
    have e3 := List.take_succ_eq_append_getElem h1
    rw [hwi] at e3
    have e5 : (us.take i).length = i := by rw [List.length_take]; omega
    obtain ⟨ut, hut⟩ : ∃ ut, us.take i = ut := ⟨_, rfl⟩
    rw [hut] at e3 e5
    repeat' (first | refine rq fun _ => ?_ | refine ReqK.i (fits_of2 (by first | omega | (simp only [List.length_map, List.length_append, List.length_cons, List.length_nil]; omega)) (by decide)) fun _ => ?_ | refine rq fun _ => ?_ | refine ReqK.i ⟨by omega, by omega⟩ fun _ => ?_ | simp only [go_sem, h1, hwi, hut, str_eta, getD_map_lt, Tryd.f30])
    refine ⟨⟨i + 1, m, m + 1, by omega, by omega, by omega, trivial⟩, by simp only; omega, ?_⟩
    refine Weak_to ?_ ?_ ?_ <;> simp only [go_sem, e3, List.map_append]
  obtain rfl : i = us.length := by omega
  repeat' (first | refine rq fun _ => ?_ | refine ReqK.i (fits_of2 (by first | omega | (simp only [List.length_map, List.length_append, List.length_cons, List.length_nil]; omega)) (by decide)) fun _ => ?_ | refine rq fun _ => ?_ | refine ReqK.i ⟨by omega, by omega⟩ fun _ => ?_ | simp only [go_sem, Nat.lt_irrefl, List.take_length, Tryd.f30])
  refine WK_loop hm hR9 30000 (lsw [30, 49, 55] []) (ι := LoopW c2 (m + 2))
    ⟨fun q => ⟨frL [(6, .ptr (30006, 1) 0), (7, .ptr (30007, 2) 0), (8, .ptr (30008, n1) 0), (9, .fz (.sl (us.map enc))), (12, .ow (30049, q.g1) 1 ((oldsM q.i).map enc)), (13, .ow (30055, q.g2) 1 ((newsM us q.i).map enc)), (14, .fz (.i .i64 (ctr us 0 q.i : Nat))), (15, .fz (.i .i64 q.i))],
      hpL [((30006, 1), some ⟨[.fz (.i .i64 0), .fz (.s []), .full [], .full []], true, false⟩), ((30007, 2), some ⟨[.fz (.i .i64 (c2 : Nat))], true, false⟩), ((30008, n1), some ⟨[.fz (.i .i64 g.kind), .fz (.s g.name.l), .fz (.sl (g.words.map enc)), .fz (.sl (g.subs.map enc))], true, false⟩), ((30049, q.g1), some tok), ((30055, q.g2), some tok)], q.m⟩, fun q => c2 - q.i⟩
    ⟨0, m, m + 1, m + 2, by omega, by omega, by omega, by omega⟩ (by kernel_rfl) ?_ ?_
  · refine Weak_g [] [(30049, m), (30055, m + 1)] [] ?_ ?_ ?_ ?_ ?_ <;> simp only [go_sem]
    all_goals first | done | rfl | omega | (repeat' (first | omega | rfl | apply And.intro)) | trace_state
  rintro ⟨i, ga, gb, m2, hi2, hga, hgb, hm2⟩
  try simp only at hi2 hga hgb hm2
  have hol := oldsM_len i
  have hnl := newsM_len us i
  have hcl := ctr_le us i
  rcases Nat.lt_or_ge i c2 with h2 | h2
  · have hos := oldsM_succ i
    have hns := newsM_succ us i
    have hcs := ctr_succ us i 0
    obtain ⟨ol, hole⟩ : ∃ ol, oldsM i = ol := ⟨_, rfl⟩
    obtain ⟨nl, hnle⟩ : ∃ nl, newsM us i = nl := ⟨_, rfl⟩
    obtain ⟨k0, hk0⟩ : ∃ k0, ctr us 0 i = k0 := ⟨_, rfl⟩
    rw [hole] at hol hos
    rw [hnle] at hnl hns
    rw [hk0] at hcl hns hcs
    have hkb : i * (us.length + 1) ≤ 1000 * 1000001 := Nat.mul_le_mul (by omega) (by omega)
    have hnx := nextM_spec us k0
    repeat' (first | refine rq fun _ => ?_ | refine ReqK.i (fits_of2 (by first | omega | (simp only [List.length_map, List.length_append, List.length_cons, List.length_nil]; omega)) (by decide)) fun _ => ?_ | refine rq fun _ => ?_ | refine ReqK.i ⟨by omega, by omega⟩ fun _ => ?_ | simp only [go_sem, h2, hole, hnle, hk0, Tryd.f30])
    refine WK_loop hm hR9 30000 (lsw [30, 49, 55] []) (ι := CtrI us k0)
      ⟨fun q => ⟨frL [(6, .ptr (30006, 1) 0), (7, .ptr (30007, 2) 0), (8, .ptr (30008, n1) 0), (9, .fz (.sl (us.map enc))), (12, .ow (30049, ga) 1 (ol.map enc)), (13, .ow (30055, gb) 1 (nl.map enc)), (14, .fz (.i .i64 q.k)), (15, .fz (.i .i64 i))],
        hpL [((30006, 1), some ⟨[.fz (.i .i64 0), .fz (.s []), .full [], .full []], true, false⟩), ((30007, 2), some ⟨[.fz (.i .i64 (c2 : Nat))], true, false⟩), ((30008, n1), some ⟨[.fz (.i .i64 g.kind), .fz (.s g.name.l), .fz (.sl (g.words.map enc)), .fz (.sl (g.subs.map enc))], true, false⟩), ((30049, ga), some tok), ((30055, gb), some tok)], m2⟩, fun q => nextM us k0 - q.k⟩
      ⟨k0, Nat.le_refl _, rfl⟩ (by kernel_rfl) ?_ ?_
    · refine Weak_to ?_ ?_ ?_ <;> simp only [go_sem]
    rintro ⟨k, hk, hke⟩
    try simp only at hk hke
    have hkn := nextM_spec us k
    have hdl := digits_len k
    have hdi := digits_len i
    rw [hke] at hkn
    by_cases hin : vnum k ∈ us
    · have h3 := nextM_in hin
      have h4 := (nextM_spec us (k + 1)).1
      rw [← h3, hke] at h4
      have hin' : Str.mk (118 :: digits k) ∈ us := hin
      repeat' (first | refine rq fun _ => ?_ | refine ReqK.i (fits_of2 (by first | omega | (simp only [List.length_map, List.length_append, List.length_cons, List.length_nil]; omega)) (by decide)) fun _ => ?_ | refine rq fun _ => ?_ | refine ReqK.i ⟨by omega, by omega⟩ fun _ => ?_ | simp only [go_sem, hin', digS_l, Tryd.f30])
      refine ⟨⟨k + 1, by omega, by rw [← h3]; exact hke⟩, by simp only; omega, ?_⟩
      refine Weak_to ?_ ?_ ?_ <;> simp only [go_sem]
    · have h3 := nextM_out hin
      rw [hke] at h3
      have hin' : Str.mk (118 :: digits k) ∉ us := hin
      repeat' (first | refine rq fun _ => ?_ | refine ReqK.i (fits_of2 (by first | omega | (simp only [List.length_map, List.length_append, List.length_cons, List.length_nil]; omega)) (by decide)) fun _ => ?_ | refine rq fun _ => ?_ | refine ReqK.i ⟨by omega, by omega⟩ fun _ => ?_ | simp only [go_sem, hin', digS_l, Tryd.f30])
      refine ⟨⟨i + 1, m2, m2 + 1, m2 + 10, by omega, by omega, by omega, by omega⟩, by simp only; omega, ?_⟩
      refine Weak_to ?_ ?_ ?_ <;> (try simp only [go_sem, hos, hns, hcs, h3, bnum, vnum, List.map_append])
      all_goals first | done | omega | rfl
  · obtain rfl : i = c2 := by omega
    have hsp : swpPre g (oldsM i) (newsM us i) := ⟨hgf, by rw [hol, hnl]⟩
    repeat' (first | refine ReqK.i hsp fun _ => ?_ | refine rq fun _ => ?_ | refine ReqK.i (fits_of2 (by first | omega | (simp only [List.length_map, List.length_append, List.length_cons, List.length_nil]; omega)) (by decide)) fun _ => ?_ | refine rq fun _ => ?_ | refine ReqK.i ⟨by omega, by omega⟩ fun _ => ?_ | simp only [go_sem, Nat.lt_irrefl, hr, hsp, form_eta, Tryd.f30])

def R11 : Tbl := R10.add 22 (sp1 (fun f => wthM f []) fun f => f.fit = true ∧ f.size ≤ 1000)
attribute [go_sem] R11
set_option maxRecDepth 100000 in
set_option maxHeartbeats 1000000 in
theorem hR11 : TblOk Tryd.prog GA R11 := by
  refine sp1_ok ok22 hR10 fun f hpre _ => ?_
  have hp : wthPre f [] [] := ⟨hpre.1, hpre.2, rfl, by simp⟩
  have hz : List.zipWith Abs.Bind.mk [] [] = [] := rfl
  obtain ⟨r, hr⟩ : ∃ r, wthM f [] = r := ⟨_, rfl⟩
  rw [hr]
  refine Wcall_K (N := 5) hm hR10 22000 (lst []) ok22 Tryd.func22 rfl rfl (by simp) (by kernel_rfl) ?_
  repeat' (first | refine rq fun _ => ?_ | refine ReqK.i hp fun _ => ?_ | simp only [go_sem, hz, hr, form_eta, Tryd.f22])
end Go.Proofs.YtdlioodgfopmfaaDoor
