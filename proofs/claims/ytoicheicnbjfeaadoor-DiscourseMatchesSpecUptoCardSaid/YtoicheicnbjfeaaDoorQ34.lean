import Derived.Test.YtoicheicnbjfeaaDoorAT
import Derived.Test.YtoicheicnbjfeaaDoorQ33
import Derived.Test.YtoicheicnbjfeaaDoorLW
set_option linter.unusedSimpArgs false
namespace Go.Proofs.YtoicheicnbjfeaaDoor
open Go Go.Abs Go.Proofs

/-! ## With, the document's canonical form -/
theorem zip_fr : ∀ {fr to : List Str}, fr.length = to.length → (List.zipWith Abs.Bind.mk fr to).map (·.fr) = fr ∧ (List.zipWith Abs.Bind.mk fr to).map (·.to) = to
  | [], [], _ => ⟨rfl, rfl⟩
  | a :: fr, b :: to, h => by
    have := zip_fr (fr := fr) (to := to) (by simpa using h)
    simp only [List.zipWith_cons_cons, List.map_cons, this.1, this.2, and_self]
theorem oldsM_succ (i : Nat) : oldsM (i + 1) = oldsM i ++ [bnum i] := by unfold oldsM; rw [List.range_succ, List.map_append]; rfl
theorem newsM_succ (us : List Str) (i : Nat) : newsM us (i + 1) = newsM us i ++ [vnum (nextM us (ctr us 0 i))] := by unfold newsM; rw [List.range_succ, List.map_append]; rfl
theorem oldsM_len (i : Nat) : (oldsM i).length = i := by unfold oldsM; rw [List.length_map, List.length_range]
theorem newsM_len (us : List Str) (i : Nat) : (newsM us i).length = i := by unfold newsM; rw [List.length_map, List.length_range]
theorem ctr_le (us : List Str) : ∀ i, ctr us 0 i ≤ i * (us.length + 1)
  | 0 => by simp [ctr]
  | i + 1 => by
    rw [ctr_succ, Nat.add_mul, Nat.one_mul]
    have h1 := ctr_le us i
    have h2 := (nextM_spec us (ctr us 0 i)).2.1
    omega
structure LoopW (len n0 : Nat) where
  i : Nat
  g1 : Nat
  g2 : Nat
  m : Nat
  hi : i ≤ len
  h1 : g1 < m
  h2 : g2 < m
  hm : n0 ≤ m
structure CtrI (us : List Str) (k0 : Nat) where
  k : Nat
  hk : k0 ≤ k
  h : nextM us k = nextM us k0
def wthPre (f : Abs.Form) (fr to : List Str) : Prop := f.fit = true ∧ f.size ≤ 1000 ∧ fr.length = to.length ∧ fr.length ≤ 1000
def R10 : Tbl := R9.add 180 (sp3 (fun f fr to => wthM f (List.zipWith Abs.Bind.mk fr to)) wthPre)
set_option maxRecDepth 100000 in
set_option maxHeartbeats 1000000 in
set_option maxHeartbeats 8000000 in
theorem hR10 : TblOk Tryd.prog GA R10 := by
  refine sp3_ok ok180 hR9 fun f fr to hpre hw _ _ => ?_
  obtain ⟨hfit, hsz, hlen, hle⟩ := hpre
  obtain ⟨z1, z2⟩ := zip_fr hlen
  obtain ⟨env, henv⟩ : ∃ env, List.zipWith Abs.Bind.mk fr to = env := ⟨_, rfl⟩
  rw [henv] at z1 z2 ⊢
  have hel : env.length ≤ 1000 := by rw [← z1, List.length_map] at hle; exact hle
  have h183 := f212 (ga := 2) f.size f env 0 3 (hpL [((180006, 1), some ⟨[.fz (.i .i64 0), .fz (.s []), .full [], .full []], true, false⟩)]) (Nat.le_refl _) hw hfit (by omega) (by omega) (by omega) (fun id o ho => by
    simp only [hpL] at ho
    split at ho
    · rename_i e; subst e; simp only; omega
    · cases ho)
  rw [z1, z2] at h183
  obtain ⟨g, hg⟩ : ∃ g, (ren bg f env 0).1 = g := ⟨_, rfl⟩
  obtain ⟨c2, hc2⟩ : ∃ c2, (ren bg f env 0).2 = c2 := ⟨_, rfl⟩
  have hc2l : c2 ≤ 1000 := by have := ((ren_le bg_le).1 f env 0).2; omega
  have hgs : g.size ≤ 1000 := by rw [← hg, ren_size]; exact hsz
  have hgf : g.fit = true := by rw [← hg, ren_fit]; exact hfit
  obtain ⟨us, hus⟩ : ∃ us, cstR g [] [] = us := ⟨_, rfl⟩
  have hul : us.length ≤ 1000000 := by
    have := cstR_len g [] [] hgf
    rw [hus] at this; simp only [List.length_nil] at this; omega
  have hres : wthM f env = swp (oldsM c2) (newsM us c2) g := by
    unfold wthM usedR markM; rw [hg, hc2, hus]
  obtain ⟨r, hr⟩ : ∃ r, swp (oldsM c2) (newsM us c2) g = r := ⟨_, rfl⟩
  rw [hres, hr]
  rw [hg, hc2] at h183
  rw [enc_form (f := f)] at h183
  clear hres z1 z2 henv hlen hg hc2 hw
  refine Wcall_K (N := 62) hm hR9 180000 (lsw [30, 49, 55] []) ok180 Tryd.func180 rfl rfl (by simp) (by kernel_rfl) ?_
  repeat' (first | refine ReqK.i (by omega) fun _ => ?_ | refine ReqK.i (fits_of2 (by first | omega | (simp only [List.length_map, List.length_append, List.length_cons, List.length_nil]; omega)) (by decide)) fun _ => ?_ | refine ReqK.i (by unfold maxL; omega) fun _ => ?_ | refine ReqK.i ⟨by omega, by omega⟩ fun _ => ?_ | simp only [go_sem, Tryd.f180, R9, R8, R7, R6, R5, R4, R3, R2, R1, Q20, Q19, Q18, Q17, Q16, Q15, Q14, Q13, Q12, Q11, Q10, Q9, Q8, Q7, Q6, Q5, Q4, Q3, Q2, Q1, Tbl0])
  refine WcallK.i (Wcall_hd rfl (Wcall_toX (by simp only [go_sem, argL]) (by simp only [go_sem, HM]; try rfl) (fun id o ho => ?_) (Nat.le_refl _) (Wcall_mono h183 ?_)))
  · simp only [hpL] at ho
    split at ho
    · rename_i e; subst e; simp only [go_sem]; exact Option.some.inj ho
    · cases ho
  rintro d' H' n1 ⟨rfl, e1, e2, e3⟩
  have b6 := e3 (180006, 1) ⟨[.fz (.i .i64 0), .fz (.s []), .full [], .full []], true, false⟩ (by simp only [go_sem])
  simp only [go_sem, HM] at e2
  have b7 := e2
  clear e3 e2
  rw [show H' = hpX [] H' from rfl, enc_form (f := g)]
  repeat' (first | refine ReqK.i ⟨hgf, hgs⟩ fun _ => ?_ | refine ReqK.i (by omega) fun _ => ?_ | refine ReqK.i (fits_of2 (by first | omega | (simp only [List.length_map, List.length_append, List.length_cons, List.length_nil]; omega)) (by decide)) fun _ => ?_ | refine ReqK.i (by unfold maxL; omega) fun _ => ?_ | refine ReqK.i ⟨by omega, by omega⟩ fun _ => ?_ | simp only [go_sem, b6, b7, hgf, hgs, hus, form_eta, Tryd.f180, R9, R8, R7, R6, R5, R4, R3, R2, R1, Q20, Q19, Q18, Q17, Q16, Q15, Q14, Q13, Q12, Q11, Q10, Q9, Q8, Q7, Q6, Q5, Q4, Q3, Q2, Q1, Tbl0])
  refine WK_weak2 (Weak_to (l := [(6, .ptr (180006, 1) 0), (7, .ptr (180007, 2) 0), (8, .ptr (180008, n1) 0), (9, .full []), (21, .fz (.sl (us.map enc))), (22, .fz (.i .i64 us.length)), (23, .fz (.i .i64 0))]) (hl := [((180006, 1), some ⟨[.fz (.i .i64 0), .fz (.s []), .full [], .full []], true, false⟩), ((180007, 2), some ⟨[.fz (.i .i64 (c2 : Nat))], true, false⟩), ((180008, n1), some ⟨[.fz (.i .i64 g.kind), .fz (.s g.name.l), .fz (.sl (g.words.map enc)), .fz (.sl (g.subs.map enc))], true, false⟩)]) (n := n1 + 1) ?_ ?_ ?_) ?_
  · simp only [go_sem]
  · simp only [go_sem, b6, b7]
  · simp only [go_sem]
  clear b6 b7
  refine WK_loop hm hR9 180000 (lsw [30, 49, 55] []) (ι := LoopG us.length (n1 + 2) fun _ => True)
    ⟨fun q => ⟨frL [(6, .ptr (180006, 1) 0), (7, .ptr (180007, 2) 0), (8, .ptr (180008, n1) 0), (9, .ow (180030, q.g) 1 ((us.take q.i).map enc)), (21, .fz (.sl (us.map enc))), (22, .fz (.i .i64 us.length)), (23, .fz (.i .i64 q.i))],
      hpL [((180006, 1), some ⟨[.fz (.i .i64 0), .fz (.s []), .full [], .full []], true, false⟩), ((180007, 2), some ⟨[.fz (.i .i64 (c2 : Nat))], true, false⟩), ((180008, n1), some ⟨[.fz (.i .i64 g.kind), .fz (.s g.name.l), .fz (.sl (g.words.map enc)), .fz (.sl (g.subs.map enc))], true, false⟩), ((180030, q.g), some tok)], q.m⟩, fun q => us.length - q.i⟩
    ⟨0, n1 + 1, n1 + 2, by omega, by omega, by omega, trivial⟩ (by kernel_rfl) ?_ ?_
  · refine Weak_g [] [(180030, n1 + 1)] [] ?_ ?_ ?_ ?_ ?_ <;> simp only [go_sem]
    all_goals first | done | rfl | omega | (repeat' (first | omega | rfl | apply And.intro)) | trace_state
  rintro ⟨i, gg, m, hi, hgg, hmm, _⟩
  try simp only at hi hgg hmm
  rcases Nat.lt_or_ge i us.length with h1 | h1
  · obtain ⟨w, hwi⟩ : ∃ w, us[i] = w := ⟨_, rfl⟩
    have e3 := List.take_succ_eq_append_getElem h1
    rw [hwi] at e3
    have e5 : (us.take i).length = i := by rw [List.length_take]; omega
    obtain ⟨ut, hut⟩ : ∃ ut, us.take i = ut := ⟨_, rfl⟩
    rw [hut] at e3 e5
    repeat' (first | refine ReqK.i (by omega) fun _ => ?_ | refine ReqK.i (fits_of2 (by first | omega | (simp only [List.length_map, List.length_append, List.length_cons, List.length_nil]; omega)) (by decide)) fun _ => ?_ | refine ReqK.i (by unfold maxL; omega) fun _ => ?_ | refine ReqK.i ⟨by omega, by omega⟩ fun _ => ?_ | simp only [go_sem, h1, hwi, hut, str_eta, getD_map_lt, Tryd.f180, R9, R8, R7, R6, R5, R4, R3, R2, R1, Q20, Q19, Q18, Q17, Q16, Q15, Q14, Q13, Q12, Q11, Q10, Q9, Q8, Q7, Q6, Q5, Q4, Q3, Q2, Q1, Tbl0])
    refine ⟨⟨i + 1, m, m + 1, by omega, by omega, by omega, trivial⟩, by simp only; omega, ?_⟩
    refine Weak_to ?_ ?_ ?_ <;> simp only [go_sem, e3, List.map_append]
  obtain rfl : i = us.length := by omega
  repeat' (first | refine ReqK.i (by omega) fun _ => ?_ | refine ReqK.i (fits_of2 (by first | omega | (simp only [List.length_map, List.length_append, List.length_cons, List.length_nil]; omega)) (by decide)) fun _ => ?_ | refine ReqK.i (by unfold maxL; omega) fun _ => ?_ | refine ReqK.i ⟨by omega, by omega⟩ fun _ => ?_ | simp only [go_sem, Nat.lt_irrefl, List.take_length, Tryd.f180, R9, R8, R7, R6, R5, R4, R3, R2, R1, Q20, Q19, Q18, Q17, Q16, Q15, Q14, Q13, Q12, Q11, Q10, Q9, Q8, Q7, Q6, Q5, Q4, Q3, Q2, Q1, Tbl0])
  refine WK_loop hm hR9 180000 (lsw [30, 49, 55] []) (ι := LoopW c2 (m + 2))
    ⟨fun q => ⟨frL [(6, .ptr (180006, 1) 0), (7, .ptr (180007, 2) 0), (8, .ptr (180008, n1) 0), (9, .fz (.sl (us.map enc))), (12, .ow (180049, q.g1) 1 ((oldsM q.i).map enc)), (13, .ow (180055, q.g2) 1 ((newsM us q.i).map enc)), (14, .fz (.i .i64 (ctr us 0 q.i : Nat))), (15, .fz (.i .i64 q.i))],
      hpL [((180006, 1), some ⟨[.fz (.i .i64 0), .fz (.s []), .full [], .full []], true, false⟩), ((180007, 2), some ⟨[.fz (.i .i64 (c2 : Nat))], true, false⟩), ((180008, n1), some ⟨[.fz (.i .i64 g.kind), .fz (.s g.name.l), .fz (.sl (g.words.map enc)), .fz (.sl (g.subs.map enc))], true, false⟩), ((180049, q.g1), some tok), ((180055, q.g2), some tok)], q.m⟩, fun q => c2 - q.i⟩
    ⟨0, m, m + 1, m + 2, by omega, by omega, by omega, by omega⟩ (by kernel_rfl) ?_ ?_
  · refine Weak_g [] [(180049, m), (180055, m + 1)] [] ?_ ?_ ?_ ?_ ?_ <;> simp only [go_sem]
    all_goals first | done | rfl | omega | (repeat' (first | omega | rfl | apply And.intro)) | trace_state
  rintro ⟨i, ga, gb, m2, hi2, hga, hgb, hm2⟩
  try simp only at hi2 hga hgb hm2
  have hol := oldsM_len i
  have hnl := newsM_len us i
  have hcl := ctr_le us i
  rcases Nat.lt_or_ge i c2 with h2 | h2
  · have hos := oldsM_succ i
    have hns := newsM_succ us i
    have hcs := ctr_succ us i 0
    obtain ⟨ol, hole⟩ : ∃ ol, oldsM i = ol := ⟨_, rfl⟩
    obtain ⟨nl, hnle⟩ : ∃ nl, newsM us i = nl := ⟨_, rfl⟩
    obtain ⟨k0, hk0⟩ : ∃ k0, ctr us 0 i = k0 := ⟨_, rfl⟩
    rw [hole] at hol hos
    rw [hnle] at hnl hns
    rw [hk0] at hcl hns hcs
    have hkb : i * (us.length + 1) ≤ 1000 * 1000001 := Nat.mul_le_mul (by omega) (by omega)
    have hnx := nextM_spec us k0
    repeat' (first | refine ReqK.i (by omega) fun _ => ?_ | refine ReqK.i (fits_of2 (by first | omega | (simp only [List.length_map, List.length_append, List.length_cons, List.length_nil]; omega)) (by decide)) fun _ => ?_ | refine ReqK.i (by unfold maxL; omega) fun _ => ?_ | refine ReqK.i ⟨by omega, by omega⟩ fun _ => ?_ | simp only [go_sem, h2, hole, hnle, hk0, Tryd.f180, R9, R8, R7, R6, R5, R4, R3, R2, R1, Q20, Q19, Q18, Q17, Q16, Q15, Q14, Q13, Q12, Q11, Q10, Q9, Q8, Q7, Q6, Q5, Q4, Q3, Q2, Q1, Tbl0])
    refine WK_loop hm hR9 180000 (lsw [30, 49, 55] []) (ι := CtrI us k0)
      ⟨fun q => ⟨frL [(6, .ptr (180006, 1) 0), (7, .ptr (180007, 2) 0), (8, .ptr (180008, n1) 0), (9, .fz (.sl (us.map enc))), (12, .ow (180049, ga) 1 (ol.map enc)), (13, .ow (180055, gb) 1 (nl.map enc)), (14, .fz (.i .i64 q.k)), (15, .fz (.i .i64 i))],
        hpL [((180006, 1), some ⟨[.fz (.i .i64 0), .fz (.s []), .full [], .full []], true, false⟩), ((180007, 2), some ⟨[.fz (.i .i64 (c2 : Nat))], true, false⟩), ((180008, n1), some ⟨[.fz (.i .i64 g.kind), .fz (.s g.name.l), .fz (.sl (g.words.map enc)), .fz (.sl (g.subs.map enc))], true, false⟩), ((180049, ga), some tok), ((180055, gb), some tok)], m2⟩, fun q => nextM us k0 - q.k⟩
      ⟨k0, Nat.le_refl _, rfl⟩ (by kernel_rfl) ?_ ?_
    · refine Weak_to ?_ ?_ ?_ <;> simp only [go_sem]
    rintro ⟨k, hk, hke⟩
    try simp only at hk hke
    have hkn := nextM_spec us k
    have hdl := digits_len k
    have hdi := digits_len i
    rw [hke] at hkn
    by_cases hin : vnum k ∈ us
    · have h3 := nextM_in hin
      have h4 := (nextM_spec us (k + 1)).1
      rw [← h3, hke] at h4
      have hin' : Str.mk (118 :: digits k) ∈ us := hin
      repeat' (first | refine ReqK.i (by omega) fun _ => ?_ | refine ReqK.i (fits_of2 (by first | omega | (simp only [List.length_map, List.length_append, List.length_cons, List.length_nil]; omega)) (by decide)) fun _ => ?_ | refine ReqK.i (by unfold maxL; omega) fun _ => ?_ | refine ReqK.i ⟨by omega, by omega⟩ fun _ => ?_ | simp only [go_sem, hin', digS_l, Tryd.f180, R9, R8, R7, R6, R5, R4, R3, R2, R1, Q20, Q19, Q18, Q17, Q16, Q15, Q14, Q13, Q12, Q11, Q10, Q9, Q8, Q7, Q6, Q5, Q4, Q3, Q2, Q1, Tbl0])
      refine ⟨⟨k + 1, by omega, by rw [← h3]; exact hke⟩, by simp only; omega, ?_⟩
      refine Weak_to ?_ ?_ ?_ <;> simp only [go_sem]
    · have h3 := nextM_out hin
      rw [hke] at h3
      have hin' : Str.mk (118 :: digits k) ∉ us := hin
      repeat' (first | refine ReqK.i (by omega) fun _ => ?_ | refine ReqK.i (fits_of2 (by first | omega | (simp only [List.length_map, List.length_append, List.length_cons, List.length_nil]; omega)) (by decide)) fun _ => ?_ | refine ReqK.i (by unfold maxL; omega) fun _ => ?_ | refine ReqK.i ⟨by omega, by omega⟩ fun _ => ?_ | simp only [go_sem, hin', digS_l, Tryd.f180, R9, R8, R7, R6, R5, R4, R3, R2, R1, Q20, Q19, Q18, Q17, Q16, Q15, Q14, Q13, Q12, Q11, Q10, Q9, Q8, Q7, Q6, Q5, Q4, Q3, Q2, Q1, Tbl0])
      refine ⟨⟨i + 1, m2, m2 + 1, m2 + 10, by omega, by omega, by omega, by omega⟩, by simp only; omega, ?_⟩
      refine Weak_to ?_ ?_ ?_ <;> (try simp only [go_sem, hos, hns, hcs, h3, bnum, vnum, List.map_append])
      all_goals first | done | omega | rfl
  · obtain rfl : i = c2 := by omega
    have hsp : swpPre g (oldsM i) (newsM us i) := ⟨hgf, by rw [hol, hnl]⟩
    repeat' (first | refine ReqK.i hsp fun _ => ?_ | refine ReqK.i (by omega) fun _ => ?_ | refine ReqK.i (fits_of2 (by first | omega | (simp only [List.length_map, List.length_append, List.length_cons, List.length_nil]; omega)) (by decide)) fun _ => ?_ | refine ReqK.i (by unfold maxL; omega) fun _ => ?_ | refine ReqK.i ⟨by omega, by omega⟩ fun _ => ?_ | simp only [go_sem, Nat.lt_irrefl, hr, hsp, form_eta, Tryd.f180, R9, R8, R7, R6, R5, R4, R3, R2, R1, Q20, Q19, Q18, Q17, Q16, Q15, Q14, Q13, Q12, Q11, Q10, Q9, Q8, Q7, Q6, Q5, Q4, Q3, Q2, Q1, Tbl0])

def R11 : Tbl := R10.add 111 (sp1 (fun f => wthM f []) fun f => f.fit = true ∧ f.size ≤ 1000)
set_option maxRecDepth 100000 in
set_option maxHeartbeats 1000000 in
theorem hR11 : TblOk Tryd.prog GA R11 := by
  refine sp1_ok ok111 hR10 fun f hpre _ => ?_
  have hp : wthPre f [] [] := ⟨hpre.1, hpre.2, rfl, by simp⟩
  have hz : List.zipWith Abs.Bind.mk [] [] = [] := rfl
  obtain ⟨r, hr⟩ : ∃ r, wthM f [] = r := ⟨_, rfl⟩
  rw [hr]
  refine Wcall_K (N := 5) hm hR10 111000 (lst []) ok111 Tryd.func111 rfl rfl (by simp) (by kernel_rfl) ?_
  repeat' (first | refine ReqK.i (by omega) fun _ => ?_ | refine ReqK.i hp fun _ => ?_ | simp only [go_sem, hz, hr, form_eta, Tryd.f111, R10, R9, R8, R7, R6, R5, R4, R3, R2, R1, Q20, Q19, Q18, Q17, Q16, Q15, Q14, Q13, Q12, Q11, Q10, Q9, Q8, Q7, Q6, Q5, Q4, Q3, Q2, Q1, Tbl0])
end Go.Proofs.YtoicheicnbjfeaaDoor
