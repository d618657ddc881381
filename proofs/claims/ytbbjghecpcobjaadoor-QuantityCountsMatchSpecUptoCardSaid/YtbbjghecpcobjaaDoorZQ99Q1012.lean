/- several texts of this proof in one; no conditions -/
import Derived.Test.YtbbjghecpcobjaaDoorAT
import Derived.Test.YtbbjghecpcobjaaDoorZQ96Q982
import Derived.Test.YtbbjghecpcobjaaDoorAbs47
set_option linter.unusedSimpArgs false
namespace Go.Proofs.YtbbjghecpcobjaaDoor
open Go Go.Abs Go.Proofs
section
variable {G : Nat → List FD}
def tree69 : Tv := (.q 0 (.q 1 (.q 2 (.q 3 (.q 4 (.q 5 (.q 6 (.q 7 (.q 8 .leaf)))))))))
def tree61 : Tv := (.q 0 (.q 1 (.q 2 (.q 3 (.q 4 (.q 5 (.q 6 (.q 7 (.q 8 (.q 9 (.br [(10, .leaf)])))))))))))
set_option maxRecDepth 100000 in
set_option maxHeartbeats 1000000 in
set_option maxHeartbeats 4000000 in
theorem tab3 {n : Nat} (hT : TblOk Tryd.prog G (E3.add 88 (sp3 tabM fun m f vs => f.size < n ∧ tabP m f vs))) {m : Model} {f : Abs.Form} {vars : List Str} (hn : f.size = n) (hp : tabP m f vars) (hk : f.kind = 3) : Wcall Tryd.prog G 88 [.fz (enc m), .fz (enc f), .fz (enc vars)] (hpL []) 0 (fun d _ _ => D.val d = some (.fz (enc (tabM m f vars)))) := by
  have hwl : f.words.length ≤ 3 := by have h := vok_eq.1 hp.vk; have := h.2.2.2.1 hk; omega
  have hwl2 : f.words.length = 2 := (vok_eq.1 hp.vk).2.2.2.1 hk
  have hcs := hp.cs
  have hcv := hp.gd.cv
  have hlc := hp.gd.v.lc
  obtain ⟨V, hV⟩ : ∃ V : Nat → Bool, V = rowM m f vars := ⟨_, rfl⟩
  obtain ⟨s, hs⟩ : ∃ s : Nat, m.size = (s : Int) := ⟨m.size.toNat, by have := hp.gd.v.s1; omega⟩
  have me : Model.mk (s : Int) m.consts m.rels = m := by rw [← hs]
  have hs1 : 1 ≤ s := by have := hp.gd.v.s1; omega
  have hs6 : s ≤ 6 := by have := hp.gd.v.s6; omega
  have hvl : vars.length ≤ 6 := by have := hp.nl; omega
  obtain ⟨W, hW⟩ : ∃ W : Nat → Nat, W = fun i => s ^ i := ⟨_, rfl⟩
  have hW0 : W 0 = 1 := by rw [hW]; rfl
  have hWs : ∀ i, (W i : Int) * (s : Int) = (W (i + 1) : Int) := fun i => by rw [hW]; simp only; rw [Nat.pow_succ]; simp
  have hWl : ∀ i, i ≤ 6 → W i ≤ 46656 := fun i h => by
    rw [hW]
    exact Nat.le_trans (Nat.pow_le_pow_left hs6 i) (Nat.pow_le_pow_right (by omega) h)
  obtain ⟨N, hN⟩ : ∃ N, W vars.length = N := ⟨_, rfl⟩
  have hNl : N ≤ 46656 := by rw [← hN]; exact hWl _ hvl
  have hT' : tabM m f vars = (List.range N).map V := by
    unfold tabM
    rw [hV, ← hN, hW, hs]; rfl
  have hP0 := partB_zero V N
  rw [hT', ← partB_all V N]
  refine tab_post ?_
  have hpl : ∀ i, (partB V N i).length = N := fun i => partB_len V N i
  have kT := Kp.mk hT
  have kW := Kp.mk hWs
  have kl := Kp.mk hWl
  clear hT hT' hW hWs hWl
  refine Wcall_K (N := 345) hm kT.out 88000 (lsw [219] [1000061, 1000069]) ok88 Tryd.func88 rfl rfl (by simp) (by kernel_rfl) ?_
  repeat' (first | refine rq fun _ => ?_ | simp only [go_sem, hs, Tryd.f88])
  refine WK_weak2 (Weak_rpL (id := (88003, 0)) (t := 3) (b := true) (ys := [.i .i64 s, .sl (m.consts.map enc), .sl (m.rels.map enc)]) (by simp only [go_sem]) (by simp only [go_sem])) ?_
  refine WK_weak2 (Weak_rpL (id := (88004, 1)) (t := 4) (b := true) (ys := [.i .i64 f.kind, .s f.name.l, .sl (f.words.map enc), .sl (f.subs.map enc)]) (by simp only [go_sem]) (by simp only [go_sem])) ?_
  refine WK_loop hm kT.out 88000 (lsw [219] [1000061, 1000069]) (ι := LoopI vars.length fun _ => True)
    ⟨fun q => ⟨frL [(2, .fz (.sl (vars.map enc))), (3, .rp [.i .i64 s, .sl (m.consts.map enc), .sl (m.rels.map enc)]), (4, .rp [.i .i64 f.kind, .s f.name.l, .sl (f.words.map enc), .sl (f.subs.map enc)]), (7, .fz (.i .i64 (W q.i : Nat))), (34, .fz (.i .i64 vars.length)), (35, .fz (.i .i64 q.i))], hpL [], 2⟩, fun q => vars.length - q.i⟩
    ⟨0, by omega, trivial⟩ (by kernel_rfl) ?_ ?_
  · refine Weak_to ?_ ?_ ?_ <;> simp only [go_sem, hW0, hs]
    all_goals first | done | rfl | omega | trace_state
  rintro ⟨i, hi, _⟩
  try simp only at hi
  rcases Nat.lt_or_ge i vars.length with h1 | h1
  · have hws := kW.out i
    have hwl := kl.out (i + 1) (by omega)
    repeat' (first | refine rq fun _ => ?_ | simp only [go_sem, h1, hws, Tryd.f88])
    refine ⟨⟨i + 1, by omega, trivial⟩, by simp only; omega, ?_⟩
    refine Weak_to ?_ ?_ ?_ <;> simp only [go_sem, hws]
    all_goals first | done | rfl | omega | trace_state
  obtain rfl : i = vars.length := by omega
  have hms : m.size.toNat = s := by rw [hs]; rfl
  obtain ⟨Dg, hDg⟩ : ∃ Dg : Nat → List Int, Dg = fun i => digsM s vars.length i := ⟨_, rfl⟩
  have hDl : ∀ i, (Dg i).length = vars.length := fun i => by rw [hDg]; exact digsM_len s _ i
  have hDv : ∀ i, ∀ v ∈ Dg i, 0 ≤ v ∧ v < (s : Int) := fun i v hv => by rw [hDg] at hv; exact digsM_lt (by omega) _ _ v hv
  have hVL0 : ∀ i, valL s i vars.length 0 = List.replicate vars.length 0 := fun i => valL_zero s i _
  have hVLe : ∀ i, valL s i vars.length vars.length = Dg i := fun i => by rw [valL_all, hDg]
  obtain ⟨I, hI⟩ : ∃ I : Nat → Int, I = fun j : Nat => (vars.length : Int) - 1 - (j : Int) := ⟨_, rfl⟩
  have hI0 : I 0 = (vars.length : Int) - 1 := by rw [hI]; simp
  have hIs : ∀ j, I (j + 1) = I j - 1 := fun j => by rw [hI]; simp only; omega
  have hIe : I vars.length = -1 := by rw [hI]; simp only; omega
  have hIj : ∀ j (_ : j < vars.length), I j = ((vars.length - 1 - j : Nat) : Int) := fun j h => by rw [hI]; simp only; omega
  have kI := Kp.mk hIj
  have kS := Kp.mk hIs
  have kD := Kp.mk hDv
  have kV0 := Kp.mk hVL0
  have kVe := Kp.mk hVLe
  have rep_ints : ∀ n : Nat, List.replicate n (D.fz (.i .i64 0)) = flatFz ((List.replicate n (0 : Int)).map enc) := fun n => by rw [flat_one]; simp [enc_int]
  clear hI hIj hIs hDv hVL0 hVLe
  repeat' (first | refine rq fun _ => ?_ | simp only [go_sem, hk, hs, me, Nat.lt_irrefl, hN, mkOne, rep_bools, ← hP0, form_eta, str_eta, model_eta, getD_map_lt, Tryd.f88])
  refine WK_loop hm kT.out 88000 (lsw [219] [1000061, 1000069]) (ι := LoopM N 3 fun _ => True)
    ⟨fun q => ⟨frL [(2, .fz (.sl (vars.map enc))), (3, .rp [.i .i64 s, .sl (m.consts.map enc), .sl (m.rels.map enc)]), (4, .rp [.i .i64 f.kind, .s f.name.l, .sl (f.words.map enc), .sl (f.subs.map enc)]), (8, .arr (88043, 2) 1 0 N), (143, .arr (88043, 2) 1 0 N), (144, .fz (.i .i64 N)), (145, .fz (.i .i64 q.i))], hpL [((88043, 2), some ⟨flatFz ((partB V N q.i).map enc), false, false⟩)], q.m⟩, fun q => N - q.i⟩
    ⟨0, 3, by omega, by omega, trivial⟩ (by kernel_rfl) ?_ ?_
  · refine Weak_to ?_ ?_ ?_ <;> simp only [go_sem, hk, hs]
    all_goals first | done | rfl | omega | trace_state
  rintro ⟨i, n, hi, hn, _⟩
  try simp only at hi hn
  rcases Nat.lt_or_ge i N with h1 | h1
  rotate_left
  · obtain rfl : i = N := by omega
    repeat' (first | refine rq fun _ => ?_ | simp only [go_sem, Nat.lt_irrefl, hpl, Tryd.f88])
    exact ⟨(88043, 2), by simp only; omega, rfl, by simp only [go_sem]⟩
  have v0 := kV0.out i
  have ve := kVe.out i
  repeat' (first | refine rq fun _ => ?_ | simp only [go_sem, h1, hs, hk, mkOne, rep_ints, ← v0, hI0, Tryd.f88])
  refine WK_loop hm kT.out 88000 (lsw [219] [1000061, 1000069]) (ι := LoopM vars.length (n + 1) fun _ => True)
    ⟨fun q => ⟨frL [(2, .fz (.sl (vars.map enc))), (3, .rp [.i .i64 s, .sl (m.consts.map enc), .sl (m.rels.map enc)]), (4, .rp [.i .i64 f.kind, .s f.name.l, .sl (f.words.map enc), .sl (f.subs.map enc)]), (8, .arr (88043, 2) 1 0 N), (10, .fz (.i .i64 i)), (143, .arr (88043, 2) 1 0 N), (144, .fz (.i .i64 N)), (145, .fz (.i .i64 i)), (11, .arr (88150, n) 1 0 vars.length), (12, .fz (.i .i64 (I q.i))), (13, .fz (.i .i64 (quoM s i q.i : Nat)))], hpL [((88043, 2), some ⟨flatFz ((partB V N i).map enc), false, false⟩), ((88150, n), some ⟨flatFz ((valL s i vars.length q.i).map enc), false, false⟩)], q.m⟩, fun q => vars.length - q.i⟩
    ⟨0, n + 1, by omega, by omega, trivial⟩ (by kernel_rfl) ?_ ?_
  · refine Weak_to ?_ ?_ ?_ <;> simp only [go_sem, hI0, quoM, hk, hs]
    all_goals first | done | rfl | omega | trace_state
  rintro ⟨j, n2, hj, hn2, _⟩
  try simp only at hj hn2
  rcases Nat.lt_or_ge j vars.length with h2 | h2
  · have e1 := kI.out j h2
    have e4 := kS.out j
    have hset := valL_set (s := s) (i := i) h2
    have hvl := valL_len (s := s) (i := i) (j := j) (n := vars.length) (by omega)
    obtain ⟨p, hp⟩ : ∃ p, vars.length - 1 - j = p := ⟨_, rfl⟩
    have hpl2 : p < vars.length := by omega
    rw [hp] at hset e1
    rw [e1] at e4
    have e2 : ((0 : Int) ≤ (p : Int)) = True := eq_true (by omega)
    have hq1 : quoM s i (j + 1) = quoM s i j / s := rfl
    obtain ⟨x, hx⟩ : ∃ x, quoM s i j = x := ⟨_, rfl⟩
    rw [hx] at hset hq1
    have em : (x : Int) % (s : Int) = ((x % s : Nat) : Int) := (Int.natCast_emod x s).symm
    have ed : (x : Int) / (s : Int) = ((x / s : Nat) : Int) := (Int.natCast_ediv x s).symm
    obtain ⟨r, hr⟩ : ∃ r, x % s = r := ⟨_, rfl⟩
    obtain ⟨y, hy⟩ : ∃ y, x / s = y := ⟨_, rfl⟩
    rw [hr] at em hset
    rw [hy] at ed hq1
    have hfs : (flatFz ((valL s i vars.length j).map enc)).set p (.fz (.i .i64 r)) = flatFz ((valL s i vars.length (j + 1)).map enc) := by rw [← hset, ← flat_set]; rfl
    repeat' (first | refine ReqK.i ⟨rfl, by omega, by omega⟩ fun _ => ?_ | refine rq fun _ => ?_ | simp only [go_sem, hs, hk, e1, e2, hx, em, ed, hvl, hpl2, Tryd.f88])
    all_goals
      refine ⟨⟨j + 1, n2, by omega, by omega, trivial⟩, by simp only; omega, ?_⟩
      refine Weak_to ?_ ?_ ?_ <;> simp only [go_sem, hfs, e4, hq1, hk, hs]
      all_goals first | done | rfl | omega | trace_state
  obtain rfl : j = vars.length := by omega
  obtain ⟨val, hval⟩ : ∃ val : Str → Int, val = wordV m (envM vars (Dg i)) := ⟨_, rfl⟩
  obtain ⟨T, hT⟩ : ∃ T : Nat → List Int, T = fun a => (f.words.take a).map val := ⟨_, rfl⟩
  have hT0 : T 0 = [] := by rw [hT]; rfl
  have hTs : ∀ a (h : a < f.words.length), T (a + 1) = T a ++ [val f.words[a]] := fun a h => by rw [hT]; simp only [List.take_succ_eq_append_getElem h, List.map_append, List.map_cons, List.map_nil]
  have hTl : ∀ a, (T a).length ≤ 3 := fun a => by rw [hT]; simp only [List.length_map, List.length_take]; omega
  have hTe : T f.words.length = f.words.map val := by rw [hT]; simp only [List.take_length]
  have hDl' := hDl i
  have henv : ∀ x ∈ envM vars (Dg i), 0 ≤ x.value := fun x hx => (kD.out i _ (envM_vals hx)).1
  have hcon : ∀ x ∈ m.consts, 0 ≤ x.value := fun x hx => (hcv x hx).1
  obtain ⟨R, hR⟩ : ∃ R, (envM vars (Dg i)).reverse = R := ⟨_, rfl⟩
  have hRl : R.length = vars.length := by rw [← hR, List.length_reverse, envM_len vars hDl']
  have hRv : ∀ x ∈ R, 0 ≤ x.value := fun x hx => henv x (List.mem_reverse.1 (by rw [hR]; exact hx))
  have hRg : ∀ j (h : j < vars.length) (h' : j < R.length), R[j] = ⟨vars[vars.length - 1 - j], (Dg i)[vars.length - 1 - j]⟩ := fun j h h' => by subst hR; exact envM_rev hDl' h h'
  have hwe : ∀ w ∈ f.words, thenV (firstV R w) m.consts w = val w := fun w hw => by
    rw [← hR, hval]
    refine word_eq henv ?_
    by_cases hin : w ∈ vars
    · exact .inl (by rw [envM_names hDl']; exact hin)
    · refine .inr (hcs w ?_)
      obtain ⟨k, nm, ws, s'⟩ := f
      rw [cst, List.mem_append]
      exact .inl (List.mem_filter.2 ⟨hw, decide_eq_true hin⟩)
  have kT2 := Kp.mk hTs
  have kTl := Kp.mk hTl
  have kRg := Kp.mk hRg
  have kRv := Kp.mk hRv
  have kwe := Kp.mk hwe
  have kcon := Kp.mk hcon
  clear hT hTs hTl hRg hRv hwe hcon henv hR
  repeat' (first | refine rq fun _ => ?_ | simp only [go_sem, Nat.lt_irrefl, hIe, ve, hs, hk, Tryd.f88])
  refine WK_loop hm kT.out 88000 (lsw [219] [1000061, 1000069]) (ι := LoopG f.words.length (n + 1) fun _ => True)
    ⟨fun q => ⟨frL [(2, .fz (.sl (vars.map enc))), (3, .rp [.i .i64 s, .sl (m.consts.map enc), .sl (m.rels.map enc)]), (4, .rp [.i .i64 f.kind, .s f.name.l, .sl (f.words.map enc), .sl (f.subs.map enc)]), (8, .arr (88043, 2) 1 0 N), (10, .fz (.i .i64 i)), (143, .arr (88043, 2) 1 0 N), (144, .fz (.i .i64 N)), (145, .fz (.i .i64 i)), (11, .arr (88150, n) 1 0 vars.length), (14, .ow (88219, q.g) 1 ((T q.i).map enc)), (171, .fz (.sl (f.words.map enc))), (172, .fz (.i .i64 f.words.length)), (173, .fz (.i .i64 q.i))], hpL [((88043, 2), some ⟨flatFz ((partB V N i).map enc), false, false⟩), ((88150, n), some ⟨flatFz ((Dg i).map enc), false, false⟩), ((88219, q.g), some tok)], q.m⟩, fun q => f.words.length - q.i⟩
    ⟨0, n2, n2 + 1, by omega, by omega, by omega, trivial⟩ (by kernel_rfl) ?_ ?_
  · refine Weak_g [] [(88219, n2)] [] ?_ ?_ ?_ ?_ ?_ <;> (try simp only [go_sem, hT0, hs, hk, ve, List.map_nil])
    all_goals first | done | rfl | omega | trace_state
  rintro ⟨a, g, n3, ha, hg, hn3, _⟩
  try simp only at ha hg hn3
  rcases Nat.lt_or_ge a f.words.length with h2 | h2
  · obtain ⟨w, hw⟩ : ∃ w, f.words[a] = w := ⟨_, rfl⟩
    have hwm : w ∈ f.words := hw ▸ List.getElem_mem h2
    have hts := kT2.out a h2
    have htl := kTl.out a
    rw [hw] at hts
    obtain ⟨fv, hfv⟩ : ∃ fv : Nat → Int, fv = fun j => firstV (R.take j) w := ⟨_, rfl⟩
    have hf0 : fv 0 = -1 := by rw [hfv]; rfl
    have hfs : ∀ j (h : j < vars.length) (h2 : vars.length - 1 - j < vars.length) (h3 : vars.length - 1 - j < (Dg i).length), fv (j + 1) = if fv j < 0 ∧ vars[vars.length - 1 - j] = w then (Dg i)[vars.length - 1 - j] else fv j := fun j h h2 h3 => by
      rw [hfv]
      simp only
      rw [List.take_succ_eq_append_getElem (show j < R.length by omega), firstV_snoc (fun x hx => kRv.out x (List.mem_of_mem_take hx)), kRg.out j h]
    have hfe : fv vars.length = firstV R w := by rw [hfv]; simp only; rw [← hRl, List.take_length]
    have hft : ∀ j, 0 ≤ fv j → firstV R w = fv j := fun j h => by rw [hfv] at h ⊢; exact firstV_take kRv.out h
    have kfs := Kp.mk hfs
    have kft := Kp.mk hft
    clear hfs hft hfv
    have hgw : ((f.words.map enc).getD a FD.nilf) = FD.s w.l := by rw [getD_map_lt h2, hw]; rfl
    repeat' (first | refine ReqK.i (by rw [hgw]; rfl) fun _ => ?_ | refine rq fun _ => ?_ | simp only [go_sem, h2, hgw, str_eta, hs, hk, hI0, Tryd.f88])
    refine WK_loop hm kT.out 88000 (lsw [219] [1000061, 1000069]) (ι := LoopM vars.length n3 fun _ => True)
      ⟨fun q => ⟨frL [(2, .fz (.sl (vars.map enc))), (3, .rp [.i .i64 s, .sl (m.consts.map enc), .sl (m.rels.map enc)]), (4, .rp [.i .i64 f.kind, .s f.name.l, .sl (f.words.map enc), .sl (f.subs.map enc)]), (8, .arr (88043, 2) 1 0 N), (10, .fz (.i .i64 i)), (143, .arr (88043, 2) 1 0 N), (144, .fz (.i .i64 N)), (145, .fz (.i .i64 i)), (11, .arr (88150, n) 1 0 vars.length), (14, .ow (88219, g) 1 ((T a).map enc)), (171, .fz (.sl (f.words.map enc))), (172, .fz (.i .i64 f.words.length)), (173, .fz (.i .i64 a)), (16, .fz (.s w.l)), (17, .fz (.i .i64 (fv q.i))), (18, .fz (.i .i64 (I q.i)))], hpL [((88043, 2), some ⟨flatFz ((partB V N i).map enc), false, false⟩), ((88150, n), some ⟨flatFz ((Dg i).map enc), false, false⟩), ((88219, g), some tok)], q.m⟩, fun q => vars.length - q.i⟩
      ⟨0, n3, by omega, by omega, trivial⟩ (by kernel_rfl) ?_ ?_
    · refine Weak_to ?_ ?_ ?_ <;> simp only [go_sem, hf0, hI0, hs, hk]
      all_goals first | done | rfl | omega | trace_state
    rintro ⟨j, n4, hj, hn4, _⟩
    try simp only at hj hn4
    obtain ⟨v, hv⟩ : ∃ v, fv j = v := ⟨_, rfl⟩
    have hcase : (j < vars.length ∧ v < 0) ∨ (firstV R w = v ∧ ∃ z, I j = z ∧ (((0 ≤ z) = True ∧ (v < 0) = False) ∨ ((0 ≤ z) = False ∧ (v < 0) = True) ∨ ((0 ≤ z) = False ∧ (v < 0) = False))) := by
      rcases Nat.lt_or_ge j vars.length with h | h
      · by_cases h5 : v < 0
        · exact .inl ⟨h, h5⟩
        · exact .inr ⟨by rw [kft.out j (by omega), hv], _, kI.out j h, .inl ⟨eq_true (by omega), eq_false h5⟩⟩
      · obtain rfl : j = vars.length := by omega
        refine .inr ⟨by rw [← hfe, hv], -1, hIe, ?_⟩
        by_cases h5 : v < 0
        · exact .inr (.inl ⟨eq_false (by decide), eq_true h5⟩)
        · exact .inr (.inr ⟨eq_false (by decide), eq_false h5⟩)
    rcases hcase with ⟨h3, h4⟩ | ⟨hve, z, hz, hcase⟩
    · have hs1' := kfs.out j h3 (by omega) (by omega)
      rw [hv] at hs1'
      have e1 := kI.out j h3
      have e4 := kS.out j
      obtain ⟨p, hp⟩ : ∃ p, vars.length - 1 - j = p := ⟨_, rfl⟩
      have hpl2 : p < vars.length := by omega
      have hpl3 : p < (Dg i).length := by omega
      simp only [hp] at hs1' e1
      rw [e1] at e4
      have e2 : ((0 : Int) ≤ (p : Int)) = True := eq_true (by omega)
      have e3 : (v < 0) = True := eq_true h4
      obtain ⟨x, hx⟩ : ∃ x, vars[p] = x := ⟨_, rfl⟩
      obtain ⟨d, hd⟩ : ∃ d, (Dg i)[p] = d := ⟨_, rfl⟩
      rw [hx, hd] at hs1'
      have hgx : ((vars.map enc).getD p FD.nilf) = FD.s x.l := by rw [getD_map_lt hpl2, hx]; rfl
      have hgd : (flatFz ((Dg i).map enc)).getD p .junk = .fz (.i .i64 d) := by rw [flat_one, List.getD_eq_getElem?_getD, List.getElem?_map, List.getElem?_eq_getElem hpl3, hd]; rfl
      by_cases h6 : x = w
      · have h6' : (x = w) = True := eq_true h6
        rw [if_pos ⟨h4, h6⟩] at hs1'
        repeat' (first | refine ReqK.i (by rw [hgx]; rfl) fun _ => ?_ | refine rq fun _ => ?_ | simp only [go_sem, hs, hk, hv, e1, e2, e3, hgx, hgd, hpl2, hpl3, hDl', h6', str_eta, Tryd.f88])
        all_goals
          refine ⟨⟨j + 1, n4, by omega, by omega, trivial⟩, by simp only; omega, ?_⟩
          refine Weak_to ?_ ?_ ?_ <;> simp only [go_sem, hs1', e4, hk, hs]
          all_goals first | done | rfl | omega | trace_state
      · have h6' : (x = w) = False := eq_false h6
        rw [if_neg (fun h => h6 h.2)] at hs1'
        repeat' (first | refine ReqK.i (by rw [hgx]; rfl) fun _ => ?_ | refine rq fun _ => ?_ | simp only [go_sem, hs, hk, hv, e1, e2, e3, hgx, hgd, hpl2, hpl3, hDl', h6', str_eta, Tryd.f88])
        all_goals
          refine ⟨⟨j + 1, n4, by omega, by omega, trivial⟩, by simp only; omega, ?_⟩
          refine Weak_to ?_ ?_ ?_ <;> simp only [go_sem, hs1', e4, hk, hs]
          all_goals first | done | rfl | omega | trace_state
    have g0 : thenV v [] w = v := thenV_zero (by rw [← hve]; exact firstV_or kRv.out)
    obtain ⟨gv, hgv⟩ : ∃ gv : Nat → Int, gv = fun k => thenV v (m.consts.take k) w := ⟨_, rfl⟩
    have hg0 : gv 0 = v := by rw [hgv]; exact g0
    have hgs : ∀ k (h : k < m.consts.length), gv (k + 1) = if gv k < 0 ∧ m.consts[k].name = w then m.consts[k].value else gv k := fun k h => by
      rw [hgv]
      simp only
      rw [List.take_succ_eq_append_getElem h, thenV_snoc (fun x hx => kcon.out x (List.mem_of_mem_take hx))]
    have hge : gv m.consts.length = val w := by
      rw [hgv]; simp only [List.take_length]; rw [← hve]; exact kwe.out w hwm
    have kgs := Kp.mk hgs
    clear hgs hgv g0
    rcases hcase with ⟨c1, c2⟩ | ⟨c1, c2⟩ | ⟨c1, c2⟩
    all_goals
      repeat' (first | refine rq fun _ => ?_ | simp only [go_sem, hs, hk, hv, hz, c1, c2, Tryd.f88])
      refine WK_loop hm kT.out 88000 (lsw [219] [1000061, 1000069]) (ι := LoopM m.consts.length n4 fun _ => True)
        ⟨fun q => ⟨frL [(2, .fz (.sl (vars.map enc))), (3, .rp [.i .i64 s, .sl (m.consts.map enc), .sl (m.rels.map enc)]), (4, .rp [.i .i64 f.kind, .s f.name.l, .sl (f.words.map enc), .sl (f.subs.map enc)]), (8, .arr (88043, 2) 1 0 N), (10, .fz (.i .i64 i)), (143, .arr (88043, 2) 1 0 N), (144, .fz (.i .i64 N)), (145, .fz (.i .i64 i)), (11, .arr (88150, n) 1 0 vars.length), (14, .ow (88219, g) 1 ((T a).map enc)), (171, .fz (.sl (f.words.map enc))), (172, .fz (.i .i64 f.words.length)), (173, .fz (.i .i64 a)), (16, .fz (.s w.l)), (17, .fz (.i .i64 (gv q.i))), (199, .fz (.sl (m.consts.map enc))), (200, .fz (.i .i64 m.consts.length)), (201, .fz (.i .i64 q.i))], hpL [((88043, 2), some ⟨flatFz ((partB V N i).map enc), false, false⟩), ((88150, n), some ⟨flatFz ((Dg i).map enc), false, false⟩), ((88219, g), some tok)], q.m⟩, fun q => m.consts.length - q.i⟩
        ⟨0, n4, by omega, by omega, trivial⟩ (by kernel_rfl) ?_ ?_
      · refine Weak_to ?_ ?_ ?_ <;> simp only [go_sem, hg0, hs, hk]
        all_goals first | done | rfl | omega | trace_state
      rintro ⟨k, n5, hkk, hn5, _⟩
      try simp only at hkk hn5
      rcases Nat.lt_or_ge k m.consts.length with h3 | h3
      · have hgs := kgs.out k h3
        obtain ⟨x, hx⟩ : ∃ x, m.consts[k] = x := ⟨_, rfl⟩
        obtain ⟨u, hu⟩ : ∃ u, gv k = u := ⟨_, rfl⟩
        rw [hx, hu] at hgs
        by_cases h7 : u < 0
        · have h7' : (u < 0) = True := eq_true h7
          by_cases h8 : x.name = w
          · have h8' : (x.name = w) = True := eq_true h8
            rw [if_pos ⟨h7, h8⟩] at hgs
            repeat' (first | refine rq fun _ => ?_ | simp only [go_sem, h3, hx, hs, hk, hu, h7', h8', const_eta, str_eta, getD_map_lt, Tryd.f88])
            all_goals
              refine ⟨⟨k + 1, n5 + 2, by omega, by omega, trivial⟩, by simp only; omega, ?_⟩
              refine Weak_to ?_ ?_ ?_ <;> simp only [go_sem, hgs, hk, hs]
              all_goals first | done | rfl | omega | trace_state
          · have h8' : (x.name = w) = False := eq_false h8
            rw [if_neg (fun h => h8 h.2)] at hgs
            repeat' (first | refine rq fun _ => ?_ | simp only [go_sem, h3, hx, hs, hk, hu, h7', h8', const_eta, str_eta, getD_map_lt, Tryd.f88])
            all_goals
              refine ⟨⟨k + 1, n5 + 2, by omega, by omega, trivial⟩, by simp only; omega, ?_⟩
              refine Weak_to ?_ ?_ ?_ <;> simp only [go_sem, hgs, hk, hs]
              all_goals first | done | rfl | omega | trace_state
        · have h7' : (u < 0) = False := eq_false h7
          rw [if_neg (fun h => h7 h.1)] at hgs
          repeat' (first | refine rq fun _ => ?_ | simp only [go_sem, h3, hx, hs, hk, hu, h7', const_eta, str_eta, getD_map_lt, Tryd.f88])
          all_goals
            refine ⟨⟨k + 1, n5 + 2, by omega, by omega, trivial⟩, by simp only; omega, ?_⟩
            refine Weak_to ?_ ?_ ?_ <;> simp only [go_sem, hgs, hk, hs]
            all_goals first | done | rfl | omega | trace_state
      obtain rfl : k = m.consts.length := by omega
      repeat' (first | refine ReqK.i (fits_of2 (by first | omega | (simp only [List.length_map, List.length_append, List.length_cons, List.length_nil]; omega)) (by decide)) fun _ => ?_ | refine rq fun _ => ?_ | simp only [go_sem, Nat.lt_irrefl, hs, hk, hge, Tryd.f88])
      all_goals
        refine ⟨⟨a + 1, n5, n5 + 1, by omega, by omega, by omega, trivial⟩, by simp only; omega, ?_⟩
        refine Weak_to ?_ ?_ ?_ <;> (try simp only [go_sem, hts, hs, hk, List.map_append, List.map_cons, List.map_nil])
        all_goals first | done | rfl | omega | trace_state
  obtain rfl : a = f.words.length := by omega
  obtain ⟨w0, w1, hww⟩ := two_of hwl2
  have hT2 : T f.words.length = [val w0, val w1] := by rw [hTe, hww]; rfl
  have hVi : V i = decide (val w0 = val w1) := by
    rw [hV, hval, hDg]
    obtain ⟨k, nm, ws, s'⟩ := f
    simp only [form_kind, form_words] at hk hww
    subst hk
    subst hww
    rw [row_eq, hms]
    rfl
  obtain ⟨x, hx⟩ : ∃ x, val w0 = x := ⟨_, rfl⟩
  obtain ⟨y, hy⟩ : ∃ y, val w1 = y := ⟨_, rfl⟩
  rw [hx, hy] at hT2 hVi
  have hset : ∀ v, V i = v → (flatFz ((partB V N i).map enc)).set i (.fz (.b v)) = flatFz ((partB V N (i + 1)).map enc) := fun v hv => by
    rw [← partB_set h1, ← flat_set, hv]; rfl
  by_cases hxy : x = y
  · have hxy' : (x = y) = True := eq_true hxy
    have hset := hset true (by rw [hVi, decide_eq_true hxy])
    repeat' (first | refine WK_drawV hm kT.out 88000 (lsw [219] [1000061, 1000069]) tree61 (by kernel_rfl) (by kernel_rfl) ?_ | refine And.intro ?_ ?_ | exact True.intro | refine rq fun _ => ?_ | simp only [go_sem, Nat.lt_irrefl, hs, hk, hT2, hpl, h1, hxy', tree61, List.map_cons, List.map_nil, List.getD_cons_zero, List.getD_cons_succ, List.length_cons, List.length_nil, Tryd.f88])
    all_goals
      refine ⟨⟨i + 1, n3 + 9, by omega, by omega, trivial⟩, by simp only; omega, ?_⟩
      refine Weak_to ?_ ?_ ?_ <;> simp only [go_sem, hset, hs, hk]
      all_goals first | done | rfl | omega | trace_state
  · have hxy' : (x = y) = False := eq_false hxy
    have hset := hset false (by rw [hVi, decide_eq_false hxy])
    repeat' (first | refine WK_drawV hm kT.out 88000 (lsw [219] [1000061, 1000069]) tree61 (by kernel_rfl) (by kernel_rfl) ?_ | refine And.intro ?_ ?_ | exact True.intro | refine rq fun _ => ?_ | simp only [go_sem, Nat.lt_irrefl, hs, hk, hT2, hpl, h1, hxy', tree61, List.map_cons, List.map_nil, List.getD_cons_zero, List.getD_cons_succ, List.length_cons, List.length_nil, Tryd.f88])
    all_goals
      refine ⟨⟨i + 1, n3 + 9, by omega, by omega, trivial⟩, by simp only; omega, ?_⟩
      refine Weak_to ?_ ?_ ?_ <;> simp only [go_sem, hset, hs, hk]
      all_goals first | done | rfl | omega | trace_state
set_option maxRecDepth 100000 in
set_option maxHeartbeats 1000000 in
set_option maxHeartbeats 4000000 in
theorem tab2 {n : Nat} (hT : TblOk Tryd.prog G (E3.add 88 (sp3 tabM fun m f vs => f.size < n ∧ tabP m f vs))) {m : Model} {f : Abs.Form} {vars : List Str} (hn : f.size = n) (hp : tabP m f vars) (hwm : (enc m).Wf) (hk : f.kind = 2) : Wcall Tryd.prog G 88 [.fz (enc m), .fz (enc f), .fz (enc vars)] (hpL []) 0 (fun d _ _ => D.val d = some (.fz (enc (tabM m f vars)))) := by
  have hwl : f.words.length ≤ 3 := by have h := vok_eq.1 hp.vk; have := h.2.2.1 hk; omega
  have hmg := hp.gd
  have htlen : ∀ q ∈ m.rels, q.tuples.length ≤ maxL := fun q hq => by
    have h3 : (enc q).Wf := Wf_mem (Wf_agg (by have h := hwm; rw [enc_model] at h; exact h) (FD.sl (m.rels.map enc)) (by simp)) _ (List.mem_map_of_mem hq)
    rw [enc_rel] at h3
    have h5 := Wf_sl (Wf_agg h3 (FD.sl (q.tuples.map enc)) (by simp))
    rwa [List.length_map] at h5
  have hcs := hp.cs
  have hcv := hp.gd.cv
  have hlc := hp.gd.v.lc
  obtain ⟨V, hV⟩ : ∃ V : Nat → Bool, V = rowM m f vars := ⟨_, rfl⟩
  obtain ⟨s, hs⟩ : ∃ s : Nat, m.size = (s : Int) := ⟨m.size.toNat, by have := hp.gd.v.s1; omega⟩
  have me : Model.mk (s : Int) m.consts m.rels = m := by rw [← hs]
  have hs1 : 1 ≤ s := by have := hp.gd.v.s1; omega
  have hs6 : s ≤ 6 := by have := hp.gd.v.s6; omega
  have hvl : vars.length ≤ 6 := by have := hp.nl; omega
  obtain ⟨W, hW⟩ : ∃ W : Nat → Nat, W = fun i => s ^ i := ⟨_, rfl⟩
  have hW0 : W 0 = 1 := by rw [hW]; rfl
  have hWs : ∀ i, (W i : Int) * (s : Int) = (W (i + 1) : Int) := fun i => by rw [hW]; simp only; rw [Nat.pow_succ]; simp
  have hWl : ∀ i, i ≤ 6 → W i ≤ 46656 := fun i h => by
    rw [hW]
    exact Nat.le_trans (Nat.pow_le_pow_left hs6 i) (Nat.pow_le_pow_right (by omega) h)
  obtain ⟨N, hN⟩ : ∃ N, W vars.length = N := ⟨_, rfl⟩
  have hNl : N ≤ 46656 := by rw [← hN]; exact hWl _ hvl
  have hT' : tabM m f vars = (List.range N).map V := by
    unfold tabM
    rw [hV, ← hN, hW, hs]; rfl
  have hP0 := partB_zero V N
  rw [hT', ← partB_all V N]
  refine tab_post ?_
  have hpl : ∀ i, (partB V N i).length = N := fun i => partB_len V N i
  have kT := Kp.mk hT
  have kW := Kp.mk hWs
  have kl := Kp.mk hWl
  clear hT hT' hW hWs hWl
  refine Wcall_K (N := 345) hm kT.out 88000 (lsw [219] [1000061, 1000069]) ok88 Tryd.func88 rfl rfl (by simp) (by kernel_rfl) ?_
  repeat' (first | refine rq fun _ => ?_ | simp only [go_sem, hs, Tryd.f88])
  refine WK_weak2 (Weak_rpL (id := (88003, 0)) (t := 3) (b := true) (ys := [.i .i64 s, .sl (m.consts.map enc), .sl (m.rels.map enc)]) (by simp only [go_sem]) (by simp only [go_sem])) ?_
  refine WK_weak2 (Weak_rpL (id := (88004, 1)) (t := 4) (b := true) (ys := [.i .i64 f.kind, .s f.name.l, .sl (f.words.map enc), .sl (f.subs.map enc)]) (by simp only [go_sem]) (by simp only [go_sem])) ?_
  refine WK_loop hm kT.out 88000 (lsw [219] [1000061, 1000069]) (ι := LoopI vars.length fun _ => True)
    ⟨fun q => ⟨frL [(2, .fz (.sl (vars.map enc))), (3, .rp [.i .i64 s, .sl (m.consts.map enc), .sl (m.rels.map enc)]), (4, .rp [.i .i64 f.kind, .s f.name.l, .sl (f.words.map enc), .sl (f.subs.map enc)]), (7, .fz (.i .i64 (W q.i : Nat))), (34, .fz (.i .i64 vars.length)), (35, .fz (.i .i64 q.i))], hpL [], 2⟩, fun q => vars.length - q.i⟩
    ⟨0, by omega, trivial⟩ (by kernel_rfl) ?_ ?_
  · refine Weak_to ?_ ?_ ?_ <;> simp only [go_sem, hW0, hs]
    all_goals first | done | rfl | omega | trace_state
  rintro ⟨i, hi, _⟩
  try simp only at hi
  rcases Nat.lt_or_ge i vars.length with h1 | h1
  · have hws := kW.out i
    have hwl := kl.out (i + 1) (by omega)
    repeat' (first | refine rq fun _ => ?_ | simp only [go_sem, h1, hws, Tryd.f88])
    refine ⟨⟨i + 1, by omega, trivial⟩, by simp only; omega, ?_⟩
    refine Weak_to ?_ ?_ ?_ <;> simp only [go_sem, hws]
    all_goals first | done | rfl | omega | trace_state
  obtain rfl : i = vars.length := by omega
  have hms : m.size.toNat = s := by rw [hs]; rfl
  obtain ⟨Dg, hDg⟩ : ∃ Dg : Nat → List Int, Dg = fun i => digsM s vars.length i := ⟨_, rfl⟩
  have hDl : ∀ i, (Dg i).length = vars.length := fun i => by rw [hDg]; exact digsM_len s _ i
  have hDv : ∀ i, ∀ v ∈ Dg i, 0 ≤ v ∧ v < (s : Int) := fun i v hv => by rw [hDg] at hv; exact digsM_lt (by omega) _ _ v hv
  have hVL0 : ∀ i, valL s i vars.length 0 = List.replicate vars.length 0 := fun i => valL_zero s i _
  have hVLe : ∀ i, valL s i vars.length vars.length = Dg i := fun i => by rw [valL_all, hDg]
  obtain ⟨I, hI⟩ : ∃ I : Nat → Int, I = fun j : Nat => (vars.length : Int) - 1 - (j : Int) := ⟨_, rfl⟩
  have hI0 : I 0 = (vars.length : Int) - 1 := by rw [hI]; simp
  have hIs : ∀ j, I (j + 1) = I j - 1 := fun j => by rw [hI]; simp only; omega
  have hIe : I vars.length = -1 := by rw [hI]; simp only; omega
  have hIj : ∀ j (_ : j < vars.length), I j = ((vars.length - 1 - j : Nat) : Int) := fun j h => by rw [hI]; simp only; omega
  have kI := Kp.mk hIj
  have kS := Kp.mk hIs
  have kD := Kp.mk hDv
  have kV0 := Kp.mk hVL0
  have kVe := Kp.mk hVLe
  have rep_ints : ∀ n : Nat, List.replicate n (D.fz (.i .i64 0)) = flatFz ((List.replicate n (0 : Int)).map enc) := fun n => by rw [flat_one]; simp [enc_int]
  clear hI hIj hIs hDv hVL0 hVLe
  repeat' (first | refine rq fun _ => ?_ | simp only [go_sem, hk, hs, me, Nat.lt_irrefl, hN, mkOne, rep_bools, ← hP0, form_eta, str_eta, model_eta, getD_map_lt, Tryd.f88])
  refine WK_loop hm kT.out 88000 (lsw [219] [1000061, 1000069]) (ι := LoopM N 3 fun _ => True)
    ⟨fun q => ⟨frL [(2, .fz (.sl (vars.map enc))), (3, .rp [.i .i64 s, .sl (m.consts.map enc), .sl (m.rels.map enc)]), (4, .rp [.i .i64 f.kind, .s f.name.l, .sl (f.words.map enc), .sl (f.subs.map enc)]), (8, .arr (88043, 2) 1 0 N), (143, .arr (88043, 2) 1 0 N), (144, .fz (.i .i64 N)), (145, .fz (.i .i64 q.i))], hpL [((88043, 2), some ⟨flatFz ((partB V N q.i).map enc), false, false⟩)], q.m⟩, fun q => N - q.i⟩
    ⟨0, 3, by omega, by omega, trivial⟩ (by kernel_rfl) ?_ ?_
  · refine Weak_to ?_ ?_ ?_ <;> simp only [go_sem, hk, hs]
    all_goals first | done | rfl | omega | trace_state
  rintro ⟨i, n, hi, hn, _⟩
  try simp only at hi hn
  rcases Nat.lt_or_ge i N with h1 | h1
  rotate_left
  · obtain rfl : i = N := by omega
    repeat' (first | refine rq fun _ => ?_ | simp only [go_sem, Nat.lt_irrefl, hpl, Tryd.f88])
    exact ⟨(88043, 2), by simp only; omega, rfl, by simp only [go_sem]⟩
  have v0 := kV0.out i
  have ve := kVe.out i
  repeat' (first | refine rq fun _ => ?_ | simp only [go_sem, h1, hs, hk, mkOne, rep_ints, ← v0, hI0, Tryd.f88])
  refine WK_loop hm kT.out 88000 (lsw [219] [1000061, 1000069]) (ι := LoopM vars.length (n + 1) fun _ => True)
    ⟨fun q => ⟨frL [(2, .fz (.sl (vars.map enc))), (3, .rp [.i .i64 s, .sl (m.consts.map enc), .sl (m.rels.map enc)]), (4, .rp [.i .i64 f.kind, .s f.name.l, .sl (f.words.map enc), .sl (f.subs.map enc)]), (8, .arr (88043, 2) 1 0 N), (10, .fz (.i .i64 i)), (143, .arr (88043, 2) 1 0 N), (144, .fz (.i .i64 N)), (145, .fz (.i .i64 i)), (11, .arr (88150, n) 1 0 vars.length), (12, .fz (.i .i64 (I q.i))), (13, .fz (.i .i64 (quoM s i q.i : Nat)))], hpL [((88043, 2), some ⟨flatFz ((partB V N i).map enc), false, false⟩), ((88150, n), some ⟨flatFz ((valL s i vars.length q.i).map enc), false, false⟩)], q.m⟩, fun q => vars.length - q.i⟩
    ⟨0, n + 1, by omega, by omega, trivial⟩ (by kernel_rfl) ?_ ?_
  · refine Weak_to ?_ ?_ ?_ <;> simp only [go_sem, hI0, quoM, hk, hs]
    all_goals first | done | rfl | omega | trace_state
  rintro ⟨j, n2, hj, hn2, _⟩
  try simp only at hj hn2
  rcases Nat.lt_or_ge j vars.length with h2 | h2
  · have e1 := kI.out j h2
    have e4 := kS.out j
    have hset := valL_set (s := s) (i := i) h2
    have hvl := valL_len (s := s) (i := i) (j := j) (n := vars.length) (by omega)
    obtain ⟨p, hp⟩ : ∃ p, vars.length - 1 - j = p := ⟨_, rfl⟩
    have hpl2 : p < vars.length := by omega
    rw [hp] at hset e1
    rw [e1] at e4
    have e2 : ((0 : Int) ≤ (p : Int)) = True := eq_true (by omega)
    have hq1 : quoM s i (j + 1) = quoM s i j / s := rfl
    obtain ⟨x, hx⟩ : ∃ x, quoM s i j = x := ⟨_, rfl⟩
    rw [hx] at hset hq1
    have em : (x : Int) % (s : Int) = ((x % s : Nat) : Int) := (Int.natCast_emod x s).symm
    have ed : (x : Int) / (s : Int) = ((x / s : Nat) : Int) := (Int.natCast_ediv x s).symm
    obtain ⟨r, hr⟩ : ∃ r, x % s = r := ⟨_, rfl⟩
    obtain ⟨y, hy⟩ : ∃ y, x / s = y := ⟨_, rfl⟩
    rw [hr] at em hset
    rw [hy] at ed hq1
    have hfs : (flatFz ((valL s i vars.length j).map enc)).set p (.fz (.i .i64 r)) = flatFz ((valL s i vars.length (j + 1)).map enc) := by rw [← hset, ← flat_set]; rfl
    repeat' (first | refine ReqK.i ⟨rfl, by omega, by omega⟩ fun _ => ?_ | refine rq fun _ => ?_ | simp only [go_sem, hs, hk, e1, e2, hx, em, ed, hvl, hpl2, Tryd.f88])
    all_goals
      refine ⟨⟨j + 1, n2, by omega, by omega, trivial⟩, by simp only; omega, ?_⟩
      refine Weak_to ?_ ?_ ?_ <;> simp only [go_sem, hfs, e4, hq1, hk, hs]
      all_goals first | done | rfl | omega | trace_state
  obtain rfl : j = vars.length := by omega
  obtain ⟨val, hval⟩ : ∃ val : Str → Int, val = wordV m (envM vars (Dg i)) := ⟨_, rfl⟩
  obtain ⟨T, hT⟩ : ∃ T : Nat → List Int, T = fun a => (f.words.take a).map val := ⟨_, rfl⟩
  have hT0 : T 0 = [] := by rw [hT]; rfl
  have hTs : ∀ a (h : a < f.words.length), T (a + 1) = T a ++ [val f.words[a]] := fun a h => by rw [hT]; simp only [List.take_succ_eq_append_getElem h, List.map_append, List.map_cons, List.map_nil]
  have hTl : ∀ a, (T a).length ≤ 3 := fun a => by rw [hT]; simp only [List.length_map, List.length_take]; omega
  have hTe : T f.words.length = f.words.map val := by rw [hT]; simp only [List.take_length]
  have hDl' := hDl i
  have henv : ∀ x ∈ envM vars (Dg i), 0 ≤ x.value := fun x hx => (kD.out i _ (envM_vals hx)).1
  have hcon : ∀ x ∈ m.consts, 0 ≤ x.value := fun x hx => (hcv x hx).1
  obtain ⟨R, hR⟩ : ∃ R, (envM vars (Dg i)).reverse = R := ⟨_, rfl⟩
  have hRl : R.length = vars.length := by rw [← hR, List.length_reverse, envM_len vars hDl']
  have hRv : ∀ x ∈ R, 0 ≤ x.value := fun x hx => henv x (List.mem_reverse.1 (by rw [hR]; exact hx))
  have hRg : ∀ j (h : j < vars.length) (h' : j < R.length), R[j] = ⟨vars[vars.length - 1 - j], (Dg i)[vars.length - 1 - j]⟩ := fun j h h' => by subst hR; exact envM_rev hDl' h h'
  have hwe : ∀ w ∈ f.words, thenV (firstV R w) m.consts w = val w := fun w hw => by
    rw [← hR, hval]
    refine word_eq henv ?_
    by_cases hin : w ∈ vars
    · exact .inl (by rw [envM_names hDl']; exact hin)
    · refine .inr (hcs w ?_)
      obtain ⟨k, nm, ws, s'⟩ := f
      rw [cst, List.mem_append]
      exact .inl (List.mem_filter.2 ⟨hw, decide_eq_true hin⟩)
  have kT2 := Kp.mk hTs
  have kTl := Kp.mk hTl
  have kRg := Kp.mk hRg
  have kRv := Kp.mk hRv
  have kwe := Kp.mk hwe
  have kcon := Kp.mk hcon
  clear hT hTs hTl hRg hRv hwe hcon henv hR
  repeat' (first | refine rq fun _ => ?_ | simp only [go_sem, Nat.lt_irrefl, hIe, ve, hs, hk, Tryd.f88])
  refine WK_loop hm kT.out 88000 (lsw [219] [1000061, 1000069]) (ι := LoopG f.words.length (n + 1) fun _ => True)
    ⟨fun q => ⟨frL [(2, .fz (.sl (vars.map enc))), (3, .rp [.i .i64 s, .sl (m.consts.map enc), .sl (m.rels.map enc)]), (4, .rp [.i .i64 f.kind, .s f.name.l, .sl (f.words.map enc), .sl (f.subs.map enc)]), (8, .arr (88043, 2) 1 0 N), (10, .fz (.i .i64 i)), (143, .arr (88043, 2) 1 0 N), (144, .fz (.i .i64 N)), (145, .fz (.i .i64 i)), (11, .arr (88150, n) 1 0 vars.length), (14, .ow (88219, q.g) 1 ((T q.i).map enc)), (171, .fz (.sl (f.words.map enc))), (172, .fz (.i .i64 f.words.length)), (173, .fz (.i .i64 q.i))], hpL [((88043, 2), some ⟨flatFz ((partB V N i).map enc), false, false⟩), ((88150, n), some ⟨flatFz ((Dg i).map enc), false, false⟩), ((88219, q.g), some tok)], q.m⟩, fun q => f.words.length - q.i⟩
    ⟨0, n2, n2 + 1, by omega, by omega, by omega, trivial⟩ (by kernel_rfl) ?_ ?_
  · refine Weak_g [] [(88219, n2)] [] ?_ ?_ ?_ ?_ ?_ <;> (try simp only [go_sem, hT0, hs, hk, ve, List.map_nil])
    all_goals first | done | rfl | omega | trace_state
  rintro ⟨a, g, n3, ha, hg, hn3, _⟩
  try simp only at ha hg hn3
  rcases Nat.lt_or_ge a f.words.length with h2 | h2
  · obtain ⟨w, hw⟩ : ∃ w, f.words[a] = w := ⟨_, rfl⟩
    have hwm : w ∈ f.words := hw ▸ List.getElem_mem h2
    have hts := kT2.out a h2
    have htl := kTl.out a
    rw [hw] at hts
    obtain ⟨fv, hfv⟩ : ∃ fv : Nat → Int, fv = fun j => firstV (R.take j) w := ⟨_, rfl⟩
    have hf0 : fv 0 = -1 := by rw [hfv]; rfl
    have hfs : ∀ j (h : j < vars.length) (h2 : vars.length - 1 - j < vars.length) (h3 : vars.length - 1 - j < (Dg i).length), fv (j + 1) = if fv j < 0 ∧ vars[vars.length - 1 - j] = w then (Dg i)[vars.length - 1 - j] else fv j := fun j h h2 h3 => by
      rw [hfv]
      simp only
      rw [List.take_succ_eq_append_getElem (show j < R.length by omega), firstV_snoc (fun x hx => kRv.out x (List.mem_of_mem_take hx)), kRg.out j h]
    have hfe : fv vars.length = firstV R w := by rw [hfv]; simp only; rw [← hRl, List.take_length]
    have hft : ∀ j, 0 ≤ fv j → firstV R w = fv j := fun j h => by rw [hfv] at h ⊢; exact firstV_take kRv.out h
    have kfs := Kp.mk hfs
    have kft := Kp.mk hft
    clear hfs hft hfv
    have hgw : ((f.words.map enc).getD a FD.nilf) = FD.s w.l := by rw [getD_map_lt h2, hw]; rfl
    repeat' (first | refine ReqK.i (by rw [hgw]; rfl) fun _ => ?_ | refine rq fun _ => ?_ | simp only [go_sem, h2, hgw, str_eta, hs, hk, hI0, Tryd.f88])
    refine WK_loop hm kT.out 88000 (lsw [219] [1000061, 1000069]) (ι := LoopM vars.length n3 fun _ => True)
      ⟨fun q => ⟨frL [(2, .fz (.sl (vars.map enc))), (3, .rp [.i .i64 s, .sl (m.consts.map enc), .sl (m.rels.map enc)]), (4, .rp [.i .i64 f.kind, .s f.name.l, .sl (f.words.map enc), .sl (f.subs.map enc)]), (8, .arr (88043, 2) 1 0 N), (10, .fz (.i .i64 i)), (143, .arr (88043, 2) 1 0 N), (144, .fz (.i .i64 N)), (145, .fz (.i .i64 i)), (11, .arr (88150, n) 1 0 vars.length), (14, .ow (88219, g) 1 ((T a).map enc)), (171, .fz (.sl (f.words.map enc))), (172, .fz (.i .i64 f.words.length)), (173, .fz (.i .i64 a)), (16, .fz (.s w.l)), (17, .fz (.i .i64 (fv q.i))), (18, .fz (.i .i64 (I q.i)))], hpL [((88043, 2), some ⟨flatFz ((partB V N i).map enc), false, false⟩), ((88150, n), some ⟨flatFz ((Dg i).map enc), false, false⟩), ((88219, g), some tok)], q.m⟩, fun q => vars.length - q.i⟩
      ⟨0, n3, by omega, by omega, trivial⟩ (by kernel_rfl) ?_ ?_
    · refine Weak_to ?_ ?_ ?_ <;> simp only [go_sem, hf0, hI0, hs, hk]
      all_goals first | done | rfl | omega | trace_state
    rintro ⟨j, n4, hj, hn4, _⟩
    try simp only at hj hn4
    obtain ⟨v, hv⟩ : ∃ v, fv j = v := ⟨_, rfl⟩
    have hcase : (j < vars.length ∧ v < 0) ∨ (firstV R w = v ∧ ∃ z, I j = z ∧ (((0 ≤ z) = True ∧ (v < 0) = False) ∨ ((0 ≤ z) = False ∧ (v < 0) = True) ∨ ((0 ≤ z) = False ∧ (v < 0) = False))) := by
      rcases Nat.lt_or_ge j vars.length with h | h
      · by_cases h5 : v < 0
        · exact .inl ⟨h, h5⟩
        · exact .inr ⟨by rw [kft.out j (by omega), hv], _, kI.out j h, .inl ⟨eq_true (by omega), eq_false h5⟩⟩
      · obtain rfl : j = vars.length := by omega
        refine .inr ⟨by rw [← hfe, hv], -1, hIe, ?_⟩
        by_cases h5 : v < 0
        · exact .inr (.inl ⟨eq_false (by decide), eq_true h5⟩)
        · exact .inr (.inr ⟨eq_false (by decide), eq_false h5⟩)
    rcases hcase with ⟨h3, h4⟩ | ⟨hve, z, hz, hcase⟩
    · have hs1' := kfs.out j h3 (by omega) (by omega)
      rw [hv] at hs1'
      have e1 := kI.out j h3
      have e4 := kS.out j
      obtain ⟨p, hp⟩ : ∃ p, vars.length - 1 - j = p := ⟨_, rfl⟩
      have hpl2 : p < vars.length := by omega
      have hpl3 : p < (Dg i).length := by omega
      simp only [hp] at hs1' e1
      rw [e1] at e4
      have e2 : ((0 : Int) ≤ (p : Int)) = True := eq_true (by omega)
      have e3 : (v < 0) = True := eq_true h4
      obtain ⟨x, hx⟩ : ∃ x, vars[p] = x := ⟨_, rfl⟩
      obtain ⟨d, hd⟩ : ∃ d, (Dg i)[p] = d := ⟨_, rfl⟩
      rw [hx, hd] at hs1'
      have hgx : ((vars.map enc).getD p FD.nilf) = FD.s x.l := by rw [getD_map_lt hpl2, hx]; rfl
      have hgd : (flatFz ((Dg i).map enc)).getD p .junk = .fz (.i .i64 d) := by rw [flat_one, List.getD_eq_getElem?_getD, List.getElem?_map, List.getElem?_eq_getElem hpl3, hd]; rfl
      by_cases h6 : x = w
      · have h6' : (x = w) = True := eq_true h6
        rw [if_pos ⟨h4, h6⟩] at hs1'
        repeat' (first | refine ReqK.i (by rw [hgx]; rfl) fun _ => ?_ | refine rq fun _ => ?_ | simp only [go_sem, hs, hk, hv, e1, e2, e3, hgx, hgd, hpl2, hpl3, hDl', h6', str_eta, Tryd.f88])
        all_goals
          refine ⟨⟨j + 1, n4, by omega, by omega, trivial⟩, by simp only; omega, ?_⟩
          refine Weak_to ?_ ?_ ?_ <;> simp only [go_sem, hs1', e4, hk, hs]
          all_goals first | done | rfl | omega | trace_state
      · have h6' : (x = w) = False := eq_false h6
        rw [if_neg (fun h => h6 h.2)] at hs1'
        repeat' (first | refine ReqK.i (by rw [hgx]; rfl) fun _ => ?_ | refine rq fun _ => ?_ | simp only [go_sem, hs, hk, hv, e1, e2, e3, hgx, hgd, hpl2, hpl3, hDl', h6', str_eta, Tryd.f88])
        all_goals
          refine ⟨⟨j + 1, n4, by omega, by omega, trivial⟩, by simp only; omega, ?_⟩
          refine Weak_to ?_ ?_ ?_ <;> simp only [go_sem, hs1', e4, hk, hs]
          all_goals first | done | rfl | omega | trace_state
    have g0 : thenV v [] w = v := thenV_zero (by rw [← hve]; exact firstV_or kRv.out)
    obtain ⟨gv, hgv⟩ : ∃ gv : Nat → Int, gv = fun k => thenV v (m.consts.take k) w := ⟨_, rfl⟩
    have hg0 : gv 0 = v := by rw [hgv]; exact g0
    have hgs : ∀ k (h : k < m.consts.length), gv (k + 1) = if gv k < 0 ∧ m.consts[k].name = w then m.consts[k].value else gv k := fun k h => by
      rw [hgv]
      simp only
      rw [List.take_succ_eq_append_getElem h, thenV_snoc (fun x hx => kcon.out x (List.mem_of_mem_take hx))]
    have hge : gv m.consts.length = val w := by
      rw [hgv]; simp only [List.take_length]; rw [← hve]; exact kwe.out w hwm
    have kgs := Kp.mk hgs
    clear hgs hgv g0
    rcases hcase with ⟨c1, c2⟩ | ⟨c1, c2⟩ | ⟨c1, c2⟩
    all_goals
      repeat' (first | refine rq fun _ => ?_ | simp only [go_sem, hs, hk, hv, hz, c1, c2, Tryd.f88])
      refine WK_loop hm kT.out 88000 (lsw [219] [1000061, 1000069]) (ι := LoopM m.consts.length n4 fun _ => True)
        ⟨fun q => ⟨frL [(2, .fz (.sl (vars.map enc))), (3, .rp [.i .i64 s, .sl (m.consts.map enc), .sl (m.rels.map enc)]), (4, .rp [.i .i64 f.kind, .s f.name.l, .sl (f.words.map enc), .sl (f.subs.map enc)]), (8, .arr (88043, 2) 1 0 N), (10, .fz (.i .i64 i)), (143, .arr (88043, 2) 1 0 N), (144, .fz (.i .i64 N)), (145, .fz (.i .i64 i)), (11, .arr (88150, n) 1 0 vars.length), (14, .ow (88219, g) 1 ((T a).map enc)), (171, .fz (.sl (f.words.map enc))), (172, .fz (.i .i64 f.words.length)), (173, .fz (.i .i64 a)), (16, .fz (.s w.l)), (17, .fz (.i .i64 (gv q.i))), (199, .fz (.sl (m.consts.map enc))), (200, .fz (.i .i64 m.consts.length)), (201, .fz (.i .i64 q.i))], hpL [((88043, 2), some ⟨flatFz ((partB V N i).map enc), false, false⟩), ((88150, n), some ⟨flatFz ((Dg i).map enc), false, false⟩), ((88219, g), some tok)], q.m⟩, fun q => m.consts.length - q.i⟩
        ⟨0, n4, by omega, by omega, trivial⟩ (by kernel_rfl) ?_ ?_
      · refine Weak_to ?_ ?_ ?_ <;> simp only [go_sem, hg0, hs, hk]
        all_goals first | done | rfl | omega | trace_state
      rintro ⟨k, n5, hkk, hn5, _⟩
      try simp only at hkk hn5
      rcases Nat.lt_or_ge k m.consts.length with h3 | h3
      · have hgs := kgs.out k h3
        obtain ⟨x, hx⟩ : ∃ x, m.consts[k] = x := ⟨_, rfl⟩
        obtain ⟨u, hu⟩ : ∃ u, gv k = u := ⟨_, rfl⟩
        rw [hx, hu] at hgs
        by_cases h7 : u < 0
        · have h7' : (u < 0) = True := eq_true h7
          by_cases h8 : x.name = w
          · have h8' : (x.name = w) = True := eq_true h8
            rw [if_pos ⟨h7, h8⟩] at hgs
            repeat' (first | refine rq fun _ => ?_ | simp only [go_sem, h3, hx, hs, hk, hu, h7', h8', const_eta, str_eta, getD_map_lt, Tryd.f88])
            all_goals
              refine ⟨⟨k + 1, n5 + 2, by omega, by omega, trivial⟩, by simp only; omega, ?_⟩
              refine Weak_to ?_ ?_ ?_ <;> simp only [go_sem, hgs, hk, hs]
              all_goals first | done | rfl | omega | trace_state
          · have h8' : (x.name = w) = False := eq_false h8
            rw [if_neg (fun h => h8 h.2)] at hgs
            repeat' (first | refine rq fun _ => ?_ | simp only [go_sem, h3, hx, hs, hk, hu, h7', h8', const_eta, str_eta, getD_map_lt, Tryd.f88])
            all_goals
              refine ⟨⟨k + 1, n5 + 2, by omega, by omega, trivial⟩, by simp only; omega, ?_⟩
              refine Weak_to ?_ ?_ ?_ <;> simp only [go_sem, hgs, hk, hs]
              all_goals first | done | rfl | omega | trace_state
        · have h7' : (u < 0) = False := eq_false h7
          rw [if_neg (fun h => h7 h.1)] at hgs
          repeat' (first | refine rq fun _ => ?_ | simp only [go_sem, h3, hx, hs, hk, hu, h7', const_eta, str_eta, getD_map_lt, Tryd.f88])
          all_goals
            refine ⟨⟨k + 1, n5 + 2, by omega, by omega, trivial⟩, by simp only; omega, ?_⟩
            refine Weak_to ?_ ?_ ?_ <;> simp only [go_sem, hgs, hk, hs]
            all_goals first | done | rfl | omega | trace_state
      obtain rfl : k = m.consts.length := by omega
      repeat' (first | refine ReqK.i (fits_of2 (by first | omega | (simp only [List.length_map, List.length_append, List.length_cons, List.length_nil]; omega)) (by decide)) fun _ => ?_ | refine rq fun _ => ?_ | simp only [go_sem, Nat.lt_irrefl, hs, hk, hge, Tryd.f88])
      all_goals
        refine ⟨⟨a + 1, n5, n5 + 1, by omega, by omega, by omega, trivial⟩, by simp only; omega, ?_⟩
        refine Weak_to ?_ ?_ ?_ <;> (try simp only [go_sem, hts, hs, hk, List.map_append, List.map_cons, List.map_nil])
        all_goals first | done | rfl | omega | trace_state
  obtain rfl : a = f.words.length := by omega
  obtain ⟨ts, hts⟩ : ∃ ts, f.words.map val = ts := ⟨_, rfl⟩
  rw [hts] at hTe
  have htl : ts.length = f.words.length := by rw [← hts, List.length_map]
  have hDv := kD.out i
  have hvr : ∀ v ∈ ts, 0 ≤ v ∧ v < (s : Int) := fun v hv => by
    rw [← hts] at hv
    obtain ⟨w, hw, rfl⟩ := List.mem_map.1 hv
    rw [hval]
    refine wordV_rng (P := fun v => 0 ≤ v ∧ v < (s : Int)) (fun x hx => hDv _ (envM_vals hx)) (fun c hc => by rw [← hs]; exact hcv c hc) ?_
    by_cases hin : w ∈ vars
    · exact .inl (by rw [envM_names hDl']; exact hin)
    · refine .inr (hcs w ?_)
      obtain ⟨k, nm, ws, s'⟩ := f
      rw [cst, List.mem_append]
      exact .inl (List.mem_filter.2 ⟨hw, decide_eq_true hin⟩)
  have hVi : V i = m.rels.any (matchR f.name f.words.length ts) := by
    rw [rels_any hmg.v, hV, ← hts, hval, hDg]
    obtain ⟨k, nm, ws, s'⟩ := f
    simp only [form_kind] at hk
    subst hk
    rw [row_rel, hms]
    rfl
  have hset : ∀ b, (flatFz (((partB V N i).set i b).map enc)).set i (.fz (.b true)) = flatFz (((partB V N i).set i true).map enc) := fun b => by
    have := flat_set (l := (partB V N i).set i b) (i := i) (a := true)
    rw [List.set_set] at this
    exact this
  have hol : ∀ b, ((partB V N i).set i b).length = N := fun b => by rw [List.length_set, partB_len]
  have hof := partB_false (V := V) h1
  have hoe : (partB V N i).set i (m.rels.any (matchR f.name f.words.length ts)) = partB V N (i + 1) := by rw [← hVi, partB_set h1]
  obtain ⟨Fl, hFl⟩ : ∃ Fl : Nat → Bool, Fl = fun r => (m.rels.take r).any (matchR f.name f.words.length ts) := ⟨_, rfl⟩
  have hF0 : Fl 0 = false := by rw [hFl]; rfl
  have hFs : ∀ r (h : r < m.rels.length), Fl (r + 1) = (Fl r || matchR f.name f.words.length ts m.rels[r]) := fun r h => by rw [hFl]; exact any_take_succ h
  have hFe : Fl m.rels.length = m.rels.any (matchR f.name f.words.length ts) := by rw [hFl]; simp only [List.take_length]
  have hlr := hmg.v.lr
  have htv : ∀ q ∈ m.rels, ∀ t ∈ q.tuples, (t.length : Int) = q.arity ∧ ∀ v ∈ t, 0 ≤ v ∧ v < (s : Int) := fun q hq t ht => by rw [← hs]; exact hmg.tv q hq t ht
  have hcp : codePre ts s := ⟨by omega, by omega, by omega, fun v hv => by have := hvr v hv; omega⟩
  have kFs := Kp.mk hFs
  have ktv := Kp.mk htv
  have kvr := Kp.mk hvr
  clear hFs htv hvr hFl hV hVi hDv
  rw [← hFe] at hoe
  repeat' (first | refine rq fun _ => ?_ | simp only [go_sem, Nat.lt_irrefl, hs, hk, hTe, Tryd.f88])
  refine WK_loop hm kT.out 88000 (lsw [219] [1000061, 1000069]) (ι := LoopM m.rels.length n3 fun _ => True)
    ⟨fun q => ⟨frL [(2, .fz (.sl (vars.map enc))), (3, .rp [.i .i64 s, .sl (m.consts.map enc), .sl (m.rels.map enc)]), (4, .rp [.i .i64 f.kind, .s f.name.l, .sl (f.words.map enc), .sl (f.subs.map enc)]), (8, .arr (88043, 2) 1 0 N), (10, .fz (.i .i64 i)), (143, .arr (88043, 2) 1 0 N), (144, .fz (.i .i64 N)), (145, .fz (.i .i64 i)), (14, .ow (88219, g) 1 (ts.map enc)), (235, .fz (.sl (m.rels.map enc))), (236, .fz (.i .i64 m.rels.length)), (237, .fz (.i .i64 q.i))], hpL [((88043, 2), some ⟨flatFz (((partB V N i).set i (Fl q.i)).map enc), false, false⟩), ((88219, g), some tok)], q.m⟩, fun q => m.rels.length - q.i⟩
    ⟨0, n3, by omega, by omega, trivial⟩ (by kernel_rfl) ?_ ?_
  · refine Weak_to ?_ ?_ ?_ <;> simp only [go_sem, hF0, hof, hs, hk, hTe]
    all_goals first | done | rfl | omega | trace_state
  rintro ⟨r, n4, hr, hn4, _⟩
  try simp only at hr hn4
  rcases Nat.lt_or_ge r m.rels.length with h2 | h2
  rotate_left
  · obtain rfl : r = m.rels.length := by omega
    repeat' (first | refine rq fun _ => ?_ | simp only [go_sem, Nat.lt_irrefl, hs, hk, hoe, Tryd.f88])
    all_goals
      refine ⟨⟨i + 1, n4 + 9, by omega, by omega, trivial⟩, by simp only; omega, ?_⟩
      refine Weak_to ?_ ?_ ?_ <;> simp only [go_sem, hoe, hs, hk]
      all_goals first | done | rfl | omega | trace_state
  have hfs := kFs.out r h2
  obtain ⟨x, hx⟩ : ∃ x, m.rels[r] = x := ⟨_, rfl⟩
  have hxm : x ∈ m.rels := hx ▸ List.getElem_mem h2
  rw [hx] at hfs
  obtain ⟨b, hbF⟩ : ∃ b, Fl r = b := ⟨_, rfl⟩
  rw [hbF] at hfs
  by_cases c1 : x.name = f.name
  rotate_left
  · have c1' : (x.name = f.name) = False := eq_false c1
    have hmm : matchR f.name f.words.length ts x = false := by unfold matchR; rw [decide_eq_false c1]; rfl
    rw [hmm, Bool.or_false] at hfs
    repeat' (first | refine rq fun _ => ?_ | simp only [go_sem, h2, hx, hs, hk, hbF, c1', rel_eta, str_eta, getD_map_lt, Tryd.f88])
    all_goals
      refine ⟨⟨r + 1, n4 + 2, by omega, by omega, trivial⟩, by simp only; omega, ?_⟩
      refine Weak_to ?_ ?_ ?_ <;> simp only [go_sem, hfs, hbF, hs, hk]
      all_goals first | done | rfl | omega | trace_state
  have c1' : (x.name = f.name) = True := eq_true c1
  by_cases c2 : x.arity = (ts.length : Int)
  rotate_left
  · have c2' : (x.arity = (ts.length : Int)) = False := eq_false c2
    have c2n : ¬ x.arity = (f.words.length : Int) := by rw [← htl]; exact c2
    have hmm : matchR f.name f.words.length ts x = false := by unfold matchR; rw [decide_eq_false c2n, Bool.false_and, Bool.and_false]
    rw [hmm, Bool.or_false] at hfs
    repeat' (first | refine rq fun _ => ?_ | simp only [go_sem, h2, hx, hs, hk, hbF, c1', c2', rel_eta, str_eta, getD_map_lt, Tryd.f88])
    all_goals
      refine ⟨⟨r + 1, n4 + 2, by omega, by omega, trivial⟩, by simp only; omega, ?_⟩
      refine Weak_to ?_ ?_ ?_ <;> simp only [go_sem, hfs, hbF, hs, hk]
      all_goals first | done | rfl | omega | trace_state
  have c2' : (x.arity = (ts.length : Int)) = True := eq_true c2
  have hxtl := htlen x hxm
  unfold maxL at hxtl
  have c2p : x.arity = (f.words.length : Int) := by rw [← htl]; exact c2
  have hmm : matchR f.name f.words.length ts x = x.tuples.any fun t => decide (t = ts) := by unfold matchR; rw [decide_eq_true c1, decide_eq_true c2p, Bool.true_and, Bool.true_and]
  rw [hmm] at hfs
  obtain ⟨Gl, hGl⟩ : ∃ Gl : Nat → Bool, Gl = fun k => b || (x.tuples.take k).any fun t => decide (t = ts) := ⟨_, rfl⟩
  have hG0 : Gl 0 = b := by rw [hGl]; simp
  have hGs : ∀ k (h : k < x.tuples.length), Gl (k + 1) = (Gl k || decide (x.tuples[k] = ts)) := fun k h => by rw [hGl]; simp only; rw [any_take_succ h, Bool.or_assoc]
  have hGe : Gl x.tuples.length = Fl (r + 1) := by rw [hfs, hGl]; simp only [List.take_length]
  have kGs := Kp.mk hGs
  clear hGs hGl hfs
  repeat' (first | refine rq fun _ => ?_ | simp only [go_sem, h2, hx, hs, hk, hbF, c1', c2', rel_eta, str_eta, getD_map_lt, Tryd.f88])
  refine WK_loop hm kT.out 88000 (lsw [219] [1000061, 1000069]) (ι := LoopM x.tuples.length (n4 + 1) fun _ => True)
    ⟨fun q => ⟨frL [(2, .fz (.sl (vars.map enc))), (3, .rp [.i .i64 s, .sl (m.consts.map enc), .sl (m.rels.map enc)]), (4, .rp [.i .i64 f.kind, .s f.name.l, .sl (f.words.map enc), .sl (f.subs.map enc)]), (8, .arr (88043, 2) 1 0 N), (10, .fz (.i .i64 i)), (143, .arr (88043, 2) 1 0 N), (144, .fz (.i .i64 N)), (145, .fz (.i .i64 i)), (14, .ow (88219, g) 1 (ts.map enc)), (22, .ptr (88022, n4) 0), (235, .fz (.sl (m.rels.map enc))), (236, .fz (.i .i64 m.rels.length)), (237, .fz (.i .i64 r)), (254, .fz (.sl (x.tuples.map enc))), (255, .fz (.i .i64 x.tuples.length)), (256, .fz (.i .i64 q.i))], hpL [((88043, 2), some ⟨flatFz (((partB V N i).set i (Gl q.i)).map enc), false, false⟩), ((88219, g), some tok)], q.m⟩, fun q => x.tuples.length - q.i⟩
    ⟨0, n4 + 1, by omega, by omega, trivial⟩ (by kernel_rfl) ?_ ?_
  · refine Weak_to ?_ ?_ ?_ <;> simp only [go_sem, hG0, hbF, hs, hk]
    all_goals first | done | rfl | omega | trace_state
  rintro ⟨k, n5, hkk, hn5, _⟩
  try simp only at hkk hn5
  rcases Nat.lt_or_ge k x.tuples.length with h3 | h3
  · have hgs := kGs.out k h3
    obtain ⟨t, ht⟩ : ∃ t, x.tuples[k] = t := ⟨_, rfl⟩
    have htm : t ∈ x.tuples := ht ▸ List.getElem_mem h3
    rw [ht] at hgs
    obtain ⟨e1, e2⟩ := ktv.out x hxm t htm
    have htp : codePre t s := ⟨by omega, by omega, by omega, fun v hv => by have := e2 v hv; omega⟩
    have hgt : ((x.tuples.map enc).getD k FD.nilf) = FD.sl (t.map enc) := by rw [getD_map_lt h3, ht]; rfl
    obtain ⟨u, hu⟩ : ∃ u, Gl k = u := ⟨_, rfl⟩
    rw [hu] at hgs
    have hset := hset u
    by_cases h6 : t = ts
    · have h6' : (codeM (s : Int) t = codeM (s : Int) ts) = True := eq_true (by rw [h6])
      rw [decide_eq_true h6, Bool.or_true] at hgs
      repeat' (first | refine WK_drawV hm kT.out 88000 (lsw [219] [1000061, 1000069]) tree69 (by kernel_rfl) (by kernel_rfl) ?_ | refine And.intro ?_ ?_ | exact True.intro | refine ReqK.i htp fun _ => ?_ | refine ReqK.i hcp fun _ => ?_ | refine ReqK.i (by rw [hgt]; rfl) fun _ => ?_ | refine rq fun _ => ?_ | simp only [go_sem, h3, hgt, hs, hk, hu, h6', hol, h1, tree69, rel_eta, str_eta, Tryd.f88])
      all_goals
        refine ⟨⟨k + 1, n5 + 2, by omega, by omega, trivial⟩, by simp only; omega, ?_⟩
        refine Weak_to ?_ ?_ ?_ <;> simp only [go_sem, hgs, hset, hu, hs, hk]
        all_goals first | done | rfl | omega | trace_state
    · have h6' : (codeM (s : Int) t = codeM (s : Int) ts) = False := eq_false fun h => h6 (fold_inj (by omega) t ts 0 0 (by omega) e2 kvr.out h).2
      rw [decide_eq_false h6, Bool.or_false] at hgs
      repeat' (first | refine WK_drawV hm kT.out 88000 (lsw [219] [1000061, 1000069]) tree69 (by kernel_rfl) (by kernel_rfl) ?_ | refine And.intro ?_ ?_ | exact True.intro | refine ReqK.i htp fun _ => ?_ | refine ReqK.i hcp fun _ => ?_ | refine ReqK.i (by rw [hgt]; rfl) fun _ => ?_ | refine rq fun _ => ?_ | simp only [go_sem, h3, hgt, hs, hk, hu, h6', hol, h1, tree69, rel_eta, str_eta, Tryd.f88])
      all_goals
        refine ⟨⟨k + 1, n5 + 2, by omega, by omega, trivial⟩, by simp only; omega, ?_⟩
        refine Weak_to ?_ ?_ ?_ <;> simp only [go_sem, hgs, hset, hu, hs, hk]
        all_goals first | done | rfl | omega | trace_state
  obtain rfl : k = x.tuples.length := by omega
  repeat' (first | refine rq fun _ => ?_ | simp only [go_sem, Nat.lt_irrefl, hs, hk, hGe, Tryd.f88])
  all_goals
    refine ⟨⟨r + 1, n5 + 2, by omega, by omega, trivial⟩, by simp only; omega, ?_⟩
    refine Weak_to ?_ ?_ ?_ <;> simp only [go_sem, hGe, hs, hk]
    all_goals first | done | rfl | omega | trace_state
end
end Go.Proofs.YtbbjghecpcobjaaDoor

namespace Go.Proofs.YtbbjghecpcobjaaDoor
open Go Go.Abs Go.Proofs
section
variable {G : Nat → List FD}
def E4 : Tbl := E3.add 88 (sp3 tabM tabP)
attribute [go_sem] E4
theorem hE4 : TblOk Tryd.prog G E4 := by
  refine sp3_recM Form.size ok88 hE3 fun n hT m f vars hn hp hwm _ _ => ?_
  have h := vok_eq.1 hp.vk
  have hk : f.kind = 1 ∨ f.kind = 2 ∨ f.kind = 3 ∨ f.kind = 4 ∨ f.kind = 5 ∨ f.kind = 6 ∨ f.kind = 7 ∨ f.kind = 8 ∨ f.kind = 9 := by omega
  rcases hk with hk | hk | hk | hk | hk | hk | hk | hk | hk
  · exact tab1 hT hn hp hk
  · exact tab2 hT hn hp hwm hk
  · exact tab3 hT hn hp hk
  · exact tab4 hT hn hp hk
  · exact tab5 hT hn hp hk
  · exact tab6 hT hn hp hk
  · exact tab7 hT hn hp hk
  · exact tab8 hT hn hp hk
  · exact tab9 hT hn hp hk
/-- a formula that says of how many: one quantifier in front -/
def vlP (m : Model) (f : Abs.Form) : Prop := f.kind = 9 ∧ (∃ x, f.subs = [x] ∧ x.kind ≠ 9) ∧ tabP m (f.subs.getD 0 zeroF) [f.name]
def vlM (m : Model) (f : Abs.Form) : List Bool × Int := (tabM m (f.subs.getD 0 zeroF) [f.name], 1)
def E5 : Tbl := E4.add 43 (sp2p vlM vlP)
attribute [go_sem] E5
set_option maxRecDepth 100000 in
set_option maxHeartbeats 1000000 in
set_option maxHeartbeats 4000000 in
theorem hE5 : TblOk Tryd.prog G E5 := by
  refine sp2p_ok ok43 hE4 fun m f hpre _ _ => ?_
  obtain ⟨hk, ⟨x, hb, hx⟩, hp⟩ := hpre
  have hx0 : f.subs.getD 0 zeroF = x := by rw [hb]; rfl
  unfold vlM
  rw [hx0] at hp ⊢
  obtain ⟨t, ht⟩ : ∃ t, tabM m x [f.name] = t := ⟨_, rfl⟩
  rw [ht]
  obtain ⟨FB, hFB⟩ : ∃ FB : Nat → Abs.Form, FB = fun k => if k = 0 then f else x := ⟨_, rfl⟩
  obtain ⟨VS, hVS⟩ : ∃ VS : Nat → List Str, VS = fun k => if k = 0 then [] else [f.name] := ⟨_, rfl⟩
  have f0 : FB 0 = f := by rw [hFB]; rfl
  have f1 : FB 1 = x := by rw [hFB]; rfl
  have v0 : VS 0 = [] := by rw [hVS]; rfl
  have v1 : VS 1 = [f.name] := by rw [hVS]; rfl
  clear hFB hVS
  have hxk : (x.kind = 9) = False := eq_false hx
  refine Wcall_K (N := 25) hm hE4 43000 (lsw [14] []) ok43 Tryd.func43 rfl rfl (by simp) (by kernel_rfl) ?_
  repeat' (first | refine rq fun _ => ?_ | simp only [go_sem, form_eta, str_eta, model_eta, getD_map_lt, Tryd.f43])
  refine WK_loop hm hE4 43000 (lsw [14] []) (ι := LoopG 1 3 fun _ => True)
    ⟨fun q => ⟨frL [(2, .ptr (43002, 0) 0), (3, .ptr (43003, 1) 0), (6, .ow (43014, q.g) 1 ((VS q.i).map enc))], hpL [((43002, 0), some ⟨[.fz (.i .i64 m.size), .fz (.sl (m.consts.map enc)), .fz (.sl (m.rels.map enc))], true, false⟩), ((43003, 1), some ⟨[.fz (.i .i64 (FB q.i).kind), .fz (.s (FB q.i).name.l), .fz (.sl ((FB q.i).words.map enc)), .fz (.sl ((FB q.i).subs.map enc))], true, false⟩), ((43014, q.g), some tok)], q.m⟩, fun q => 1 - q.i⟩
    ⟨0, 2, 3, by omega, by omega, by omega, trivial⟩ (by kernel_rfl) ?_ ?_
  · refine Weak_g [] [(43014, 2)] [] ?_ ?_ ?_ ?_ ?_ <;> (try simp only [go_sem, f0, v0, List.map_nil])
    all_goals first | done | rfl | omega | trace_state
  rintro ⟨i, g, n, hi, hg, hn, _⟩
  try simp only at hi hg hn
  obtain rfl | rfl : i = 0 ∨ i = 1 := by omega
  · repeat' (first | refine ReqK.i (fits_of2 (by first | omega | (simp only [List.length_map, List.length_append, List.length_cons, List.length_nil]; omega)) (by decide)) fun _ => ?_ | refine rq fun _ => ?_ | simp only [go_sem, f0, v0, hk, hb, List.map_nil, List.nil_append, List.map_cons, List.getD_cons_zero, form_eta, str_eta, model_eta, getD_map_lt, Tryd.f43])
    all_goals
      refine ⟨⟨1, n, n + 1, by omega, by omega, by omega, trivial⟩, by simp only; omega, ?_⟩
      refine Weak_to ?_ ?_ ?_ <;> (try simp only [go_sem, f1, v1, List.map_cons, List.map_nil])
      all_goals first | done | rfl | omega | trace_state
  · repeat' (first | refine ReqK.i hp fun _ => ?_ | refine rq fun _ => ?_ | simp only [go_sem, f1, v1, hxk, ht, List.map_cons, List.map_nil, form_eta, str_eta, model_eta, getD_map_lt, Tryd.f43])
    all_goals first | done | rfl
def dnF (f : Abs.Form) : Abs.Form := .mk 4 ⟨[]⟩ [] [.mk 4 ⟨[]⟩ [] [f]]
theorem tab_vals (m : Model) (name : Str) (f : Abs.Form) : tabM m (dnF f) [name] = valsM m name f := by
  unfold tabM valsM indiv
  rw [List.map_map, List.length_cons, List.length_nil, Nat.zero_add, Nat.pow_one]
  refine List.map_congr_left fun i hi => ?_
  have hi := List.mem_range.1 hi
  unfold dnF
  rw [row_not, row_not, Bool.not_not]
  unfold rowM
  rw [List.length_cons, List.length_nil, Nat.zero_add, digsM, digsM, List.nil_append, Nat.mod_eq_of_lt hi]
  rfl
theorem dn_pre {m : Model} {name : Str} {f : Abs.Form} (h : tabP m (dnF f) [name]) : vlP m (Abs.Form.mk 9 name [] [dnF f]) := ⟨rfl, ⟨dnF f, rfl, by unfold dnF; rw [form_kind]; decide⟩, h⟩
def E6 : Tbl := E5.add 14 (sp3 valsM fun m name f => tabP m (dnF f) [name])
attribute [go_sem] E6
set_option maxRecDepth 100000 in
set_option maxHeartbeats 1000000 in
set_option maxHeartbeats 4000000 in
theorem hE6 : TblOk Tryd.prog G E6 := by
  refine sp3_ok ok14 hE5 fun m name f hp _ _ _ => ?_
  have hv := dn_pre hp
  have e : vlM m (Abs.Form.mk 9 name [] [dnF f]) = (valsM m name f, 1) := by
    unfold vlM
    rw [form_subs, form_name]
    exact Prod.ext (tab_vals m name f) rfl
  have ed : Abs.Form.mk 4 ⟨[]⟩ [] [Abs.Form.mk 4 ⟨[]⟩ [] [f]] = dnF f := rfl
  obtain ⟨l, hl⟩ : ∃ l, valsM m name f = l := ⟨_, rfl⟩
  rw [hl] at e
  rw [hl]
  refine Wcall_K (N := 23) hm hE5 14000 (lst []) ok14 Tryd.func14 rfl rfl (by simp) (by kernel_rfl) ?_
  repeat' (first | refine ReqK.i ⟨by simp only [go_sem, dnF], hv⟩ fun _ => ?_ | refine ReqK.i hv fun _ => ?_ | refine rq fun _ => ?_ | simp only [go_sem, ed, e, form_eta, str_eta, model_eta, getD_map_lt, Tryd.f14])
  all_goals first | done | rfl | trace_state
end
end Go.Proofs.YtbbjghecpcobjaaDoor

namespace Go.Proofs.YtbbjghecpcobjaaDoor
open Go Go.Abs Go.Proofs

/-! ## the law QuantityCountsMatchSpec -/
theorem num_x : numP oneM sQX fQD = (1, ⟨0, 0⟩) := by kernel_rfl
theorem numP_nf (m : Model) (name : Str) (f : Abs.Form) : (nfR m name f (-3)).code ≠ 0 → numP m name f = (0, nfR m name f (-3)) := by
  intro h
  by_cases h1 : (modelM m).code = 0
  · have e : nfR m name f (-3) = if isName name = false then ⟨10, -2⟩ else qfM m name f (-3) := by unfold nfR; rw [if_neg (by simp [h1])]
    rw [e] at h ⊢
    unfold numP
    rw [if_neg (by simp [h1])]
    by_cases h2 : isName name = false
    · rw [if_pos h2, if_pos h2]
    · rw [if_neg h2] at h ⊢
      rw [if_neg h2, if_pos h]
  · have e : nfR m name f (-3) = modelM m := by unfold nfR; rw [if_pos h1]
    rw [e]
    unfold numP
    rw [if_pos h1]
theorem nfR_ok {m : Model} {name : Str} {f : Abs.Form} {at' : Int} (h : (nfR m name f at').code = 0) : (modelM m).code = 0 ∧ isName name = true ∧ (qfM m name f at').code = 0 ∧ nfR m name f at' = ⟨0, 0⟩ := by
  unfold nfR at h ⊢
  by_cases h1 : (modelM m).code = 0
  · rw [if_neg (by simp [h1])] at h ⊢
    by_cases h2 : isName name = false
    · rw [if_pos h2] at h; exact absurd h (by decide)
    · rw [if_neg h2] at h ⊢
      exact ⟨h1, by simpa using h2, h, (qfM_ok h).2.2⟩
  · rw [if_pos h1] at h; exact absurd h h1
theorem numP_at {m : Model} {name : Str} {f : Abs.Form} (h : (nfR m name f (-3)).code = 0) : numP m name f = (((cntM (valsM m name f) : Nat) : Int), ⟨0, 0⟩) := by
  obtain ⟨h1, h2, h3, _⟩ := nfR_ok h
  unfold numP
  rw [if_neg (by simp [h1]), if_neg (by simp [h2]), if_neg (by simp [h3])]
theorem dn_tab {m : Model} {name : Str} {f : Abs.Form} {at' : Int} (h : (nfR m name f at').code = 0) : tabP m (dnF f) [name] := by
  obtain ⟨h1, _, h3, _⟩ := nfR_ok h
  obtain ⟨h4, h5, _⟩ := qfM_ok h3
  have h6 := truthE_ok.1 h5
  have hnest : nestM (Abs.Form.mk 9 name [] [f]) = nestM f + 1 := by rw [nestM, nestMs, nestMs, if_pos (by unfold isQ; omega)]; simp
  have hdn : nestM (dnF f) = nestM f := by unfold dnF; rw [nestM, nestMs, nestMs, nestM, nestMs, nestMs, if_neg (by unfold isQ; omega)]; simp
  have h7 := (lacks_ok.1 h6.2).1
  have hsz := checkM_size h4
  refine ⟨modelM_good h1, ?_, ⟨?_, ?_⟩, ?_, fun c hc => h7 c ?_⟩
  · unfold dnF
    rw [vok_eq]
    simp only [form_kind, form_subs, form_words]
    refine ⟨by decide, by decide, by simp, by simp, by simp, by simp, ?_⟩
    rw [voks_mem]
    intro g hg
    obtain rfl : g = _ := by simpa using hg
    rw [vok_eq]
    simp only [form_kind, form_subs, form_words]
    refine ⟨by decide, by decide, by simp, by simp, by simp, by simp, ?_⟩
    rw [voks_mem]
    intro g hg
    obtain rfl : g = _ := by simpa using hg
    exact checkM_vok h4
  · unfold dnF; rw [Form.fit, Form.fits, Form.fits, Form.fit, Form.fits, Form.fits, checkM_fit h4]; simp
  · unfold dnF; rw [Form.size, Form.sizes, Form.sizes, Form.size, Form.sizes, Form.sizes]; omega
  · rw [hdn, List.length_cons, List.length_nil]; rw [hnest] at h6; omega
  · rw [cst, List.mem_append]
    right
    rw [if_pos (by unfold isQ; omega)]
    unfold dnF at hc
    rw [cst, List.mem_append] at hc
    rcases hc with hc | hc
    · simp at hc
    rw [if_neg (by unfold isQ; omega), csts, csts, List.append_nil, cst, List.mem_append] at hc
    rcases hc with hc | hc
    · simp at hc
    rw [if_neg (by unfold isQ; omega)] at hc
    exact hc
set_option maxRecDepth 100000 in
set_option maxHeartbeats 1000000 in
set_option maxHeartbeats 8000000 in
theorem lawCounts (hT : TblOk Tryd.prog G1 E6) (m : Model) (name : Str) (f g : Abs.Form) (_ : (enc m).Wf) (_ : (enc name).Wf) (_ : (enc f).Wf) (_ : (enc g).Wf) : Wcall Tryd.prog G1 3 [.fz (enc m), .fz (enc name), .fz (enc f), .fz (enc g)] (hpL []) 0 (fun d _ _ => d = .fz (.b true)) := by
  have dD : Str.mk [100, 111, 103] = sQD := rfl
  have dX : Str.mk [120] = sQX := rfl
  have dF : predM sQD [sQX] = fQD := rfl
  have hnx := num_x
  refine Wcall_K (N := 144) hm hT 3000 (lst []) ok3 Tryd.func3 rfl rfl (by simp) (by kernel_rfl) ?_
  by_cases h1 : (nfR m name f (-3)).code = 0
  rotate_left
  · have e1 := numP_nf m name f h1
    have e2 : mostP m name f g = (false, nfR m name f (-3)) := by unfold mostP; rw [e1, if_pos h1]
    obtain ⟨d, hd⟩ : ∃ d, nfR m name f (-3) = d := ⟨_, rfl⟩
    rw [hd] at e1 e2 h1
    have h1' : (d.code = 0) = False := eq_false h1
    repeat' (first | refine rq fun _ => ?_ | simp only [go_sem, dD, dX, dF, hnx, G1, form_eta, str_eta, model_eta, getD_map_lt, e1, e2, hd, h1', Tryd.f3])
    all_goals trace_state
  have e1 := numP_at h1
  have hd := (nfR_ok h1).2.2.2
  have hpf := dn_tab h1
  obtain ⟨b, hb⟩ : ∃ b, mostP m name f g = b := ⟨_, rfl⟩
  obtain ⟨A, hA⟩ : ∃ A, valsM m name f = A := ⟨_, rfl⟩
  have hAl : A.length ≤ 6 := by rw [← hA, valsM_len]; have := hpf.gd.v.s6; have := hpf.gd.v.s1; omega
  rw [hA] at e1
  obtain ⟨C, hC⟩ : ∃ C : Nat → Nat, C = fun i => cntM (A.take i) := ⟨_, rfl⟩
  have hC0 : C 0 = 0 := by rw [hC]; rfl
  have hCs : ∀ i (h : i < A.length), C (i + 1) = C i + if A[i] then 1 else 0 := fun i h => by rw [hC]; exact cntM_take h
  have hCe : C A.length = cntM A := by rw [hC]; simp only [List.take_length]
  have hCl : ∀ i, i ≤ A.length → C i ≤ i := fun i h => by rw [hC]; unfold cntM; exact Nat.le_trans (List.length_filter_le _ _) (by rw [List.length_take]; omega)
  have kCs := Kp.mk hCs
  have kCl := Kp.mk hCl
  clear hC hCs hCl
  repeat' (first | refine ReqK.i hpf fun _ => ?_ | refine ReqK.i hpg fun _ => ?_ | refine rq fun _ => ?_ | simp only [go_sem, dD, dX, dF, hnx, G1, form_eta, str_eta, model_eta, getD_map_lt, e1, hd, hA, hb, hC0, Tryd.f3])
  refine WK_loop hm hT 3000 (lst []) (ι := LoopM A.length 7 fun _ => True)
    ⟨fun q => ⟨frL [(1, .fz (.s name.l)), (4, .ptr (3004, 0) 0), (7, .ptr (3007, 2) 0), (11, .fz (.i .i64 (cntM A : Nat))), (12, .ptr (3012, 4) 0), (13, .fz (.b b.1)), (14, .ptr (3014, 5) 0), (16, .fz (.sl (A.map enc))), (17, .fz (.i .i64 (C q.i : Nat))), (80, .fz (.sl (A.map enc))), (81, .fz (.i .i64 A.length)), (82, .fz (.i .i64 q.i))], hpL [((3004, 0), some ⟨[.fz (.i .i64 m.size), .fz (.sl (m.consts.map enc)), .fz (.sl (m.rels.map enc))], true, false⟩), ((3007, 2), some ⟨[.fz (.i .i64 g.kind), .fz (.s g.name.l), .fz (.sl (g.words.map enc)), .fz (.sl (g.subs.map enc))], true, false⟩), ((3012, 4), some ⟨[.fz (.i .i64 0), .fz (.i .i64 0)], true, false⟩), ((3014, 5), some ⟨[.fz (.i .i64 b.2.code), .fz (.i .i64 b.2.index)], true, false⟩)], q.m⟩, fun q => A.length - q.i⟩
    ⟨0, 12, by omega, by omega, trivial⟩ (by kernel_rfl) ?_ ?_
  · refine Weak_to ?_ ?_ ?_ <;> simp only [go_sem, hC0]
    all_goals first | done | rfl | omega | trace_state
  rintro ⟨i, n, hi, hn, _⟩
  try simp only at hi hn
  rcases Nat.lt_or_ge i A.length with h2 | h2
  · have hcs := kCs.out i h2
    have hcl := kCl.out i hi
    have hgd : ((A.map enc).getD i FD.nilf) = FD.b A[i] := by rw [getD_map_lt h2]; rfl
    obtain ⟨v, hv⟩ : ∃ v, A[i] = v := ⟨_, rfl⟩
    rw [hv] at hcs hgd
    obtain ⟨c, hc⟩ : ∃ c, C i = c := ⟨_, rfl⟩
    rw [hc] at hcs hcl
    cases v
    all_goals
      repeat' (first | refine ReqK.i (by rw [hgd]; rfl) fun _ => ?_ | refine rq fun _ => ?_ | simp only [go_sem, dD, dX, dF, hnx, G1, form_eta, str_eta, model_eta, getD_map_lt, h2, hgd, hc, Tryd.f3])
      refine ⟨⟨i + 1, n, by omega, by omega, trivial⟩, by simp only; omega, ?_⟩
      refine Weak_to ?_ ?_ ?_ <;> simp only [go_sem, hcs, hc]
      all_goals first | done | rfl | omega | trace_state
  obtain rfl : i = A.length := by omega
  obtain ⟨c, hc⟩ : ∃ c, cntM A = c := ⟨_, rfl⟩
  rw [hc] at hCe
  obtain ⟨g1, g2, g3, g4⟩ := nfR_ok h1
  have hqf : nfR m name g (-4) = qfM m name g (-4) := by unfold nfR; rw [if_neg (by simp [g1]), if_neg (by simp [g2])]
  have hn2 : (numP m name f).2.code = 0 := by rw [numP_at h1]
  by_cases h3 : (nfR m name g (-4)).code = 0
  rotate_left
  · have e2 : mostP m name f g = (false, nfR m name g (-4)) := by unfold mostP; rw [if_neg (by simp [hn2]), if_pos (by rw [← hqf]; exact h3), hqf]
    rw [hb] at e2
    obtain ⟨d, hd2⟩ : ∃ d, nfR m name g (-4) = d := ⟨_, rfl⟩
    rw [hd2] at e2 h3
    subst e2
    have h3' : (d.code = 0) = False := eq_false h3
    repeat' (first | refine rq fun _ => ?_ | simp only [go_sem, dD, dX, dF, hnx, G1, form_eta, str_eta, model_eta, getD_map_lt, Nat.lt_irrefl, hc, hCe, hd2, h3', Tryd.f3])
    all_goals first | done | rfl | trace_state
  have hpg := dn_tab h3
  have hd2 := (nfR_ok h3).2.2.2
  obtain ⟨B, hB⟩ : ∃ B, valsM m name g = B := ⟨_, rfl⟩
  have hBA : B.length = A.length := by rw [← hA, ← hB, valsM_len, valsM_len]
  have e2 : mostP m name f g = (decide (c < 2 * bothM A B), ⟨0, 0⟩) := by
    unfold mostP
    rw [if_neg (by simp [hn2]), if_neg (by rw [← hqf]; simp [h3]), hA, hB, hc]
  rw [hb] at e2
  subst e2
  obtain ⟨K, hK⟩ : ∃ K : Nat → Nat, K = fun i => bothM (A.take i) B := ⟨_, rfl⟩
  have hK0 : K 0 = 0 := by rw [hK]; rfl
  have hKs : ∀ i (h : i < A.length) (h' : i < B.length), K (i + 1) = K i + if A[i] && B[i] then 1 else 0 := fun i h h' => by
    rw [hK]; simp only
    rw [bothM_take h, List.getD_eq_getElem?_getD, List.getElem?_eq_getElem h']; rfl
  have hKe : K A.length = bothM A B := by rw [hK]; simp only [List.take_length]
  have hKl : ∀ i, i ≤ A.length → K i ≤ i := fun i h => by
    rw [hK]; exact Nat.le_trans (bothM_le _ _) (by rw [List.length_take]; omega)
  have kKs := Kp.mk hKs
  have kKl := Kp.mk hKl
  clear hK hKs hKl
  repeat' (first | refine ReqK.i hpf fun _ => ?_ | refine ReqK.i hpg fun _ => ?_ | refine rq fun _ => ?_ | simp only [go_sem, dD, dX, dF, hnx, G1, form_eta, str_eta, model_eta, getD_map_lt, Nat.lt_irrefl, hc, hCe, hd2, hB, hK0, Tryd.f3])
  refine WK_loop hm hT 3000 (lst []) (ι := LoopM B.length 7 fun _ => True)
    ⟨fun q => ⟨frL [(13, .fz (.b (decide (c < 2 * bothM A B)))), (14, .ptr (3014, 5) 0), (16, .fz (.sl (A.map enc))), (17, .fz (.i .i64 c)), (21, .fz (.i .i64 (K q.i : Nat))), (115, .fz (.sl (B.map enc))), (116, .fz (.i .i64 B.length)), (117, .fz (.i .i64 q.i))], hpL [((3014, 5), some ⟨[.fz (.i .i64 0), .fz (.i .i64 0)], true, false⟩)], q.m⟩, fun q => B.length - q.i⟩
    ⟨0, n + 9, by omega, by omega, trivial⟩ (by kernel_rfl) ?_ ?_
  · refine Weak_to ?_ ?_ ?_ <;> simp only [go_sem, hK0]
    all_goals first | done | rfl | omega | trace_state
  rintro ⟨i, n2, hi, hn3, _⟩
  try simp only at hi hn3
  rcases Nat.lt_or_ge i B.length with h2 | h2
  · have h2a : i < A.length := by omega
    have hks := kKs.out i h2a h2
    have hkl := kKl.out i (by omega)
    have hga : ((A.map enc).getD i FD.nilf) = FD.b A[i] := by rw [getD_map_lt h2a]; rfl
    have hgb : ((B.map enc).getD i FD.nilf) = FD.b B[i] := by rw [getD_map_lt h2]; rfl
    obtain ⟨v, hv⟩ : ∃ v, A[i] = v := ⟨_, rfl⟩
    obtain ⟨w, hw⟩ : ∃ w, B[i] = w := ⟨_, rfl⟩
    rw [hv, hw] at hks
    rw [hv] at hga
    rw [hw] at hgb
    obtain ⟨k, hk⟩ : ∃ k, K i = k := ⟨_, rfl⟩
    rw [hk] at hks hkl
    cases v <;> cases w
    all_goals
      simp only [Bool.and_true, Bool.and_false, Bool.false_eq_true, if_true, if_false, Nat.add_zero] at hks
      repeat' (first | refine ReqK.i (by rw [hga]; rfl) fun _ => ?_ | refine ReqK.i (by rw [hgb]; rfl) fun _ => ?_ | refine rq fun _ => ?_ | simp only [go_sem, dD, dX, dF, hnx, G1, form_eta, str_eta, model_eta, getD_map_lt, h2, h2a, hga, hgb, hk, Tryd.f3])
      refine ⟨⟨i + 1, n2, by omega, by omega, trivial⟩, by simp only; omega, ?_⟩
      refine Weak_to ?_ ?_ ?_ <;> simp only [go_sem, hks, hk]
      all_goals first | done | rfl | omega | trace_state
  obtain rfl : i = B.length := by omega
  rw [← hBA] at hKe
  obtain ⟨k, hk⟩ : ∃ k, bothM A B = k := ⟨_, rfl⟩
  rw [hk] at hKe
  have hkb : k ≤ 6 := by rw [← hk]; have := bothM_le A B; omega
  have hcb : c ≤ 6 := by rw [← hc]; unfold cntM; have := List.length_filter_le id A; omega
  by_cases h5 : c < 2 * k
  · have h5' : ((c : Int) - (k : Int) < (k : Int)) = True := eq_true (by omega)
    have h5d : decide (c < 2 * k) = true := decide_eq_true h5
    repeat' (first | refine rq fun _ => ?_ | simp only [go_sem, dD, dX, dF, hnx, G1, form_eta, str_eta, model_eta, getD_map_lt, Nat.lt_irrefl, hKe, hk, h5', h5d, Tryd.f3])
    all_goals first | done | rfl | trace_state
  · have h5' : ((c : Int) - (k : Int) < (k : Int)) = False := eq_false (by omega)
    have h5d : decide (c < 2 * k) = false := decide_eq_false h5
    repeat' (first | refine rq fun _ => ?_ | simp only [go_sem, dD, dX, dF, hnx, G1, form_eta, str_eta, model_eta, getD_map_lt, Nat.lt_irrefl, hKe, hk, h5', h5d, Tryd.f3])
    all_goals first | done | rfl | trace_state
end Go.Proofs.YtbbjghecpcobjaaDoor
