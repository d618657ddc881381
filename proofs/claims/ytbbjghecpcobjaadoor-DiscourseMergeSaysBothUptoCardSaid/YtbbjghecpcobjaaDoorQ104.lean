import Derived.Test.YtbbjghecpcobjaaDoorAT
import Derived.Test.YtbbjghecpcobjaaDoorZQ91Q2111
import Derived.Test.YtbbjghecpcobjaaDoorZQ89QC1
import Derived.Test.YtbbjghecpcobjaaDoorDM
set_option linter.unusedSimpArgs false
namespace Go.Proofs.YtbbjghecpcobjaaDoor
open Go Go.Abs Go.Proofs

/-! ## in a model in which what a merged box says is true, what each of two boxes says is true -/
noncomputable def K0 : Tbl := Tbl.or J8 (Tbl.or C2 Q32)
attribute [go_sem] K0
theorem hK0 : TblOk Tryd.prog GA K0 := TblOk_or hJ8 (TblOk_or hC2 (TblOk_glob hQ32))
def freeP (f : Abs.Form) : List Str × Fault := if (checkM false f).code ≠ 0 then ([], checkM false f) else (usedM f, ⟨0, 0⟩)
def tree33 : Tv := (.q 0 (.q 1 (.br [(2, .leaf)])))
noncomputable def K1 : Tbl := K0.add 33 (sp1p freeP fun _ => True)
attribute [go_sem] K1
set_option maxRecDepth 100000 in
set_option maxHeartbeats 1000000 in
set_option maxHeartbeats 4000000 in
theorem hK1 : TblOk Tryd.prog GA K1 := by
  refine sp1p_ok ok33 hK0 fun f _ _ => ?_
  by_cases h : (checkM false f).code = 0
  rotate_left
  · have e : freeP f = ([], checkM false f) := by unfold freeP; rw [if_pos h]
    obtain ⟨X, hX⟩ : ∃ X, checkM false f = X := ⟨_, rfl⟩
    rw [hX] at e h
    rw [e]
    refine Wcall_K (N := 14) hm hK0 33000 (lst [1000003]) ok33 Tryd.func33 rfl rfl (by simp) (by kernel_rfl) ?_
    repeat' (first | refine WK_drawV hm hK0 33000 (lst [1000003]) tree33 (by kernel_rfl) (by kernel_rfl) ?_ | refine And.intro ?_ ?_ | exact True.intro | refine rq fun _ => ?_ | simp only [go_sem, h, hX, form_eta, tree33, Tryd.f33])
  have e : freeP f = (usedM f, ⟨0, 0⟩) := by unfold freeP; rw [if_neg (by simp [h])]
  rw [e]
  have hck := checkM_code h
  have hp : (cst f []).length ≤ 1000000 ∧ f.size ≤ 1000000 := by
    have := cst_len (checkM_fit h) []
    have := checkM_size h
    omega
  refine Wcall_K (N := 14) hm hK0 33000 (lst [1000003]) ok33 Tryd.func33 rfl rfl (by simp) (by kernel_rfl) ?_
  repeat' (first | refine ReqK.i hp fun _ => ?_ | refine And.intro ?_ ?_ | exact True.intro | refine rq fun _ => ?_ | simp only [go_sem, h, hck, form_eta, Tryd.f33])
theorem form_inv {x : Abs.Box} {f : Abs.Form} {e : Fault} (h : formP x = (f, e)) (he : e.code = 0) : f = canonM (sayM x) [] ∧ e = ⟨0, 0⟩ ∧ (boxM x).code = 0 ∧ fitsM (sayM x) = true := by
  unfold formP at h
  split at h
  · rename_i h1; obtain ⟨rfl, rfl⟩ := Prod.mk.inj h; exact absurd he h1
  rename_i h1
  split at h
  · obtain ⟨rfl, rfl⟩ := Prod.mk.inj h; exact absurd he (by decide)
  obtain ⟨rfl, rfl⟩ := Prod.mk.inj h
  unfold doneE at he
  split at he
  · rename_i h4
    exact ⟨by unfold doneF; rw [if_pos h4], by unfold doneE; rw [if_pos h4], Decidable.not_not.1 h1, h4⟩
  · exact absurd he (by decide)
def sDM : Str := ⟨[100, 111, 103]⟩
def sKM : Str := ⟨[107, 105, 109]⟩
def fDM : Abs.Form := predM sDM [sKM]
theorem formM_x : formP (.mk [] [.mk 1 ⟨[]⟩ fDM []]) = (fDM, ⟨0, 0⟩) := by
  have h1 : (boxM (.mk [] [.mk 1 ⟨[]⟩ fDM []])).code = 0 := by kernel_rfl
  have h2 : unsB (.mk [] [.mk 1 ⟨[]⟩ fDM []]) = false := by kernel_rfl
  have h3 : sayM (.mk [] [.mk 1 ⟨[]⟩ fDM []]) = fDM := by kernel_rfl
  have h4 : fitsM fDM = true := by kernel_rfl
  have h5 : canonM fDM [] = fDM := by
    unfold canonM fDM predM
    rw [ren, if_neg (by decide), rens]
    rfl
  unfold formP
  rw [if_neg (by simp [h1]), if_neg (by simp [h2]), h3]
  unfold doneF doneE
  rw [h4, if_pos rfl, if_pos rfl, h5]
theorem merge_inv {a b c : Abs.Box} {e : Fault} (h : mergeM a b = (c, e)) (he : e.code = 0) : c = withM a b ∧ e = ⟨0, 0⟩ ∧ (boxM a).code = 0 ∧ (boxM b).code = 0 ∧ (boxM c).code = 0 := by
  unfold mergeM at h
  split at h
  · rename_i h1; obtain ⟨rfl, rfl⟩ := Prod.mk.inj h; exact absurd he h1
  rename_i h1
  split at h
  · rename_i h2; obtain ⟨rfl, rfl⟩ := Prod.mk.inj h; exact absurd he h2
  rename_i h2
  split at h
  · rename_i h3; obtain ⟨rfl, rfl⟩ := Prod.mk.inj h; exact absurd he h3
  rename_i h3
  obtain ⟨rfl, rfl⟩ := Prod.mk.inj h
  exact ⟨rfl, rfl, Decidable.not_not.1 h1, Decidable.not_not.1 h2, Decidable.not_not.1 h3⟩
def tree10 : Tv := (.q 0 (.r 1 (.br [(2, (.br [(3, (.br [(4, (.br [(5, .leaf)]))]))])), (3, (.br [(2, (.br [(4, (.br [(5, .leaf)]))]))]))])))
def tree12 : Tv := (.q 0 (.r 1 (.br [(2, (.br [(3, .leaf)]))])))
/-! ## the law DiscourseMergeSaysBoth -/
set_option maxRecDepth 100000 in
set_option maxHeartbeats 1000000 in
set_option maxHeartbeats 8000000 in
theorem lawBoth (hT : TblOk Tryd.prog GA K1) (m : Model) (a b : Abs.Box) (_ : (enc m).Wf) (_ : (enc a).Wf) (_ : (enc b).Wf) : Wcall Tryd.prog GA 8 [.fz (enc m), .fz (enc a), .fz (enc b)] (hpL []) 0 (fun d _ _ => d = .fz (.b true)) := by
  have dD : Str.mk [100, 111, 103] = sDM := rfl
  have dK : Str.mk [107, 105, 109] = sKM := rfl
  have dP : predM sDM [sKM] = fDM := rfl
  have kP : fDM.kind = 2 := rfl
  have eP : Abs.Form.mk 2 fDM.name fDM.words fDM.subs = fDM := rfl
  obtain ⟨c, e, hce⟩ : ∃ c e, mergeM a b = (c, e) := ⟨_, _, rfl⟩
  refine Wcall_K (N := 146) hm hT 8000 (lst [1000010, 1000012]) ok8 Tryd.func8 rfl rfl (by simp) (by kernel_rfl) ?_
  by_cases he : e.code = 0
  rotate_left
  · have he' : (e.code = 0) = False := eq_false he
    repeat' (first | refine And.intro ?_ ?_ | exact True.intro | refine rq fun _ => ?_ | simp only [go_sem, dD, dK, dP, eP, GA, str_eta, form_eta, model_eta, box_eta, cond_eta, formM_x, kP, hce, he', Tryd.f8])
  obtain ⟨hc, rfl, ha, hb, hcv⟩ := merge_inv hce he
  clear he
  have la := (okT_len (boxM_okT ha)).2
  have lb := (okT_len (boxM_okT hb)).2
  repeat' (first | refine And.intro ?_ ?_ | exact True.intro | refine rq fun _ => ?_ | simp only [go_sem, dD, dK, dP, eP, GA, str_eta, form_eta, model_eta, box_eta, cond_eta, formM_x, kP, hce, Tryd.f8])
  refine WK_weak2 (Weak_rpL (id := (8003, 0)) (t := 3) (b := true) (ys := [.i .i64 m.size, .sl (m.consts.map enc), .sl (m.rels.map enc)]) (by simp only [go_sem]) (by simp only [go_sem])) ?_
  refine WK_weak2 (Weak_rpL (id := (8004, 1)) (t := 4) (b := true) (ys := [.sl (a.refs.map enc), .sl (a.conds.map enc)]) (by simp only [go_sem]) (by simp only [go_sem])) ?_
  refine WK_weak2 (Weak_rpL (id := (8005, 2)) (t := 5) (b := true) (ys := [.sl (b.refs.map enc), .sl (b.conds.map enc)]) (by simp only [go_sem]) (by simp only [go_sem])) ?_
  refine WK_weak2 (Weak_rpL (id := (8009, 5)) (t := 9) (b := true) (ys := [.sl (c.refs.map enc), .sl (c.conds.map enc)]) (by simp only [go_sem]) (by simp only [go_sem])) ?_
  obtain ⟨fa, ea, hfa⟩ : ∃ f e, formP a = (f, e) := ⟨_, _, rfl⟩
  obtain ⟨fb, eb, hfb⟩ : ∃ f e, formP b = (f, e) := ⟨_, _, rfl⟩
  refine WK_loop hm hT 8000 (lst [1000010, 1000012]) (ι := LoopM 2 7 fun k => (0 < k → ea.code = 0 ∧ ∀ r ∈ b.refs, r ∉ usedM fa) ∧ (1 < k → eb.code = 0 ∧ ∀ r ∈ a.refs, r ∉ usedM fb))
    ⟨fun q => ⟨frL [(3, .rp [.i .i64 m.size, .sl (m.consts.map enc), .sl (m.rels.map enc)]), (4, .rp [.sl (a.refs.map enc), .sl (a.conds.map enc)]), (5, .rp [.sl (b.refs.map enc), .sl (b.conds.map enc)]), (9, .rp [.sl (c.refs.map enc), .sl (c.conds.map enc)]), (10, .ptr (8010, 6) 0), (11, .fz (.i .i64 q.i))],
      hpL [((8010, 6), some ⟨[.fz (.i .i64 0), .fz (.i .i64 0)], true, false⟩)], q.m⟩, fun q => 2 - q.i⟩
    ⟨0, 7, by omega, by omega, fun h => absurd h (by omega), fun h => absurd h (by omega)⟩ (by kernel_rfl) ?_ ?_
  · refine Weak_to ?_ ?_ ?_ <;> simp only [go_sem]
    all_goals first | done | rfl | omega | trace_state
  rintro ⟨i, q, hi, hq, hq1, hq2⟩
  try simp only at hi hq hq1 hq2
  have hcase : i = 0 ∨ i = 1 ∨ i = 2 := by omega
  rcases hcase with rfl | rfl | rfl
  -- round 0
  · by_cases hea : ea.code = 0
    rotate_left
    · have he' : (ea.code = 0) = False := eq_false hea
      repeat' (first | refine WK_drawV (id := 10) hm hT 8000 (lst [1000010, 1000012]) tree10 (by kernel_rfl) (by kernel_rfl) ?_ | refine WK_drawV (id := 12) hm hT 8000 (lst [1000010, 1000012]) tree12 (by kernel_rfl) (by kernel_rfl) ?_ | refine And.intro ?_ ?_ | exact True.intro | refine rq fun _ => ?_ | simp only [go_sem, dD, dK, dP, eP, GA, str_eta, form_eta, model_eta, box_eta, cond_eta, hfa, he', tree10, tree12, Tryd.f8])
    obtain ⟨va, hza, hma, hta⟩ := form_inv hfa hea
    have hfr : freeP fa = (usedM fa, ⟨0, 0⟩) := by unfold freeP; rw [if_neg (by rw [va, say_valid hma hta]; simp)]
    subst hza
    obtain ⟨L, hL⟩ : ∃ L, usedM fa = L := ⟨_, rfl⟩
    rw [hL] at hfr
    repeat' (first | refine WK_drawV (id := 10) hm hT 8000 (lst [1000010, 1000012]) tree10 (by kernel_rfl) (by kernel_rfl) ?_ | refine WK_drawV (id := 12) hm hT 8000 (lst [1000010, 1000012]) tree12 (by kernel_rfl) (by kernel_rfl) ?_ | refine And.intro ?_ ?_ | exact True.intro | refine rq fun _ => ?_ | simp only [go_sem, dD, dK, dP, eP, GA, str_eta, form_eta, model_eta, box_eta, cond_eta, hfa, hfr, tree10, tree12, Tryd.f8])
    all_goals
      refine WK_loop hm hT 8000 (lst [1000010, 1000012]) (ι := LoopM b.refs.length 7 fun j => ∀ r ∈ b.refs.take j, r ∉ L)
        ⟨fun p => ⟨frL [(3, .rp [.i .i64 m.size, .sl (m.consts.map enc), .sl (m.rels.map enc)]), (4, .rp [.sl (a.refs.map enc), .sl (a.conds.map enc)]), (5, .rp [.sl (b.refs.map enc), .sl (b.conds.map enc)]), (9, .rp [.sl (c.refs.map enc), .sl (c.conds.map enc)]), (10, .ptr (8010, 6) 0), (11, .fz (.i .i64 0)), (16, .fz (.sl (L.map enc))), (82, .fz (.sl (b.refs.map enc))), (83, .fz (.i .i64 b.refs.length)), (84, .fz (.i .i64 p.i))],
          hpL [((8010, 6), some ⟨[.fz (.i .i64 0), .fz (.i .i64 0)], true, false⟩)], p.m⟩, fun p => b.refs.length - p.i⟩
        ⟨0, q + 20, by omega, by omega, by simp⟩ (by kernel_rfl) ?_ ?_
      · refine Weak_to ?_ ?_ ?_ <;> simp only [go_sem]
        all_goals first | done | rfl | omega | trace_state
      rintro ⟨j, s, hj, hs, hpj⟩
      try simp only at hj hs hpj
      rcases Nat.lt_or_ge j b.refs.length with h6 | h6
      · obtain ⟨r, hr⟩ : ∃ r, b.refs[j] = r := ⟨_, rfl⟩
        by_cases hin : r ∈ L
        · repeat' (first | refine And.intro ?_ ?_ | exact True.intro | refine rq fun _ => ?_ | simp only [go_sem, dD, dK, dP, eP, GA, str_eta, form_eta, model_eta, box_eta, cond_eta, h6, hr, hin, getD_map_lt, Tryd.f8])
        · have hin' : (r ∈ L) = False := eq_false hin
          repeat' (first | refine And.intro ?_ ?_ | exact True.intro | refine rq fun _ => ?_ | simp only [go_sem, dD, dK, dP, eP, GA, str_eta, form_eta, model_eta, box_eta, cond_eta, h6, hr, hin', getD_map_lt, Tryd.f8])
          refine ⟨⟨j + 1, s + 1, by omega, by omega, ?_⟩, by simp only; omega, ?_⟩
          · rw [List.take_succ_eq_append_getElem h6, hr]
            intro z hz
            rcases List.mem_append.1 hz with hz | hz
            · exact hpj z hz
            · rw [List.mem_singleton.1 hz]; exact hin
          refine Weak_to ?_ ?_ ?_ <;> simp only [go_sem]
          all_goals first | done | rfl | omega | trace_state
      obtain rfl : j = b.refs.length := by omega
      rw [List.take_length] at hpj
      repeat' (first | refine And.intro ?_ ?_ | exact True.intro | refine rq fun _ => ?_ | simp only [go_sem, dD, dK, dP, eP, GA, str_eta, form_eta, model_eta, box_eta, cond_eta, Nat.lt_irrefl, Tryd.f8])
      refine ⟨⟨0 + 1, s, by omega, by omega, fun _ => ⟨rfl, hL ▸ hpj⟩, fun h => absurd h (by omega)⟩, by simp only; omega, ?_⟩
      refine Weak_to ?_ ?_ ?_ <;> simp only [go_sem]
      all_goals first | done | rfl | omega | trace_state
  -- round 1
  · by_cases heb : eb.code = 0
    rotate_left
    · have he' : (eb.code = 0) = False := eq_false heb
      repeat' (first | refine WK_drawV (id := 10) hm hT 8000 (lst [1000010, 1000012]) tree10 (by kernel_rfl) (by kernel_rfl) ?_ | refine WK_drawV (id := 12) hm hT 8000 (lst [1000010, 1000012]) tree12 (by kernel_rfl) (by kernel_rfl) ?_ | refine And.intro ?_ ?_ | exact True.intro | refine rq fun _ => ?_ | simp only [go_sem, dD, dK, dP, eP, GA, str_eta, form_eta, model_eta, box_eta, cond_eta, hfb, he', tree10, tree12, Tryd.f8])
    obtain ⟨vb, hzb, hmb, htb⟩ := form_inv hfb heb
    have hfr : freeP fb = (usedM fb, ⟨0, 0⟩) := by unfold freeP; rw [if_neg (by rw [vb, say_valid hmb htb]; simp)]
    subst hzb
    obtain ⟨L, hL⟩ : ∃ L, usedM fb = L := ⟨_, rfl⟩
    rw [hL] at hfr
    repeat' (first | refine WK_drawV (id := 10) hm hT 8000 (lst [1000010, 1000012]) tree10 (by kernel_rfl) (by kernel_rfl) ?_ | refine WK_drawV (id := 12) hm hT 8000 (lst [1000010, 1000012]) tree12 (by kernel_rfl) (by kernel_rfl) ?_ | refine And.intro ?_ ?_ | exact True.intro | refine rq fun _ => ?_ | simp only [go_sem, dD, dK, dP, eP, GA, str_eta, form_eta, model_eta, box_eta, cond_eta, hfb, hfr, tree10, tree12, Tryd.f8])
    all_goals
      refine WK_loop hm hT 8000 (lst [1000010, 1000012]) (ι := LoopM a.refs.length 7 fun j => ∀ r ∈ a.refs.take j, r ∉ L)
        ⟨fun p => ⟨frL [(3, .rp [.i .i64 m.size, .sl (m.consts.map enc), .sl (m.rels.map enc)]), (4, .rp [.sl (a.refs.map enc), .sl (a.conds.map enc)]), (5, .rp [.sl (b.refs.map enc), .sl (b.conds.map enc)]), (9, .rp [.sl (c.refs.map enc), .sl (c.conds.map enc)]), (10, .ptr (8010, 6) 0), (11, .fz (.i .i64 1)), (16, .fz (.sl (L.map enc))), (82, .fz (.sl (a.refs.map enc))), (83, .fz (.i .i64 a.refs.length)), (84, .fz (.i .i64 p.i))],
          hpL [((8010, 6), some ⟨[.fz (.i .i64 0), .fz (.i .i64 0)], true, false⟩)], p.m⟩, fun p => a.refs.length - p.i⟩
        ⟨0, q + 20, by omega, by omega, by simp⟩ (by kernel_rfl) ?_ ?_
      · refine Weak_to ?_ ?_ ?_ <;> simp only [go_sem]
        all_goals first | done | rfl | omega | trace_state
      rintro ⟨j, s, hj, hs, hpj⟩
      try simp only at hj hs hpj
      rcases Nat.lt_or_ge j a.refs.length with h6 | h6
      · obtain ⟨r, hr⟩ : ∃ r, a.refs[j] = r := ⟨_, rfl⟩
        by_cases hin : r ∈ L
        · repeat' (first | refine And.intro ?_ ?_ | exact True.intro | refine rq fun _ => ?_ | simp only [go_sem, dD, dK, dP, eP, GA, str_eta, form_eta, model_eta, box_eta, cond_eta, h6, hr, hin, getD_map_lt, Tryd.f8])
        · have hin' : (r ∈ L) = False := eq_false hin
          repeat' (first | refine And.intro ?_ ?_ | exact True.intro | refine rq fun _ => ?_ | simp only [go_sem, dD, dK, dP, eP, GA, str_eta, form_eta, model_eta, box_eta, cond_eta, h6, hr, hin', getD_map_lt, Tryd.f8])
          refine ⟨⟨j + 1, s + 1, by omega, by omega, ?_⟩, by simp only; omega, ?_⟩
          · rw [List.take_succ_eq_append_getElem h6, hr]
            intro z hz
            rcases List.mem_append.1 hz with hz | hz
            · exact hpj z hz
            · rw [List.mem_singleton.1 hz]; exact hin
          refine Weak_to ?_ ?_ ?_ <;> simp only [go_sem]
          all_goals first | done | rfl | omega | trace_state
      obtain rfl : j = a.refs.length := by omega
      rw [List.take_length] at hpj
      repeat' (first | refine And.intro ?_ ?_ | exact True.intro | refine rq fun _ => ?_ | simp only [go_sem, dD, dK, dP, eP, GA, str_eta, form_eta, model_eta, box_eta, cond_eta, Nat.lt_irrefl, Tryd.f8])
      refine ⟨⟨1 + 1, s, by omega, by omega, fun _ => hq1 (by omega), fun _ => ⟨rfl, hL ▸ hpj⟩⟩, by simp only; omega, ?_⟩
      refine Weak_to ?_ ?_ ?_ <;> simp only [go_sem]
      all_goals first | done | rfl | omega | trace_state
  -- both rounds are over
  obtain ⟨hea, hra⟩ := hq1 (by omega)
  obtain ⟨heb, hrb⟩ := hq2 (by omega)
  obtain ⟨va, hza, hma, hta⟩ := form_inv hfa hea
  obtain ⟨vb, hzb, hmb, htb⟩ := form_inv hfb heb
  subst hza hzb
  try clear hea heb
  obtain ⟨fc, ec, hfc⟩ : ∃ f e, formP c = (f, e) := ⟨_, _, rfl⟩
  by_cases hec : ec.code = 0
  rotate_left
  · obtain ⟨y0, d0, hy0⟩ : ∃ y d, holdsP m fc = (y, d) := ⟨_, _, rfl⟩
    have he' : (ec.code = 0) = False := eq_false hec
    repeat' (first | refine And.intro ?_ ?_ | exact True.intro | refine rq fun _ => ?_ | simp only [go_sem, dD, dK, dP, eP, GA, str_eta, form_eta, model_eta, box_eta, cond_eta, hfc, hy0, he', Tryd.f8])
  obtain ⟨vc, hzc, hmc, htc⟩ := form_inv hfc hec
  subst hzc
  clear hec
  obtain ⟨yc, dc, hyc⟩ : ∃ y d, holdsP m fc = (y, d) := ⟨_, _, rfl⟩
  by_cases hdc : dc.code = 0
  rotate_left
  · have he' : (dc.code = 0) = False := eq_false hdc
    repeat' (first | refine And.intro ?_ ?_ | exact True.intro | refine rq fun _ => ?_ | simp only [go_sem, dD, dK, dP, eP, GA, str_eta, form_eta, model_eta, box_eta, cond_eta, hfc, hyc, he', Tryd.f8])
  obtain ⟨_, _, _, hbc, hdz⟩ := holds_inv hyc hdc
  subst hdz
  clear hdc
  cases yc with
  | false =>
    repeat' (first | refine And.intro ?_ ?_ | exact True.intro | refine rq fun _ => ?_ | simp only [go_sem, dD, dK, dP, eP, GA, str_eta, form_eta, model_eta, box_eta, cond_eta, hfc, hyc, Tryd.f8])
  | true =>
    have hsays := merge_says (m := m) (by rw [hc]; rfl) (by rw [hc]; rfl) hma hmb hmc (fun x hx h => hra x hx (by rw [va]; exact (mem_usedM _ x).2 h)) (fun x hx h => hrb x hx (by rw [vb]; exact (mem_usedM _ x).2 h)) (by rw [← vc, ← hbc])
    rw [← va, ← vb] at hsays
    obtain ⟨sa, sb⟩ := hsays
    obtain ⟨ya, da, hya⟩ : ∃ y d, holdsP m fa = (y, d) := ⟨_, _, rfl⟩
    obtain ⟨yb, db, hyb⟩ : ∃ y d, holdsP m fb = (y, d) := ⟨_, _, rfl⟩
    have ka : da.code = 0 → ya = true ∧ da = ⟨0, 0⟩ := fun h => by obtain ⟨_, _, _, h1, h2⟩ := holds_inv hya h; exact ⟨by rw [h1, sa], h2⟩
    have kb : db.code = 0 → yb = true ∧ db = ⟨0, 0⟩ := fun h => by obtain ⟨_, _, _, h1, h2⟩ := holds_inv hyb h; exact ⟨by rw [h1, sb], h2⟩
    try clear sa
    try clear sb
    try clear hra
    try clear hrb
    try clear hbc
    try clear va
    try clear vb
    try clear vc
    try clear hta
    try clear htb
    try clear htc
    repeat' (first | refine And.intro ?_ ?_ | exact True.intro | refine rq fun _ => ?_ | simp only [go_sem, dD, dK, dP, eP, GA, str_eta, form_eta, model_eta, box_eta, cond_eta, hfc, hyc, Tryd.f8])
    refine WK_loop hm hT 8000 (lst [1000010, 1000012]) (ι := LoopM 2 7 fun _ => True)
      ⟨fun p => ⟨frL [(3, .rp [.i .i64 m.size, .sl (m.consts.map enc), .sl (m.rels.map enc)]), (4, .rp [.sl (a.refs.map enc), .sl (a.conds.map enc)]), (5, .rp [.sl (b.refs.map enc), .sl (b.conds.map enc)]), (23, .fz (.i .i64 p.i))],
        hpL [], p.m⟩, fun p => 2 - p.i⟩
      ⟨0, q + 20, by omega, by omega, trivial⟩ (by kernel_rfl) ?_ ?_
    · refine Weak_to ?_ ?_ ?_ <;> simp only [go_sem]
      all_goals first | done | rfl | omega | trace_state
    rintro ⟨j, s, hj, hs, _⟩
    try simp only at hj hs
    have hcase : j = 0 ∨ j = 1 ∨ j = 2 := by omega
    rcases hcase with rfl | rfl | rfl
    · by_cases hda : da.code = 0
      · obtain ⟨rfl, rfl⟩ := ka hda
        clear hda
        repeat' (first | refine And.intro ?_ ?_ | exact True.intro | refine rq fun _ => ?_ | simp only [go_sem, dD, dK, dP, eP, GA, str_eta, form_eta, model_eta, box_eta, cond_eta, hfa, hya, Tryd.f8])
        refine ⟨⟨0 + 1, s + 20, by omega, by omega, trivial⟩, by simp only; omega, ?_⟩
        refine Weak_to ?_ ?_ ?_ <;> simp only [go_sem]
        all_goals first | done | rfl | omega | trace_state
      · have he' : (da.code = 0) = False := eq_false hda
        repeat' (first | refine And.intro ?_ ?_ | exact True.intro | refine rq fun _ => ?_ | simp only [go_sem, dD, dK, dP, eP, GA, str_eta, form_eta, model_eta, box_eta, cond_eta, hfa, hya, he', Tryd.f8])
        refine ⟨⟨0 + 1, s + 20, by omega, by omega, trivial⟩, by simp only; omega, ?_⟩
        refine Weak_to ?_ ?_ ?_ <;> simp only [go_sem]
        all_goals first | done | rfl | omega | trace_state
    · by_cases hdb : db.code = 0
      · obtain ⟨rfl, rfl⟩ := kb hdb
        clear hdb
        repeat' (first | refine And.intro ?_ ?_ | exact True.intro | refine rq fun _ => ?_ | simp only [go_sem, dD, dK, dP, eP, GA, str_eta, form_eta, model_eta, box_eta, cond_eta, hfb, hyb, Tryd.f8])
        refine ⟨⟨1 + 1, s + 20, by omega, by omega, trivial⟩, by simp only; omega, ?_⟩
        refine Weak_to ?_ ?_ ?_ <;> simp only [go_sem]
        all_goals first | done | rfl | omega | trace_state
      · have he' : (db.code = 0) = False := eq_false hdb
        repeat' (first | refine And.intro ?_ ?_ | exact True.intro | refine rq fun _ => ?_ | simp only [go_sem, dD, dK, dP, eP, GA, str_eta, form_eta, model_eta, box_eta, cond_eta, hfb, hyb, he', Tryd.f8])
        refine ⟨⟨1 + 1, s + 20, by omega, by omega, trivial⟩, by simp only; omega, ?_⟩
        refine Weak_to ?_ ?_ ?_ <;> simp only [go_sem]
        all_goals first | done | rfl | omega | trace_state
    repeat' (first | refine And.intro ?_ ?_ | exact True.intro | refine rq fun _ => ?_ | simp only [go_sem, dD, dK, dP, eP, GA, str_eta, form_eta, model_eta, box_eta, cond_eta, Tryd.f8])
end Go.Proofs.YtbbjghecpcobjaaDoor
