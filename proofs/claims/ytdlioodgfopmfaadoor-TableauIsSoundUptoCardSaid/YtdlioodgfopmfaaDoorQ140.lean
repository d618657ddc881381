import Derived.Test.YtdlioodgfopmfaaDoorAT
import Derived.Test.YtdlioodgfopmfaaDoorY12
import Derived.Test.YtdlioodgfopmfaaDoorQ139
import Derived.Test.YtdlioodgfopmfaaDoorPY
import Derived.Test.YtdlioodgfopmfaaDoorPZ
set_option linter.unusedSimpArgs false
namespace Go.Proofs.YtdlioodgfopmfaaDoor
open Go Go.Abs Go.Proofs

theorem bf_validY {f : Abs.Form} (h : (checkM false f).code = 0) : BF0 f := ⟨br_valid h, checkM_shp h, checkM_allW h⟩
theorem branch1_bfY {ax : List Abs.Form} {g : Abs.Form} (h1 : ∀ f ∈ ax, (checkM false f).code = 0) (h2 : (checkM false g).code = 0) : ∀ f ∈ branch1 ax g, BF f := fun f hf => by
  unfold branch1 canL at hf
  rcases List.mem_append.1 hf with hf | hf
  · obtain ⟨a, ha, rfl⟩ := List.mem_map.1 hf
    exact (bf_validY (h1 a ha)).cn
  · rw [List.mem_singleton.1 hf]
    exact (bf_validY h2).ng (by have := checkM_size h2; omega)
theorem runOkY {ax : List Abs.Form} {g : Abs.Form} {uses : Int} (h0 : (beginP ax g).2.code = 0) (hu : ¬ (uses < 0 ∨ 5 < uses)) : RunOk uses (addB brnZ (branch1 ax g)) 0 ∧ allBF (addB brnZ (branch1 ax g)).list := by
  obtain ⟨hb, hlen, hva, hvg⟩ := begin_ok h0
  have hbl : (branch1 ax g).length = ax.length + 1 := by unfold branch1 canL; simp
  have hbb := branch1_bfY hva hvg
  obtain ⟨B, hB⟩ : ∃ B, branch1 ax g = B := ⟨_, rfl⟩
  rw [hB] at hbl hbb ⊢
  have hl : (addB brnZ B).list = B := by unfold addB brnZ; simp
  refine ⟨⟨fun f hf => ?_, ?_, ?_, ?_, fun s hs => ?_, ?_, ?_, by omega, by omega, by omega⟩, fun f hf => ?_⟩
  · rw [hl] at hf; exact (hbb f hf).o.b
  · rw [hl]; omega
  · rw [hl]; show (brnZ.used ++ List.replicate B.length false).length = _; unfold brnZ; simp
  · rw [hl]; show (brnZ.seen ++ List.replicate B.length []).length = _; unfold brnZ; simp
  · have h2 : s ∈ brnZ.seen ++ List.replicate B.length [] := hs
    unfold brnZ at h2
    simp only [List.nil_append] at h2
    rw [(List.mem_replicate.1 h2).2]; simp
  · show (0 : Int) ≤ brnZ.rounds; exact Int.le_refl _
  · show brnZ.rounds ≤ uses; unfold brnZ; simp only; omega
  · rw [hl] at hf; exact hbb f hf
theorem prove_sound {ax : List Abs.Form} {g : Abs.Form} {uses : Int} {p : Prf} {e : Fault} (h : proveM ax g uses = (p, true, e)) {m : Model} (hm : (modelM m).code = 0) (hax : ∀ f ∈ ax, valM m f [] = true) : valM m g [] = true := by
  obtain ⟨h0, hu, hk, hl, hp, he⟩ := prove_ok h
  obtain ⟨h1, h2⟩ := runOkY h0 hu
  obtain ⟨_, _, hva, hvg⟩ := begin_ok h0
  have hc := (run_chk (uses := uses) 301 _ 0 h1 h2 hk).1
  have hl2 : (addB brnZ (branch1 ax g)).list = branch1 ax g := by unfold addB brnZ; simp
  rw [hl2] at hc
  cases hg : valM m g [] with
  | true => rfl
  | false =>
    refine (chk_sound _ _ (Nat.le_refl _) (branch1 ax g) [] (evIn_nil hm) (fun f hf => (branch1_bfY hva hvg f hf).o.b) (fun f hf => ?_) hc).elim
    unfold branch1 canL at hf
    rcases List.mem_append.1 hf with hf | hf
    · obtain ⟨a, ha, rfl⟩ := List.mem_map.1 hf
      rw [canon_val (checkM_vok (hva a ha))]
      exact hax a ha
    · rw [List.mem_singleton.1 hf]
      first
        | exact (nggE (checkM_vok hvg)).trans (by rw [hg]; rfl)
        | (show valM m (ngg g) [] = true; rw [nggE (checkM_vok hvg), hg]; rfl)
def Z9 : Tbl := Tbl.or Z7 H1
attribute [go_sem] Z9
theorem hZ9 : TblOk Tryd.prog GA Z9 := TblOk_or hZ7 hH1
def treeL40 : Tv := (.q 0 (.q 1 (.q 2 (.q 3 (.q 4 (.q 5 (.q 6 (.q 7 (.q 8 (.br [(9, (.q 10 (.br [(11, .leaf)])))]))))))))))
set_option maxRecDepth 100000 in
set_option maxHeartbeats 1000000 in
set_option maxHeartbeats 8000000 in
theorem lawSound (hT : TblOk Tryd.prog GA Z9) (ax : List Abs.Form) (g : Abs.Form) (uses : Int) (m : Model) (hwa : (enc ax).Wf) (_ : (enc g).Wf) (_ : (enc uses).Wf) (_ : (enc m).Wf) : Wcall Tryd.prog GA 6 [.fz (enc ax), .fz (enc g), .fz (enc uses), .fz (enc m)] (hpL []) 0 (fun d _ _ => d = .fz (.b true)) := by
  have hsl : ax.length ≤ maxL := by
    have := Wf_sl hwa
    simpa using this
  unfold maxL at hsl
  have dO : Str.mk [109, 111, 114, 116, 97, 108] = morS := rfl
  have dK : Str.mk [107, 105, 109] = kimS := rfl
  have eG : predM morS [kimS] = mortG := rfl
  have p0 := mort_p1
  obtain ⟨P2, hP2⟩ : ∃ P2, (runM 1 301 mortN 0).p = P2 := ⟨_, rfl⟩
  rw [hP2] at p0
  obtain ⟨r, hP⟩ : ∃ r, proveM ax g uses = r := ⟨_, rfl⟩
  obtain ⟨p, ok, e⟩ := r
  cases ok with
  | false =>
    by_cases hc : e.code = 0
    · have hc' : (e.code = 0) = True := eq_true hc
      by_cases hi : e.index = 0
      · have hi' : (e.index = 0) = True := eq_true hi
        refine Wcall_K (N := 84) Go.Proofs.YtdlioodgfopmfaaDoor.hm hT 6000 (lst [1000010]) ok6 Tryd.func6 rfl rfl (by simp) (by kernel_rfl) ?_
        repeat' (first | refine WK_drawV (id := 10) Go.Proofs.YtdlioodgfopmfaaDoor.hm hT 6000 (lst [1000010]) treeL40 (by kernel_rfl) (by kernel_rfl) ?_ | refine And.intro ?_ ?_ | exact True.intro | refine rq fun _ => ?_ | refine rf fun _ => ?_ | simp only [go_sem, hc', hi', Tryd.f6, GA, str_eta, form_eta, prf_eta, model_eta, dO, dK, eG, p0, hP, treeL40])
        all_goals first | done | rfl | omega
      · have hi' : (e.index = 0) = False := eq_false hi
        refine Wcall_K (N := 84) Go.Proofs.YtdlioodgfopmfaaDoor.hm hT 6000 (lst [1000010]) ok6 Tryd.func6 rfl rfl (by simp) (by kernel_rfl) ?_
        repeat' (first | refine WK_drawV (id := 10) Go.Proofs.YtdlioodgfopmfaaDoor.hm hT 6000 (lst [1000010]) treeL40 (by kernel_rfl) (by kernel_rfl) ?_ | refine And.intro ?_ ?_ | exact True.intro | refine rq fun _ => ?_ | refine rf fun _ => ?_ | simp only [go_sem, hc', hi', Tryd.f6, GA, str_eta, form_eta, prf_eta, model_eta, dO, dK, eG, p0, hP, treeL40])
        all_goals first | done | rfl | omega
    · have hc' : (e.code = 0) = False := eq_false hc
      refine Wcall_K (N := 84) Go.Proofs.YtdlioodgfopmfaaDoor.hm hT 6000 (lst [1000010]) ok6 Tryd.func6 rfl rfl (by simp) (by kernel_rfl) ?_
      repeat' (first | refine WK_drawV (id := 10) Go.Proofs.YtdlioodgfopmfaaDoor.hm hT 6000 (lst [1000010]) treeL40 (by kernel_rfl) (by kernel_rfl) ?_ | refine And.intro ?_ ?_ | exact True.intro | refine rq fun _ => ?_ | refine rf fun _ => ?_ | simp only [go_sem, hc', Tryd.f6, GA, str_eta, form_eta, prf_eta, model_eta, dO, dK, eG, p0, hP, treeL40])
      all_goals first | done | rfl | omega
  | true =>
    have hsound := fun (hm : (modelM m).code = 0) hax => prove_sound hP hm (m := m) hax
    obtain ⟨_, _, _, _, _, he⟩ := prove_ok hP
    subst he
    refine Wcall_K (N := 84) Go.Proofs.YtdlioodgfopmfaaDoor.hm hT 6000 (lst [1000010]) ok6 Tryd.func6 rfl rfl (by simp) (by kernel_rfl) ?_
    repeat' (first | refine WK_drawV (id := 10) Go.Proofs.YtdlioodgfopmfaaDoor.hm hT 6000 (lst [1000010]) treeL40 (by kernel_rfl) (by kernel_rfl) ?_ | refine And.intro ?_ ?_ | exact True.intro | refine rq fun _ => ?_ | refine rf fun _ => ?_ | simp only [go_sem, List.length_map, Tryd.f6, GA, str_eta, form_eta, prf_eta, model_eta, dO, dK, eG, p0, hP, treeL40])
    refine WK_loop Go.Proofs.YtdlioodgfopmfaaDoor.hm hT 6000 (lst [1000010]) (ι := LoopM ax.length 2 fun i => ∀ f ∈ ax.take i, holdsP m f = (true, ⟨0, 0⟩))
      ⟨fun q => ⟨frL [(0, .fz (.sl (ax.map enc))), (5, .ptr (6005, 0) 0), (7, .ptr (6007, 1) 0), (51, .fz (.i .i64 ax.length)), (52, .fz (.i .i64 q.i))], hpL [((6005, 0), some ⟨[.fz (.i .i64 g.kind), .fz (.s g.name.l), .fz (.sl (g.words.map enc)), .fz (.sl (g.subs.map enc))], true, false⟩), ((6007, 1), some ⟨[.fz (.i .i64 m.size), .fz (.sl (m.consts.map enc)), .fz (.sl (m.rels.map enc))], true, false⟩)], q.m⟩, fun q => ax.length - q.i⟩
      ⟨0, 20, by omega, by omega, by simp⟩ (by kernel_rfl) ?_ ?_
    · refine Weak_to ?_ ?_ ?_ <;> simp only [go_sem]
      all_goals first | done | rfl | omega
    rintro ⟨i, q, hi, hq, hp⟩
    try simp only at hi hq hp
    rcases Nat.lt_or_ge i ax.length with h1 | h1
    · obtain ⟨x, hx⟩ : ∃ x, ax[i] = x := ⟨_, rfl⟩
      obtain ⟨r, hh⟩ : ∃ r, holdsP m x = r := ⟨_, rfl⟩
      obtain ⟨b, c⟩ := r
      by_cases hc : c.code = 0
      · obtain ⟨_, _, _, _, e0⟩ := holds_inv hh hc
        subst e0
        cases b with
        | false =>
          repeat' (first | refine WK_drawV (id := 10) Go.Proofs.YtdlioodgfopmfaaDoor.hm hT 6000 (lst [1000010]) treeL40 (by kernel_rfl) (by kernel_rfl) ?_ | refine And.intro ?_ ?_ | exact True.intro | refine rq fun _ => ?_ | refine rf fun _ => ?_ | simp only [go_sem, h1, hx, hh, getD_map_lt, Tryd.f6, GA, str_eta, form_eta, prf_eta, model_eta, dO, dK, eG, p0, hP, treeL40])
          all_goals first | done | rfl | omega
        | true =>
          repeat' (first | refine WK_drawV (id := 10) Go.Proofs.YtdlioodgfopmfaaDoor.hm hT 6000 (lst [1000010]) treeL40 (by kernel_rfl) (by kernel_rfl) ?_ | refine And.intro ?_ ?_ | exact True.intro | refine rq fun _ => ?_ | refine rf fun _ => ?_ | simp only [go_sem, h1, hx, hh, getD_map_lt, Tryd.f6, GA, str_eta, form_eta, prf_eta, model_eta, dO, dK, eG, p0, hP, treeL40])
          refine ⟨⟨i + 1, q + 9, by omega, by omega, ?_⟩, by simp only; omega, ?_⟩
          · rw [List.take_succ_eq_append_getElem h1, hx]
            intro f hf
            rcases List.mem_append.1 hf with hf | hf
            · exact hp f hf
            · rw [List.mem_singleton.1 hf]; exact hh
          refine Weak_to ?_ ?_ ?_ <;> simp only [go_sem]
          all_goals first | done | rfl | omega
      · have hc' : (c.code = 0) = False := eq_false hc
        cases b with
        | false =>
          repeat' (first | refine WK_drawV (id := 10) Go.Proofs.YtdlioodgfopmfaaDoor.hm hT 6000 (lst [1000010]) treeL40 (by kernel_rfl) (by kernel_rfl) ?_ | refine And.intro ?_ ?_ | exact True.intro | refine rq fun _ => ?_ | refine rf fun _ => ?_ | simp only [go_sem, h1, hx, hh, hc', getD_map_lt, Tryd.f6, GA, str_eta, form_eta, prf_eta, model_eta, dO, dK, eG, p0, hP, treeL40])
          all_goals first | done | rfl | omega
        | true =>
          repeat' (first | refine WK_drawV (id := 10) Go.Proofs.YtdlioodgfopmfaaDoor.hm hT 6000 (lst [1000010]) treeL40 (by kernel_rfl) (by kernel_rfl) ?_ | refine And.intro ?_ ?_ | exact True.intro | refine rq fun _ => ?_ | refine rf fun _ => ?_ | simp only [go_sem, h1, hx, hh, hc', getD_map_lt, Tryd.f6, GA, str_eta, form_eta, prf_eta, model_eta, dO, dK, eG, p0, hP, treeL40])
          all_goals first | done | rfl | omega
    · obtain rfl : i = ax.length := by omega
      rw [List.take_length] at hp
      obtain ⟨r, hh⟩ : ∃ r, holdsP m g = r := ⟨_, rfl⟩
      obtain ⟨b, c⟩ := r
      by_cases hc : c.code = 0
      · obtain ⟨hm1, _, _, hb, e0⟩ := holds_inv hh hc
        have hv : b = true := hb.trans (hsound hm1 fun f hf => by
          obtain ⟨_, _, _, h2, _⟩ := holds_inv (hp f hf) rfl
          exact h2.symm)
        clear hb
        subst e0 hv
        repeat' (first | refine WK_drawV (id := 10) Go.Proofs.YtdlioodgfopmfaaDoor.hm hT 6000 (lst [1000010]) treeL40 (by kernel_rfl) (by kernel_rfl) ?_ | refine And.intro ?_ ?_ | exact True.intro | refine rq fun _ => ?_ | refine rf fun _ => ?_ | simp only [go_sem, Nat.lt_irrefl, hh, Tryd.f6, GA, str_eta, form_eta, prf_eta, model_eta, dO, dK, eG, p0, hP, treeL40])
        all_goals first | done | rfl | omega
      · have hc' : (c.code = 0) = False := eq_false hc
        cases b with
        | false =>
          repeat' (first | refine WK_drawV (id := 10) Go.Proofs.YtdlioodgfopmfaaDoor.hm hT 6000 (lst [1000010]) treeL40 (by kernel_rfl) (by kernel_rfl) ?_ | refine And.intro ?_ ?_ | exact True.intro | refine rq fun _ => ?_ | refine rf fun _ => ?_ | simp only [go_sem, Nat.lt_irrefl, hh, hc', Tryd.f6, GA, str_eta, form_eta, prf_eta, model_eta, dO, dK, eG, p0, hP, treeL40])
          all_goals first | done | rfl | omega
        | true =>
          repeat' (first | refine WK_drawV (id := 10) Go.Proofs.YtdlioodgfopmfaaDoor.hm hT 6000 (lst [1000010]) treeL40 (by kernel_rfl) (by kernel_rfl) ?_ | refine And.intro ?_ ?_ | exact True.intro | refine rq fun _ => ?_ | refine rf fun _ => ?_ | simp only [go_sem, Nat.lt_irrefl, hh, hc', Tryd.f6, GA, str_eta, form_eta, prf_eta, model_eta, dO, dK, eG, p0, hP, treeL40])
          all_goals first | done | rfl | omega
end Go.Proofs.YtdlioodgfopmfaaDoor
