import Derived.Test.YtdlioodgfopmfaaDoorAT
import Derived.Test.YtdlioodgfopmfaaDoorY12
import Derived.Test.YtdlioodgfopmfaaDoorQ115
import Derived.Test.YtdlioodgfopmfaaDoorPY
set_option linter.unusedSimpArgs false
namespace Go.Proofs.YtdlioodgfopmfaaDoor
open Go Go.Abs Go.Proofs

/-! ## the law TableauProofsAreChecked -/
mutual
theorem cntK_ofZ : ∀ (p : Prf) (n : Int), n + p.size ≤ 2000 → cntK p n = n + p.size
  | .mk k f o nm s, n, h => by
    rw [Prf.size] at h ⊢
    rw [cntK, cntKs_ofZ s (n + 1) (by omega)]
    omega
theorem cntKs_ofZ : ∀ (s : List Prf) (n : Int), n + Prf.sizes s ≤ 2000 → cntKs s n = n + Prf.sizes s
  | [], n, h => by rw [cntKs, Prf.sizes]; simp
  | x :: xs, n, h => by
    rw [Prf.sizes] at h ⊢
    rw [cntKs, if_neg (by omega), cntK_ofZ x n (by omega), cntKs_ofZ xs _ (by omega)]
    omega
end
theorem bf_validZ {f : Abs.Form} (h : (checkM false f).code = 0) : BF0 f := ⟨br_valid h, checkM_shp h, checkM_allW h⟩
theorem branch1_bfZ {ax : List Abs.Form} {g : Abs.Form} (h1 : ∀ f ∈ ax, (checkM false f).code = 0) (h2 : (checkM false g).code = 0) : ∀ f ∈ branch1 ax g, BF f := fun f hf => by
  unfold branch1 canL at hf
  rcases List.mem_append.1 hf with hf | hf
  · obtain ⟨a, ha, rfl⟩ := List.mem_map.1 hf
    exact (bf_validZ (h1 a ha)).cn
  · rw [List.mem_singleton.1 hf]
    exact (bf_validZ h2).ng (by have := checkM_size h2; omega)
theorem runOk0 {ax : List Abs.Form} {g : Abs.Form} {uses : Int} (h0 : (beginP ax g).2.code = 0) (hu : ¬ (uses < 0 ∨ 5 < uses)) : RunOk uses (addB brnZ (branch1 ax g)) 0 ∧ allBF (addB brnZ (branch1 ax g)).list := by
  obtain ⟨hb, hlen, hva, hvg⟩ := begin_ok h0
  have hbl : (branch1 ax g).length = ax.length + 1 := by unfold branch1 canL; simp
  have hbb := branch1_bfZ hva hvg
  obtain ⟨B, hB⟩ : ∃ B, branch1 ax g = B := ⟨_, rfl⟩
  rw [hB] at hbl hbb ⊢
  have hl : (addB brnZ B).list = B := by unfold addB brnZ; simp
  refine ⟨⟨fun f hf => ?_, ?_, ?_, ?_, fun s hs => ?_, ?_, ?_, by omega, by omega, by omega⟩, fun f hf => ?_⟩
  · rw [hl] at hf; exact (hbb f hf).o.b
  · rw [hl]; omega
  · rw [hl]; show (brnZ.used ++ List.replicate B.length false).length = _; unfold brnZ; simp
  · rw [hl]; show (brnZ.seen ++ List.replicate B.length []).length = _; unfold brnZ; simp
  · have h2 : s ∈ brnZ.seen ++ List.replicate B.length [] := hs
    unfold brnZ at h2
    simp only [List.nil_append] at h2
    rw [(List.mem_replicate.1 h2).2]; simp
  · show (0 : Int) ≤ brnZ.rounds; exact Int.le_refl _
  · show brnZ.rounds ≤ uses; unfold brnZ; simp only; omega
  · rw [hl] at hf; exact hbb f hf
theorem prove_check {ax : List Abs.Form} {g : Abs.Form} {uses : Int} {p : Prf} {e : Fault} (h : proveM ax g uses = (p, true, e)) : chkP ax g p = (true, ⟨0, 0⟩) := by
  obtain ⟨h0, hu, hk, hl, hp, he⟩ := prove_ok h
  obtain ⟨h1, h2⟩ := runOk0 h0 hu
  have hc := run_chk (uses := uses) 301 _ 0 h1 h2 hk
  have had := (runM_added (uses := uses) 301 (addB brnZ (branch1 ax g)) 0 (by decide)).2 hk
  have hl2 : (addB brnZ (branch1 ax g)).list = branch1 ax g := by unfold addB brnZ; simp
  rw [hl2] at hc
  have hp2 : p = (runM uses 301 (addB brnZ (branch1 ax g)) 0).p := hp
  rw [← hp2] at hc
  obtain ⟨c1, c2⟩ := hc
  have hsz : p.size ≤ 601 := by omega
  unfold chkP
  rw [if_neg (by simp [h0]), cntK_ofZ p 0 (by omega), if_neg (by omega), c1]
theorem mort_p2 : proveM mortalL mortG 2 = ((runM 2 301 mortN 0).p, true, ⟨0, 0⟩) := by
  rw [prove_begin (by rw [mort_begin]) (by decide), mort_runZ, if_neg (by rw [mort_2.2]; simp), if_neg (by rw [mort_2.1]; simp)]
def Z8 : Tbl := Tbl.or Z7 Y11
attribute [go_sem] Z8
theorem hZ8 : TblOk Tryd.prog GA Z8 := TblOk_or hZ7 hY11
def treeL37 : Tv := (.q 0 (.q 1 (.q 2 (.q 3 (.q 4 (.q 5 (.q 6 (.q 7 (.br [(8, (.q 9 (.br [(10, .leaf)])))])))))))))
set_option maxRecDepth 100000 in
set_option maxHeartbeats 1000000 in
set_option maxHeartbeats 8000000 in
theorem lawChecked (hT : TblOk Tryd.prog GA Z8) (ax : List Abs.Form) (g : Abs.Form) (uses : Int) (_ : (enc ax).Wf) (_ : (enc g).Wf) (_ : (enc uses).Wf) : Wcall Tryd.prog GA 5 [.fz (enc ax), .fz (enc g), .fz (enc uses)] (hpL []) 0 (fun d _ _ => d = .fz (.b true)) := by
  have dO : Str.mk [109, 111, 114, 116, 97, 108] = morS := rfl
  have dK : Str.mk [107, 105, 109] = kimS := rfl
  have eG : predM morS [kimS] = mortG := rfl
  have p0 := mort_p2
  have c0 := prove_check p0
  obtain ⟨P2, hP2⟩ : ∃ P2, (runM 2 301 mortN 0).p = P2 := ⟨_, rfl⟩
  rw [hP2] at p0 c0
  obtain ⟨r, hP⟩ : ∃ r, proveM ax g uses = r := ⟨_, rfl⟩
  obtain ⟨p, ok, e⟩ := r
  cases ok with
  | false =>
    by_cases hc : e.code = 0
    · have hc' : (e.code = 0) = True := eq_true hc
      by_cases hi : e.index = 0
      · have hi' : (e.index = 0) = True := eq_true hi
        refine Wcall_K (N := 72) Go.Proofs.YtdlioodgfopmfaaDoor.hm hT 5000 (lst [1000004]) ok5 Tryd.func5 rfl rfl (by simp) (by kernel_rfl) ?_
        repeat' (first | refine WK_drawV (id := 4) Go.Proofs.YtdlioodgfopmfaaDoor.hm hT 5000 (lst [1000004]) treeL37 (by kernel_rfl) (by kernel_rfl) ?_ | refine And.intro ?_ ?_ | exact True.intro | refine rq fun _ => ?_ | refine ReqK.i ⟨by decide, by decide, rfl⟩ fun _ => ?_ | refine ReqK.i (fits_of2 (by first | omega | (simp only [List.length_map, List.length_take, List.length_append, List.length_cons, List.length_nil]; omega)) (by decide)) fun _ => ?_ | simp only [go_sem, hc', hi', Tryd.f5, GA, str_eta, form_eta, prf_eta, dO, dK, eG, p0, c0, hP, treeL37])
        all_goals first | done | rfl | omega | trace_state
      · have hi' : (e.index = 0) = False := eq_false hi
        refine Wcall_K (N := 72) Go.Proofs.YtdlioodgfopmfaaDoor.hm hT 5000 (lst [1000004]) ok5 Tryd.func5 rfl rfl (by simp) (by kernel_rfl) ?_
        repeat' (first | refine WK_drawV (id := 4) Go.Proofs.YtdlioodgfopmfaaDoor.hm hT 5000 (lst [1000004]) treeL37 (by kernel_rfl) (by kernel_rfl) ?_ | refine And.intro ?_ ?_ | exact True.intro | refine rq fun _ => ?_ | refine ReqK.i ⟨by decide, by decide, rfl⟩ fun _ => ?_ | refine ReqK.i (fits_of2 (by first | omega | (simp only [List.length_map, List.length_take, List.length_append, List.length_cons, List.length_nil]; omega)) (by decide)) fun _ => ?_ | simp only [go_sem, hc', hi', Tryd.f5, GA, str_eta, form_eta, prf_eta, dO, dK, eG, p0, c0, hP, treeL37])
        all_goals first | done | rfl | omega | trace_state
    · have hc' : (e.code = 0) = False := eq_false hc
      refine Wcall_K (N := 72) Go.Proofs.YtdlioodgfopmfaaDoor.hm hT 5000 (lst [1000004]) ok5 Tryd.func5 rfl rfl (by simp) (by kernel_rfl) ?_
      repeat' (first | refine WK_drawV (id := 4) Go.Proofs.YtdlioodgfopmfaaDoor.hm hT 5000 (lst [1000004]) treeL37 (by kernel_rfl) (by kernel_rfl) ?_ | refine And.intro ?_ ?_ | exact True.intro | refine rq fun _ => ?_ | refine ReqK.i ⟨by decide, by decide, rfl⟩ fun _ => ?_ | refine ReqK.i (fits_of2 (by first | omega | (simp only [List.length_map, List.length_take, List.length_append, List.length_cons, List.length_nil]; omega)) (by decide)) fun _ => ?_ | simp only [go_sem, hc', Tryd.f5, GA, str_eta, form_eta, prf_eta, dO, dK, eG, p0, c0, hP, treeL37])
      all_goals first | done | rfl | omega | trace_state
  | true =>
    have hm := prove_check hP
    obtain ⟨_, _, _, _, _, he⟩ := prove_ok hP
    subst he
    refine Wcall_K (N := 72) Go.Proofs.YtdlioodgfopmfaaDoor.hm hT 5000 (lst [1000004]) ok5 Tryd.func5 rfl rfl (by simp) (by kernel_rfl) ?_
    repeat' (first | refine WK_drawV (id := 4) Go.Proofs.YtdlioodgfopmfaaDoor.hm hT 5000 (lst [1000004]) treeL37 (by kernel_rfl) (by kernel_rfl) ?_ | refine And.intro ?_ ?_ | exact True.intro | refine rq fun _ => ?_ | refine ReqK.i ⟨by decide, by decide, rfl⟩ fun _ => ?_ | refine ReqK.i (fits_of2 (by first | omega | (simp only [List.length_map, List.length_take, List.length_append, List.length_cons, List.length_nil]; omega)) (by decide)) fun _ => ?_ | simp only [go_sem, hm, Tryd.f5, GA, str_eta, form_eta, prf_eta, dO, dK, eG, p0, c0, hP, treeL37])
    all_goals first | done | rfl | omega | trace_state
end Go.Proofs.YtdlioodgfopmfaaDoor
