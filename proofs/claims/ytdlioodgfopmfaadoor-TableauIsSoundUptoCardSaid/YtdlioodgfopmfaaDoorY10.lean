/- several texts of this proof in one; no conditions -/
import Derived.Test.YtdlioodgfopmfaaDoorAT
import Derived.Test.YtdlioodgfopmfaaDoorY9
import Derived.Test.YtdlioodgfopmfaaDoorTA
set_option maxRecDepth 100000
set_option maxHeartbeats 1000000
set_option linter.unusedSimpArgs false
namespace Go.Proofs.YtdlioodgfopmfaaDoor
open Go Go.Abs Go.Proofs

def bodyM (f : Abs.Form) (name : Str) : Abs.Form := canonM (sub0 f) [⟨f.name, name⟩]
def bodyPre (f : Abs.Form) (_ : Str) : Prop := ∃ a, f.subs = [a] ∧ a.fit = true ∧ a.size ≤ 1000
def treeBd : Tv := (.q 0 (.q 1 (.q 2 (.q 3 (.q 4 (.q 5 (.q 6 (.q 7 (.q 8 (.q 9 (.br [(10, .leaf)])))))))))))
def Y1 : Tbl := N5.add 87 (sp2 bodyM bodyPre)
attribute [go_sem] Y1
theorem hY1 : TblOk Tryd.prog GA Y1 := by
  refine sp2_ok ok87 hN5 fun f name hp _ _ => ?_
  obtain ⟨a, ha, h1, h2⟩ := hp
  have e : bodyM f name = canonM a [⟨f.name, name⟩] := by unfold bodyM sub0; rw [ha]; rfl
  rw [e]
  have hcp : canonPre a [⟨f.name, name⟩] := ⟨h1, h2, by simp⟩
  obtain ⟨R, hR⟩ : ∃ R, canonM a [⟨f.name, name⟩] = R := ⟨_, rfl⟩
  rw [hR]
  refine Wcall_K (N := 15) hm hN5 87000 (lst [1000001]) ok87 Tryd.func87 rfl rfl (by simp) (by kernel_rfl) ?_
  repeat' (first | refine ReqK.i ⟨rfl, hcp⟩ fun _ => ?_ | refine ReqK.i hcp fun _ => ?_ | refine WK_drawV (id := 1) hm hN5 87000 (lst [1000001]) treeBd (by kernel_rfl) (by kernel_rfl) ?_ | refine And.intro ?_ ?_ | exact True.intro | refine rq fun _ => ?_ | simp only [go_sem, ha, hR, str_eta, form_eta, treeBd, Tryd.f87])
def instM (q : Abs.Form) (turned : Bool) (name : Str) : Abs.Form := if turned then negM (bodyM q name) else bodyM q name
def instPre (q : Abs.Form) (_ : Bool) (_ : Str) : Prop := ∃ a, q.subs = [a] ∧ a.fit = true ∧ a.size ≤ 800
theorem body_small {q : Abs.Form} {name : Str} (h : ∃ a, q.subs = [a] ∧ a.fit = true ∧ a.size ≤ 800) : (bodyM q name).fit = true ∧ (bodyM q name).size ≤ 800 := by
  obtain ⟨a, ha, h1, h2⟩ := h
  have e : bodyM q name = canonM a [⟨q.name, name⟩] := by unfold bodyM sub0; rw [ha]; rfl
  rw [e]
  exact ⟨by rw [canonM_fit]; exact h1, by rw [canonM_size]; exact h2⟩
def Y2 : Tbl := Y1.add 50 (sp3 instM instPre)
attribute [go_sem] Y2
theorem hY2 : TblOk Tryd.prog GA Y2 := by
  refine sp3_ok ok50 hY1 fun q tn name hp _ _ _ => ?_
  have hs := body_small (name := name) hp
  have hb : bodyPre q name := by obtain ⟨a, ha, h1, h2⟩ := hp; exact ⟨a, ha, h1, by omega⟩
  have hng : (bodyM q name).fit = true ∧ (bodyM q name).size ≤ 900 := ⟨hs.1, by omega⟩
  obtain ⟨B, hB⟩ : ∃ B, bodyM q name = B := ⟨_, rfl⟩
  rw [hB] at hng
  cases tn with
  | true =>
    have e : instM q true name = negM B := by unfold instM; rw [hB]; rfl
    rw [e]
    obtain ⟨R, hR⟩ : ∃ R, negM B = R := ⟨_, rfl⟩
    rw [hR]
    refine Wcall_K (N := 15) hm hY1 50000 (lst []) ok50 Tryd.func50 rfl rfl (by simp) (by kernel_rfl) ?_
    repeat' (first | refine ReqK.i hb fun _ => ?_ | refine ReqK.i hng fun _ => ?_ | refine And.intro ?_ ?_ | exact True.intro | refine rq fun _ => ?_ | simp only [go_sem, hB, hR, str_eta, form_eta, Tryd.f50])
  | false =>
    have e : instM q false name = B := by unfold instM; rw [hB]; rfl
    rw [e]
    refine Wcall_K (N := 15) hm hY1 50000 (lst []) ok50 Tryd.func50 rfl rfl (by simp) (by kernel_rfl) ?_
    repeat' (first | refine ReqK.i hb fun _ => ?_ | refine ReqK.i hng fun _ => ?_ | refine And.intro ?_ ?_ | exact True.intro | refine rq fun _ => ?_ | simp only [go_sem, hB, str_eta, form_eta, Tryd.f50])
def treeQ4 : Tv := (.q 0 (.q 1 (.q 2 (.q 3 (.q 4 (.q 6 (.q 7 (.br [(5, (.q 8 (.q 9 (.q 10 (.br [(11, (.q 12 (.q 13 (.q 14 (.q 15 (.br [(16, (.q 17 .leaf))])))))), (13, (.br [(11, (.q 12 (.q 14 (.q 15 (.br [(16, (.q 17 .leaf))])))))]))]))))), (8, (.q 9 (.br [(5, (.q 10 (.br [(11, (.q 12 (.q 13 (.q 14 (.q 15 (.br [(16, (.q 17 .leaf))])))))), (13, (.br [(11, (.q 12 (.q 14 (.q 15 (.br [(16, (.q 17 .leaf))])))))]))]))), (10, (.br [(5, (.br [(11, (.q 12 (.q 13 (.q 14 (.q 15 (.br [(16, (.q 17 .leaf))])))))), (13, (.br [(11, (.q 12 (.q 14 (.q 15 (.br [(16, (.q 17 .leaf))])))))]))])), (13, (.br [(5, (.br [(11, (.q 12 (.q 14 (.q 15 (.br [(16, (.q 17 .leaf))])))))]))]))])), (13, (.br [(5, (.q 10 (.br [(11, (.q 12 (.q 14 (.q 15 (.br [(16, (.q 17 .leaf))])))))]))), (10, (.br [(5, (.br [(11, (.q 12 (.q 14 (.q 15 (.br [(16, (.q 17 .leaf))])))))]))]))]))]))), (13, (.br [(5, (.q 8 (.q 9 (.q 10 (.br [(11, (.q 12 (.q 14 (.q 15 (.br [(16, (.q 17 .leaf))])))))]))))), (8, (.q 9 (.br [(5, (.q 10 (.br [(11, (.q 12 (.q 14 (.q 15 (.br [(16, (.q 17 .leaf))])))))]))), (10, (.br [(5, (.br [(11, (.q 12 (.q 14 (.q 15 (.br [(16, (.q 17 .leaf))])))))]))]))])))]))]))))))))
def treeQ6 : Tv := (.q 0 (.q 1 (.q 2 (.q 3 (.q 4 (.q 6 (.q 7 (.br [(5, (.q 8 (.q 9 (.q 10 (.br [(11, (.q 12 (.q 13 (.q 14 (.q 15 (.br [(16, (.q 17 .leaf))])))))), (13, (.br [(11, (.q 12 (.q 14 (.q 15 (.br [(16, (.q 17 .leaf))])))))]))]))))), (8, (.q 9 (.br [(5, (.q 10 (.br [(11, (.q 12 (.q 13 (.q 14 (.q 15 (.br [(16, (.q 17 .leaf))])))))), (13, (.br [(11, (.q 12 (.q 14 (.q 15 (.br [(16, (.q 17 .leaf))])))))]))]))), (10, (.br [(5, (.br [(11, (.q 12 (.q 13 (.q 14 (.q 15 (.br [(16, (.q 17 .leaf))])))))), (13, (.br [(11, (.q 12 (.q 14 (.q 15 (.br [(16, (.q 17 .leaf))])))))]))])), (13, (.br [(5, (.br [(11, (.q 12 (.q 14 (.q 15 (.br [(16, (.q 17 .leaf))])))))]))]))])), (13, (.br [(5, (.q 10 (.br [(11, (.q 12 (.q 14 (.q 15 (.br [(16, (.q 17 .leaf))])))))]))), (10, (.br [(5, (.br [(11, (.q 12 (.q 14 (.q 15 (.br [(16, (.q 17 .leaf))])))))]))]))]))]))), (13, (.br [(5, (.q 8 (.q 9 (.q 10 (.br [(11, (.q 12 (.q 14 (.q 15 (.br [(16, (.q 17 .leaf))])))))]))))), (8, (.q 9 (.br [(5, (.q 10 (.br [(11, (.q 12 (.q 14 (.q 15 (.br [(16, (.q 17 .leaf))])))))]))), (10, (.br [(5, (.br [(11, (.q 12 (.q 14 (.q 15 (.br [(16, (.q 17 .leaf))])))))]))]))])))]))]))))))))
def treeQ8 : Tv := (.q 0 (.q 1 (.q 2 (.q 3 (.q 4 (.q 5 (.q 6 (.q 7 (.q 8 (.q 9 (.br [(10, (.q 11 (.q 12 (.q 13 (.q 14 (.br [(15, (.q 16 .leaf))])))))), (12, (.br [(10, (.q 11 (.q 13 (.q 14 (.br [(15, (.q 16 .leaf))])))))]))])))))))))))
def treeQ10 : Tv := (.q 0 (.q 1 (.q 2 (.br [(3, (.q 4 .leaf))]))))
def treeQ12 : Tv := (.q 0 (.q 1 (.q 2 (.br [(3, (.q 4 .leaf))]))))
def treeQ17 : Tv := (.q 0 (.q 1 (.q 2 (.q 3 (.q 4 (.br [(5, (.q 6 (.q 7 (.q 8 (.q 9 (.br [(10, (.q 11 .leaf))])))))), (7, (.br [(5, (.q 6 (.q 8 (.q 9 (.br [(10, (.q 11 .leaf))])))))]))]))))))
def treeQ19 : Tv := (.q 0 (.q 1 (.q 2 (.q 3 (.q 4 (.q 5 (.q 6 (.q 7 (.q 8 (.q 9 (.q 10 (.q 11 (.q 12 (.q 13 (.br [(14, (.q 15 .leaf))])))))))))))))))
def treeQ21 : Tv := (.q 0 (.q 1 (.q 2 (.q 3 (.q 4 (.q 5 (.q 6 (.q 7 (.q 8 (.q 9 (.q 10 (.q 11 (.q 12 (.q 13 (.br [(14, (.q 15 .leaf))])))))))))))))))
def treeQ23 : Tv := (.q 0 (.q 1 (.q 2 (.q 3 (.q 4 (.q 6 (.br [(5, (.q 7 (.q 8 (.q 9 (.q 10 (.q 11 (.q 12 (.q 13 (.q 14 (.br [(15, (.q 16 .leaf))])))))))))), (7, (.q 8 (.br [(5, (.q 9 (.q 10 (.q 11 (.q 12 (.q 13 (.q 14 (.br [(15, (.q 16 .leaf))])))))))), (9, (.br [(5, (.q 10 (.q 11 (.q 12 (.q 13 (.q 14 (.br [(15, (.q 16 .leaf))]))))))), (12, (.br [(5, (.q 10 (.q 11 (.q 13 (.q 14 (.br [(15, (.q 16 .leaf))]))))))]))])), (12, (.br [(5, (.q 9 (.q 10 (.q 11 (.q 13 (.q 14 (.br [(15, (.q 16 .leaf))]))))))), (9, (.br [(5, (.q 10 (.q 11 (.q 13 (.q 14 (.br [(15, (.q 16 .leaf))]))))))]))]))]))), (12, (.br [(5, (.q 7 (.q 8 (.q 9 (.q 10 (.q 11 (.q 13 (.q 14 (.br [(15, (.q 16 .leaf))]))))))))), (7, (.q 8 (.br [(5, (.q 9 (.q 10 (.q 11 (.q 13 (.q 14 (.br [(15, (.q 16 .leaf))]))))))), (9, (.br [(5, (.q 10 (.q 11 (.q 13 (.q 14 (.br [(15, (.q 16 .leaf))]))))))]))])))]))])))))))
def treeQ25 : Tv := (.q 0 (.q 1 (.q 2 (.br [(3, (.q 4 .leaf))]))))
def treeQ27 : Tv := (.q 0 (.q 1 (.q 2 (.br [(3, (.q 4 .leaf))]))))
def treeQ28 : Tv := (.q 0 (.q 1 (.q 2 (.br [(3, (.q 4 .leaf))]))))
theorem cn_small {a : Abs.Form} (h : brF a) : a.fit = true ∧ a.size ≤ 1000 := ⟨h.ft, by have := h.s; omega⟩
theorem ng_small {a : Abs.Form} (h : brF a) : a.fit = true ∧ a.size ≤ 900 := ⟨h.ft, by have := h.s; omega⟩
def Y3 : Tbl := Y2.add 43 (sp1q partsM brF)
attribute [go_sem] Y3
set_option maxHeartbeats 16000000 in
theorem hY3 : TblOk Tryd.prog GA Y3 := by
  refine sp1q_ok ok43 hY2 fun f hbr _ => ?_
  have zk : zeroF.kind = 0 := rfl
  have zn : zeroF.name.l = [] := rfl
  have zw : zeroF.words = [] := rfl
  have zs : zeroF.subs = [] := rfl
  have hkb := vok_eq.1 hbr.v
  have hk1 := hkb.1
  have hk2 := hkb.2.1
  clear hkb
  by_cases k5 : f.kind = 5
  · obtain ⟨a, b, hab, s0, s1, ha, hb⟩ := br_two hbr (by omega)
    have pa := cn_small ha
    have pb := cn_small hb
    obtain ⟨A, hA⟩ : ∃ A, canonM a [] = A := ⟨_, rfl⟩
    obtain ⟨B, hB⟩ : ∃ B, canonM b [] = B := ⟨_, rfl⟩
    have e : partsM f = (1, [A, B], zeroF, false) := by
      unfold partsM
      rw [s0, s1, k5, ← hA, ← hB]; rfl
    rw [e]
    clear e s0 s1 ha hb
    refine Wcall_K (N := 131) hm hY2 43000 (lst [1000004, 1000006, 1000008, 1000010, 1000012, 1000017, 1000019, 1000021, 1000023, 1000025, 1000027, 1000028]) ok43 Tryd.func43 rfl rfl (by simp) (by kernel_rfl) ?_
    repeat' (first | refine ReqK.i pa fun _ => ?_ | refine ReqK.i pb fun _ => ?_ | refine WK_drawV (id := 4) hm hY2 43000 (lst [1000004, 1000006, 1000008, 1000010, 1000012, 1000017, 1000019, 1000021, 1000023, 1000025, 1000027, 1000028]) treeQ4 (by kernel_rfl) (by kernel_rfl) ?_ | refine And.intro ?_ ?_ | exact True.intro | refine rq fun _ => ?_ | simp only [go_sem, k5, hab, hA, hB, treeQ4, zk, zn, zw, zs, form_eta, getD_map_lt, Tryd.f43])
  by_cases k6 : f.kind = 6
  · obtain ⟨a, b, hab, s0, s1, ha, hb⟩ := br_two hbr (by omega)
    have pa := cn_small ha
    have pb := cn_small hb
    obtain ⟨A, hA⟩ : ∃ A, canonM a [] = A := ⟨_, rfl⟩
    obtain ⟨B, hB⟩ : ∃ B, canonM b [] = B := ⟨_, rfl⟩
    have e : partsM f = (2, [A, B], zeroF, false) := by
      unfold partsM
      rw [s0, s1, k6, ← hA, ← hB]; rfl
    rw [e]
    clear e s0 s1 ha hb
    refine Wcall_K (N := 131) hm hY2 43000 (lst [1000004, 1000006, 1000008, 1000010, 1000012, 1000017, 1000019, 1000021, 1000023, 1000025, 1000027, 1000028]) ok43 Tryd.func43 rfl rfl (by simp) (by kernel_rfl) ?_
    repeat' (first | refine ReqK.i pa fun _ => ?_ | refine ReqK.i pb fun _ => ?_ | refine WK_drawV (id := 6) hm hY2 43000 (lst [1000004, 1000006, 1000008, 1000010, 1000012, 1000017, 1000019, 1000021, 1000023, 1000025, 1000027, 1000028]) treeQ6 (by kernel_rfl) (by kernel_rfl) ?_ | refine And.intro ?_ ?_ | exact True.intro | refine rq fun _ => ?_ | simp only [go_sem, k6, hab, hA, hB, treeQ6, zk, zn, zw, zs, form_eta, getD_map_lt, Tryd.f43])
  by_cases k7 : f.kind = 7
  · obtain ⟨a, b, hab, s0, s1, ha, hb⟩ := br_two hbr (by omega)
    have pa := ng_small ha
    have pb := cn_small hb
    obtain ⟨A, hA⟩ : ∃ A, negM a = A := ⟨_, rfl⟩
    obtain ⟨B, hB⟩ : ∃ B, canonM b [] = B := ⟨_, rfl⟩
    have e : partsM f = (2, [A, B], zeroF, false) := by
      unfold partsM
      rw [s0, s1, k7, ← hA, ← hB]; rfl
    rw [e]
    clear e s0 s1 ha hb
    refine Wcall_K (N := 131) hm hY2 43000 (lst [1000004, 1000006, 1000008, 1000010, 1000012, 1000017, 1000019, 1000021, 1000023, 1000025, 1000027, 1000028]) ok43 Tryd.func43 rfl rfl (by simp) (by kernel_rfl) ?_
    repeat' (first | refine ReqK.i pa fun _ => ?_ | refine ReqK.i pb fun _ => ?_ | refine WK_drawV (id := 8) hm hY2 43000 (lst [1000004, 1000006, 1000008, 1000010, 1000012, 1000017, 1000019, 1000021, 1000023, 1000025, 1000027, 1000028]) treeQ8 (by kernel_rfl) (by kernel_rfl) ?_ | refine And.intro ?_ ?_ | exact True.intro | refine rq fun _ => ?_ | simp only [go_sem, k7, hab, hA, hB, treeQ8, zk, zn, zw, zs, form_eta, getD_map_lt, Tryd.f43])
  by_cases k8 : f.kind = 8
  · have eF : Abs.Form.mk 8 f.name f.words f.subs = f := by rw [← k8]; exact form_eta
    have e : partsM f = (3, [], f, false) := by
      unfold partsM
      rw [k8]; rfl
    rw [e]
    clear e
    refine Wcall_K (N := 131) hm hY2 43000 (lst [1000004, 1000006, 1000008, 1000010, 1000012, 1000017, 1000019, 1000021, 1000023, 1000025, 1000027, 1000028]) ok43 Tryd.func43 rfl rfl (by simp) (by kernel_rfl) ?_
    repeat' (first | refine WK_drawV (id := 10) hm hY2 43000 (lst [1000004, 1000006, 1000008, 1000010, 1000012, 1000017, 1000019, 1000021, 1000023, 1000025, 1000027, 1000028]) treeQ10 (by kernel_rfl) (by kernel_rfl) ?_ | refine And.intro ?_ ?_ | exact True.intro | refine rq fun _ => ?_ | simp only [go_sem, k8, eF, treeQ10, zk, zn, zw, zs, form_eta, getD_map_lt, Tryd.f43])
  by_cases k9 : f.kind = 9
  · have eF : Abs.Form.mk 9 f.name f.words f.subs = f := by rw [← k9]; exact form_eta
    have e : partsM f = (4, [], f, false) := by
      unfold partsM
      rw [k9]; rfl
    rw [e]
    clear e
    refine Wcall_K (N := 131) hm hY2 43000 (lst [1000004, 1000006, 1000008, 1000010, 1000012, 1000017, 1000019, 1000021, 1000023, 1000025, 1000027, 1000028]) ok43 Tryd.func43 rfl rfl (by simp) (by kernel_rfl) ?_
    repeat' (first | refine WK_drawV (id := 12) hm hY2 43000 (lst [1000004, 1000006, 1000008, 1000010, 1000012, 1000017, 1000019, 1000021, 1000023, 1000025, 1000027, 1000028]) treeQ12 (by kernel_rfl) (by kernel_rfl) ?_ | refine And.intro ?_ ?_ | exact True.intro | refine rq fun _ => ?_ | simp only [go_sem, k9, eF, treeQ12, zk, zn, zw, zs, form_eta, getD_map_lt, Tryd.f43])
  by_cases k4 : f.kind = 4
  · obtain ⟨g, hg, s0, hbg⟩ := br_one hbr (.inl k4)
    have hgk := vok_eq.1 hbg.v
    have hg1 := hgk.1
    have hg2 := hgk.2.1
    clear hgk
    by_cases j4 : g.kind = 4
    · obtain ⟨a, ha0, t0, ha⟩ := br_one hbg (.inl j4)
      have pa := cn_small ha
      obtain ⟨A, hA⟩ : ∃ A, canonM a [] = A := ⟨_, rfl⟩
      have e : partsM f = (1, [A], zeroF, false) := by
        unfold partsM
        rw [s0, t0, k4, j4, ← hA]; rfl
      rw [e]
      clear e s0 t0 ha
      refine Wcall_K (N := 131) hm hY2 43000 (lst [1000004, 1000006, 1000008, 1000010, 1000012, 1000017, 1000019, 1000021, 1000023, 1000025, 1000027, 1000028]) ok43 Tryd.func43 rfl rfl (by simp) (by kernel_rfl) ?_
      repeat' (first | refine ReqK.i pa fun _ => ?_ | refine WK_drawV (id := 17) hm hY2 43000 (lst [1000004, 1000006, 1000008, 1000010, 1000012, 1000017, 1000019, 1000021, 1000023, 1000025, 1000027, 1000028]) treeQ17 (by kernel_rfl) (by kernel_rfl) ?_ | refine And.intro ?_ ?_ | exact True.intro | refine rq fun _ => ?_ | simp only [go_sem, k4, j4, hg, ha0, hA, treeQ17, zk, zn, zw, zs, form_eta, getD_map_lt, Tryd.f43])
    by_cases j5 : g.kind = 5
    · obtain ⟨a, b, hab, t0, t1, ha, hb⟩ := br_two hbg (by omega)
      have pa := ng_small ha
      have pb := ng_small hb
      obtain ⟨A, hA⟩ : ∃ A, negM a = A := ⟨_, rfl⟩
      obtain ⟨B, hB⟩ : ∃ B, negM b = B := ⟨_, rfl⟩
      have e : partsM f = (2, [A, B], zeroF, false) := by
        unfold partsM
        rw [s0, t0, t1, k4, j5, ← hA, ← hB]; rfl
      rw [e]
      clear e s0 t0 t1 ha hb
      refine Wcall_K (N := 131) hm hY2 43000 (lst [1000004, 1000006, 1000008, 1000010, 1000012, 1000017, 1000019, 1000021, 1000023, 1000025, 1000027, 1000028]) ok43 Tryd.func43 rfl rfl (by simp) (by kernel_rfl) ?_
      repeat' (first | refine ReqK.i pa fun _ => ?_ | refine ReqK.i pb fun _ => ?_ | refine WK_drawV (id := 19) hm hY2 43000 (lst [1000004, 1000006, 1000008, 1000010, 1000012, 1000017, 1000019, 1000021, 1000023, 1000025, 1000027, 1000028]) treeQ19 (by kernel_rfl) (by kernel_rfl) ?_ | refine And.intro ?_ ?_ | exact True.intro | refine rq fun _ => ?_ | simp only [go_sem, k4, j5, hg, hab, hA, hB, treeQ19, zk, zn, zw, zs, form_eta, getD_map_lt, Tryd.f43])
    by_cases j6 : g.kind = 6
    · obtain ⟨a, b, hab, t0, t1, ha, hb⟩ := br_two hbg (by omega)
      have pa := ng_small ha
      have pb := ng_small hb
      obtain ⟨A, hA⟩ : ∃ A, negM a = A := ⟨_, rfl⟩
      obtain ⟨B, hB⟩ : ∃ B, negM b = B := ⟨_, rfl⟩
      have e : partsM f = (1, [A, B], zeroF, false) := by
        unfold partsM
        rw [s0, t0, t1, k4, j6, ← hA, ← hB]; rfl
      rw [e]
      clear e s0 t0 t1 ha hb
      refine Wcall_K (N := 131) hm hY2 43000 (lst [1000004, 1000006, 1000008, 1000010, 1000012, 1000017, 1000019, 1000021, 1000023, 1000025, 1000027, 1000028]) ok43 Tryd.func43 rfl rfl (by simp) (by kernel_rfl) ?_
      repeat' (first | refine ReqK.i pa fun _ => ?_ | refine ReqK.i pb fun _ => ?_ | refine WK_drawV (id := 21) hm hY2 43000 (lst [1000004, 1000006, 1000008, 1000010, 1000012, 1000017, 1000019, 1000021, 1000023, 1000025, 1000027, 1000028]) treeQ21 (by kernel_rfl) (by kernel_rfl) ?_ | refine And.intro ?_ ?_ | exact True.intro | refine rq fun _ => ?_ | simp only [go_sem, k4, j6, hg, hab, hA, hB, treeQ21, zk, zn, zw, zs, form_eta, getD_map_lt, Tryd.f43])
    by_cases j7 : g.kind = 7
    · obtain ⟨a, b, hab, t0, t1, ha, hb⟩ := br_two hbg (by omega)
      have pa := cn_small ha
      have pb := ng_small hb
      obtain ⟨A, hA⟩ : ∃ A, canonM a [] = A := ⟨_, rfl⟩
      obtain ⟨B, hB⟩ : ∃ B, negM b = B := ⟨_, rfl⟩
      have e : partsM f = (1, [A, B], zeroF, false) := by
        unfold partsM
        rw [s0, t0, t1, k4, j7, ← hA, ← hB]; rfl
      rw [e]
      clear e s0 t0 t1 ha hb
      refine Wcall_K (N := 131) hm hY2 43000 (lst [1000004, 1000006, 1000008, 1000010, 1000012, 1000017, 1000019, 1000021, 1000023, 1000025, 1000027, 1000028]) ok43 Tryd.func43 rfl rfl (by simp) (by kernel_rfl) ?_
      repeat' (first | refine ReqK.i pa fun _ => ?_ | refine ReqK.i pb fun _ => ?_ | refine WK_drawV (id := 23) hm hY2 43000 (lst [1000004, 1000006, 1000008, 1000010, 1000012, 1000017, 1000019, 1000021, 1000023, 1000025, 1000027, 1000028]) treeQ23 (by kernel_rfl) (by kernel_rfl) ?_ | refine And.intro ?_ ?_ | exact True.intro | refine rq fun _ => ?_ | simp only [go_sem, k4, j7, hg, hab, hA, hB, treeQ23, zk, zn, zw, zs, form_eta, getD_map_lt, Tryd.f43])
    by_cases j8 : g.kind = 8
    · have eF : Abs.Form.mk 8 g.name g.words g.subs = g := by rw [← j8]; exact form_eta
      have e : partsM f = (4, [], g, true) := by
        unfold partsM
        rw [s0, k4, j8]; rfl
      rw [e]
      clear e s0
      refine Wcall_K (N := 131) hm hY2 43000 (lst [1000004, 1000006, 1000008, 1000010, 1000012, 1000017, 1000019, 1000021, 1000023, 1000025, 1000027, 1000028]) ok43 Tryd.func43 rfl rfl (by simp) (by kernel_rfl) ?_
      repeat' (first | refine WK_drawV (id := 25) hm hY2 43000 (lst [1000004, 1000006, 1000008, 1000010, 1000012, 1000017, 1000019, 1000021, 1000023, 1000025, 1000027, 1000028]) treeQ25 (by kernel_rfl) (by kernel_rfl) ?_ | refine And.intro ?_ ?_ | exact True.intro | refine rq fun _ => ?_ | simp only [go_sem, k4, j8, hg, eF, treeQ25, zk, zn, zw, zs, form_eta, getD_map_lt, Tryd.f43])
    by_cases j9 : g.kind = 9
    · have eF : Abs.Form.mk 9 g.name g.words g.subs = g := by rw [← j9]; exact form_eta
      have e : partsM f = (3, [], g, true) := by
        unfold partsM
        rw [s0, k4, j9]; rfl
      rw [e]
      clear e s0
      refine Wcall_K (N := 131) hm hY2 43000 (lst [1000004, 1000006, 1000008, 1000010, 1000012, 1000017, 1000019, 1000021, 1000023, 1000025, 1000027, 1000028]) ok43 Tryd.func43 rfl rfl (by simp) (by kernel_rfl) ?_
      repeat' (first | refine WK_drawV (id := 27) hm hY2 43000 (lst [1000004, 1000006, 1000008, 1000010, 1000012, 1000017, 1000019, 1000021, 1000023, 1000025, 1000027, 1000028]) treeQ27 (by kernel_rfl) (by kernel_rfl) ?_ | refine And.intro ?_ ?_ | exact True.intro | refine rq fun _ => ?_ | simp only [go_sem, k4, j9, hg, eF, treeQ27, zk, zn, zw, zs, form_eta, getD_map_lt, Tryd.f43])
    have e : partsM f = (0, [], zeroF, false) := by
      unfold partsM
      rw [s0, k4]
      simp only [j4, j5, j6, j7, j8, j9, if_false]
      rfl
    rw [e]
    clear e s0
    refine Wcall_K (N := 131) hm hY2 43000 (lst [1000004, 1000006, 1000008, 1000010, 1000012, 1000017, 1000019, 1000021, 1000023, 1000025, 1000027, 1000028]) ok43 Tryd.func43 rfl rfl (by simp) (by kernel_rfl) ?_
    repeat' (first | refine WK_drawV (id := 28) hm hY2 43000 (lst [1000004, 1000006, 1000008, 1000010, 1000012, 1000017, 1000019, 1000021, 1000023, 1000025, 1000027, 1000028]) treeQ28 (by kernel_rfl) (by kernel_rfl) ?_ | refine And.intro ?_ ?_ | exact True.intro | refine rq fun _ => ?_ | simp only [go_sem, k4, hg, j4, j5, j6, j7, j8, j9, treeQ28, zk, zn, zw, zs, form_eta, getD_map_lt, Tryd.f43])
  have e : partsM f = (0, [], zeroF, false) := by
    unfold partsM
    simp only [k4, k5, k6, k7, k8, k9, if_false]
  rw [e]
  clear e
  refine Wcall_K (N := 131) hm hY2 43000 (lst [1000004, 1000006, 1000008, 1000010, 1000012, 1000017, 1000019, 1000021, 1000023, 1000025, 1000027, 1000028]) ok43 Tryd.func43 rfl rfl (by simp) (by kernel_rfl) ?_
  repeat' (first | refine WK_drawV (id := 28) hm hY2 43000 (lst [1000004, 1000006, 1000008, 1000010, 1000012, 1000017, 1000019, 1000021, 1000023, 1000025, 1000027, 1000028]) treeQ28 (by kernel_rfl) (by kernel_rfl) ?_ | refine And.intro ?_ ?_ | exact True.intro | refine rq fun _ => ?_ | simp only [go_sem, k4, k5, k6, k7, k8, k9, treeQ28, zk, zn, zw, zs, form_eta, getD_map_lt, Tryd.f43])
end Go.Proofs.YtdlioodgfopmfaaDoor

namespace Go.Proofs.YtdlioodgfopmfaaDoor
open Go Go.Abs Go.Proofs

theorem usedM_nilY {f : Abs.Form} (h : (cst f []).isEmpty = true) : usedM f = [] := by
  cases hu : usedM f with
  | nil => rfl
  | cons x l =>
    have := (mem_usedM f x).1 (by rw [hu]; simp)
    rw [List.isEmpty_iff.1 h] at this
    simp at this
def Y4 : Tbl := Y3.add 76 (sp1 usedM brF)
attribute [go_sem] Y4
theorem hY4 : TblOk Tryd.prog GA Y4 := by
  refine sp1_ok ok76 hY3 fun f hp hw => ?_
  have hl := cst_len hp.ft []
  have hs := hp.s
  refine Wcall_post (f76 hw (by omega) (by omega)) ?_
  rintro d H n ⟨g, hg, rfl, ho⟩
  obtain ⟨U, hU⟩ : ∃ U, usedM f = U := ⟨_, rfl⟩
  have hn : (cst f []).isEmpty = true → U = [] := fun h => by rw [← hU]; exact usedM_nilY h
  rw [hU] at ho ⊢
  refine ⟨.fz (.sl (U.map enc)), H0, n, ?_, rfl⟩
  have e : H0 = hpL [] := rfl
  rw [e]
  refine Weak_g [] [] [((101024, g), U.map enc)] ?_ ?_ ?_ ?_ ?_ <;> simp only [go_sem, ho]
  intro h
  rw [hn h]; rfl
def occM (l : List Abs.Form) (name : Str) : Bool := l.any fun f => decide (name ∈ usedM f)
def Y5 : Tbl := Y4.add 51 (sp2 occM fun l _ => ∀ f ∈ l, brF f)
attribute [go_sem] Y5
theorem hY5 : TblOk Tryd.prog GA Y5 := by
  refine sp2_ok ok51 hY4 fun l name hbr hwl _ => ?_
  have hsl : l.length ≤ maxL := by
    have := Wf_sl hwl
    simpa using this
  unfold maxL at hsl
  have kb := Kp.mk hbr
  clear hbr hwl
  refine Wcall_K (N := 18) hm hY4 51000 (lst []) ok51 Tryd.func51 rfl rfl (by simp) (by kernel_rfl) ?_
  repeat' (first | refine And.intro ?_ ?_ | exact True.intro | refine rq fun _ => ?_ | simp only [go_sem, Tryd.f51])
  refine WK_loop hm hY4 51000 (lst []) (ι := LoopM l.length 0 fun i => (l.take i).any (fun f => decide (name ∈ usedM f)) = false)
    ⟨fun q => ⟨frL [(1, .fz (.s name.l)), (7, .fz (.sl (l.map enc))), (8, .fz (.i .i64 l.length)), (9, .fz (.i .i64 q.i))], hpL [], q.m⟩, fun q => l.length - q.i⟩
    ⟨0, 0, by omega, by omega, by simp⟩ (by kernel_rfl) ?_ ?_
  · refine Weak_to ?_ ?_ ?_ <;> simp only [go_sem]
    all_goals first | done | rfl | omega
  rintro ⟨i, m, hi, _, hp⟩
  try simp only at hi hp
  rcases Nat.lt_or_ge i l.length with h1 | h1
  · obtain ⟨x, hx⟩ : ∃ x, l[i] = x := ⟨_, rfl⟩
    have hxb : brF x := kb.out x (by rw [← hx]; exact List.getElem_mem h1)
    obtain ⟨U, hU⟩ : ∃ U, usedM x = U := ⟨_, rfl⟩
    by_cases hin : name ∈ U
    · have e : occM l name = true := by
        unfold occM
        rw [List.any_eq_true]
        exact ⟨l[i], List.getElem_mem _, by rw [hx, hU]; simpa using hin⟩
      rw [e]
      repeat' (first | refine ReqK.i hxb fun _ => ?_ | refine And.intro ?_ ?_ | exact True.intro | refine rq fun _ => ?_ | simp only [go_sem, h1, hx, hU, hin, getD_map_lt, str_eta, form_eta, Tryd.f51])
    · have hin' : (name ∈ U) = False := eq_false hin
      repeat' (first | refine ReqK.i hxb fun _ => ?_ | refine And.intro ?_ ?_ | exact True.intro | refine rq fun _ => ?_ | simp only [go_sem, h1, hx, hU, hin', getD_map_lt, str_eta, form_eta, Tryd.f51])
      refine ⟨⟨i + 1, m + 1, by omega, by omega, ?_⟩, by simp only; omega, ?_⟩
      · rw [List.take_succ_eq_append_getElem h1, List.any_append, hp, hx, List.any_cons, hU]; simp [hin]
      refine Weak_to ?_ ?_ ?_ <;> simp only [go_sem]
      all_goals first | done | rfl | omega
  obtain rfl : i = l.length := by omega
  rw [List.take_length] at hp
  have e : occM l name = false := hp
  rw [e]
  repeat' (first | refine And.intro ?_ ?_ | exact True.intro | refine rq fun _ => ?_ | simp only [go_sem, Nat.lt_irrefl, Tryd.f51])
structure RootI (c : List Bind) (w0 : Str) where
  w : Str
  i : Nat
  j : Nat
  hi : i ≤ c.length
  hj : j ≤ c.length
  hr : rootM c w = rootM c w0
  h1 : Kp (∀ k (hk : k < c.length), k < i → c[k].fr ≠ w)
  h2 : Kp (∀ k (hk : k < c.length), k < j → c[k].fr ≠ w)
def Y6 : Tbl := Y5.add 83 (sp2 rootM fun c _ => wfC c ∧ c.length ≤ 1000000)
attribute [go_sem] Y6
theorem hY6 : TblOk Tryd.prog GA Y6 := by
  refine sp2_ok ok83 hY5 fun c w0 hp _ _ => ?_
  obtain ⟨hwf, hcl⟩ := hp
  obtain ⟨R, hR⟩ : ∃ R, rootM c w0 = R := ⟨_, rfl⟩
  rw [hR]
  have kw := Kp.mk hwf
  clear hwf
  refine Wcall_K (N := 25) hm hY5 83000 (lst []) ok83 Tryd.func83 rfl rfl (by simp) (by kernel_rfl) ?_
  repeat' (first | refine And.intro ?_ ?_ | exact True.intro | refine rq fun _ => ?_ | simp only [go_sem, Tryd.f83])
  refine WK_loop hm hY5 83000 (lst []) (ι := RootI c w0)
    ⟨fun q => ⟨frL [(0, .fz (.sl (c.map enc))), (1, .fz (.s q.w.l)), (5, .fz (.i .i64 q.i))], hpL [], 0⟩, fun q => (c.length - q.j) * (c.length + 2) + (c.length - q.i)⟩
    ⟨w0, 0, 0, by omega, by omega, rfl, ⟨fun k hk h => absurd h (by omega)⟩, ⟨fun k hk h => absurd h (by omega)⟩⟩ (by kernel_rfl) ?_ ?_
  · refine Weak_to ?_ ?_ ?_ <;> simp only [go_sem]
    all_goals first | done | rfl | omega
  rintro ⟨w, i, j, hi, hj, hr, k1, k2⟩
  try simp only at hi hj hr
  rcases Nat.lt_or_ge i c.length with h6 | h6
  · obtain ⟨x, hx⟩ : ∃ x, c[i] = x := ⟨_, rfl⟩
    by_cases hm2 : x.fr = w
    · have hml : (x.fr.l = w.l) = True := eq_true (by rw [hm2])
      have hij : j ≤ i := by
        rcases Nat.lt_or_ge i j with h | h
        · exact absurd (by rw [hx]; exact hm2) (k2.out i h6 h)
        · exact h
      repeat' (first | refine And.intro ?_ ?_ | exact True.intro | refine rq fun _ => ?_ | simp only [go_sem, h6, hx, hml, getD_map_lt, str_eta, Tryd.f83])
      refine ⟨⟨x.to, 0, i + 1, by omega, by omega, ?_, ⟨fun k hk h => absurd h (by omega)⟩, ⟨fun k hk h => ?_⟩⟩, ?_, ?_⟩
      · have := rootM_jump kw.out h6
        rw [hx, hm2] at this
        rw [← this, hr]
      · rw [← hx]
        exact kw.out.t i k h6 hk (by omega)
      · simp only
        have a1 : (c.length - (i + 1)) + 1 ≤ c.length - j := by omega
        have a2 := Nat.mul_le_mul_right (c.length + 2) a1
        rw [Nat.succ_mul] at a2
        omega
      refine Weak_to ?_ ?_ ?_ <;> simp only [go_sem]
      all_goals first | done | rfl | omega
    · have hml : (x.fr.l = w.l) = False := eq_false fun h => hm2 (show (⟨x.fr.l⟩ : Str) = ⟨w.l⟩ by rw [h])
      repeat' (first | refine And.intro ?_ ?_ | exact True.intro | refine rq fun _ => ?_ | simp only [go_sem, h6, hx, hml, getD_map_lt, str_eta, Tryd.f83])
      refine ⟨⟨w, i + 1, j, by omega, by omega, hr, ⟨fun k hk h => ?_⟩, k2⟩, by simp only; omega, ?_⟩
      · rcases Nat.lt_or_ge k i with h7 | h7
        · exact k1.out k hk h7
        · obtain rfl : k = i := by omega
          rw [hx]; exact hm2
      refine Weak_to ?_ ?_ ?_ <;> simp only [go_sem]
      all_goals first | done | rfl | omega
  obtain rfl : i = c.length := by omega
  have hw : rootM c w = w := rootM_out fun l hl => by
    obtain ⟨k, hk, rfl⟩ := List.getElem_of_mem hl
    exact k1.out k hk hk
  have hwR : w = R := by rw [← hw, hr, hR]
  subst hwR
  repeat' (first | refine And.intro ?_ ?_ | exact True.intro | refine rq fun _ => ?_ | simp only [go_sem, Nat.lt_irrefl, str_eta, Tryd.f83])
end Go.Proofs.YtdlioodgfopmfaaDoor

namespace Go.Proofs.YtdlioodgfopmfaaDoor
open Go Go.Abs Go.Proofs

def Y7 : Tbl := Y6.add 46 (sp1 clsM fun l => (∀ f ∈ l, brF f) ∧ l.length ≤ 100000)
attribute [go_sem] Y7
set_option maxHeartbeats 4000000 in
theorem hY7 : TblOk Tryd.prog GA Y7 := by
  refine sp1_ok ok46 hY6 fun l hp _ => ?_
  obtain ⟨hbr, hsl⟩ := hp
  have kb := Kp.mk hbr
  clear hbr
  refine Wcall_K (N := 40) hm hY6 46000 (lsw [37] []) ok46 Tryd.func46 rfl rfl (by simp) (by kernel_rfl) ?_
  repeat' (first | refine And.intro ?_ ?_ | exact True.intro | refine rq fun _ => ?_ | simp only [go_sem, Tryd.f46])
  refine WK_loop hm hY6 46000 (lsw [37] []) (ι := LoopG l.length 1 fun _ => True)
    ⟨fun q => ⟨frL [(3, .ow (46037, q.g) 2 ((clsM (l.take q.i)).map enc)), (8, .fz (.sl (l.map enc))), (9, .fz (.i .i64 l.length)), (10, .fz (.i .i64 q.i))],
      hpL [((46037, q.g), some tok)], q.m⟩, fun q => l.length - q.i⟩
    ⟨0, 0, 1, by omega, by omega, by omega, trivial⟩ (by kernel_rfl) ?_ ?_
  · refine Weak_g [] [(46037, 0)] [] ?_ ?_ ?_ ?_ ?_ <;> simp only [go_sem, clsM]
    all_goals first | done | rfl | omega
  rintro ⟨i, g, m, hi, hg, hm1, _⟩
  try simp only at hi hg hm1
  rcases Nat.lt_or_ge i l.length with h1 | h1
  · obtain ⟨x, hx⟩ : ∃ x, l[i] = x := ⟨_, rfl⟩
    have hxb : brF x := kb.out x (by rw [← hx]; exact List.getElem_mem h1)
    have et : clsM (l.take (i + 1)) = lnk1 (clsM (l.take i)) x := by rw [List.take_succ_eq_append_getElem h1, clsM_snoc, hx]
    obtain ⟨hwf, hcl⟩ := cls_wf (l.take i)
    rw [List.length_take] at hcl
    obtain ⟨c, hc⟩ : ∃ c, clsM (l.take i) = c := ⟨_, rfl⟩
    rw [hc] at et hwf hcl
    have hcp : wfC c ∧ c.length ≤ 1000000 := ⟨hwf, by omega⟩
    by_cases hk : x.kind = 3
    · obtain ⟨a, b, hab⟩ : ∃ a b, x.words = [a, b] := by
        have h2 := (vok_eq.1 hxb.v).2.2.2.1 hk
        match h : x.words, h2 with
        | [a, b], _ => exact ⟨a, b, rfl⟩
      have el : lnk1 c x = if rootM c a = rootM c b then c else c ++ [⟨rootM c a, rootM c b⟩] := by
        unfold lnk1
        rw [if_neg (by simp [hk]), hab]; rfl
      rw [el] at et
      obtain ⟨ra, hra⟩ : ∃ r, rootM c a = r := ⟨_, rfl⟩
      obtain ⟨rb, hrb⟩ : ∃ r, rootM c b = r := ⟨_, rfl⟩
      rw [hra, hrb] at et
      clear el hwf hxb
      by_cases hab2 : ra = rb
      · rw [if_pos hab2] at et
        have hl : (ra.l = rb.l) = True := eq_true (by rw [hab2])
        repeat' (first | refine ReqK.i hcp fun _ => ?_ | refine And.intro ?_ ?_ | exact True.intro | refine rq fun _ => ?_ | simp only [go_sem, h1, hx, hc, hk, hab, hra, hrb, hl, getD_map_lt, str_eta, form_eta, Tryd.f46])
        refine ⟨⟨i + 1, g, m + 1, by omega, by omega, by omega, trivial⟩, by simp only; omega, ?_⟩
        refine Weak_to ?_ ?_ ?_ <;> simp only [go_sem, et]
        all_goals first | done | rfl | omega
      · rw [if_neg hab2] at et
        have hl : (ra.l = rb.l) = False := eq_false fun h => hab2 (show (⟨ra.l⟩ : Str) = ⟨rb.l⟩ by rw [h])
        repeat' (first | refine ReqK.i hcp fun _ => ?_ | refine rf fun _ => ?_ | refine And.intro ?_ ?_ | exact True.intro | refine rq fun _ => ?_ | simp only [go_sem, h1, hx, hc, hk, hab, hra, hrb, hl, getD_map_lt, str_eta, form_eta, Tryd.f46])
        refine ⟨⟨i + 1, m + 1, m + 2, by omega, by omega, by omega, trivial⟩, by simp only; omega, ?_⟩
        refine Weak_to ?_ ?_ ?_ <;> simp only [go_sem, et, List.map_append]
        all_goals first | done | rfl | omega
    · have el : lnk1 c x = c := by unfold lnk1; rw [if_pos hk]
      rw [el] at et
      repeat' (first | refine And.intro ?_ ?_ | exact True.intro | refine rq fun _ => ?_ | simp only [go_sem, h1, hx, hc, hk, getD_map_lt, str_eta, form_eta, Tryd.f46])
      refine ⟨⟨i + 1, g, m + 1, by omega, by omega, by omega, trivial⟩, by simp only; omega, ?_⟩
      refine Weak_to ?_ ?_ ?_ <;> simp only [go_sem, et]
      all_goals first | done | rfl | omega
  · obtain rfl : i = l.length := by omega
    repeat' (first | refine And.intro ?_ ?_ | exact True.intro | refine rq fun _ => ?_ | simp only [go_sem, Nat.lt_irrefl, List.take_length, Tryd.f46])
theorem f86 {c : List Bind} {a b : Str} {id : Abs.Id} {H : Heap} {n : Nat} {R : D → Heap → Nat → Prop} (_hid : id.2 < n) (ho : H id = some ⟨[.fz (.sl (c.map enc))], true, false⟩) (hc : wfC c ∧ c.length ≤ 1000000)
    (hR : ∀ n', n ≤ n' → R (.fz (.b (decide (rootM c a = rootM c b)))) H n') : Wcall Tryd.prog GA 86 [.fz (.s a.l), .fz (.s b.l), .ptr id 0] H n R := by
  refine Wcall_keep ok86 (fun hfr => ?_) hR
  obtain ⟨ra, hra⟩ : ∃ r, rootM c a = r := ⟨_, rfl⟩
  obtain ⟨rb, hrb⟩ : ∃ r, rootM c b = r := ⟨_, rfl⟩
  rw [hra, hrb]
  obtain ⟨Q, hQ⟩ : ∃ Q : D → Heap → Nat → Prop, Q = (fun d' H' n' => d' = .fz (.b (decide (ra = rb))) ∧ n ≤ n' ∧ ∀ id, id.2 < n → H' id = H id) := ⟨_, rfl⟩
  rw [← hQ]
  have e : H = hpX [] H := rfl
  rw [e]
  refine Wcall_K (N := 13) hm hY7 86000 (lst []) ok86 Tryd.func86 rfl rfl (by simp) (by kernel_rfl) ?_
  repeat' (first | refine ReqK.i hc fun _ => ?_ | refine And.intro ?_ ?_ | exact True.intro | refine rq fun _ => ?_ | simp only [go_sem, ho, hra, hrb, str_eta, hpX, Tryd.f86])
  all_goals
    rw [hQ]
    refine ⟨?_, by omega, fun id _ => rfl⟩
    by_cases h : ra = rb
    · simp [h]
    · have : ¬ ra.l = rb.l := fun e => h (show (⟨ra.l⟩ : Str) = ⟨rb.l⟩ by rw [e])
      simp [h, this]
set_option maxHeartbeats 4000000 in
theorem f85 {c : List Bind} {a b : List Str} {id : Abs.Id} {H : Heap} {n : Nat} {R : D → Heap → Nat → Prop} (hid : id.2 < n) (ho : H id = some ⟨[.fz (.sl (c.map enc))], true, false⟩) (hc : wfC c ∧ c.length ≤ 1000000) (hal : a.length ≤ 1000000)
    (hR : ∀ n', n ≤ n' → R (.fz (.b (decide (a.map (rootM c) = b.map (rootM c))))) H n') : Wcall Tryd.prog GA 85 [.fz (.sl (a.map enc)), .fz (.sl (b.map enc)), .fn 86 [.ptr id 0]] H n R := by
  refine Wcall_keep ok85 (fun hfr => ?_) hR
  obtain ⟨Q, hQ⟩ : ∃ Q : D → Heap → Nat → Prop, Q = (fun d' H' n' => d' = .fz (.b (decide (a.map (rootM c) = b.map (rootM c)))) ∧ n ≤ n' ∧ ∀ id, id.2 < n → H' id = H id) := ⟨_, rfl⟩
  rw [← hQ]
  have hf : a.map (rootM c) ≠ b.map (rootM c) → ∀ {n'}, n ≤ n' → Q (.fz (.b false)) H n' := fun h n' hn => by
    rw [hQ]; exact ⟨by rw [decide_eq_false h], hn, fun _ _ => rfl⟩
  have ht : a.map (rootM c) = b.map (rootM c) → ∀ {n'}, n ≤ n' → Q (.fz (.b true)) H n' := fun h n' hn => by
    rw [hQ]; exact ⟨by rw [decide_eq_true h], hn, fun _ _ => rfl⟩
  have kf := Kp.mk @hf
  have kt := Kp.mk @ht
  clear hf ht hQ
  have e : H = hpX [] H := rfl
  rw [e]
  refine Wcall_K (N := 32) hm hY7 85000 (lst []) ok85 Tryd.func85 rfl rfl (by simp) (by kernel_rfl) ?_
  by_cases hl : a.length = b.length
  rotate_left
  · have hl' : ((a.length : Int) = b.length) = False := eq_false (by omega)
    repeat' (first | refine And.intro ?_ ?_ | exact True.intro | refine rq fun _ => ?_ | simp only [go_sem, hl', Tryd.f85])
    all_goals exact kf.out (fun e => hl (by have := congrArg List.length e; simpa using this)) (Nat.le_refl _)
  have hl' : ((a.length : Int) = b.length) = True := eq_true (by omega)
  repeat' (first | refine And.intro ?_ ?_ | exact True.intro | refine rq fun _ => ?_ | simp only [go_sem, hl', Tryd.f85])
  refine WK_loop hm hY7 85000 (lst []) (ι := LoopM a.length n fun i => (a.take i).map (rootM c) = (b.take i).map (rootM c))
    ⟨fun q => ⟨frL [(1, .fz (.sl (b.map enc))), (2, .fn 86 [.ptr id 0]), (15, .fz (.sl (a.map enc))), (16, .fz (.i .i64 a.length)), (17, .fz (.i .i64 q.i))], hpX [] H, q.m⟩, fun q => a.length - q.i⟩
    ⟨0, n, by omega, Nat.le_refl _, rfl⟩ (by kernel_rfl) ?_ ?_
  · refine Weak_toX ?_ ?_ (fun id2 o2 ho2 => ?_) ?_
    · simp only [go_sem]
    · simp only [go_sem]
    · exact ho2
    · first | omega | (simp only [go_sem]; done) | (simp only [go_sem]; omega)
  rintro ⟨i, m, hi, hm1, hp⟩
  try simp only at hi hm1 hp
  rcases Nat.lt_or_ge i a.length with h1 | h1
  · have h2 : i < b.length := by omega
    obtain ⟨x, hx⟩ : ∃ x, a[i] = x := ⟨_, rfl⟩
    obtain ⟨y, hy⟩ : ∃ y, b[i] = y := ⟨_, rfl⟩
    by_cases hxy : rootM c x = rootM c y
    · have hd : decide (rootM c x = rootM c y) = true := decide_eq_true hxy
      repeat' (first | refine WcallK.i (f86 (c := c) (a := x) (b := y) (by omega) ho hc fun n' hn' => ?_) | refine And.intro ?_ ?_ | exact True.intro | refine rq fun _ => ?_ | simp only [go_sem, h1, h2, hx, hy, hd, getD_map_lt, Tryd.f85])
      all_goals
        refine ⟨⟨i + 1, n', by omega, by omega, ?_⟩, by simp only; omega, ?_⟩
        · rw [List.take_succ_eq_append_getElem h1, List.take_succ_eq_append_getElem h2, List.map_append, List.map_append, hp, hx, hy, List.map_cons, List.map_cons, hxy]
        refine Weak_toX ?_ ?_ (fun id2 o2 ho2 => ?_) ?_
        · simp only [go_sem]
        · simp only [go_sem]
        · exact ho2
        · first | omega | (simp only [go_sem]; done) | (simp only [go_sem]; omega)
    · have hd : decide (rootM c x = rootM c y) = false := decide_eq_false hxy
      repeat' (first | refine WcallK.i (f86 (c := c) (a := x) (b := y) (by omega) ho hc fun n' hn' => ?_) | refine And.intro ?_ ?_ | exact True.intro | refine rq fun _ => ?_ | simp only [go_sem, h1, h2, hx, hy, hd, getD_map_lt, Tryd.f85])
      all_goals
        refine kf.out (fun e => hxy ?_) (by omega)
        have := congrArg (fun l => l[i]?) e
        simp only [List.getElem?_map, List.getElem?_eq_getElem h1, List.getElem?_eq_getElem h2, hx, hy, Option.map_some, Option.some.injEq] at this
        exact this
  · obtain rfl : i = a.length := by omega
    have h1' : ¬ a.length < a.length := by omega
    repeat' (first | refine And.intro ?_ ?_ | exact True.intro | refine rq fun _ => ?_ | simp only [go_sem, Nat.lt_irrefl, h1', Tryd.f85])
    all_goals
      refine kt.out ?_ (by omega)
      rw [List.take_length, hl, List.take_length] at hp
      exact hp
end Go.Proofs.YtdlioodgfopmfaaDoor

namespace Go.Proofs.YtdlioodgfopmfaaDoor
open Go Go.Abs Go.Proofs

def Y8 : Tbl := Y7.add 48 (sp3 alikM fun c f _ => (wfC c ∧ c.length ≤ 1000000) ∧ f.fit = true)
attribute [go_sem] Y8
theorem hY8 : TblOk Tryd.prog GA Y8 := by
  refine sp3_ok ok48 hY7 fun c f g hp _ _ _ => ?_
  obtain ⟨hcw, hff⟩ := hp
  have hfw : f.words.length ≤ 1000000 := by have := (Form.fit_eq hff).1; omega
  clear hff
  by_cases k1 : f.kind = 2
  rotate_left
  · have e : alikM c f g = false := by unfold alikM; simp [k1]
    rw [e]
    refine Wcall_K (N := 28) hm hY7 48000 (lst []) ok48 Tryd.func48 rfl rfl (by simp) (by kernel_rfl) ?_
    repeat' (first | refine And.intro ?_ ?_ | exact True.intro | refine rq fun _ => ?_ | simp only [go_sem, k1, str_eta, form_eta, Tryd.f48])
  by_cases k2 : g.kind = 2
  rotate_left
  · have e : alikM c f g = false := by unfold alikM; simp [k2]
    rw [e]
    refine Wcall_K (N := 28) hm hY7 48000 (lst []) ok48 Tryd.func48 rfl rfl (by simp) (by kernel_rfl) ?_
    repeat' (first | refine And.intro ?_ ?_ | exact True.intro | refine rq fun _ => ?_ | simp only [go_sem, k1, k2, str_eta, form_eta, Tryd.f48])
  by_cases k3 : f.name = g.name
  rotate_left
  · have e : alikM c f g = false := by unfold alikM; simp [k3]
    have k3' : (f.name.l = g.name.l) = False := eq_false fun h => k3 (show (⟨f.name.l⟩ : Str) = ⟨g.name.l⟩ by rw [h])
    rw [e]
    refine Wcall_K (N := 28) hm hY7 48000 (lst []) ok48 Tryd.func48 rfl rfl (by simp) (by kernel_rfl) ?_
    repeat' (first | refine And.intro ?_ ?_ | exact True.intro | refine rq fun _ => ?_ | simp only [go_sem, k1, k2, k3', str_eta, form_eta, Tryd.f48])
  have k3' : (f.name.l = g.name.l) = True := eq_true (by rw [k3])
  have e : alikM c f g = decide (f.words.map (rootM c) = g.words.map (rootM c)) := by unfold alikM; simp [k1, k2, k3]
  rw [e]
  obtain ⟨b, hb⟩ : ∃ b, decide (f.words.map (rootM c) = g.words.map (rootM c)) = b := ⟨_, rfl⟩
  rw [hb]
  refine Wcall_K (N := 28) hm hY7 48000 (lst []) ok48 Tryd.func48 rfl rfl (by simp) (by kernel_rfl) ?_
  repeat' (first | refine WcallK.i (f85 (c := c) (a := f.words) (b := g.words) (by simp only; omega) (by simp only [go_sem]) hcw hfw fun n' hn' => ?_) | refine And.intro ?_ ?_ | exact True.intro | refine rq fun _ => ?_ | simp only [go_sem, k1, k2, k3', hb, str_eta, form_eta, Tryd.f48])
def conPreY (c : List Bind) (f : Abs.Form) : Prop := (wfC c ∧ c.length ≤ 1000000) ∧ brF f
def Y9 : Tbl := Y8.add 45 (sp2 conM conPreY)
attribute [go_sem] Y9
theorem hY9 : TblOk Tryd.prog GA Y9 := by
  refine sp2_ok ok45 hY8 fun c f hp _ _ => ?_
  obtain ⟨hcw, hbr⟩ := hp
  by_cases k1 : f.kind = 4
  rotate_left
  · have e : conM c f = false := by unfold conM; simp [k1]
    rw [e]
    refine Wcall_K (N := 36) hm hY8 45000 (lst []) ok45 Tryd.func45 rfl rfl (by simp) (by kernel_rfl) ?_
    repeat' (first | refine And.intro ?_ ?_ | exact True.intro | refine rq fun _ => ?_ | simp only [go_sem, k1, str_eta, form_eta, Tryd.f45])
  obtain ⟨g, hg, s0, hbg⟩ := br_one hbr (.inl k1)
  by_cases k2 : g.kind = 1
  · have e : conM c f = true := by unfold conM; rw [s0]; simp [k1, k2]
    rw [e]
    refine Wcall_K (N := 36) hm hY8 45000 (lst []) ok45 Tryd.func45 rfl rfl (by simp) (by kernel_rfl) ?_
    repeat' (first | refine And.intro ?_ ?_ | exact True.intro | refine rq fun _ => ?_ | simp only [go_sem, k1, hg, k2, str_eta, form_eta, Tryd.f45])
  by_cases k3 : g.kind = 3
  rotate_left
  · have e : conM c f = false := by unfold conM; rw [s0]; simp [k1, k2, k3]
    rw [e]
    refine Wcall_K (N := 36) hm hY8 45000 (lst []) ok45 Tryd.func45 rfl rfl (by simp) (by kernel_rfl) ?_
    repeat' (first | refine And.intro ?_ ?_ | exact True.intro | refine rq fun _ => ?_ | simp only [go_sem, k1, hg, k2, k3, str_eta, form_eta, Tryd.f45])
  obtain ⟨a, b, hab⟩ : ∃ a b, g.words = [a, b] := by
    have h2 := (vok_eq.1 hbg.v).2.2.2.1 k3
    match h : g.words, h2 with
    | [a, b], _ => exact ⟨a, b, rfl⟩
  have e : conM c f = decide (rootM c a = rootM c b) := by unfold conM; rw [s0, hab]; simp [k1, k3]
  rw [e]
  obtain ⟨ra, hra⟩ : ∃ r, rootM c a = r := ⟨_, rfl⟩
  obtain ⟨rb, hrb⟩ : ∃ r, rootM c b = r := ⟨_, rfl⟩
  rw [hra, hrb]
  refine Wcall_K (N := 36) hm hY8 45000 (lst []) ok45 Tryd.func45 rfl rfl (by simp) (by kernel_rfl) ?_
  by_cases hr : ra = rb
  · have hl : (ra.l = rb.l) = True := eq_true (by rw [hr])
    rw [decide_eq_true hr]
    repeat' (first | refine ReqK.i hcw fun _ => ?_ | refine And.intro ?_ ?_ | exact True.intro | refine rq fun _ => ?_ | simp only [go_sem, k1, hg, k3, hab, hra, hrb, hl, str_eta, form_eta, Tryd.f45])
  · have hl : (ra.l = rb.l) = False := eq_false fun h => hr (show (⟨ra.l⟩ : Str) = ⟨rb.l⟩ by rw [h])
    rw [decide_eq_false hr]
    repeat' (first | refine ReqK.i hcw fun _ => ?_ | refine And.intro ?_ ?_ | exact True.intro | refine rq fun _ => ?_ | simp only [go_sem, k1, hg, k3, hab, hra, hrb, hl, str_eta, form_eta, Tryd.f45])
end Go.Proofs.YtdlioodgfopmfaaDoor
