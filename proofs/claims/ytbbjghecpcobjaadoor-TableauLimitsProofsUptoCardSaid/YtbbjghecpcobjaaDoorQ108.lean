import Derived.Test.YtbbjghecpcobjaaDoorAT
import Derived.Test.YtbbjghecpcobjaaDoorQ107
set_option linter.unusedSimpArgs false
namespace Go.Proofs.YtbbjghecpcobjaaDoor
open Go Go.Abs Go.Proofs

/-! ## Check, of the law's proofs -/
def ckS (_ : List Abs.Form) (_ : Abs.Form) (p : Prf) : Bool × Fault := if 2000 < cntK p 0 then (false, ⟨1, -3⟩) else (decide (p.kind = 1), ⟨0, 0⟩)
def ckPre (ax : List Abs.Form) (g : Abs.Form) (p : Prf) : Prop := g.kind = 2 ∧ ax = [g] ∧ (checkM false g).code = 0 ∧ canonM g [] = g ∧ p.form = 0 ∧ ((p.kind = 1 ∧ p.other = 1 ∧ p.subs = []) ∨ p.kind = 3)
def N8 : Tbl := N7.add 15 (sp3p ckS ckPre)
attribute [go_sem] N8
set_option maxRecDepth 100000 in
set_option maxHeartbeats 1000000 in
set_option maxHeartbeats 4000000 in
theorem hN8 : TblOk Tryd.prog GA N8 := by
  refine sp3p_ok ok15 hN7 fun ax g p hpre _ _ _ => ?_
  obtain ⟨hk, rfl, hc, hcan, hpf, hpk⟩ := hpre
  have hfit : g.fit = true ∧ g.size ≤ 900 := ⟨checkM_fit hc, by have := checkM_size hc; omega⟩
  have hchk : chkPre [g, negM g] p := ⟨g, hk, rfl, hfit, hpf, hpk⟩
  have hcn : (0 : Int) ≤ 0 ∧ (0 : Int) ≤ 2000 := by decide
  have hb : beginP [g] g = ([g, negM g], ⟨0, 0⟩) := by
    unfold beginP
    rw [if_neg (by simp), badA_zero [g] 0 (by simpa using hc), if_neg (by decide), if_neg (by simp [hc])]
    unfold canL
    rw [List.map_cons, List.map_nil, hcan]; rfl
  obtain ⟨n, hn⟩ : ∃ n, negM g = n := ⟨_, rfl⟩
  rw [hn] at hb hchk
  obtain ⟨c, hcc⟩ : ∃ c, cntK p 0 = c := ⟨_, rfl⟩
  have hbd : c ≤ 2001 := by rw [← hcc]; exact (cntK_le p 0 (by decide)).2
  have hb0 : 1 ≤ c := by rw [← hcc]; have := (cntK_le p 0 (by decide)).1; omega
  have dP : chkS [g, n] p = decide (p.kind = 1) := rfl
  refine Wcall_K (N := 28) hm hN7 15000 (lst [1000003]) ok15 Tryd.func15 rfl rfl (by simp) (by kernel_rfl) ?_
  by_cases h : 2000 < c
  · have e : ckS [g] g p = (false, ⟨1, -3⟩) := by unfold ckS; rw [hcc, if_pos h]
    rw [e]
    repeat' (first | refine ReqK.i hchk fun _ => ?_ | refine ReqK.i hcn fun _ => ?_ | refine And.intro ?_ ?_ | exact True.intro | refine rq fun _ => ?_ | simp only [go_sem, hb, hcc, h, form_eta, prf_eta, Tryd.f15])
  · have e : ckS [g] g p = (decide (p.kind = 1), ⟨0, 0⟩) := by unfold ckS; rw [hcc, if_neg h]
    rw [e]
    repeat' (first | refine ReqK.i hchk fun _ => ?_ | refine ReqK.i hcn fun _ => ?_ | refine And.intro ?_ ?_ | exact True.intro | refine rq fun _ => ?_ | simp only [go_sem, hb, hcc, h, dP, form_eta, prf_eta, Tryd.f15])
/-! ## the law TableauLimitsProofs -/
def sDT : Str := ⟨[100, 111, 103]⟩
def sKT : Str := ⟨[107, 105, 109]⟩
def fDT : Abs.Form := predM sDT [sKT]
theorem canT : canonM fDT [] = fDT := by
  unfold canonM fDT predM
  rw [ren, if_neg (by decide), rens]
  rfl
def stp : Nat → Int
  | 0 => 1
  | k + 1 => 2 * stp k + 1
theorem stp_eq : ∀ k : Nat, stp k = 2 ^ (k + 1) - 1
  | 0 => rfl
  | k + 1 => by rw [stp, stp_eq k, Int.pow_succ 2 (k + 1)]; omega
theorem stp_le : ∀ k : Nat, k ≤ 16 → 1 ≤ stp k ∧ stp k ≤ 131071 := by decide
theorem ckS_tree (ax : List Abs.Form) (g : Abs.Form) (k : Nat) : ckS ax g (treeP k) = if 2000 < stp k then (false, ⟨1, -3⟩) else (decide (k = 0), ⟨0, 0⟩) := by
  obtain ⟨h1, h2⟩ := treeP_cnt k 0 (2 ^ (k + 1)) rfl (by decide)
  have e := stp_eq k
  have hk : decide ((treeP k).kind = 1) = decide (k = 0) := by cases k <;> rfl
  unfold ckS
  rw [hk]
  by_cases h : 2000 < stp k
  · rw [if_pos h, if_pos (h2 (by omega))]
  · rw [if_neg h, h1 (by omega), if_neg (by omega)]
theorem treeP_pre (k : Nat) : (treeP k).form = 0 ∧ (((treeP k).kind = 1 ∧ (treeP k).other = 1 ∧ (treeP k).subs = []) ∨ (treeP k).kind = 3) := by
  cases k with
  | zero => exact ⟨rfl, .inl ⟨rfl, rfl, rfl⟩⟩
  | succ k => exact ⟨rfl, .inr rfl⟩
set_option maxRecDepth 100000 in
set_option maxHeartbeats 1000000 in
set_option maxHeartbeats 8000000 in
theorem lawLimits (hT : TblOk Tryd.prog GA N8) (n : Int) (_ : (enc n).Wf) : Wcall Tryd.prog GA 5 [.fz (enc n)] (hpL []) 0 (fun d _ _ => d = .fz (.b true)) := by
  have dD : Str.mk [100, 111, 103] = sDT := rfl
  have dK : Str.mk [107, 105, 109] = sKT := rfl
  have dF : predM sDT [sKT] = fDT := rfl
  have kF : fDT.kind = 2 := rfl
  have eF : Abs.Form.mk 2 fDT.name fDT.words fDT.subs = fDT := rfl
  have hcv : (checkM false fDT).code = 0 := by kernel_rfl
  have hpre : ∀ k, ckPre [fDT] fDT (treeP k) := fun k => ⟨rfl, rfl, hcv, canT, (treeP_pre k).1, (treeP_pre k).2⟩
  have hpre0 : ckPre [fDT] fDT (.mk 1 0 1 ⟨[]⟩ []) := hpre 0
  have c0 : ckS [fDT] fDT (.mk 1 0 1 ⟨[]⟩ []) = (true, ⟨0, 0⟩) := ckS_tree [fDT] fDT 0
  refine Wcall_K (N := 73) hm hT 5000 (lst []) ok5 Tryd.func5 rfl rfl (by simp) (by kernel_rfl) ?_
  by_cases h1 : n < 0
  · repeat' (first | refine ReqK.i hpre0 fun _ => ?_ | refine And.intro ?_ ?_ | exact True.intro | refine rq fun _ => ?_ | simp only [go_sem, dD, dK, dF, kF, eF, c0, h1, GA, str_eta, form_eta, prf_eta, Tryd.f5])
  by_cases h2 : 16 < n
  · repeat' (first | refine ReqK.i hpre0 fun _ => ?_ | refine And.intro ?_ ?_ | exact True.intro | refine rq fun _ => ?_ | simp only [go_sem, dD, dK, dF, kF, eF, c0, h1, h2, GA, str_eta, form_eta, prf_eta, Tryd.f5])
  obtain ⟨L, rfl⟩ : ∃ L : Nat, n = (L : Int) := ⟨n.toNat, by omega⟩
  have hL : L ≤ 16 := by omega
  repeat' (first | refine ReqK.i hpre0 fun _ => ?_ | refine And.intro ?_ ?_ | exact True.intro | refine rq fun _ => ?_ | simp only [go_sem, dD, dK, dF, kF, eF, c0, h1, h2, GA, str_eta, form_eta, prf_eta, Tryd.f5])
  refine WK_loop hm hT 5000 (lst []) (ι := LoopM L 3 fun _ => True)
    ⟨fun q => ⟨frL [(0, .fz (.i .i64 L)), (3, .ptr (5003, 0) 0), (4, .ptr (5004, 1) 0), (7, .fz (.i .i64 (stp q.i))), (8, .fz (.i .i64 q.i))],
      hpL [((5003, 0), some ⟨[.fz (.i .i64 2), .fz (.s fDT.name.l), .fz (.sl (fDT.words.map enc)), .fz (.sl (fDT.subs.map enc))], true, false⟩),
        ((5004, 1), some ⟨[.fz (.i .i64 (treeP q.i).kind), .fz (.i .i64 (treeP q.i).form), .fz (.i .i64 (treeP q.i).other), .fz (.s (treeP q.i).name.l), .fz (.sl ((treeP q.i).subs.map enc))], true, false⟩)], q.m⟩, fun q => L - q.i⟩
    ⟨0, 3, by omega, by omega, trivial⟩ (by kernel_rfl) ?_ ?_
  · refine Weak_g [] [] [] ?_ ?_ ?_ ?_ ?_ <;> simp only [go_sem, treeP, stp]
    all_goals first | done | rfl | omega | trace_state
  rintro ⟨i, q, hi, hq, _⟩
  try simp only at hi hq
  have hst := stp_le i (by omega)
  rcases Nat.lt_or_ge i L with h6 | h6
  · have h6' : ((i : Int) < L) = True := eq_true (by omega)
    obtain ⟨st, hs⟩ : ∃ st, stp i = st := ⟨_, rfl⟩
    rw [hs] at hst
    obtain ⟨t, ht⟩ : ∃ t, treeP i = t := ⟨_, rfl⟩
    have hs2 : stp (i + 1) = 2 * st + 1 := by rw [stp, hs]
    have ht2 : treeP (i + 1) = .mk 3 0 0 ⟨[]⟩ [t, t] := by rw [treeP, ht]
    repeat' (first | refine And.intro ?_ ?_ | exact True.intro | refine rq fun _ => ?_ | simp only [go_sem, h6', hs, ht, GA, str_eta, form_eta, prf_eta, Tryd.f5])
    refine ⟨⟨i + 1, q, by omega, by omega, trivial⟩, by simp only; omega, ?_⟩
    refine Weak_g [] [] [] ?_ ?_ ?_ ?_ ?_ <;> simp only [go_sem, hs2, ht2]
    all_goals first | done | rfl | omega | trace_state
  obtain rfl : i = L := by omega
  have hpT := hpre i
  have cT := ckS_tree [fDT] fDT i
  obtain ⟨st, hs⟩ : ∃ st, stp i = st := ⟨_, rfl⟩
  rw [hs] at hst cT
  obtain ⟨t, ht⟩ : ∃ t, treeP i = t := ⟨_, rfl⟩
  rw [ht] at hpT cT
  by_cases h7 : 2000 < st
  · rw [if_pos h7] at cT
    repeat' (first | refine ReqK.i hpT fun _ => ?_ | refine And.intro ?_ ?_ | exact True.intro | refine rq fun _ => ?_ | simp only [go_sem, Int.lt_irrefl, hs, ht, cT, h7, eF, kF, GA, str_eta, form_eta, prf_eta, Tryd.f5])
  · rw [if_neg h7] at cT
    repeat' (first | refine ReqK.i hpT fun _ => ?_ | refine And.intro ?_ ?_ | exact True.intro | refine rq fun _ => ?_ | simp only [go_sem, Int.lt_irrefl, hs, ht, cT, h7, eF, kF, GA, str_eta, form_eta, prf_eta, Tryd.f5])
    have e0 : ((i : Int) = 0) = (i = 0) := by simp
    simp [e0]
end Go.Proofs.YtbbjghecpcobjaaDoor
