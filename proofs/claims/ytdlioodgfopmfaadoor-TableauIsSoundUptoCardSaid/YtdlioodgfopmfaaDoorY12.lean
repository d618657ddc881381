/- several texts of this proof in one; no conditions -/
import Derived.Test.YtdlioodgfopmfaaDoorAT
import Derived.Test.YtdlioodgfopmfaaDoorQ135
import Derived.Test.YtdlioodgfopmfaaDoorQ115B
import Derived.Test.YtdlioodgfopmfaaDoorY13
set_option maxRecDepth 100000
set_option maxHeartbeats 1000000
set_option linter.unusedSimpArgs false
namespace Go.Proofs.YtdlioodgfopmfaaDoor
open Go Go.Abs Go.Proofs

section
variable {P : Program} {G : Nat → List FD} {T : Tbl}
def sp3t {α β γ ρ σ τ : Type} [Enc α] [Enc β] [Enc γ] [Enc ρ] [Enc σ] [Enc τ] (f : α → β → γ → ρ × σ × τ) (pre : α → β → γ → Prop) : List FD → Option (D × Prop)
  | [x, y, z] => some (.tup [.fz (enc (f (dec x) (dec y) (dec z)).1), .fz (enc (f (dec x) (dec y) (dec z)).2.1), .fz (enc (f (dec x) (dec y) (dec z)).2.2)], x = enc (dec (α := α) x) ∧ y = enc (dec (α := β) y) ∧ z = enc (dec (α := γ) z) ∧ pre (dec x) (dec y) (dec z))
  | _ => none
@[go_sem] theorem k_sp3t {α β γ ρ σ τ : Type} [Enc α] [Enc β] [Enc γ] [Enc ρ] [Enc σ] [Enc τ] {f : α → β → γ → ρ × σ × τ} {pre : α → β → γ → Prop} {x y z : FD} : sp3t f pre [x, y, z] = some (.tup [.fz (enc (f (dec x) (dec y) (dec z)).1), .fz (enc (f (dec x) (dec y) (dec z)).2.1), .fz (enc (f (dec x) (dec y) (dec z)).2.2)], x = enc (dec (α := α) x) ∧ y = enc (dec (α := β) y) ∧ z = enc (dec (α := γ) z) ∧ pre (dec x) (dec y) (dec z)) := rfl
theorem sp3t_ok {α β γ ρ σ τ : Type} [Enc α] [Enc β] [Enc γ] [Enc ρ] [Enc σ] [Enc τ] {f : FuncId} {g : α → β → γ → ρ × σ × τ} {pre : α → β → γ → Prop} (hc : CallOk P f) (hT : TblOk P G T)
    (h : ∀ a b c, pre a b c → (enc a).Wf → (enc b).Wf → (enc c).Wf → Wcall P G f [.fz (enc a), .fz (enc b), .fz (enc c)] (hpL []) 0 (fun d _ _ => D.val d = some (.tup [.fz (enc (g a b c).1), .fz (enc (g a b c).2.1), .fz (enc (g a b c).2.2)]))) : TblOk P G (T.add f (sp3t g pre)) := by
  refine TblOk_add hT fun xs r c hx hcc => ?_
  unfold sp3t at hx
  split at hx
  · rename_i x y z
    simp only [Option.some.injEq, Prod.mk.injEq] at hx
    obtain ⟨rfl, rfl⟩ := hx
    obtain ⟨e, e2, e3, hp⟩ := hcc
    refine Wcall_wf hc fun hw => ?_
    rw [H0_eq]
    have := h (dec x) (dec y) (dec z) hp (by rw [← e]; exact hw x (by simp)) (by rw [← e2]; exact hw y (by simp)) (by rw [← e3]; exact hw z (by simp))
    rw [← e, ← e2, ← e3] at this
    exact this
  · cases hx
end
theorem runAll (uses : Int) : ∀ n : Nat, runP uses (runM uses n) n
  | 0 => fun b a h hn => by have := h.a1; omega
  | n + 1 => by
    have h := runStep (runAll uses n) fun b a ha => runM_added n b a ha
    have e : runM uses (n + 1) = stepM (runM uses n) uses := by funext b a; rw [runM]
    rw [e]
    exact h
def brnZ : Brn := ⟨[], [], [], 0⟩
def runZ (ax : List Abs.Form) (g : Abs.Form) (uses : Int) : Res := runM uses 301 (addB brnZ (branch1 ax g)) 0
def proveM (ax : List Abs.Form) (g : Abs.Form) (uses : Int) : Prf × Bool × Fault :=
  if (beginP ax g).2.code ≠ 0 then (zeroP, false, (beginP ax g).2)
  else if uses < 0 ∨ 5 < uses then (zeroP, false, ⟨3, -3⟩)
  else if (runZ ax g uses).lim = true then (zeroP, false, ⟨17, -3⟩)
  else if (runZ ax g uses).ok = false then (zeroP, false, ⟨0, 0⟩)
  else ((runZ ax g uses).p, true, ⟨0, 0⟩)
def treeP3 : Tv := (.q 0 (.br [(1, (.br [(2, (.q 3 (.br [(4, .leaf)])))])), (2, (.q 1 (.q 3 (.br [(4, .leaf)]))))]))
def Z4 : Tbl := Z3.add 13 (sp3t proveM fun _ _ _ => True)
attribute [go_sem] Z4
set_option maxHeartbeats 4000000 in
theorem hZ4 : TblOk Tryd.prog GA Z4 := by
  refine sp3t_ok ok13 hZ3 fun ax g uses _ _ _ _ => ?_
  obtain ⟨V, hV⟩ : ∃ V, proveM ax g uses = V := ⟨_, rfl⟩
  rw [hV]
  unfold proveM at hV
  obtain ⟨Q, hQ⟩ : ∃ Q : D → Heap → Nat → Prop, Q = (fun d _ _ => D.val d = some (.tup [.fz (enc V.1), .fz (enc V.2.1), .fz (enc V.2.2)])) := ⟨_, rfl⟩
  rw [← hQ]
  have kq := Kp.mk hQ
  clear hQ
  refine Wcall_K (N := 55) hm hZ3 13000 (lst [1000003]) ok13 Tryd.func13 rfl rfl (by simp) (by kernel_rfl) ?_
  by_cases h0 : (beginP ax g).2.code = 0
  rotate_left
  · rw [if_pos h0] at hV
    obtain ⟨bl, bf, hb⟩ : ∃ l f, beginP ax g = (l, f) := ⟨_, _, rfl⟩
    rw [hb] at h0 hV
    simp only at h0 hV
    have h0' : (bf.code = 0) = False := eq_false h0
    repeat' (first | refine WK_drawV (id := 3) hm hZ3 13000 (lst [1000003]) treeP3 (by kernel_rfl) (by kernel_rfl) ?_ | refine And.intro ?_ ?_ | exact True.intro | refine rq fun _ => ?_ | refine rf fun _ => ?_ | simp only [go_sem, treeP3, hb, h0', form_eta, Tryd.f13])
    all_goals (
      rw [kq.out, ← hV]
      simp only [go_sem, enc_prf, zeroP])
  rw [if_neg (by simp [h0])] at hV
  obtain ⟨hb, hlen, hva, hvg⟩ := begin_ok h0
  by_cases hu : uses < 0 ∨ 5 < uses
  · rw [if_pos hu] at hV
    by_cases hu1 : uses < 0
    · have hu1' : (uses < 0) = True := eq_true hu1
      repeat' (first | refine And.intro ?_ ?_ | exact True.intro | refine rq fun _ => ?_ | refine rf fun _ => ?_ | simp only [go_sem, hb, hu1', form_eta, Tryd.f13])
      all_goals (
        rw [kq.out, ← hV]
        simp only [go_sem, enc_prf, zeroP])
    · have hu1' : (uses < 0) = False := eq_false hu1
      have hu2' : (5 < uses) = True := eq_true (by omega)
      repeat' (first | refine And.intro ?_ ?_ | exact True.intro | refine rq fun _ => ?_ | refine rf fun _ => ?_ | simp only [go_sem, hb, hu1', hu2', form_eta, Tryd.f13])
      all_goals (
        rw [kq.out, ← hV]
        simp only [go_sem, enc_prf, zeroP])
  rw [if_neg hu] at hV
  have hu1' : (uses < 0) = False := eq_false (by omega)
  have hu2' : (5 < uses) = False := eq_false (by omega)
  have hbl : (branch1 ax g).length = ax.length + 1 := by unfold branch1 canL; simp
  obtain ⟨B, hB⟩ : ∃ B, branch1 ax g = B := ⟨_, rfl⟩
  have hbb : ∀ f ∈ B, brF f := by rw [← hB]; exact branch1_br hva hvg
  obtain ⟨B', hB'⟩ : ∃ B', addB brnZ B = B' := ⟨_, rfl⟩
  have hr0 : runZ ax g uses = runM uses 301 B' 0 := by unfold runZ; rw [hB, hB']
  rw [hB] at hb hbl
  have hok : RunOk uses B' 0 := by
    rw [← hB']
    refine ⟨fun f hf => hbb f (by simpa [addB, brnZ] using hf), ?_, ?_, ?_, fun s hs => ?_, ?_, ?_, by omega, by omega, by omega⟩
    · show ((brnZ.list ++ B).length : Int) ≤ _
      unfold brnZ; simp only [List.nil_append]; omega
    · show (brnZ.used ++ List.replicate B.length false).length = (brnZ.list ++ B).length
      unfold brnZ; simp
    · show (brnZ.seen ++ List.replicate B.length []).length = (brnZ.list ++ B).length
      unfold brnZ; simp
    · have h2 : s ∈ brnZ.seen ++ List.replicate B.length [] := hs
      unfold brnZ at h2
      simp only [List.nil_append] at h2
      rw [(List.mem_replicate.1 h2).2]; simp
    · show (0 : Int) ≤ brnZ.rounds; exact Int.le_refl _
    · show brnZ.rounds ≤ uses; unfold brnZ; simp only; omega
  have hrun := runAll uses 301 B' 0 hok (by omega)
  obtain ⟨r, hr⟩ : ∃ r, runM uses 301 B' 0 = r := ⟨_, rfl⟩
  rw [hr] at hrun
  rw [hr0, hr] at hV
  cases hl : r.lim with
  | true =>
    rw [if_pos hl] at hV
    repeat' (first | (refine WcallK.i (addP (b := brnZ) (fs := B) ⟨by unfold brnZ; simp, by unfold brnZ; simp, by unfold brnZ; simp, by omega⟩ (fun s hs => by unfold brnZ at hs; simp at hs) rfl ?_); rw [hB']) | refine WcallK.i (Wcall_cell (T := 7) (xs := [enc B']) (cs := [.i .i64 uses, .i .i64 0]) rfl hrun (by simp only [go_sem]) ?_) | refine And.intro ?_ ?_ | exact True.intro | refine rq fun _ => ?_ | refine rf fun _ => ?_ | simp only [go_sem, hb, hu1', hu2', hl, form_eta, brn_eta, Tryd.f13])
    all_goals (
      rw [kq.out, ← hV]
      simp only [go_sem, enc_prf, zeroP])
  | false =>
    rw [if_neg (by simp [hl])] at hV
    cases hk : r.ok with
    | false =>
      rw [if_pos hk] at hV
      repeat' (first | (refine WcallK.i (addP (b := brnZ) (fs := B) ⟨by unfold brnZ; simp, by unfold brnZ; simp, by unfold brnZ; simp, by omega⟩ (fun s hs => by unfold brnZ at hs; simp at hs) rfl ?_); rw [hB']) | refine WcallK.i (Wcall_cell (T := 7) (xs := [enc B']) (cs := [.i .i64 uses, .i .i64 0]) rfl hrun (by simp only [go_sem]) ?_) | refine And.intro ?_ ?_ | exact True.intro | refine rq fun _ => ?_ | refine rf fun _ => ?_ | simp only [go_sem, hb, hu1', hu2', hl, hk, form_eta, brn_eta, Tryd.f13])
      all_goals (
        rw [kq.out, ← hV]
        simp only [go_sem, enc_prf, zeroP])
    | true =>
      rw [if_neg (by simp [hk])] at hV
      repeat' (first | (refine WcallK.i (addP (b := brnZ) (fs := B) ⟨by unfold brnZ; simp, by unfold brnZ; simp, by unfold brnZ; simp, by omega⟩ (fun s hs => by unfold brnZ at hs; simp at hs) rfl ?_); rw [hB']) | refine WcallK.i (Wcall_cell (T := 7) (xs := [enc B']) (cs := [.i .i64 uses, .i .i64 0]) rfl hrun (by simp only [go_sem]) ?_) | refine And.intro ?_ ?_ | exact True.intro | refine rq fun _ => ?_ | refine rf fun _ => ?_ | simp only [go_sem, hb, hu1', hu2', hl, hk, form_eta, brn_eta, Tryd.f13])
      all_goals (
        rw [kq.out, ← hV]
        simp only [go_sem, enc_prf])
def twoZ (k : Int) (f g : Abs.Form) : Abs.Form := .mk k ⟨[]⟩ [] [f, g]
def Z5 : Tbl := Z4.add 35 (sp3 twoZ fun _ _ _ => True)
attribute [go_sem] Z5
theorem hZ5 : TblOk Tryd.prog GA Z5 := by
  refine sp3_ok ok35 hZ4 fun k f g _ _ _ _ => ?_
  simp only [twoZ]
  refine Wcall_K (N := 12) hm hZ4 35000 (lst []) ok35 Tryd.func35 rfl rfl (by simp) (by kernel_rfl) ?_
  repeat' (first | refine And.intro ?_ ?_ | exact True.intro | refine rq fun _ => ?_ | refine rf fun _ => ?_ | simp only [go_sem, form_eta, Tryd.f35])
def boundZ (k : Int) (x : Str) (f : Abs.Form) : Abs.Form := .mk k x [] [f]
def Z6 : Tbl := Z5.add 34 (sp3 boundZ fun _ _ _ => True)
attribute [go_sem] Z6
theorem hZ6 : TblOk Tryd.prog GA Z6 := by
  refine sp3_ok ok34 hZ5 fun k x f _ _ _ _ => ?_
  simp only [boundZ]
  refine Wcall_K (N := 12) hm hZ5 34000 (lst []) ok34 Tryd.func34 rfl rfl (by simp) (by kernel_rfl) ?_
  repeat' (first | refine And.intro ?_ ?_ | exact True.intro | refine rq fun _ => ?_ | refine rf fun _ => ?_ | simp only [go_sem, form_eta, Tryd.f34])
def Z7 : Tbl := Z6.add 14 (sp0 mortalL)
attribute [go_sem] Z7
theorem hZ7 : TblOk Tryd.prog GA Z7 := by
  refine sp0_ok hZ6 ?_
  have e1 : predM manS [exS] = prF manS exS := rfl
  have e2 : predM morS [exS] = prF morS exS := rfl
  have e3 : predM manS [kimS] = prF manS kimS := rfl
  have e4 : twoZ 7 (prF manS exS) (prF morS exS) = .mk 7 ⟨[]⟩ [] [prF manS exS, prF morS exS] := rfl
  have e5 : boundZ 8 exS (.mk 7 ⟨[]⟩ [] [prF manS exS, prF morS exS]) = allF exS := rfl
  have dM : Str.mk [109, 97, 110] = manS := rfl
  have dO : Str.mk [109, 111, 114, 116, 97, 108] = morS := rfl
  have dK : Str.mk [107, 105, 109] = kimS := rfl
  have dX : Str.mk [120] = exS := rfl
  refine Wcall_K (N := 10) hm hZ6 14000 (lst []) ok14 Tryd.func14 rfl rfl (by simp) (by kernel_rfl) ?_
  repeat' (first | refine And.intro ?_ ?_ | exact True.intro | refine rq fun _ => ?_ | refine rf fun _ => ?_ | simp only [go_sem, dM, dO, dK, dX, e1, e2, e3, e4, e5, str_eta, form_eta, Tryd.f14])
  all_goals (unfold mortalL; simp only [go_sem])
  all_goals trace_state
end Go.Proofs.YtdlioodgfopmfaaDoor

namespace Go.Proofs.YtdlioodgfopmfaaDoor
open Go Go.Abs Go.Proofs

theorem mort_begin : beginP mortalL mortG = (mortB, ⟨0, 0⟩) := by
  have h1 : (checkM false (allF exS)).code = 0 := by kernel_rfl
  have h2 : (checkM false (prF manS kimS)).code = 0 := by kernel_rfl
  have h3 : (checkM false mortG).code = 0 := by kernel_rfl
  unfold beginP
  rw [if_neg (by unfold mortalL; simp), badA_zero mortalL 0 (by unfold mortalL; intro f hf; simp only [List.mem_cons, List.not_mem_nil, or_false] at hf; rcases hf with rfl | rfl <;> assumption), if_neg (by decide), if_neg (by simp [h3])]
  unfold canL mortalL
  rw [List.map_cons, List.map_cons, List.map_nil, mort_can, mort_can2]
  have e : negM mortG = ngg mortG := rfl
  rw [e, mort_neg]
  rfl
theorem mort_branch : branch1 mortalL mortG = mortB := by
  unfold branch1 canL mortalL
  rw [List.map_cons, List.map_cons, List.map_nil, mort_can, mort_can2]
  have e : negM mortG = ngg mortG := rfl
  rw [e, mort_neg]
  rfl
theorem mort_runZ {uses : Int} : runZ mortalL mortG uses = runM uses 301 mortN 0 := by
  unfold runZ; rw [mort_branch]; rfl
theorem prove_begin {ax : List Abs.Form} {g : Abs.Form} {uses : Int} (h : (beginP ax g).2.code = 0) (h2 : ¬ (uses < 0 ∨ 5 < uses)) : proveM ax g uses = if (runZ ax g uses).lim = true then (zeroP, false, ⟨17, -3⟩) else if (runZ ax g uses).ok = false then (zeroP, false, ⟨0, 0⟩) else ((runZ ax g uses).p, true, ⟨0, 0⟩) := by
  unfold proveM
  rw [if_neg (by simp [h]), if_neg h2]
theorem mort_p1 : proveM mortalL mortG 1 = ((runM 1 301 mortN 0).p, true, ⟨0, 0⟩) := by
  rw [prove_begin (by rw [mort_begin]) (by decide), mort_runZ, if_neg (by rw [mort_1.2.1]; simp), if_neg (by rw [mort_1.1]; simp)]
theorem prove_ok {ax : List Abs.Form} {g : Abs.Form} {uses : Int} {p : Prf} {e : Fault} (h : proveM ax g uses = (p, true, e)) : (beginP ax g).2.code = 0 ∧ ¬ (uses < 0 ∨ 5 < uses) ∧ (runZ ax g uses).ok = true ∧ (runZ ax g uses).lim = false ∧ p = (runZ ax g uses).p ∧ e = ⟨0, 0⟩ := by
  unfold proveM at h
  by_cases h0 : (beginP ax g).2.code = 0
  rotate_left
  · rw [if_pos h0] at h; simp at h
  rw [if_neg (by simp [h0])] at h
  by_cases hu : uses < 0 ∨ 5 < uses
  · rw [if_pos hu] at h; simp at h
  rw [if_neg hu] at h
  cases hl : (runZ ax g uses).lim with
  | true => rw [if_pos hl] at h; simp at h
  | false =>
    rw [if_neg (by simp [hl])] at h
    cases hk : (runZ ax g uses).ok with
    | false => rw [if_pos hk] at h; simp at h
    | true =>
      rw [if_neg (by simp [hk])] at h
      simp only [Prod.mk.injEq, true_and] at h
      exact ⟨h0, hu, rfl, rfl, h.1.symm, h.2.symm⟩
end Go.Proofs.YtdlioodgfopmfaaDoor
