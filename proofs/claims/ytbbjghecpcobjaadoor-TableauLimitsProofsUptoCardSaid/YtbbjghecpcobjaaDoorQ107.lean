import Derived.Test.YtbbjghecpcobjaaDoorAT
import Derived.Test.YtbbjghecpcobjaaDoorQ106
set_option linter.unusedSimpArgs false
namespace Go.Proofs.YtbbjghecpcobjaaDoor
open Go Go.Abs Go.Proofs

/-! ## parts, of a predicate -/
section
variable {P : Program} {G : Nat → List FD} {T : Tbl}
def sp1q {α ρ σ τ υ : Type} [Enc α] [Enc ρ] [Enc σ] [Enc τ] [Enc υ] (f : α → ρ × σ × τ × υ) (pre : α → Prop) : List FD → Option (D × Prop)
  | [x] => some (.tup [.fz (enc (f (dec x)).1), .fz (enc (f (dec x)).2.1), .fz (enc (f (dec x)).2.2.1), .fz (enc (f (dec x)).2.2.2)], x = enc (dec (α := α) x) ∧ pre (dec x))
  | _ => none
@[go_sem] theorem k_sp1q {α ρ σ τ υ : Type} [Enc α] [Enc ρ] [Enc σ] [Enc τ] [Enc υ] {f : α → ρ × σ × τ × υ} {pre : α → Prop} {x : FD} : sp1q f pre [x] = some (.tup [.fz (enc (f (dec x)).1), .fz (enc (f (dec x)).2.1), .fz (enc (f (dec x)).2.2.1), .fz (enc (f (dec x)).2.2.2)], x = enc (dec (α := α) x) ∧ pre (dec x)) := rfl
theorem sp1q_ok {α ρ σ τ υ : Type} [Enc α] [Enc ρ] [Enc σ] [Enc τ] [Enc υ] {f : FuncId} {g : α → ρ × σ × τ × υ} {pre : α → Prop} (hc : CallOk P f) (hT : TblOk P G T)
    (h : ∀ a, pre a → (enc a).Wf → Wcall P G f [.fz (enc a)] (hpL []) 0 (fun d _ _ => D.val d = some (.tup [.fz (enc (g a).1), .fz (enc (g a).2.1), .fz (enc (g a).2.2.1), .fz (enc (g a).2.2.2)]))) : TblOk P G (T.add f (sp1q g pre)) := by
  refine TblOk_add hT fun xs r c hx hcc => ?_
  unfold sp1q at hx
  split at hx
  · rename_i x
    simp only [Option.some.injEq, Prod.mk.injEq] at hx
    obtain ⟨rfl, rfl⟩ := hx
    obtain ⟨e, hp⟩ := hcc
    refine Wcall_wf hc fun hw => ?_
    rw [H0_eq]
    have := h (dec x) hp (by rw [← e]; exact hw x (by simp))
    rw [← e] at this
    exact this
  · cases hx
end
def partS (_ : Abs.Form) : Int × List Abs.Form × Abs.Form × Bool := (0, [], zeroF, false)
def treeP28 : Tv := (.q 0 (.q 1 (.q 2 (.br [(3, (.q 4 .leaf))]))))
def N6 : Tbl := N5.add 91 (sp1q partS fun f => f.kind = 2)
attribute [go_sem] N6
set_option maxRecDepth 100000 in
set_option maxHeartbeats 1000000 in
theorem hN6 : TblOk Tryd.prog GA N6 := by
  refine sp1q_ok ok91 hN5 fun f hk _ => ?_
  have zk : zeroF.kind = 0 := rfl
  have zn : zeroF.name.l = [] := rfl
  have zw : zeroF.words = [] := rfl
  have zs : zeroF.subs = [] := rfl
  refine Wcall_K (N := 131) hm hN5 91000 (lst [1000004, 1000006, 1000008, 1000010, 1000012, 1000017, 1000019, 1000021, 1000023, 1000025, 1000027, 1000028]) ok91 Tryd.func91 rfl rfl (by simp) (by kernel_rfl) ?_
  repeat' (first | refine WK_drawV (id := 28) hm hN5 91000 (lst [1000004, 1000006, 1000008, 1000010, 1000012, 1000017, 1000019, 1000021, 1000023, 1000025, 1000027, 1000028]) treeP28 (by kernel_rfl) (by kernel_rfl) ?_ | refine And.intro ?_ ?_ | exact True.intro | refine rq fun _ => ?_ | simp only [go_sem, hk, partS, zk, zn, zw, zs, form_eta, treeP28, Tryd.f91])
/-! ## check: a place on a branch -/
set_option maxRecDepth 100000 in
set_option maxHeartbeats 1000000 in
theorem f90 {l : List Abs.Form} {i : Int} {id : Abs.Id} {H : Heap} {n : Nat} {R : D → Heap → Nat → Prop} (_hid : id.2 < n) (ho : H id = some ⟨[.fz (.sl (l.map enc))], true, false⟩) (h0 : 0 ≤ i) (h1 : i < l.length) (_h2 : l.length ≤ 1000000) (hR : ∀ n', n ≤ n' → R (.fz (.b true)) H n') :
    Wcall Tryd.prog GA 90 [.fz (.i .i64 i), .ptr id 0] H n R := by
  refine Wcall_keep ok90 (fun hfr => ?_) hR
  obtain ⟨Q, hQ⟩ : ∃ Q : D → Heap → Nat → Prop, Q = (fun d' H' n' => d' = .fz (.b true) ∧ n ≤ n' ∧ ∀ id, id.2 < n → H' id = H id) := ⟨_, rfl⟩
  rw [← hQ]
  have e : H = hpX [] H := rfl
  have hge : (0 ≤ i) = True := eq_true h0
  have hlt : (i < (l.length : Int)) = True := eq_true h1
  rw [e]
  refine Wcall_K (N := 12) hm hN6 90000 (lst []) ok90 Tryd.func90 rfl rfl (by simp) (by kernel_rfl) ?_
  repeat' (first | refine And.intro ?_ ?_ | exact True.intro | refine rq fun _ => ?_ | simp only [go_sem, ho, hge, hlt, Tryd.f90, hpX])
  all_goals
    rw [hQ]
    exact ⟨rfl, by omega, fun id _ => rfl⟩
def chkS (_ : List Abs.Form) (p : Prf) : Bool := decide (p.kind = 1)
def chkPre (l : List Abs.Form) (p : Prf) : Prop := ∃ f, f.kind = 2 ∧ l = [f, negM f] ∧ (f.fit = true ∧ f.size ≤ 900) ∧ p.form = 0 ∧ ((p.kind = 1 ∧ p.other = 1 ∧ p.subs = []) ∨ p.kind = 3)
def treeC14 : Tv := (.q 0 (.q 1 (.q 2 (.q 3 (.q 4 (.q 5 (.q 6 (.q 7 (.q 8 (.q 9 (.q 12 (.br [(10, (.q 11 (.q 13 (.q 14 (.q 15 (.br [(16, (.q 17 (.q 18 (.q 19 .leaf))))])))))), (11, (.br [(10, (.q 13 (.q 14 (.q 15 (.br [(16, (.q 17 (.q 18 (.q 19 .leaf))))]))))), (13, (.q 14 (.br [(10, (.q 15 (.br [(16, (.q 17 (.q 18 (.q 19 .leaf))))]))), (15, (.br [(10, (.br [(16, (.q 17 (.q 18 (.q 19 .leaf))))]))]))])))])), (13, (.q 14 (.br [(10, (.q 11 (.q 15 (.br [(16, (.q 17 (.q 18 (.q 19 .leaf))))])))), (11, (.br [(10, (.q 15 (.br [(16, (.q 17 (.q 18 (.q 19 .leaf))))]))), (15, (.br [(10, (.br [(16, (.q 17 (.q 18 (.q 19 .leaf))))]))]))])), (15, (.br [(10, (.q 11 (.br [(16, (.q 17 (.q 18 (.q 19 .leaf))))]))), (11, (.br [(10, (.br [(16, (.q 17 (.q 18 (.q 19 .leaf))))]))]))]))])))]))))))))))))
def treeC18 : Tv := (.q 0 (.q 1 (.q 2 (.q 3 (.q 4 (.q 5 (.q 6 (.q 7 (.q 8 (.q 9 (.q 10 (.q 11 (.q 12 (.q 13 (.q 15 (.br [(14, (.q 16 (.q 17 (.q 18 (.br [(19, (.q 20 (.q 21 (.q 22 (.q 23 (.q 24 (.q 25 (.q 26 (.q 28 (.br [(27, (.q 29 (.q 30 (.q 31 (.br [(32, (.q 33 (.q 34 .leaf)))]))))), (29, (.q 30 (.br [(27, (.q 31 (.br [(32, (.q 33 (.q 34 .leaf)))]))), (31, (.br [(27, (.br [(32, (.q 33 (.q 34 .leaf)))]))]))])))]))))))))))]))))), (16, (.q 17 (.br [(14, (.q 18 (.br [(19, (.q 20 (.q 21 (.q 22 (.q 23 (.q 24 (.q 25 (.q 26 (.q 28 (.br [(27, (.q 29 (.q 30 (.q 31 (.br [(32, (.q 33 (.q 34 .leaf)))]))))), (29, (.q 30 (.br [(27, (.q 31 (.br [(32, (.q 33 (.q 34 .leaf)))]))), (31, (.br [(27, (.br [(32, (.q 33 (.q 34 .leaf)))]))]))])))]))))))))))]))), (18, (.br [(14, (.br [(19, (.q 20 (.q 21 (.q 22 (.q 23 (.q 24 (.q 25 (.q 26 (.q 28 (.br [(27, (.q 29 (.q 30 (.q 31 (.br [(32, (.q 33 (.q 34 .leaf)))]))))), (29, (.q 30 (.br [(27, (.q 31 (.br [(32, (.q 33 (.q 34 .leaf)))]))), (31, (.br [(27, (.br [(32, (.q 33 (.q 34 .leaf)))]))]))])))]))))))))))]))]))])))]))))))))))))))))
def N7 : Tbl := N6.add 46 (sp2 chkS chkPre)
attribute [go_sem] N7
set_option maxRecDepth 100000 in
set_option maxHeartbeats 1000000 in
set_option maxHeartbeats 4000000 in
theorem hN7 : TblOk Tryd.prog GA N7 := by
  refine sp2_ok ok46 hN6 fun l p hpre _ _ => ?_
  obtain ⟨f, hk, rfl, hfit, hpf, hpk⟩ := hpre
  obtain ⟨g, hg⟩ : ∃ g, negM f = g := ⟨_, rfl⟩
  rw [hg]
  have eF : Abs.Form.mk 2 f.name f.words f.subs = f := by rw [← hk]; exact form_eta
  refine Wcall_K (N := 259) hm hN6 46000 (lst [1000012, 1000014, 1000016, 1000018, 1000020, 1000022, 1000029]) ok46 Tryd.func46 rfl rfl (by simp) (by kernel_rfl) ?_
  rcases hpk with ⟨hp1, hpo, hps⟩ | hp3
  · have e : chkS [f, g] p = true := by unfold chkS; rw [hp1]; rfl
    rw [e]
    repeat' (first | refine WcallK.i (f90 (l := [f, g]) (by simp only; omega) (by simp only [go_sem, hk]) (by omega) (by simp only [List.length_cons, List.length_nil]; omega) (by simp) fun n' hn' => ?_) | refine ReqK.i hfit fun _ => ?_ | refine WK_drawV (id := 14) hm hN6 46000 (lst [1000012, 1000014, 1000016, 1000018, 1000020, 1000022, 1000029]) treeC14 (by kernel_rfl) (by kernel_rfl) ?_ | refine And.intro ?_ ?_ | exact True.intro | refine rq fun _ => ?_ | simp only [go_sem, hk, eF, hg, hp1, hpf, hpo, hps, partS, getD_map_lt, form_eta, prf_eta, treeC14, Tryd.f46])
    all_goals trace_state
  · have e : chkS [f, g] p = false := by unfold chkS; rw [hp3]; rfl
    rw [e]
    repeat' (first | refine WcallK.i (f90 (l := [f, g]) (by simp only; omega) (by simp only [go_sem, hk]) (by omega) (by simp only [List.length_cons, List.length_nil]; omega) (by simp) fun n' hn' => ?_) | refine ReqK.i hfit fun _ => ?_ | refine WK_drawV (id := 18) hm hN6 46000 (lst [1000012, 1000014, 1000016, 1000018, 1000020, 1000022, 1000029]) treeC18 (by kernel_rfl) (by kernel_rfl) ?_ | refine And.intro ?_ ?_ | exact True.intro | refine rq fun _ => ?_ | simp only [go_sem, hk, eF, hg, hp3, hpf, partS, getD_map_lt, form_eta, prf_eta, treeC18, Tryd.f46])
    all_goals trace_state
end Go.Proofs.YtbbjghecpcobjaaDoor
