/- several texts of this proof in one; no conditions -/
import Derived.Test.YtbbjghecpcobjaaDoorAT
import Derived.Test.YtbbjghecpcobjaaDoorY3
import Derived.Test.YtbbjghecpcobjaaDoorQ13
import Derived.Test.YtbbjghecpcobjaaDoorDS
import Derived.Test.YtbbjghecpcobjaaDoorAbs46
import Derived.Test.YtbbjghecpcobjaaDoorAbs41
import Derived.Test.YtbbjghecpcobjaaDoorAbs42
import Derived.Test.YtbbjghecpcobjaaDoorCN
set_option linter.unusedSimpArgs false
namespace Go.Abs
open Go
section
variable {P : Program} {G : Nat → List FD} {T : Tbl}
theorem sp1p_rec2 {α : Type} {ρ σ : Type} [Enc α] [Enc ρ] [Enc σ] {f1 f2 : FuncId} (hne : f1 ≠ f2) {g1 : α → ρ × σ} {g2 : α → ρ × σ} {pre : α → Prop} (m1 m2 : α → Nat) (hc1 : CallOk P f1) (hc2 : CallOk P f2) (hT : TblOk P G T)
    (h1 : ∀ n, TblOk P G ((T.add f1 (sp1p g1 fun a => m1 a < n ∧ pre a)).add f2 (sp1p g2 fun a => m2 a < n ∧ pre a)) → ∀ a, m1 a = n → pre a → (enc a).Wf → Wcall P G f1 [.fz (enc a)] (hpL []) 0 (fun d _ _ => D.val d = some (.tup [.fz (enc (g1 a).1), .fz (enc (g1 a).2)])))
    (h2 : ∀ n, TblOk P G ((T.add f1 (sp1p g1 fun a => m1 a < n ∧ pre a)).add f2 (sp1p g2 fun a => m2 a < n ∧ pre a)) → ∀ a, m2 a = n → pre a → (enc a).Wf → Wcall P G f2 [.fz (enc a)] (hpL []) 0 (fun d _ _ => D.val d = some (.tup [.fz (enc (g2 a).1), .fz (enc (g2 a).2)]))) :
    TblOk P G ((T.add f1 (sp1p g1 pre)).add f2 (sp1p g2 pre)) := by
  have key : ∀ n, TblOk P G ((T.add f1 (sp1p g1 fun a => m1 a < n ∧ pre a)).add f2 (sp1p g2 fun a => m2 a < n ∧ pre a)) := by
    intro n
    induction n with
    | zero => exact sp1p_ok hc2 (sp1p_ok hc1 hT fun a ha => by omega) fun a ha => by omega
    | succ n ih =>
      refine sp1p_ok hc2 (sp1p_ok hc1 hT fun a ha hw => ?_) fun a ha hw => ?_
      · rcases Nat.lt_or_ge (m1 a) n with h3 | h3
        · have h4 := ih f1 (sp1p g1 fun a => m1 a < n ∧ pre a) [enc a] _ _ (by simp [Tbl.add, hne]) (k_sp1p) ⟨by rw [dec_enc], by rw [dec_enc]; exact ⟨h3, ha.2⟩⟩
          rw [dec_enc, H0_eq] at h4
          exact h4
        · exact h1 n ih a (by omega) ha.2 hw
      · rcases Nat.lt_or_ge (m2 a) n with h3 | h3
        · have h4 := ih f2 (sp1p g2 fun a => m2 a < n ∧ pre a) [enc a] _ _ (by simp [Tbl.add]) (k_sp1p) ⟨by rw [dec_enc], by rw [dec_enc]; exact ⟨h3, ha.2⟩⟩
          rw [dec_enc, H0_eq] at h4
          exact h4
        · exact h2 n ih a (by omega) ha.2 hw
  exact sp1p_ok hc2 (sp1p_ok hc1 hT fun a ha hw => h1 (m1 a) (key _) a rfl ha hw) fun a ha hw => h2 (m2 a) (key _) a rfl ha hw
end
end Go.Abs
namespace Go.Proofs.YtbbjghecpcobjaaDoor
open Go Go.Abs Go.Proofs

/-! ## the package discourse: what a box says -/
def J1 : Tbl := Tbl.or R28 Q23
attribute [go_sem] J1
theorem hJ1 : TblOk Tryd.prog GA J1 := TblOk_or hR28 (TblOk_glob hQ23)
def J2 : Tbl := J1.add 149 (sp3 dTwo fun _ _ _ => True)
attribute [go_sem] J2
set_option maxRecDepth 100000 in
set_option maxHeartbeats 1000000 in
theorem hJ2 : TblOk Tryd.prog GA J2 := by
  refine sp3_ok ok149 hJ1 fun k f g _ _ _ _ => ?_
  simp only [dTwo]
  refine Wcall_K (N := 12) hm hJ1 149000 (lst []) ok149 Tryd.func149 rfl rfl (by simp) (by kernel_rfl) ?_
  repeat' (first | refine rq fun _ => ?_ | simp only [go_sem, form_eta, Tryd.f149, Q23, Q22, Q21])
def J3 : Tbl := J2.add 123 (sp3 withinM fun _ l _ => l.length ≤ 1000000)
attribute [go_sem] J3
set_option maxRecDepth 100000 in
set_option maxHeartbeats 1000000 in
theorem hJ3 : TblOk Tryd.prog GA J3 := by
  refine sp3_ok ok123 hJ2 fun k l f hl _ _ _ => ?_
  obtain ⟨W, hW⟩ : ∃ W : Nat → Abs.Form, W = fun j => withinM k (l.drop (l.length - j)) f := ⟨_, rfl⟩
  have hW0 : W 0 = f := by rw [hW]; simp [withinM]
  have hWs : ∀ j (_ : j < l.length) (h2 : l.length - 1 - j < l.length), W (j + 1) = .mk k l[l.length - 1 - j] [] [W j] := fun j h h2 => by
    rw [hW]
    simp only
    rw [show l.length - (j + 1) = l.length - 1 - j by omega, List.drop_eq_getElem_cons h2, withinM, show l.length - 1 - j + 1 = l.length - j by omega]
  have hWe : W l.length = withinM k l f := by rw [hW]; simp
  obtain ⟨I, hI⟩ : ∃ I : Nat → Int, I = fun j : Nat => (l.length : Int) - 1 - (j : Int) := ⟨_, rfl⟩
  have hI0 : I 0 = (l.length : Int) - 1 := by rw [hI]; simp
  have hIs : ∀ j, I (j + 1) = I j - 1 := fun j => by rw [hI]; simp only; omega
  have hIe : I l.length = -1 := by rw [hI]; simp only; omega
  have hIj : ∀ j (_ : j < l.length), I j = ((l.length - 1 - j : Nat) : Int) := fun j h => by rw [hI]; simp only; omega
  have kW := Kp.mk hWs
  have kI := Kp.mk hIj
  have kS := Kp.mk hIs
  have kWe := Kp.mk hWe
  clear hW hI hWs hIj hIs hWe
  refine Wcall_K (N := 24) hm hJ2 123000 (lst []) ok123 Tryd.func123 rfl rfl (by simp) (by kernel_rfl) ?_
  repeat' (first | refine rq fun _ => ?_ | simp only [go_sem, Tryd.f123, Q23, Q22, Q21])
  refine WK_loop hm hJ2 123000 (lst []) (ι := LoopM l.length 2 fun _ => True)
    ⟨fun q => ⟨frL [(0, .fz (.i .i64 k)), (1, .fz (.sl (l.map enc))), (5, .ptr (123005, 0) 0), (6, .ptr (123006, 1) 0), (7, .fz (.i .i64 (I q.i)))],
      hpL [((123005, 0), some ⟨[.fz (.i .i64 (W q.i).kind), .fz (.s (W q.i).name.l), .fz (.sl ((W q.i).words.map enc)), .fz (.sl ((W q.i).subs.map enc))], true, false⟩), ((123006, 1), some ⟨[.fz (.i .i64 0), .fz (.s []), .full [], .full []], true, false⟩)], q.m⟩, fun q => l.length - q.i⟩
    ⟨0, 2, by omega, by omega, trivial⟩ (by kernel_rfl) ?_ ?_
  · refine Weak_to ?_ ?_ ?_ <;> simp only [go_sem, hW0, hI0]
    all_goals first | done | rfl | omega | trace_state
  rintro ⟨j, m, hj, hm2, _⟩
  try simp only at hj hm2
  rcases Nat.lt_or_ge j l.length with h1 | h1
  · have hs := kW.out j h1 (by omega)
    have e1 := kI.out j h1
    have e4 := kS.out j
    obtain ⟨i, hi⟩ : ∃ i, l.length - 1 - j = i := ⟨_, rfl⟩
    have hil : i < l.length := by omega
    simp only [hi] at hs e1
    obtain ⟨x, hx⟩ : ∃ x, l[i] = x := ⟨_, rfl⟩
    rw [hx] at hs
    rw [e1] at e4
    have e2 : ((0 : Int) ≤ (i : Int)) = True := eq_true (by omega)
    have hgd : ((l.map enc).getD i FD.nilf) = FD.s x.l := by rw [getD_map_lt hil, hx]; rfl
    obtain ⟨w, hw⟩ : ∃ w, W j = w := ⟨_, rfl⟩
    rw [hw] at hs
    repeat' (first | refine ReqK.i (by rw [hgd]; rfl) fun _ => ?_ | refine rq fun _ => ?_ | simp only [go_sem, e1, e2, hil, hgd, hw, form_eta, str_eta, Tryd.f123, Q23, Q22, Q21])
    all_goals
      refine ⟨⟨j + 1, m + 9, by omega, by omega, trivial⟩, by simp only; omega, ?_⟩
      refine Weak_g [] [] [] ?_ ?_ ?_ ?_ ?_ <;> (try simp only [go_sem, hs, e4, hw])
      all_goals first | done | rfl | omega | trace_state
  obtain rfl : j = l.length := by omega
  have hWe := kWe.out
  repeat' (first | refine rq fun _ => ?_ | simp only [go_sem, hIe, hWe, form_eta, Tryd.f123, Q23, Q22, Q21])
def J4 : Tbl := J3
attribute [go_sem] J4
theorem hJ4 : TblOk Tryd.prog GA J4 := hJ3
def J5 : Tbl := J4
attribute [go_sem] J5
theorem hJ5 : TblOk Tryd.prog GA J5 := hJ4
end Go.Proofs.YtbbjghecpcobjaaDoor

namespace Go.Proofs.YtbbjghecpcobjaaDoor
open Go Go.Abs Go.Proofs

/-! ## what a box says: the program's walk -/
def tree181a : Tv := (.q 0 (.q 1 (.q 2 (.q 3 (.q 4 (.q 5 (.q 6 (.q 7 (.q 8 (.q 9 (.q 10 (.q 11 (.q 12 (.br [(13, (.q 14 .leaf))]))))))))))))))
def J6 : Tbl := (J5.add 122 (sp1p bodyP okTd)).add 75 (sp1p wholeP okTd)
attribute [go_sem] J6
set_option maxRecDepth 100000 in
set_option maxHeartbeats 1000000 in
set_option maxHeartbeats 4000000 in
theorem hJ6 : TblOk Tryd.prog GA J6 := by
  refine sp1p_rec2 (by decide) (fun b => 2 * b.size) (fun b => 2 * b.size + 1) ok122 ok75 hJ5 (fun n hT b hn hpre _ => ?_) (fun n hT b hn hpre _ => ?_)
  rotate_left
  · have hr := (okT_len hpre).2
    have hb : 2 * b.size < n ∧ okTd b := ⟨by omega, hpre⟩
    obtain ⟨f, k, hfk⟩ : ∃ f k, bodyP b = (f, k) := ⟨_, _, rfl⟩
    have e1 : wholeP b = (withinM 9 b.refs f, k) := by unfold wholeP; rw [hfk]
    rw [e1]
    obtain ⟨w, hw⟩ : ∃ w, withinM 9 b.refs f = w := ⟨_, rfl⟩
    rw [hw]
    have kT := Kp.mk hT
    clear hT
    refine Wcall_K (N := 16) hm kT.out 75000 (lst []) ok75 Tryd.func75 rfl rfl (by simp) (by kernel_rfl) ?_
    repeat' (first | refine ReqK.i hb fun _ => ?_ | refine rq fun _ => ?_ | simp only [go_sem, hfk, hw, form_eta, str_eta, box_eta, getD_map_lt, Tryd.f75, Q23, Q22, Q21])
    all_goals trace_state
  obtain ⟨Q, hQ⟩ : ∃ Q : D → Heap → Nat → Prop, Q = (fun d _ _ => D.val d = some (.tup [.fz (enc (bodyP b).1), .fz (enc (bodyP b).2)])) := ⟨_, rfl⟩
  rw [← hQ]
  have hcl := (okT_len hpre).1
  have hsub : ∀ c ∈ b.conds, ∀ d ∈ c.boxes, (2 * d.size < n ∧ okTd d) ∧ (2 * d.size + 1 < n ∧ okTd d) ∧ d.refs.length ≤ 400 := fun c hc d hd => by
    have h := okT_sub hpre hc hd
    have h2 := okT_len h.1
    exact ⟨⟨by omega, h.1⟩, ⟨by omega, h.1⟩, h2.2⟩
  have kind : ∀ c ∈ b.conds, _ := fun c hc => okT_kind hpre hc
  have kT := Kp.mk hT
  have ks := Kp.mk hsub
  have kk := Kp.mk kind
  clear hT hsub kind hn
  have dT : Abs.Form.mk 1 ⟨[]⟩ [] [] = dTru := rfl
  refine Wcall_K (N := 113) hm kT.out 122000 (lst [1000014]) ok122 Tryd.func122 rfl rfl (by simp) (by kernel_rfl) ?_
  repeat' (first | refine rq fun _ => ?_ | simp only [go_sem, Tryd.f122, Q23, Q22, Q21])
  refine WK_loop hm kT.out 122000 (lst [1000014]) (ι := LoopM b.conds.length 3 fun i => accOk b i)
    ⟨fun q => ⟨frL [(2, .ptr (122002, 1) 0), (4, .ptr (122004, 2) 0), (19, .fz (.sl (b.conds.map enc))), (20, .fz (.i .i64 b.conds.length)), (21, .fz (.i .i64 q.i))], hpL [((122002, 1), some ⟨[.fz (.i .i64 0), .fz (.s []), .full [], .full []], true, false⟩), ((122004, 2), some ⟨[.fz (.i .i64 (accF b q.i).kind), .fz (.s (accF b q.i).name.l), .fz (.sl ((accF b q.i).words.map enc)), .fz (.sl ((accF b q.i).subs.map enc))], true, false⟩)], q.m⟩, fun q => b.conds.length - q.i⟩
    ⟨0, 3, by omega, by omega, accOk_zero b⟩ (by kernel_rfl) ?_ ?_
  · refine Weak_g [] [] [] ?_ ?_ ?_ ?_ ?_ <;> (try simp only [go_sem, accF_zero, dTru])
    all_goals first | done | rfl | omega | trace_state
  rintro ⟨i, m, hi, hm2, hp⟩
  try simp only at hi hm2 hp
  obtain ⟨f0, hF⟩ : ∃ f, accF b i = f := ⟨_, rfl⟩
  rcases Nat.lt_or_ge i b.conds.length with h1 | h1
  rotate_left
  · obtain rfl : i = b.conds.length := by omega
    have hst : bodyP b = (f0, true) := by rw [body_end hp, hF]
    repeat' (first | refine rq fun _ => ?_ | simp only [go_sem, Nat.lt_irrefl, hF, form_eta, str_eta, box_eta, getD_map_lt, Tryd.f122, Q23, Q22, Q21])
    all_goals
      rw [hQ]
      show D.val _ = some (D.tup [.fz (enc (bodyP b).1), .fz (enc (bodyP b).2)])
      rw [hst]
      simp only [go_sem, form_eta]
      all_goals first | done | rfl | trace_state
  obtain ⟨x, hx⟩ : ∃ x, b.conds[i] = x := ⟨_, rfl⟩
  have hxm : x ∈ b.conds := hx ▸ List.getElem_mem h1
  have hxs := ks.out x hxm
  rcases kk.out x hxm with ⟨hk, hb⟩ | ⟨hk, a, hb⟩ | ⟨hk, a, d, hb⟩ | ⟨hk, a, d, hb⟩ | ⟨hk, hb⟩ | ⟨hk, a, hb⟩
  · obtain ⟨g, hg⟩ : ∃ g, x.form = g := ⟨_, rfl⟩
    have hcp : condP x = (g, true) := by rw [condP1 hk, hg]
    rcases Nat.eq_zero_or_pos i with h0 | h0
    · subst h0
      have hs : accF b 1 = g := by rw [accF_succ h1 hp (by rw [hx]; exact hcp), if_pos rfl]
      have hp3 := accOk_succ h1 hp (by rw [hx]; exact hcp)
      have e0 : ((0 : Int) < (b.conds.length : Int)) = True := eq_true (by omega)
      repeat' (first | refine rq fun _ => ?_ | simp only [go_sem, hk, hb, hg, h1, hx, hF, e0, form_eta, str_eta, box_eta, getD_map_lt, Tryd.f122, Q23, Q22, Q21])
      all_goals
        refine ⟨⟨1, m + 30, by omega, by omega, hp3⟩, by simp only; omega, ?_⟩
        refine Weak_g [] [] [] ?_ ?_ ?_ ?_ ?_ <;> (try simp only [go_sem, hs])
        all_goals first | done | rfl | omega | trace_state
    · have hs : accF b (i + 1) = dTwo 5 f0 g := by rw [accF_succ h1 hp (by rw [hx]; exact hcp), if_neg (by omega), hF]
      have hp3 := accOk_succ h1 hp (by rw [hx]; exact hcp)
      have e0 : ((i : Int) = 0) = False := eq_false (by omega)
      obtain ⟨t5, ht5⟩ : ∃ t, dTwo 5 f0 g = t := ⟨_, rfl⟩
      rw [ht5] at hs
      repeat' (first | refine rq fun _ => ?_ | simp only [go_sem, hk, hb, hg, h1, hx, hF, e0, ht5, form_eta, str_eta, box_eta, getD_map_lt, Tryd.f122, Q23, Q22, Q21])
      all_goals
        refine ⟨⟨i + 1, m + 30, by omega, by omega, hp3⟩, by simp only; omega, ?_⟩
        refine Weak_g [] [] [] ?_ ?_ ?_ ?_ ?_ <;> (try simp only [go_sem, hs])
        all_goals first | done | rfl | omega | trace_state
  · obtain ⟨ha1, ha2, ha3⟩ := hxs a (by rw [hb]; simp)
    obtain ⟨w, o, hw⟩ : ∃ w o, wholeP a = (w, o) := ⟨_, _, rfl⟩
    have hcp : condP x = (dNot w, o) := by rw [condP2 hk hb, hw]
    cases o
    · have hst : bodyP b = (f0, false) := by rw [body_stop h1 hp (by rw [hx]; exact hcp), hF]
      repeat' (first | refine ReqK.i ha2 fun _ => ?_ | refine rq fun _ => ?_ | simp only [go_sem, hk, hb, hw, h1, hx, hF, form_eta, str_eta, box_eta, getD_map_lt, Tryd.f122, Q23, Q22, Q21])
      all_goals
        rw [hQ]
        show D.val _ = some (D.tup [.fz (enc (bodyP b).1), .fz (enc (bodyP b).2)])
        rw [hst]
        simp only [go_sem, form_eta]
        all_goals first | done | rfl | trace_state
    · rw [show dNot w = Abs.Form.mk 4 ⟨[]⟩ [] [w] from rfl] at hcp
      rcases Nat.eq_zero_or_pos i with h0 | h0
      · subst h0
        have hs : accF b 1 = (Abs.Form.mk 4 ⟨[]⟩ [] [w]) := by rw [accF_succ h1 hp (by rw [hx]; exact hcp), if_pos rfl]
        have hp3 := accOk_succ h1 hp (by rw [hx]; exact hcp)
        have e0 : ((0 : Int) < (b.conds.length : Int)) = True := eq_true (by omega)
        repeat' (first | refine ReqK.i ha2 fun _ => ?_ | refine rq fun _ => ?_ | simp only [go_sem, hk, hb, hw, h1, hx, hF, e0, form_eta, str_eta, box_eta, getD_map_lt, Tryd.f122, Q23, Q22, Q21])
        all_goals
          refine ⟨⟨1, m + 30, by omega, by omega, hp3⟩, by simp only; omega, ?_⟩
          refine Weak_g [] [] [] ?_ ?_ ?_ ?_ ?_ <;> (try simp only [go_sem, hs])
          all_goals first | done | rfl | omega | trace_state
      · have hs : accF b (i + 1) = dTwo 5 f0 (Abs.Form.mk 4 ⟨[]⟩ [] [w]) := by rw [accF_succ h1 hp (by rw [hx]; exact hcp), if_neg (by omega), hF]
        have hp3 := accOk_succ h1 hp (by rw [hx]; exact hcp)
        have e0 : ((i : Int) = 0) = False := eq_false (by omega)
        obtain ⟨t5, ht5⟩ : ∃ t, dTwo 5 f0 (Abs.Form.mk 4 ⟨[]⟩ [] [w]) = t := ⟨_, rfl⟩
        rw [ht5] at hs
        repeat' (first | refine ReqK.i ha2 fun _ => ?_ | refine rq fun _ => ?_ | simp only [go_sem, hk, hb, hw, h1, hx, hF, e0, ht5, form_eta, str_eta, box_eta, getD_map_lt, Tryd.f122, Q23, Q22, Q21])
        all_goals
          refine ⟨⟨i + 1, m + 30, by omega, by omega, hp3⟩, by simp only; omega, ?_⟩
          refine Weak_g [] [] [] ?_ ?_ ?_ ?_ ?_ <;> (try simp only [go_sem, hs])
          all_goals first | done | rfl | omega | trace_state
  · obtain ⟨ha1, ha2, ha3⟩ := hxs a (by rw [hb]; simp)
    obtain ⟨hd1, hd2, hd3⟩ := hxs d (by rw [hb]; simp)
    obtain ⟨p, o, hw⟩ : ∃ w o, bodyP a = (w, o) := ⟨_, _, rfl⟩
    obtain ⟨q, o2, hw2⟩ : ∃ w o, wholeP d = (w, o) := ⟨_, _, rfl⟩
    obtain ⟨t7, ht7⟩ : ∃ t, dTwo 7 p q = t := ⟨_, rfl⟩
    obtain ⟨g, hg⟩ : ∃ t, withinM 8 a.refs t7 = t := ⟨_, rfl⟩
    have hcp : condP x = (g, o && o2) := by rw [condP3 hk hb, hw, hw2, ht7, hg]
    cases o <;> cases o2
    all_goals try
      have hcp : condP x = (g, false) := hcp
      have hst : bodyP b = (f0, false) := by rw [body_stop h1 hp (by rw [hx]; exact hcp), hF]
      repeat' (first | refine WK_drawV hm kT.out 122000 (lst [1000014]) tree181a (by kernel_rfl) (by kernel_rfl) ?_ | refine And.intro ?_ ?_ | exact True.intro | refine ReqK.i ha1 fun _ => ?_ | refine ReqK.i hd2 fun _ => ?_ | refine rq fun _ => ?_ | simp only [go_sem, hk, hb, hw, hw2, ht7, hg, tree181a, h1, hx, hF, form_eta, str_eta, box_eta, getD_map_lt, Tryd.f122, Q23, Q22, Q21])
      all_goals
        rw [hQ]
        show D.val _ = some (D.tup [.fz (enc (bodyP b).1), .fz (enc (bodyP b).2)])
        rw [hst]
        simp only [go_sem, form_eta]
        all_goals first | done | rfl | trace_state
      done
    have hcp : condP x = (g, true) := hcp
    rcases Nat.eq_zero_or_pos i with h0 | h0
    · subst h0
      have hs : accF b 1 = g := by rw [accF_succ h1 hp (by rw [hx]; exact hcp), if_pos rfl]
      have hp3 := accOk_succ h1 hp (by rw [hx]; exact hcp)
      have e0 : ((0 : Int) < (b.conds.length : Int)) = True := eq_true (by omega)
      repeat' (first | refine WK_drawV hm kT.out 122000 (lst [1000014]) tree181a (by kernel_rfl) (by kernel_rfl) ?_ | refine And.intro ?_ ?_ | exact True.intro | refine ReqK.i ha1 fun _ => ?_ | refine ReqK.i hd2 fun _ => ?_ | refine rq fun _ => ?_ | simp only [go_sem, hk, hb, hw, hw2, ht7, hg, tree181a, h1, hx, hF, e0, form_eta, str_eta, box_eta, getD_map_lt, Tryd.f122, Q23, Q22, Q21])
      all_goals
        refine ⟨⟨1, m + 30, by omega, by omega, hp3⟩, by simp only; omega, ?_⟩
        refine Weak_g [] [] [] ?_ ?_ ?_ ?_ ?_ <;> (try simp only [go_sem, hs])
        all_goals first | done | rfl | omega | trace_state
    · have hs : accF b (i + 1) = dTwo 5 f0 g := by rw [accF_succ h1 hp (by rw [hx]; exact hcp), if_neg (by omega), hF]
      have hp3 := accOk_succ h1 hp (by rw [hx]; exact hcp)
      have e0 : ((i : Int) = 0) = False := eq_false (by omega)
      obtain ⟨t5, ht5⟩ : ∃ t, dTwo 5 f0 g = t := ⟨_, rfl⟩
      rw [ht5] at hs
      repeat' (first | refine WK_drawV hm kT.out 122000 (lst [1000014]) tree181a (by kernel_rfl) (by kernel_rfl) ?_ | refine And.intro ?_ ?_ | exact True.intro | refine ReqK.i ha1 fun _ => ?_ | refine ReqK.i hd2 fun _ => ?_ | refine rq fun _ => ?_ | simp only [go_sem, hk, hb, hw, hw2, ht7, hg, tree181a, h1, hx, hF, e0, ht5, form_eta, str_eta, box_eta, getD_map_lt, Tryd.f122, Q23, Q22, Q21])
      all_goals
        refine ⟨⟨i + 1, m + 30, by omega, by omega, hp3⟩, by simp only; omega, ?_⟩
        refine Weak_g [] [] [] ?_ ?_ ?_ ?_ ?_ <;> (try simp only [go_sem, hs])
        all_goals first | done | rfl | omega | trace_state
  · obtain ⟨ha1, ha2, ha3⟩ := hxs a (by rw [hb]; simp)
    obtain ⟨hd1, hd2, hd3⟩ := hxs d (by rw [hb]; simp)
    obtain ⟨p, o, hw⟩ : ∃ w o, wholeP a = (w, o) := ⟨_, _, rfl⟩
    obtain ⟨q, o2, hw2⟩ : ∃ w o, wholeP d = (w, o) := ⟨_, _, rfl⟩
    obtain ⟨g, hg⟩ : ∃ t, dTwo 6 p q = t := ⟨_, rfl⟩
    have hcp : condP x = (g, o && o2) := by rw [condP4 hk hb, hw, hw2, hg]
    cases o <;> cases o2
    all_goals try
      have hcp : condP x = (g, false) := hcp
      have hst : bodyP b = (f0, false) := by rw [body_stop h1 hp (by rw [hx]; exact hcp), hF]
      repeat' (first | refine ReqK.i ha2 fun _ => ?_ | refine ReqK.i hd2 fun _ => ?_ | refine rq fun _ => ?_ | simp only [go_sem, hk, hb, hw, hw2, hg, h1, hx, hF, form_eta, str_eta, box_eta, getD_map_lt, Tryd.f122, Q23, Q22, Q21])
      all_goals
        rw [hQ]
        show D.val _ = some (D.tup [.fz (enc (bodyP b).1), .fz (enc (bodyP b).2)])
        rw [hst]
        simp only [go_sem, form_eta]
        all_goals first | done | rfl | trace_state
      done
    have hcp : condP x = (g, true) := hcp
    rcases Nat.eq_zero_or_pos i with h0 | h0
    · subst h0
      have hs : accF b 1 = g := by rw [accF_succ h1 hp (by rw [hx]; exact hcp), if_pos rfl]
      have hp3 := accOk_succ h1 hp (by rw [hx]; exact hcp)
      have e0 : ((0 : Int) < (b.conds.length : Int)) = True := eq_true (by omega)
      repeat' (first | refine ReqK.i ha2 fun _ => ?_ | refine ReqK.i hd2 fun _ => ?_ | refine rq fun _ => ?_ | simp only [go_sem, hk, hb, hw, hw2, hg, h1, hx, hF, e0, form_eta, str_eta, box_eta, getD_map_lt, Tryd.f122, Q23, Q22, Q21])
      all_goals
        refine ⟨⟨1, m + 30, by omega, by omega, hp3⟩, by simp only; omega, ?_⟩
        refine Weak_g [] [] [] ?_ ?_ ?_ ?_ ?_ <;> (try simp only [go_sem, hs])
        all_goals first | done | rfl | omega | trace_state
    · have hs : accF b (i + 1) = dTwo 5 f0 g := by rw [accF_succ h1 hp (by rw [hx]; exact hcp), if_neg (by omega), hF]
      have hp3 := accOk_succ h1 hp (by rw [hx]; exact hcp)
      have e0 : ((i : Int) = 0) = False := eq_false (by omega)
      obtain ⟨t5, ht5⟩ : ∃ t, dTwo 5 f0 g = t := ⟨_, rfl⟩
      rw [ht5] at hs
      repeat' (first | refine ReqK.i ha2 fun _ => ?_ | refine ReqK.i hd2 fun _ => ?_ | refine rq fun _ => ?_ | simp only [go_sem, hk, hb, hw, hw2, hg, h1, hx, hF, e0, ht5, form_eta, str_eta, box_eta, getD_map_lt, Tryd.f122, Q23, Q22, Q21])
      all_goals
        refine ⟨⟨i + 1, m + 30, by omega, by omega, hp3⟩, by simp only; omega, ?_⟩
        refine Weak_g [] [] [] ?_ ?_ ?_ ?_ ?_ <;> (try simp only [go_sem, hs])
        all_goals first | done | rfl | omega | trace_state
  · have hcp := condP5 (c := x) (.inl hk)
    have hst : bodyP b = (f0, false) := by rw [body_stop h1 hp (by rw [hx]; exact hcp), hF]
    repeat' (first | refine rq fun _ => ?_ | simp only [go_sem, hk, hb, h1, hx, hF, form_eta, str_eta, box_eta, getD_map_lt, Tryd.f122, Q23, Q22, Q21])
    all_goals
      rw [hQ]
      show D.val _ = some (D.tup [.fz (enc (bodyP b).1), .fz (enc (bodyP b).2)])
      rw [hst]
      simp only [go_sem, form_eta]
      all_goals first | done | rfl | trace_state
  · have hcp := condP5 (c := x) (.inr hk)
    have hst : bodyP b = (f0, false) := by rw [body_stop h1 hp (by rw [hx]; exact hcp), hF]
    repeat' (first | refine rq fun _ => ?_ | simp only [go_sem, hk, hb, h1, hx, hF, form_eta, str_eta, box_eta, getD_map_lt, Tryd.f122, Q23, Q22, Q21])
    all_goals
      rw [hQ]
      show D.val _ = some (D.tup [.fz (enc (bodyP b).1), .fz (enc (bodyP b).2)])
      rw [hst]
      simp only [go_sem, form_eta]
      all_goals first | done | rfl | trace_state
end Go.Proofs.YtbbjghecpcobjaaDoor

namespace Go.Proofs.YtbbjghecpcobjaaDoor
open Go Go.Abs Go.Proofs

/-! ## what a box says: the document's -/
def treeSd : Tv := (.q 0 (.q 1 (.q 2 (.q 3 (.q 4 (.br [(5, .leaf)]))))))
def tree124a : Tv := (.q 0 (.q 1 (.q 2 (.q 3 (.q 4 (.q 5 (.q 6 (.q 7 (.q 8 (.q 9 (.q 10 (.q 11 (.br [(12, (.br [(13, .leaf)]))])))))))))))))
def tree124b : Tv := (.q 0 (.q 1 (.q 2 (.q 3 (.q 4 (.q 5 (.q 6 (.q 7 (.q 8 (.br [(9, (.q 10 .leaf))]))))))))))
def tree124c : Tv := (.q 0 (.q 1 (.q 2 (.q 3 (.q 4 (.q 5 (.q 6 (.q 7 (.q 8 (.q 9 (.q 10 (.q 11 (.q 12 (.q 13 (.br [(14, (.q 15 .leaf))])))))))))))))))
def J7 : Tbl := J6
attribute [go_sem] J7
theorem hJ7 : TblOk Tryd.prog GA J7 := hJ6
end Go.Proofs.YtbbjghecpcobjaaDoor

namespace Go.Proofs.YtbbjghecpcobjaaDoor
open Go Go.Abs Go.Proofs

/-! ## discourse.Form -/
def tree51 : Tv := (.q 0 (.br [(1, (.br [(2, (.br [(3, .leaf)]))])), (2, (.q 1 (.br [(3, .leaf)])))]))
def formP (b : Abs.Box) : Abs.Form × Fault := if (boxM b).code ≠ 0 then (zeroF, boxM b) else if unsB b = true then (zeroF, ⟨8, -1⟩) else (doneF (sayM b), doneE (sayM b))
def J8 : Tbl := J7.add 31 (sp1p formP fun _ => True)
attribute [go_sem] J8
set_option maxRecDepth 100000 in
set_option maxHeartbeats 1000000 in
set_option maxHeartbeats 4000000 in
theorem hJ8 : TblOk Tryd.prog GA J8 := by
  refine sp1p_ok ok31 hJ7 fun b _ _ => ?_
  by_cases h1 : (boxM b).code = 0
  rotate_left
  · have e : formP b = (zeroF, boxM b) := by unfold formP; rw [if_pos h1]
    obtain ⟨x, hx⟩ : ∃ x, boxM b = x := ⟨_, rfl⟩
    rw [hx] at h1 e
    rw [e]
    refine Wcall_K (N := 31) hm hJ7 31000 (lst [1000003]) ok31 Tryd.func31 rfl rfl (by simp) (by kernel_rfl) ?_
    repeat' (first | refine WK_drawV hm hJ7 31000 (lst [1000003]) tree51 (by kernel_rfl) (by kernel_rfl) ?_ | refine And.intro ?_ ?_ | exact True.intro | refine rq fun _ => ?_ | simp only [go_sem, h1, hx, tree51, zeroF, form_eta, str_eta, box_eta, Tryd.f31, Q23, Q22, Q21])
    all_goals trace_state
  have hok := boxM_okT h1
  have hmz := (boxM_ok h1).1
  obtain ⟨s1, s2⟩ := whole_said hok.1
  have hsm := sayM_sm hok.1
  have htot := hok.2
  cases hu : unsB b with
  | true =>
    have e : formP b = (zeroF, ⟨8, -1⟩) := by unfold formP; rw [if_neg (by simp [h1]), if_pos hu]
    obtain ⟨w, k, hw⟩ : ∃ w k, wholeP b = (w, k) := ⟨_, _, rfl⟩
    have hk := s2 hu
    rw [hw] at hk
    have hk : k = false := hk
    subst hk
    rw [e]
    refine Wcall_K (N := 31) hm hJ7 31000 (lst [1000003]) ok31 Tryd.func31 rfl rfl (by simp) (by kernel_rfl) ?_
    repeat' (first | refine ReqK.i hok fun _ => ?_ | refine WK_drawV hm hJ7 31000 (lst [1000003]) tree51 (by kernel_rfl) (by kernel_rfl) ?_ | refine And.intro ?_ ?_ | exact True.intro | refine rq fun _ => ?_ | simp only [go_sem, hmz, hw, zeroF, form_eta, str_eta, box_eta, Tryd.f31, Q23, Q22, Q21])
    all_goals trace_state
  | false =>
    have e : formP b = (doneF (sayM b), doneE (sayM b)) := by unfold formP; rw [if_neg (by simp [h1]), if_neg (by simp [hu])]
    have hw := s1 hu
    obtain ⟨w, hws⟩ : ∃ w, sayM b = w := ⟨_, rfl⟩
    rw [hws] at e hw hsm
    have hz : szPre w := ⟨hsm.fit, by have := hsm.size; omega⟩
    rw [e]
    cases hf : fitsM w with
    | true =>
      have e1 : doneF w = canonM w [] := by unfold doneF; rw [if_pos hf]
      have e2 : doneE w = ⟨0, 0⟩ := by unfold doneE; rw [if_pos hf]
      have hcp : w.fit = true ∧ w.size ≤ 1000 := ⟨hsm.fit, by have := (of_decide_eq_true (show decide (w.size ≤ 200 ∧ w.depth ≤ 40) = true from hf)).1; omega⟩
      obtain ⟨c, hc⟩ : ∃ c, canonM w [] = c := ⟨_, rfl⟩
      rw [hc] at e1
      rw [e1, e2]
      refine Wcall_K (N := 31) hm hJ7 31000 (lst [1000003]) ok31 Tryd.func31 rfl rfl (by simp) (by kernel_rfl) ?_
      repeat' (first | refine ReqK.i hok fun _ => ?_ | refine ReqK.i hz fun _ => ?_ | refine ReqK.i hcp fun _ => ?_ | refine WK_drawV hm hJ7 31000 (lst [1000003]) tree51 (by kernel_rfl) (by kernel_rfl) ?_ | refine And.intro ?_ ?_ | exact True.intro | refine rq fun _ => ?_ | simp only [go_sem, hmz, hw, hf, hc, form_eta, str_eta, box_eta, Tryd.f31, Q23, Q22, Q21])
      all_goals trace_state
    | false =>
      have e1 : doneF w = zeroF := by unfold doneF; rw [if_neg (by simp [hf])]
      have e2 : doneE w = ⟨1, -1⟩ := by unfold doneE; rw [if_neg (by simp [hf])]
      rw [e1, e2]
      refine Wcall_K (N := 31) hm hJ7 31000 (lst [1000003]) ok31 Tryd.func31 rfl rfl (by simp) (by kernel_rfl) ?_
      repeat' (first | refine ReqK.i hok fun _ => ?_ | refine ReqK.i hz fun _ => ?_ | refine WK_drawV hm hJ7 31000 (lst [1000003]) tree51 (by kernel_rfl) (by kernel_rfl) ?_ | refine And.intro ?_ ?_ | exact True.intro | refine rq fun _ => ?_ | simp only [go_sem, hmz, hw, hf, zeroF, form_eta, str_eta, box_eta, Tryd.f31, Q23, Q22, Q21])
      all_goals trace_state
def noBx : Abs.Box := .mk [] []
end Go.Proofs.YtbbjghecpcobjaaDoor

namespace Go.Proofs.YtbbjghecpcobjaaDoor
open Go Go.Abs Go.Proofs

def accM (b : Abs.Box) (path : List Int) : List Str × Fault :=
  if (boxM b).code ≠ 0 then ([], boxM b) else if path.length % 2 ≠ 0 then ([], ⟨9, -2⟩) else match reachM b path with
  | none => ([], ⟨3, -2⟩)
  | some l => (refsOf (b :: l), ⟨0, 0⟩)

structure LoopA where
  v : Abs.Box
  b : Abs.Box
  rest : List Int
  m : Nat

def Q26 : Tbl := Q25
attribute [go_sem] Q26
theorem hQ26 : TblOk Tryd.prog G0 Q26 := hQ25
end Go.Proofs.YtbbjghecpcobjaaDoor

namespace Go.Proofs.YtbbjghecpcobjaaDoor
open Go Go.Abs Go.Proofs

def reachP (b : Abs.Box) (path : List Int) : List Abs.Box × Bool :=
  match reachM b path with
  | none => ([], false)
  | some l => (b :: l, true)
structure LoopRe where
  l : List Abs.Box
  b : Abs.Box
  bb : Abs.Box
  i : Nat
  g : Nat
  m : Nat

def Q27 : Tbl := Q26
attribute [go_sem] Q27
theorem hQ27 : TblOk Tryd.prog G0 Q27 := hQ26
end Go.Proofs.YtbbjghecpcobjaaDoor

namespace Go.Proofs.YtbbjghecpcobjaaDoor
open Go Go.Abs Go.Proofs

def G1 : Nat → List FD := fun g => if g = 0 then [.i .i64 0, .i .i64 0] else []
end Go.Proofs.YtbbjghecpcobjaaDoor

namespace Go.Proofs.YtbbjghecpcobjaaDoor
open Go Go.Abs Go.Proofs

section
variable {P : Program} {G : Nat → List FD} {T : Tbl}
end

def Q28 : Tbl := Q27
attribute [go_sem] Q28
theorem hQ28 : TblOk Tryd.prog G0 Q28 := hQ27
end Go.Proofs.YtbbjghecpcobjaaDoor

namespace Go.Proofs.YtbbjghecpcobjaaDoor
open Go Go.Abs Go.Proofs

noncomputable instance decBox : DecidableEq Abs.Box := fun _ _ => Classical.propDecidable _
def tree22 : Tr := (.node (.cons 0 (.node (.cons 1 (.node (.cons 2 (.node (.cons 3 (.node (.cons 4 (.node (.cons 5 (.node (.cons 7 (.node (.cons 6 (.node (.cons 8 (.node (.cons 9 (.node (.cons 10 (.node (.cons 11 (.node (.cons 12 (.node (.cons 13 .leaf .nil)) .nil)) .nil)) (.cons 11 (.node (.cons 10 (.node (.cons 12 (.node (.cons 13 .leaf .nil)) .nil)) .nil)) .nil))) (.cons 10 (.node (.cons 9 (.node (.cons 11 (.node (.cons 12 (.node (.cons 13 .leaf .nil)) .nil)) .nil)) (.cons 11 (.node (.cons 9 (.node (.cons 12 (.node (.cons 13 .leaf .nil)) .nil)) (.cons 12 (.node (.cons 9 (.node (.cons 13 .leaf .nil)) .nil)) .nil))) .nil))) (.cons 11 (.node (.cons 9 (.node (.cons 10 (.node (.cons 12 (.node (.cons 13 .leaf .nil)) .nil)) .nil)) (.cons 10 (.node (.cons 9 (.node (.cons 12 (.node (.cons 13 .leaf .nil)) .nil)) (.cons 12 (.node (.cons 9 (.node (.cons 13 .leaf .nil)) .nil)) .nil))) .nil))) .nil)))) .nil)) (.cons 10 (.node (.cons 6 (.node (.cons 8 (.node (.cons 9 (.node (.cons 11 (.node (.cons 12 (.node (.cons 13 .leaf .nil)) .nil)) .nil)) (.cons 11 (.node (.cons 9 (.node (.cons 12 (.node (.cons 13 .leaf .nil)) .nil)) (.cons 12 (.node (.cons 9 (.node (.cons 13 .leaf .nil)) .nil)) .nil))) .nil))) .nil)) (.cons 11 (.node (.cons 6 (.node (.cons 8 (.node (.cons 9 (.node (.cons 12 (.node (.cons 13 .leaf .nil)) .nil)) (.cons 12 (.node (.cons 9 (.node (.cons 13 .leaf .nil)) .nil)) .nil))) .nil)) (.cons 12 (.node (.cons 6 (.node (.cons 8 (.node (.cons 9 (.node (.cons 13 .leaf .nil)) .nil)) .nil)) .nil)) .nil))) .nil))) (.cons 11 (.node (.cons 6 (.node (.cons 8 (.node (.cons 9 (.node (.cons 10 (.node (.cons 12 (.node (.cons 13 .leaf .nil)) .nil)) .nil)) (.cons 10 (.node (.cons 9 (.node (.cons 12 (.node (.cons 13 .leaf .nil)) .nil)) (.cons 12 (.node (.cons 9 (.node (.cons 13 .leaf .nil)) .nil)) .nil))) .nil))) .nil)) (.cons 10 (.node (.cons 6 (.node (.cons 8 (.node (.cons 9 (.node (.cons 12 (.node (.cons 13 .leaf .nil)) .nil)) (.cons 12 (.node (.cons 9 (.node (.cons 13 .leaf .nil)) .nil)) .nil))) .nil)) (.cons 12 (.node (.cons 6 (.node (.cons 8 (.node (.cons 9 (.node (.cons 13 .leaf .nil)) .nil)) .nil)) .nil)) .nil))) .nil))) .nil)))) .nil)) .nil)) .nil)) .nil)) .nil)) .nil)) .nil))
def Q29 : Tbl := Q28
attribute [go_sem] Q29
theorem hQ29 : TblOk Tryd.prog G0 Q29 := hQ28
end Go.Proofs.YtbbjghecpcobjaaDoor

namespace Go.Abs
mutual
def Box.fit : Box → Bool
  | .mk r cs => decide (r.length ≤ 1000) && decide (cs.length ≤ 1000) && Cond.fits cs
def Cond.fit : Cond → Bool
  | .mk _ _ f bs => f.fit && decide (bs.length ≤ 1000) && Box.fits bs
def Box.fits : List Box → Bool
  | [] => true
  | b :: bs => b.fit && Box.fits bs
def Cond.fits : List Cond → Bool
  | [] => true
  | c :: cs => c.fit && Cond.fits cs
end
theorem Box.fits_mem : ∀ {l : List Box} {f : Box}, Box.fits l = true → f ∈ l → f.fit = true
  | g :: l, f, h, hm => by
    rw [Box.fits, Bool.and_eq_true] at h
    rcases List.mem_cons.1 hm with rfl | hm
    · exact h.1
    · exact Box.fits_mem h.2 hm
theorem Cond.fits_mem : ∀ {l : List Cond} {f : Cond}, Cond.fits l = true → f ∈ l → f.fit = true
  | g :: l, f, h, hm => by
    rw [Cond.fits, Bool.and_eq_true] at h
    rcases List.mem_cons.1 hm with rfl | hm
    · exact h.1
    · exact Cond.fits_mem h.2 hm
theorem Box.fit_eq {b : Box} (h : b.fit = true) : b.refs.length ≤ 1000 ∧ b.conds.length ≤ 1000 ∧ Cond.fits b.conds = true := by
  cases b; rw [Box.fit] at h
  simp only [Bool.and_eq_true, decide_eq_true_eq] at h
  exact ⟨h.1.1, h.1.2, h.2⟩
theorem Cond.fit_eq {c : Cond} (h : c.fit = true) : c.form.fit = true ∧ c.boxes.length ≤ 1000 ∧ Box.fits c.boxes = true := by
  cases c; rw [Cond.fit] at h
  simp only [Bool.and_eq_true, decide_eq_true_eq] at h
  exact ⟨h.1.1, h.1.2, h.2⟩
theorem noForm_fit {f : Form} (h : noForm f = true) : f.fit = true := by
  unfold noForm at h
  simp only [Bool.and_eq_true, decide_eq_true_eq] at h
  obtain ⟨⟨⟨_, _⟩, h3⟩, h4⟩ := h
  obtain ⟨k, nm, w, s⟩ := f
  simp only [form_words, form_subs] at h3 h4
  obtain rfl := List.eq_nil_of_length_eq_zero h3
  obtain rfl := List.eq_nil_of_length_eq_zero h4
  rw [Form.fit, Form.fits]; rfl
theorem condC_fit {c : Cond} {refs : List Str} (h : condC c refs = 0) : c.form.fit = true ∧ c.boxes.length ≤ 1000 := by
  unfold condC at h
  split at h
  · simp at h
  split at h
  · simp at h
  split at h
  · simp at h
  rename_i h1 h2 h3
  have hb : boxesK c.kind ≤ 2 := by unfold boxesK; repeat' (split <;> try decide)
  refine ⟨?_, by omega⟩
  split at h
  · rename_i h4
    cases hf : noForm c.form with
    | true => exact noForm_fit hf
    | false => exact absurd (.inr ⟨h4, hf⟩) h3
  · split at h
    · rename_i h5; exact absurd h h5
    · rename_i h5; exact checkM_fit (Decidable.not_not.1 h5)
mutual
theorem boxW_fit : ∀ (b : Box) (d m : Int) (n : Nat) (refs : List Str), (boxW b d m n refs).e.code = 0 → b.fit = true
  | .mk r cs, d, m, n, refs, h => by
    rw [boxW] at h
    split at h
    · simp at h
    split at h
    · simp at h
    rename_i h1 h2
    split at h
    · rename_i h3; exact absurd h h3
    rename_i h3
    obtain ⟨g1, g2⟩ := condsW_fit r cs d _ _ (by omega) h
    rw [Box.fit]
    simp only [Bool.and_eq_true, decide_eq_true_eq]
    exact ⟨⟨by omega, by omega⟩, g2⟩
theorem condsW_fit : ∀ (r : List Str) (cs : List Cond) (d : Int) (n : Nat) (refs : List Str), n ≤ 200 → (condsW r cs d n refs).e.code = 0 → n + cs.length ≤ 200 ∧ Cond.fits cs = true
  | r, [], d, n, refs, hn, _ => ⟨by simpa using hn, by rw [Cond.fits]⟩
  | r, c :: cs, d, n, refs, hn, h => by
    rw [condsW] at h
    split at h
    · rename_i h3; exact absurd h h3
    rename_i h3
    obtain ⟨g1, g2, g3⟩ := condW_fit r c d n refs (Decidable.not_not.1 h3)
    obtain ⟨k1, k2⟩ := condsW_fit r cs d _ _ g3 h
    rw [Cond.fits, Bool.and_eq_true, List.length_cons]
    exact ⟨by omega, g1, k2⟩
theorem condW_fit : ∀ (r : List Str) (c : Cond) (d : Int) (n : Nat) (refs : List Str), (condW r c d n refs).e.code = 0 → c.fit = true ∧ n + 1 ≤ (condW r c d n refs).n ∧ (condW r c d n refs).n ≤ 200
  | r, .mk k nm f bs, d, n, refs, h => by
    rw [condW] at h ⊢
    split at h
    · simp at h
    rename_i h3
    rw [if_neg h3]
    split at h
    · rename_i h4; exact absurd h h4
    rename_i h4
    rw [if_neg h4]
    obtain ⟨c1, c2⟩ := condC_fit (Decidable.not_not.1 h4)
    obtain ⟨g1, g2, g3⟩ := boxsW_fit bs (d + 1) (if k = 6 then 2 else 200) (n + 1) refs (by omega) h
    refine ⟨?_, g2, g3⟩
    rw [Cond.fit]
    simp only [Bool.and_eq_true, decide_eq_true_eq]
    exact ⟨⟨c1, c2⟩, g1⟩
theorem boxsW_fit : ∀ (bs : List Box) (d m : Int) (n : Nat) (refs : List Str), n ≤ 200 → (boxsW bs d m n refs).e.code = 0 → Box.fits bs = true ∧ n ≤ (boxsW bs d m n refs).n ∧ (boxsW bs d m n refs).n ≤ 200
  | [], d, m, n, refs, hn, _ => by rw [boxsW]; exact ⟨by rw [Box.fits], Nat.le_refl _, hn⟩
  | b :: bs, d, m, n, refs, hn, h => by
    rw [boxsW] at h ⊢
    split at h
    · rename_i h3; exact absurd h h3
    rename_i h3
    rw [if_neg h3]
    have hb := Decidable.not_not.1 h3
    have g1 := boxW_fit b d m n refs hb
    have g2 := boxW_n b d m n refs hb
    obtain ⟨k1, k2, k3⟩ := boxsW_fit bs d m _ _ g2.2 h
    rw [Box.fits, Bool.and_eq_true]
    exact ⟨⟨g1, k1⟩, by omega, k3⟩
theorem boxW_n : ∀ (b : Box) (d m : Int) (n : Nat) (refs : List Str), (boxW b d m n refs).e.code = 0 → n + 1 ≤ (boxW b d m n refs).n ∧ (boxW b d m n refs).n ≤ 200
  | .mk r cs, d, m, n, refs, h => by
    rw [boxW] at h ⊢
    split at h
    · simp at h
    rename_i h1
    rw [if_neg h1]
    split at h
    · simp at h
    rename_i h2
    rw [if_neg h2]
    split at h
    · rename_i h3; exact absurd h h3
    rename_i h3
    rw [if_neg h3]
    exact condsW_n r cs d _ _ (by omega) h
theorem condsW_n : ∀ (r : List Str) (cs : List Cond) (d : Int) (n : Nat) (refs : List Str), n ≤ 200 → (condsW r cs d n refs).e.code = 0 → n ≤ (condsW r cs d n refs).n ∧ (condsW r cs d n refs).n ≤ 200
  | r, [], d, n, refs, hn, _ => by rw [condsW]; exact ⟨Nat.le_refl _, hn⟩
  | r, c :: cs, d, n, refs, hn, h => by
    rw [condsW] at h ⊢
    split at h
    · rename_i h3; exact absurd h h3
    rename_i h3
    rw [if_neg h3]
    obtain ⟨g1, g2, g3⟩ := condW_fit r c d n refs (Decidable.not_not.1 h3)
    have := condsW_n r cs d _ _ g3 h
    exact ⟨by omega, this.2⟩
end
theorem boxM_fit {b : Box} (h : (boxM b).code = 0) : b.fit = true := boxW_fit b 1 200 0 [] h
end Go.Abs
namespace Go.Proofs.YtbbjghecpcobjaaDoor
open Go Go.Abs Go.Proofs

/-! ## a call that makes a row of its own -/
section
variable {P : Program} {G : Nat → List FD}
theorem Wcall_own1 {f : FuncId} {args : List D} {xs ys : List FD} {H : Heap} {n t es : Nat} {R : D → Heap → Nat → Prop} (ha : D.toFDs args = some xs)
    (h : Wcall P G f (xs.map .fz) H0 0 (fun d H1 n1 => ∃ g, g < n1 ∧ d = .ow (t, g) es ys ∧ H1 (t, g) = some tok)) (hR : ∀ g n', n ≤ g → g < n' → R (.ow (t, g) es ys) (hpX [((t, g), some tok)] H) n') : Wcall P G f args H n R := by
  refine Wcall_fresh h.1 fun hfr => Wcall_post (Wcall_own ha h) ?_
  rintro d H' n' ⟨d1, H1, n1, ⟨g, hg, rfl, ho⟩, rfl, rfl, rfl⟩
  have hsh : shH n H H1 (t, g + n) = some tok := by
    unfold shH
    rw [if_pos (by simp), show (t, g + n - n) = (t, g) by rw [Nat.add_sub_cancel], ho]
    rfl
  refine ⟨.ow (t, g + n) es ys, hpX [((t, g + n), some tok)] H, n + n1, Weak_toH ?_ (fun id o hid => ?_) (Nat.le_refl _), hR (g + n) (n + n1) (by omega) (by omega)⟩
  · exact ⟨rfl, trivial⟩
  · simp only [hpX] at hid
    split at hid
    · rename_i e; subst e; rw [← hid]; exact hsh
    · have hlt : id.2 < n := by
        rcases Nat.lt_or_ge id.2 n with h3 | h3
        · exact h3
        · rw [hfr id h3] at hid; cases hid
      show shH n H H1 id = some o
      unfold shH
      rw [if_neg (by omega)]
      exact hid
/-- two rows of its own, in a struct -/
theorem Wcall_own2 {f : FuncId} {args : List D} {xs ys zs : List FD} {H : Heap} {n t es t2 es2 : Nat} {R : D → Heap → Nat → Prop} (ha : D.toFDs args = some xs)
    (h : Wcall P G f (xs.map .fz) H0 0 (fun d H1 n1 => ∃ g g2, g < n1 ∧ g2 < n1 ∧ d = .agg [.ow (t, g) es ys, .ow (t2, g2) es2 zs] ∧ H1 (t, g) = some tok ∧ H1 (t2, g2) = some tok))
    (hR : ∀ g g2 n', n ≤ g → g < n' → n ≤ g2 → g2 < n' → R (.agg [.ow (t, g) es ys, .ow (t2, g2) es2 zs]) (hpX [((t, g), some tok), ((t2, g2), some tok)] H) n') : Wcall P G f args H n R := by
  refine Wcall_fresh h.1 fun hfr => Wcall_post (Wcall_own ha h) ?_
  rintro d H' n' ⟨d1, H1, n1, ⟨g, g2, hg, hg2, rfl, ho, ho2⟩, rfl, rfl, rfl⟩
  have hsh : shH n H H1 (t, g + n) = some tok := by
    unfold shH
    rw [if_pos (by simp), show (t, g + n - n) = (t, g) by rw [Nat.add_sub_cancel], ho]
    rfl
  have hsh2 : shH n H H1 (t2, g2 + n) = some tok := by
    unfold shH
    rw [if_pos (by simp), show (t2, g2 + n - n) = (t2, g2) by rw [Nat.add_sub_cancel], ho2]
    rfl
  refine ⟨.agg [.ow (t, g + n) es ys, .ow (t2, g2 + n) es2 zs], hpX [((t, g + n), some tok), ((t2, g2 + n), some tok)] H, n + n1, Weak_toH ?_ (fun id o hid => ?_) (Nat.le_refl _), hR (g + n) (g2 + n) (n + n1) (by omega) (by omega) (by omega) (by omega)⟩
  · exact ⟨rfl, trivial⟩
  · simp only [hpX] at hid
    split at hid
    · rename_i e; subst e; rw [← hid]; exact hsh
    split at hid
    · rename_i e; subst e; rw [← hid]; exact hsh2
    · have hlt : id.2 < n := by
        rcases Nat.lt_or_ge id.2 n with h3 | h3
        · exact h3
        · rw [hfr id h3] at hid; cases hid
      show shH n H H1 id = some o
      unfold shH
      rw [if_neg (by omega)]
      exact hid
end

/-! a copy of a row of words, as a row of its own -/
set_option maxRecDepth 100000 in
set_option maxHeartbeats 1000000 in
theorem cloneStrs {l : List Str} (hl : l.length ≤ 1000000) (hw : (enc l).Wf) : Wcall Tryd.prog G0 126 [.fz (.sl (l.map enc))] H0 0 (fun d H n => ∃ g, g < n ∧ d = .ow (126007, g) 1 (l.map enc) ∧ H (126007, g) = some tok) := by
  rw [H0_eq]
  obtain ⟨Q, hQ⟩ : ∃ Q : D → Heap → Nat → Prop, Q = (fun d H n => (d = .full [] ∧ l = [] ∧ n = 0 ∧ H = hpL []) ∨ ∃ g, g < n ∧ d = .ow (126007, g) 1 (l.map enc) ∧ H (126007, g) = some tok) := ⟨_, rfl⟩
  have key : Wcall Tryd.prog G0 126 [.fz (.sl (l.map enc))] (hpL []) 0 Q := by
    refine Wcall_K (N := 8) hm hQ6 126000 (lsw [7] []) ok126 Tryd.func126 rfl rfl (by simp) (by kernel_rfl) ?_
    simp only [go_sem]
    refine AllN.i fun b hb => ?_
    cases b
    · repeat' (first | refine rq fun _ => ?_ | refine ReqK.i (fits_of2 (by omega) (by decide)) fun _ => ?_ | refine rq fun _ => ?_ | simp only [go_sem, Tryd.f126])
      rw [hQ]
      exact .inr ⟨0, by omega, by simp only [go_sem], by simp only [go_sem]⟩
    · have : l = [] := List.eq_nil_of_length_eq_zero (hb rfl)
      subst this
      repeat' (first | refine rq fun _ => ?_ | simp only [go_sem, Tryd.f126])
      rw [hQ]
      exact .inl ⟨rfl, rfl, rfl, rfl⟩
  refine Wcall_post key ?_
  rw [hQ]
  rintro d H n (⟨rfl, rfl, rfl, rfl⟩ | ⟨g, hg, rfl, ho⟩)
  · refine ⟨.ow (126007, 0) 1 [], hpL [((126007, 0), some tok)], 1, ?_, 0, by omega, rfl, by simp only [go_sem]⟩
    refine Weak_g [] [(126007, 0)] [] ?_ ?_ ?_ ?_ ?_ <;> simp only [go_sem]
    all_goals first | done | rfl
  · exact ⟨_, H, n, Weak_toH ⟨rfl, trivial⟩ (fun _ _ h => h) (Nat.le_refl _), g, hg, rfl, ho⟩

def Q30 : Tbl := Q28.add 127 (sp1 (fun f : Abs.Form => f) fun f => f.fit = true)
attribute [go_sem] Q30
set_option maxRecDepth 100000 in
set_option maxHeartbeats 1000000 in
theorem hQ30 : TblOk Tryd.prog G0 Q30 := by
  refine sp1_rec Form.size ok127 hQ28 fun n hT f hn hfit hw => ?_
  obtain ⟨hwl, hsl, hfs⟩ := Form.fit_eq hfit
  have hsz : ∀ g ∈ f.subs, g.size < n ∧ g.fit = true := fun g hg => ⟨by have := Form.size_sub hg; omega, Form.fits_mem hfs hg⟩
  have kz := Kp.mk hsz
  have kT := Kp.mk hT
  clear hsz hT hfs hfit hn hw
  refine Wcall_K (N := 30) hm kT.out 127000 (lsw [26] [1000001]) ok127 Tryd.func127 rfl rfl (by simp) (by kernel_rfl) ?_
  repeat' (first | refine rq fun _ => ?_ | refine WK_drawF hm kT.out 127000 (lsw [26] [1000001]) (by kernel_rfl) ?_ | simp only [go_sem, Tryd.f127])
  refine WK_loop hm kT.out 127000 (lsw [26] [1000001]) (ι := LoopG f.subs.length 4 fun _ => True)
    ⟨fun q => ⟨frL [(2, .ptr (127002, 1) 0), (3, .ptr (127003, 2) 0), (15, .fz (.sl (f.subs.map enc))), (16, .fz (.i .i64 f.subs.length)), (17, .fz (.i .i64 q.i))],
      hpL [((127002, 1), some ⟨[.fz (.i .i64 0), .fz (.s []), .full [], .full []], true, false⟩), ((127003, 2), some ⟨[.fz (.i .i64 f.kind), .fz (.s f.name.l), .fz (.sl (f.words.map enc)), .ow (127026, q.g) 4 ((f.subs.take q.i).map enc)], true, false⟩), ((127026, q.g), some tok)], q.m⟩, fun q => f.subs.length - q.i⟩
    ⟨0, 3, 4, by omega, by omega, by omega, trivial⟩ (by kernel_rfl) ?_ ?_
  · refine Weak_g [] [(127026, 3)] [] ?_ ?_ ?_ ?_ ?_ <;> simp only [go_sem]
    all_goals first | done | rfl | trace_state
  rintro ⟨i, g, m, hi, hg, hm4, _⟩
  rcases Nat.lt_or_ge i f.subs.length with h1 | h1
  · obtain ⟨x, hx⟩ : ∃ x, f.subs[i] = x := ⟨_, rfl⟩
    have hxs := kz.out x (by rw [← hx]; exact List.getElem_mem h1)
    obtain ⟨hx1, hx2⟩ := hxs
    have e3 := List.take_succ_eq_append_getElem h1
    rw [hx] at e3
    repeat' (first | refine rq fun _ => ?_ | refine ReqK.i (fits_of2 (by first | omega | (rw [List.length_take]; omega)) (by decide)) fun _ => ?_ | refine ReqK.i ⟨hx1, hx2⟩ fun _ => ?_ | simp only [go_sem, h1, hx, hx1, hx2, getD_map_lt, Tryd.f127])
    refine ⟨⟨i + 1, m + 1, m + 1 + 1, by omega, by omega, by omega, trivial⟩, by simp only; omega, ?_⟩
    refine Weak_to ?_ ?_ ?_ <;> simp only [go_sem, e3, List.map_append]
  · obtain rfl : i = f.subs.length := by omega
    repeat' (first | refine rq fun _ => ?_ | simp only [go_sem, Nat.lt_irrefl, List.take_length, Tryd.f127])
end Go.Proofs.YtbbjghecpcobjaaDoor

namespace Go.Proofs.YtbbjghecpcobjaaDoor
open Go Go.Abs Go.Proofs

def T68 (n : Nat) : Tbl := (Tbl0.add 127 (sp1 (fun f : Abs.Form => f) fun f => f.fit = true)).add 78 (sp1 (fun b : Abs.Box => b) fun b => b.size < n ∧ b.fit = true)
theorem T68_of {n : Nat} (hT : TblOk Tryd.prog G0 (Q30.add 78 (sp1 (fun b : Abs.Box => b) fun b => b.size < n ∧ b.fit = true))) : TblOk Tryd.prog G0 (T68 n) := by
  refine TblOk_mono hT fun f t' ht => ?_
  by_cases h1 : f = 78
  · subst h1
    simp only [T68, Tbl.add, if_true, Option.some.injEq] at ht
    subst ht
    exact ⟨_, by simp [Tbl.add], fun xs r c h => ⟨c, h, fun h => h⟩⟩
  by_cases h2 : f = 127
  · subst h2
    simp only [T68, Tbl.add, if_true, if_neg h1, Option.some.injEq] at ht
    subst ht
    exact ⟨_, by simp [Tbl.add, Q30], fun xs r c h => ⟨c, h, fun h => h⟩⟩
  · simp only [T68, Tbl.add, if_neg h1, if_neg h2, Tbl0] at ht
    cases ht

set_option maxRecDepth 100000 in
set_option maxHeartbeats 1000000 in
theorem cloneOwn {n : Nat} (hT : TblOk Tryd.prog G0 (T68 n)) (b : Abs.Box) (hn : b.size = n) (hfit : b.fit = true) (hw : (enc b).Wf) :
    Wcall Tryd.prog G0 78 [.fz (enc b)] (hpL []) 0 (fun d H n' => ∃ g g2, g < n' ∧ g2 < n' ∧ d = .agg [.ow (126007, g) 1 (b.refs.map enc), .ow (78047, g2) 7 (b.conds.map enc)] ∧ H (126007, g) = some tok ∧ H (78047, g2) = some tok) := by
  obtain ⟨Q, hQ⟩ : ∃ Q : D → Heap → Nat → Prop, Q = (fun d H n' => ∃ g g2, g < n' ∧ g2 < n' ∧ d = .agg [.ow (126007, g) 1 (b.refs.map enc), .ow (78047, g2) 7 (b.conds.map enc)] ∧ H (126007, g) = some tok ∧ H (78047, g2) = some tok) := ⟨_, rfl⟩
  rw [← hQ]
  obtain ⟨hrl, hcl, hcf⟩ := Box.fit_eq hfit
  have hsz : ∀ c ∈ b.conds, c.size < n ∧ c.fit = true := fun c hc => ⟨by have := Box.size_sub hc; omega, Cond.fits_mem hcf hc⟩
  have hwr : (enc b.refs).Wf := by
    have h := hw
    rw [enc_box] at h
    exact Wf_agg h (FD.sl (b.refs.map enc)) (by simp)
  have kq := Kp.mk hQ
  have kz := Kp.mk hsz
  have kT := Kp.mk hT
  have kw := Kp.mk hwr
  clear hsz hT hcf hfit hn hw hwr hQ
  refine Wcall_K (N := 51) hm kT.out 78000 (lsw [40, 47] [1000005]) ok78 Tryd.func78 rfl rfl (by simp) (by kernel_rfl) ?_
  repeat' (first | refine rq fun _ => ?_ | simp only [go_sem, Tryd.f78, T68, Tbl0])
  refine WcallK.i (Wcall_own1 rfl (cloneStrs (by omega) kw.out) fun g n1 hg1 hg2 => ?_)
  repeat' (first | refine rq fun _ => ?_ | simp only [go_sem, Tryd.f78, T68, Tbl0])
  refine WK_loop hm kT.out 78000 (lsw [40, 47] [1000005]) (ι := LoopG b.conds.length (n1 + 2) fun _ => True)
    ⟨fun q => ⟨frL [(2, .ptr (78002, 1) 0), (3, .ptr (78003, n1) 0), (14, .fz (.sl (b.conds.map enc))), (15, .fz (.i .i64 b.conds.length)), (16, .fz (.i .i64 q.i))],
      hpL [((78002, 1), some ⟨[.full [], .full []], true, false⟩), ((78003, n1), some ⟨[.ow (126007, g) 1 (b.refs.map enc), .ow (78047, q.g) 7 ((b.conds.take q.i).map enc)], true, false⟩),
        ((126007, g), some tok), ((78047, q.g), some tok)], q.m⟩, fun q => b.conds.length - q.i⟩
    ⟨0, n1 + 1, n1 + 2, by omega, by omega, by omega, trivial⟩ (by kernel_rfl) ?_ ?_
  · refine Weak_g [] [(78047, n1 + 1)] [] ?_ ?_ ?_ ?_ ?_ <;> simp only [go_sem]
    all_goals first | done | rfl | omega | trace_state
  rintro ⟨i, g2, m, hi, hg, hm4, _⟩
  rcases Nat.lt_or_ge i b.conds.length with h1 | h1
  · obtain ⟨c, hx⟩ : ∃ c, b.conds[i] = c := ⟨_, rfl⟩
    obtain ⟨hc1, hc2⟩ := kz.out c (by rw [← hx]; exact List.getElem_mem h1)
    obtain ⟨hcf, hbl, hbf⟩ := Cond.fit_eq hc2
    have hbs : ∀ x ∈ c.boxes, x.size < n ∧ x.fit = true := fun x hx => ⟨by have := Cond.size_sub hx; omega, Box.fits_mem hbf hx⟩
    have kb := Kp.mk hbs
    clear hbs
    have e3 := List.take_succ_eq_append_getElem h1
    rw [hx] at e3
    repeat' (first | refine rq fun _ => ?_ | refine WK_drawF hm kT.out 78000 (lsw [40, 47] [1000005]) (by kernel_rfl) ?_ | simp only [go_sem, h1, hx, hcf, getD_map_lt, Tryd.f78, T68, Tbl0])
    refine WK_loop hm kT.out 78000 (lsw [40, 47] [1000005]) (ι := LoopG c.boxes.length (m + 3) fun _ => True)
      ⟨fun q => ⟨frL [(2, .ptr (78002, 1) 0), (3, .ptr (78003, n1) 0), (6, .ptr (78006, m + 1) 0), (14, .fz (.sl (b.conds.map enc))), (15, .fz (.i .i64 b.conds.length)), (16, .fz (.i .i64 i)), (29, .fz (.sl (c.boxes.map enc))), (30, .fz (.i .i64 c.boxes.length)), (31, .fz (.i .i64 q.i))],
        hpL [((78006, m + 1), some ⟨[.fz (.i .i64 c.kind), .fz (.s c.name.l), .fz (.i .i64 c.form.kind), .fz (.s c.form.name.l), .fz (.sl (c.form.words.map enc)), .fz (.sl (c.form.subs.map enc)), .ow (78040, q.g) 2 ((c.boxes.take q.i).map enc)], true, false⟩), ((78040, q.g), some tok),
          ((78002, 1), some ⟨[.full [], .full []], true, false⟩), ((78003, n1), some ⟨[.ow (126007, g) 1 (b.refs.map enc), .ow (78047, g2) 7 ((b.conds.take i).map enc)], true, false⟩),
          ((126007, g), some tok), ((78047, g2), some tok)], q.m⟩, fun q => c.boxes.length - q.i⟩
      ⟨0, m + 2, m + 3, by omega, by omega, by omega, trivial⟩ (by kernel_rfl) ?_ ?_
    · refine Weak_g [] [(78040, m + 2)] [] ?_ ?_ ?_ ?_ ?_ <;> simp only [go_sem]
      all_goals first | done | rfl | omega | trace_state
    rintro ⟨k, g3, m3, hk, hg3, hm3, _⟩
    rcases Nat.lt_or_ge k c.boxes.length with h2 | h2
    · obtain ⟨x, hxk⟩ : ∃ x, c.boxes[k] = x := ⟨_, rfl⟩
      obtain ⟨hx1, hx2⟩ := kb.out x (by rw [← hxk]; exact List.getElem_mem h2)
      have e4 := List.take_succ_eq_append_getElem h2
      rw [hxk] at e4
      repeat' (first | refine rq fun _ => ?_ | refine ReqK.i (fits_of2 (by first | omega | (rw [List.length_take]; omega)) (by decide)) fun _ => ?_ | refine ReqK.i ⟨hx1, hx2⟩ fun _ => ?_ | simp only [go_sem, h2, hxk, hx1, hx2, getD_map_lt, Tryd.f78, T68, Tbl0])
      refine ⟨⟨k + 1, m3 + 1, m3 + 1 + 1, by omega, by omega, by omega, trivial⟩, by simp only; omega, ?_⟩
      refine Weak_to ?_ ?_ ?_ <;> simp only [go_sem, e4, List.map_append]
    · obtain rfl : k = c.boxes.length := by omega
      repeat' (first | refine rq fun _ => ?_ | refine ReqK.i (fits_of2 (by first | omega | (rw [List.length_take]; omega)) (by decide)) fun _ => ?_ | simp only [go_sem, Nat.lt_irrefl, List.take_length, Tryd.f78, T68, Tbl0])
      refine ⟨⟨i + 1, m3, m3 + 1, by omega, by omega, by omega, trivial⟩, by simp only; omega, ?_⟩
      refine Weak_to ?_ ?_ ?_ <;> simp only [go_sem, e3, List.map_append]
  · obtain rfl : i = b.conds.length := by omega
    repeat' (first | refine rq fun _ => ?_ | simp only [go_sem, Nat.lt_irrefl, List.take_length, Tryd.f78])
    rw [kq.out]
    exact ⟨g, g2, by omega, by omega, rfl, by simp only [go_sem], by simp only [go_sem]⟩

def Q31 : Tbl := Q30.add 78 (sp1 (fun b : Abs.Box => b) fun b => b.fit = true)
attribute [go_sem] Q31
theorem hQ31 : TblOk Tryd.prog G0 Q31 := by
  refine sp1_rec Box.size ok78 hQ30 fun n hT b hn hfit hw => ?_
  refine Wcall_mono (cloneOwn (T68_of hT) b hn hfit hw) ?_
  rintro d H n' ⟨g, g2, _, _, rfl, _, _⟩
  rw [enc_box]
  rfl
/-- a copy of a box, as rows of its own -/
theorem cloneBox {b : Abs.Box} (hfit : b.fit = true) (hw : (enc b).Wf) : Wcall Tryd.prog G0 78 [.fz (.agg [.sl (b.refs.map enc), .sl (b.conds.map enc)])] H0 0 (fun d H n' => ∃ g g2, g < n' ∧ g2 < n' ∧ d = .agg [.ow (126007, g) 1 (b.refs.map enc), .ow (78047, g2) 7 (b.conds.map enc)] ∧ H (126007, g) = some tok ∧ H (78047, g2) = some tok) := by
  rw [H0_eq]
  have hT : TblOk Tryd.prog G0 (Q30.add 78 (sp1 (fun b : Abs.Box => b) fun a => a.size < b.size ∧ a.fit = true)) := by
    refine TblOk_mono hQ31 fun f t' ht => ?_
    by_cases h1 : f = 78
    · subst h1
      simp only [Tbl.add, if_true, Option.some.injEq] at ht
      subst ht
      refine ⟨sp1 (fun b : Abs.Box => b) fun b => b.fit = true, by simp only [Q31, Tbl.add, if_true], fun xs r c h => ?_⟩
      unfold sp1 at h ⊢
      split at h
      · simp only [Option.some.injEq, Prod.mk.injEq] at h
        obtain ⟨rfl, rfl⟩ := h
        exact ⟨_, rfl, fun h => ⟨h.1, h.2.2⟩⟩
      · cases h
    · simp only [Tbl.add, if_neg h1] at ht
      exact ⟨t', by simp only [Q31, Tbl.add, if_neg h1]; exact ht, fun xs r c h => ⟨c, h, fun h => h⟩⟩
  have h := cloneOwn (T68_of hT) b rfl hfit hw
  rw [enc_box] at h
  exact h
end Go.Proofs.YtbbjghecpcobjaaDoor

namespace Go.Proofs.YtbbjghecpcobjaaDoor
open Go Go.Abs Go.Proofs

def mergeM (a b : Abs.Box) : Abs.Box × Fault :=
  if (boxM a).code ≠ 0 then (noB, boxM a) else if (boxM b).code ≠ 0 then (noB, boxM b)
  else if (boxM (withM a b)).code ≠ 0 then (noB, ⟨(boxM (withM a b)).code, -2⟩) else (withM a b, ⟨0, 0⟩)
def tree217 : Tr := (.node (.cons 0 (.node (.cons 1 (.node (.cons 2 (.node (.cons 3 (.node (.cons 4 (.node (.cons 5 (.node (.cons 6 (.node (.cons 7 .leaf .nil)) .nil)) .nil)) (.cons 5 (.node (.cons 4 (.node (.cons 6 (.node (.cons 7 .leaf .nil)) .nil)) .nil)) .nil))) (.cons 4 (.node (.cons 3 (.node (.cons 5 (.node (.cons 6 (.node (.cons 7 .leaf .nil)) .nil)) .nil)) (.cons 5 (.node (.cons 3 (.node (.cons 6 (.node (.cons 7 .leaf .nil)) .nil)) .nil)) .nil))) (.cons 5 (.node (.cons 3 (.node (.cons 4 (.node (.cons 6 (.node (.cons 7 .leaf .nil)) .nil)) .nil)) (.cons 4 (.node (.cons 3 (.node (.cons 6 (.node (.cons 7 .leaf .nil)) .nil)) .nil)) .nil))) .nil)))) (.cons 4 (.node (.cons 2 (.node (.cons 3 (.node (.cons 5 (.node (.cons 6 (.node (.cons 7 .leaf .nil)) .nil)) .nil)) (.cons 5 (.node (.cons 3 (.node (.cons 6 (.node (.cons 7 .leaf .nil)) .nil)) .nil)) .nil))) (.cons 5 (.node (.cons 2 (.node (.cons 3 (.node (.cons 6 (.node (.cons 7 .leaf .nil)) .nil)) .nil)) .nil)) .nil))) (.cons 5 (.node (.cons 2 (.node (.cons 3 (.node (.cons 4 (.node (.cons 6 (.node (.cons 7 .leaf .nil)) .nil)) .nil)) (.cons 4 (.node (.cons 3 (.node (.cons 6 (.node (.cons 7 .leaf .nil)) .nil)) .nil)) .nil))) (.cons 4 (.node (.cons 2 (.node (.cons 3 (.node (.cons 6 (.node (.cons 7 .leaf .nil)) .nil)) .nil)) .nil)) .nil))) .nil)))) (.cons 2 (.node (.cons 1 (.node (.cons 3 (.node (.cons 4 (.node (.cons 5 (.node (.cons 6 (.node (.cons 7 .leaf .nil)) .nil)) .nil)) (.cons 5 (.node (.cons 4 (.node (.cons 6 (.node (.cons 7 .leaf .nil)) .nil)) .nil)) .nil))) (.cons 4 (.node (.cons 3 (.node (.cons 5 (.node (.cons 6 (.node (.cons 7 .leaf .nil)) .nil)) .nil)) (.cons 5 (.node (.cons 3 (.node (.cons 6 (.node (.cons 7 .leaf .nil)) .nil)) .nil)) .nil))) (.cons 5 (.node (.cons 3 (.node (.cons 4 (.node (.cons 6 (.node (.cons 7 .leaf .nil)) .nil)) .nil)) (.cons 4 (.node (.cons 3 (.node (.cons 6 (.node (.cons 7 .leaf .nil)) .nil)) .nil)) .nil))) .nil)))) (.cons 4 (.node (.cons 1 (.node (.cons 3 (.node (.cons 5 (.node (.cons 6 (.node (.cons 7 .leaf .nil)) .nil)) .nil)) (.cons 5 (.node (.cons 3 (.node (.cons 6 (.node (.cons 7 .leaf .nil)) .nil)) .nil)) .nil))) (.cons 5 (.node (.cons 1 (.node (.cons 3 (.node (.cons 6 (.node (.cons 7 .leaf .nil)) .nil)) .nil)) .nil)) .nil))) (.cons 5 (.node (.cons 1 (.node (.cons 3 (.node (.cons 4 (.node (.cons 6 (.node (.cons 7 .leaf .nil)) .nil)) .nil)) (.cons 4 (.node (.cons 3 (.node (.cons 6 (.node (.cons 7 .leaf .nil)) .nil)) .nil)) .nil))) (.cons 4 (.node (.cons 1 (.node (.cons 3 (.node (.cons 6 (.node (.cons 7 .leaf .nil)) .nil)) .nil)) .nil)) .nil))) .nil)))) (.cons 4 (.node (.cons 1 (.node (.cons 2 (.node (.cons 3 (.node (.cons 5 (.node (.cons 6 (.node (.cons 7 .leaf .nil)) .nil)) .nil)) (.cons 5 (.node (.cons 3 (.node (.cons 6 (.node (.cons 7 .leaf .nil)) .nil)) .nil)) .nil))) (.cons 5 (.node (.cons 2 (.node (.cons 3 (.node (.cons 6 (.node (.cons 7 .leaf .nil)) .nil)) .nil)) .nil)) .nil))) (.cons 2 (.node (.cons 1 (.node (.cons 3 (.node (.cons 5 (.node (.cons 6 (.node (.cons 7 .leaf .nil)) .nil)) .nil)) (.cons 5 (.node (.cons 3 (.node (.cons 6 (.node (.cons 7 .leaf .nil)) .nil)) .nil)) .nil))) (.cons 5 (.node (.cons 1 (.node (.cons 3 (.node (.cons 6 (.node (.cons 7 .leaf .nil)) .nil)) .nil)) .nil)) .nil))) (.cons 5 (.node (.cons 1 (.node (.cons 2 (.node (.cons 3 (.node (.cons 6 (.node (.cons 7 .leaf .nil)) .nil)) .nil)) .nil)) (.cons 2 (.node (.cons 1 (.node (.cons 3 (.node (.cons 6 (.node (.cons 7 .leaf .nil)) .nil)) .nil)) .nil)) .nil))) .nil)))) (.cons 5 (.node (.cons 1 (.node (.cons 2 (.node (.cons 3 (.node (.cons 4 (.node (.cons 6 (.node (.cons 7 .leaf .nil)) .nil)) .nil)) (.cons 4 (.node (.cons 3 (.node (.cons 6 (.node (.cons 7 .leaf .nil)) .nil)) .nil)) .nil))) (.cons 4 (.node (.cons 2 (.node (.cons 3 (.node (.cons 6 (.node (.cons 7 .leaf .nil)) .nil)) .nil)) .nil)) .nil))) (.cons 2 (.node (.cons 1 (.node (.cons 3 (.node (.cons 4 (.node (.cons 6 (.node (.cons 7 .leaf .nil)) .nil)) .nil)) (.cons 4 (.node (.cons 3 (.node (.cons 6 (.node (.cons 7 .leaf .nil)) .nil)) .nil)) .nil))) (.cons 4 (.node (.cons 1 (.node (.cons 3 (.node (.cons 6 (.node (.cons 7 .leaf .nil)) .nil)) .nil)) .nil)) .nil))) (.cons 4 (.node (.cons 1 (.node (.cons 2 (.node (.cons 3 (.node (.cons 6 (.node (.cons 7 .leaf .nil)) .nil)) .nil)) .nil)) (.cons 2 (.node (.cons 1 (.node (.cons 3 (.node (.cons 6 (.node (.cons 7 .leaf .nil)) .nil)) .nil)) .nil)) .nil))) .nil)))) .nil))))) .nil))
def tree218 : Tr := (.node (.cons 0 (.node (.cons 1 (.node (.cons 2 (.node (.cons 3 (.node (.cons 5 (.node (.cons 7 (.node (.cons 4 (.node (.cons 6 (.node (.cons 8 (.node (.cons 9 (.node (.cons 10 (.node (.cons 11 (.node (.cons 12 .leaf .nil)) .nil)) .nil)) (.cons 11 (.node (.cons 9 (.node (.cons 10 (.node (.cons 12 .leaf .nil)) .nil)) .nil)) .nil))) (.cons 11 (.node (.cons 8 (.node (.cons 9 (.node (.cons 10 (.node (.cons 12 .leaf .nil)) .nil)) .nil)) .nil)) .nil))) (.cons 8 (.node (.cons 6 (.node (.cons 9 (.node (.cons 10 (.node (.cons 11 (.node (.cons 12 .leaf .nil)) .nil)) .nil)) (.cons 11 (.node (.cons 9 (.node (.cons 10 (.node (.cons 12 .leaf .nil)) .nil)) .nil)) .nil))) (.cons 11 (.node (.cons 6 (.node (.cons 9 (.node (.cons 10 (.node (.cons 12 .leaf .nil)) .nil)) .nil)) .nil)) .nil))) (.cons 11 (.node (.cons 6 (.node (.cons 8 (.node (.cons 9 (.node (.cons 10 (.node (.cons 12 .leaf .nil)) .nil)) .nil)) .nil)) .nil)) .nil)))) (.cons 6 (.node (.cons 4 (.node (.cons 8 (.node (.cons 9 (.node (.cons 10 (.node (.cons 11 (.node (.cons 12 .leaf .nil)) .nil)) .nil)) (.cons 11 (.node (.cons 9 (.node (.cons 10 (.node (.cons 12 .leaf .nil)) .nil)) .nil)) .nil))) (.cons 11 (.node (.cons 8 (.node (.cons 9 (.node (.cons 10 (.node (.cons 12 .leaf .nil)) .nil)) .nil)) .nil)) .nil))) (.cons 8 (.node (.cons 4 (.node (.cons 9 (.node (.cons 10 (.node (.cons 11 (.node (.cons 12 .leaf .nil)) .nil)) .nil)) (.cons 11 (.node (.cons 9 (.node (.cons 10 (.node (.cons 12 .leaf .nil)) .nil)) .nil)) .nil))) (.cons 11 (.node (.cons 4 (.node (.cons 9 (.node (.cons 10 (.node (.cons 12 .leaf .nil)) .nil)) .nil)) .nil)) .nil))) (.cons 11 (.node (.cons 4 (.node (.cons 8 (.node (.cons 9 (.node (.cons 10 (.node (.cons 12 .leaf .nil)) .nil)) .nil)) .nil)) (.cons 8 (.node (.cons 4 (.node (.cons 9 (.node (.cons 10 (.node (.cons 12 .leaf .nil)) .nil)) .nil)) .nil)) .nil))) .nil)))) (.cons 8 (.node (.cons 4 (.node (.cons 6 (.node (.cons 9 (.node (.cons 10 (.node (.cons 11 (.node (.cons 12 .leaf .nil)) .nil)) .nil)) (.cons 11 (.node (.cons 9 (.node (.cons 10 (.node (.cons 12 .leaf .nil)) .nil)) .nil)) .nil))) (.cons 11 (.node (.cons 6 (.node (.cons 9 (.node (.cons 10 (.node (.cons 12 .leaf .nil)) .nil)) .nil)) .nil)) .nil))) (.cons 6 (.node (.cons 4 (.node (.cons 9 (.node (.cons 10 (.node (.cons 11 (.node (.cons 12 .leaf .nil)) .nil)) .nil)) (.cons 11 (.node (.cons 9 (.node (.cons 10 (.node (.cons 12 .leaf .nil)) .nil)) .nil)) .nil))) (.cons 11 (.node (.cons 4 (.node (.cons 9 (.node (.cons 10 (.node (.cons 12 .leaf .nil)) .nil)) .nil)) .nil)) .nil))) (.cons 11 (.node (.cons 4 (.node (.cons 6 (.node (.cons 9 (.node (.cons 10 (.node (.cons 12 .leaf .nil)) .nil)) .nil)) .nil)) (.cons 6 (.node (.cons 4 (.node (.cons 9 (.node (.cons 10 (.node (.cons 12 .leaf .nil)) .nil)) .nil)) .nil)) .nil))) .nil)))) (.cons 11 (.node (.cons 4 (.node (.cons 6 (.node (.cons 8 (.node (.cons 9 (.node (.cons 10 (.node (.cons 12 .leaf .nil)) .nil)) .nil)) .nil)) .nil)) (.cons 6 (.node (.cons 4 (.node (.cons 8 (.node (.cons 9 (.node (.cons 10 (.node (.cons 12 .leaf .nil)) .nil)) .nil)) .nil)) (.cons 8 (.node (.cons 4 (.node (.cons 9 (.node (.cons 10 (.node (.cons 12 .leaf .nil)) .nil)) .nil)) .nil)) .nil))) (.cons 8 (.node (.cons 4 (.node (.cons 6 (.node (.cons 9 (.node (.cons 10 (.node (.cons 12 .leaf .nil)) .nil)) .nil)) .nil)) (.cons 6 (.node (.cons 4 (.node (.cons 9 (.node (.cons 10 (.node (.cons 12 .leaf .nil)) .nil)) .nil)) .nil)) .nil))) .nil)))) .nil))))) .nil)) .nil)) .nil)) .nil)) .nil)) .nil))
def tree213 : Tr := (.node (.cons 0 (.node (.cons 1 (.node (.cons 2 (.node (.cons 3 .leaf .nil)) .nil)) (.cons 2 (.node (.cons 1 (.node (.cons 3 .leaf .nil)) .nil)) .nil))) .nil))
def tree216 : Tr := (.node (.cons 0 (.node (.cons 1 (.node (.cons 2 (.node (.cons 3 .leaf .nil)) .nil)) (.cons 2 (.node (.cons 1 (.node (.cons 3 .leaf .nil)) .nil)) .nil))) .nil))
def tree2111 : Tr := (.node (.cons 0 (.node (.cons 1 (.node (.cons 2 (.node (.cons 3 (.node (.cons 4 (.node (.cons 5 .leaf .nil)) .nil)) .nil)) (.cons 4 (.node (.cons 2 (.node (.cons 3 (.node (.cons 5 .leaf .nil)) .nil)) .nil)) .nil))) .nil)) .nil))
structure M7 where
  g8 : Nat
  g9 : Nat
  gx : Nat
  gx2 : Nat
  gy : Nat
  gy2 : Nat
  m : Nat
noncomputable def Q32 : Tbl := Q29.add 32 (sp2p mergeM fun _ _ => True)
attribute [go_sem] Q32
set_option maxRecDepth 100000 in
set_option maxHeartbeats 1000000 in
set_option maxHeartbeats 8000000 in
theorem hQ32 : TblOk Tryd.prog G0 Q32 := by
  refine sp2p_ok ok32 hQ29 fun a b _ hwa hwb => ?_
  obtain ⟨Q, hQ⟩ : ∃ Q : D → Heap → Nat → Prop, Q = (fun d _ _ => D.val d = some (.tup [.fz (enc (mergeM a b).1), .fz (enc (mergeM a b).2)])) := ⟨_, rfl⟩
  rw [← hQ]
  have h1 : ∀ {c i : Int} {H' : Heap} {n' : Nat}, mergeM a b = (noB, ⟨c, i⟩) → Q (.tup [.agg [.full [], .full []], .agg [.fz (.i .i64 c), .fz (.i .i64 i)]]) H' n' := fun e => by rw [hQ, e]; simp only [noB]; rw [enc_box]; rfl
  have h2 : ∀ {i1 i2 : Abs.Id} {xs ys : List FD} {H' : Heap} {n' : Nat}, mergeM a b = (withM a b, ⟨0, 0⟩) → xs = (a.refs ++ b.refs).map enc → ys = (a.conds ++ b.conds).map enc → Q (.tup [.agg [.ow i1 1 xs, .ow i2 7 ys], .agg [.fz (.i .i64 0), .fz (.i .i64 0)]]) H' n' := fun e e1 e2 => by rw [hQ, e, e1, e2]; simp only [withM]; rw [enc_box]; rfl
  have k1 := Kp.mk @h1
  have k2 := Kp.mk @h2
  have kwa := Kp.mk hwa
  have kwb := Kp.mk hwb
  clear h1 h2 hQ hwa hwb
  refine Wcall_K (N := 52) hm hQ29 32000 (lsw [34, 39] [1000003, 1000006, 1000007, 1000008, 1000011]) ok32 Tryd.func32 rfl rfl (by simp) (by kernel_rfl) ?_
  by_cases hca : ¬ (boxM a).code = 0
  · repeat' (first | refine And.intro ?_ ?_ | exact True.intro | refine rq fun _ => ?_ | refine WK_drawG hm hQ29 32000 (lsw [34, 39] [1000003, 1000006, 1000007, 1000008, 1000011]) tree213 (by kernel_rfl) (by kernel_rfl) ?_ | simp only [go_sem, hca, tree213, Tryd.f32])
    all_goals exact k1.out (by unfold mergeM; rw [if_pos hca])
  have hca := Decidable.not_not.1 hca
  by_cases hcb : ¬ (boxM b).code = 0
  · repeat' (first | refine And.intro ?_ ?_ | exact True.intro | refine rq fun _ => ?_ | refine WK_drawG hm hQ29 32000 (lsw [34, 39] [1000003, 1000006, 1000007, 1000008, 1000011]) tree216 (by kernel_rfl) (by kernel_rfl) ?_ | simp only [go_sem, hca, hcb, tree216, Tryd.f32])
    all_goals exact k1.out (by unfold mergeM; rw [if_neg (by simp [hca]), if_pos hcb])
  have hcb := Decidable.not_not.1 hcb
  have hfa := boxM_fit hca
  have hfb := boxM_fit hcb
  have hra := Box.fit_eq hfa
  have hrb := Box.fit_eq hfb
  repeat' (first | refine rq fun _ => ?_ | simp only [go_sem, hca, hcb, Tryd.f32])
  refine WK_join (ι := M7) (fun g => ⟨frL [(4, .ptr (32004, 2) 0), (5, .ptr (32005, 3) 0), (8, .ptr (32008, g.g8) 0), (9, .ptr (32009, g.g9) 0)],
    hpL [((32004, 2), some ⟨[.full [], .full []], true, false⟩), ((32005, 3), some ⟨[.fz (.i .i64 0), .fz (.i .i64 0)], true, false⟩),
      ((32008, g.g8), some ⟨[.ow (126007, g.gx) 1 (a.refs.map enc), .ow (78047, g.gx2) 7 (a.conds.map enc)], true, false⟩),
      ((32009, g.g9), some ⟨[.ow (126007, g.gy) 1 (b.refs.map enc), .ow (78047, g.gy2) 7 (b.conds.map enc)], true, false⟩),
      ((126007, g.gx), some tok), ((78047, g.gx2), some tok)], g.m⟩) (fun g => ?_) (WK_drawG hm hQ29 32000 (lsw [34, 39] [1000003, 1000006, 1000007, 1000008, 1000011]) tree217 (by kernel_rfl) (by kernel_rfl) ?_)
  rotate_left
  · --SKIP7
    repeat' (first | refine And.intro ?_ ?_ | exact True.intro | refine rq fun _ => ?_ | refine WcallK.i (Wcall_own2 rfl (cloneBox hfa kwa.out) fun gx gx2 n1 p1 p2 p3 p4 => ?_) | refine WcallK.i (Wcall_own2 rfl (cloneBox hfb kwb.out) fun gy gy2 n2 p5 p6 p7 p8 => ?_) | simp only [go_sem, tree217, Tryd.f32])
    all_goals
      have hne1 : ¬ gx = gy := by omega
      have hne2 : ¬ gx2 = gy2 := by omega
      exact ⟨⟨_, _, gx, gx2, gy, gy2, _⟩, Weak_to ⟨rfl, rfl, rfl, rfl, trivial⟩ (by simp only [go_sem, hne1, hne2]) (Nat.le_refl _)⟩
  obtain ⟨g8, g9, gx, gx2, gy, gy2, m⟩ := g
  repeat' (first | refine rq fun _ => ?_ | simp only [go_sem, Tryd.f32])
  refine WK_join (ι := Nat × Nat × Nat) (fun g => ⟨frL [(4, .ptr (32004, 2) 0), (5, .ptr (32005, 3) 0), (10, .ptr (32010, g.1) 0)],
    hpL [((32004, 2), some ⟨[.full [], .full []], true, false⟩), ((32005, 3), some ⟨[.fz (.i .i64 0), .fz (.i .i64 0)], true, false⟩),
      ((32010, g.1), some ⟨[.ow (32034, g.2.1) 1 ((a.refs ++ b.refs).map enc), .ow (32039, g.2.2) 7 ((a.conds ++ b.conds).map enc)], true, false⟩)], m + 3⟩) (fun g => ?_) (WK_drawG hm hQ29 32000 (lsw [34, 39] [1000003, 1000006, 1000007, 1000008, 1000011]) tree218 (by kernel_rfl) (by kernel_rfl) ?_)
  rotate_left
  · repeat' (first | refine And.intro ?_ ?_ | exact True.intro | refine rq fun _ => ?_ | refine ReqK.i (fits_of2 (by omega) (by decide)) fun _ => ?_ | simp only [go_sem, tree218, Tryd.f32])
    all_goals first
      | exact ⟨(m, m + 1, m + 2), Weak_to ⟨rfl, rfl, rfl, trivial⟩ (by simp only [go_sem, List.map_append]) (by simp only; omega)⟩
      | exact ⟨(m + 1, m, m + 2), Weak_to ⟨rfl, rfl, rfl, trivial⟩ (by simp only [go_sem, List.map_append]) (by simp only; omega)⟩
      | exact ⟨(m + 2, m, m + 1), Weak_to ⟨rfl, rfl, rfl, trivial⟩ (by simp only [go_sem, List.map_append]) (by simp only; omega)⟩
      | trace_state
  obtain ⟨g1, g2, g3⟩ := g
  have hm2 : boxM (.mk (a.refs ++ b.refs) (a.conds ++ b.conds)) = boxM (withM a b) := rfl
  by_cases hcc : ¬ (boxM (withM a b)).code = 0
  · repeat' (first | refine And.intro ?_ ?_ | exact True.intro | refine rq fun _ => ?_ | refine WK_drawG hm hQ29 32000 (lsw [34, 39] [1000003, 1000006, 1000007, 1000008, 1000011]) tree2111 (by kernel_rfl) (by kernel_rfl) ?_ | simp only [go_sem, hm2, hcc, tree2111, Tryd.f32])
    all_goals exact k1.out (by unfold mergeM; rw [if_neg (by simp [hca]), if_neg (by simp [hcb]), if_pos hcc])
  have hcc := Decidable.not_not.1 hcc
  repeat' (first | refine rq fun _ => ?_ | simp only [go_sem, hm2, hcc, Tryd.f32])
  exact k2.out (by unfold mergeM; rw [if_neg (by simp [hca]), if_neg (by simp [hcb]), if_neg (by simp [hcc])]) List.map_append.symm List.map_append.symm
end Go.Proofs.YtbbjghecpcobjaaDoor
