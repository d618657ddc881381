import Derived.Test.YtdlioodgfopmfaaDoorAT
import Derived.Test.YtdlioodgfopmfaaDoorY10
import Derived.Test.YtdlioodgfopmfaaDoorTK
set_option linter.unusedSimpArgs false
namespace Go.Proofs.YtdlioodgfopmfaaDoor
open Go Go.Abs Go.Proofs

/-! ## check -/
section
variable {P : Program} {G : Nat → List FD} {T : Tbl}
/-- a recursive function of two arguments, measured at the second, under a condition -/
theorem sp2_recB {α β ρ : Type} [Enc α] [Enc β] [Enc ρ] {f : FuncId} {g : α → β → ρ} {pre : α → β → Prop} (m : β → Nat) (hc : CallOk P f) (hT : TblOk P G T)
    (h : ∀ n, TblOk P G (T.add f (sp2 g fun a b => m b < n ∧ pre a b)) → ∀ a b, m b = n → pre a b → (enc a).Wf → (enc b).Wf → Wcall P G f [.fz (enc a), .fz (enc b)] (hpL []) 0 (fun d _ _ => D.val d = some (.fz (enc (g a b))))) : TblOk P G (T.add f (sp2 g pre)) := by
  have key : ∀ n, TblOk P G (T.add f (sp2 g fun a b => m b < n ∧ pre a b)) := by
    intro n
    induction n with
    | zero => exact sp2_ok hc hT fun a b ha => by omega
    | succ n ih =>
      refine sp2_ok hc hT fun a b ha hw hw2 => ?_
      rcases Nat.lt_or_ge (m b) n with h1 | h1
      · have h2 := ih f (sp2 g fun a b => m b < n ∧ pre a b) [enc a, enc b] _ _ (by simp [Tbl.add]) (k_sp2) ⟨by rw [dec_enc], by rw [dec_enc], by rw [dec_enc, dec_enc]; exact ⟨h1, ha.2⟩⟩
        rw [dec_enc, dec_enc, H0_eq] at h2
        exact h2
      · exact h n ih a b (by omega) ha.2 hw hw2
  exact sp2_ok hc hT fun a b ha hw hw2 => h (m b) (key _) a b rfl ha hw hw2
end
def treeK12 : Tv := (.q 0 (.q 1 (.q 2 (.q 3 (.q 4 .leaf)))))
def treeK14 : Tv := (.q 0 (.q 1 (.q 2 (.q 3 (.q 4 (.q 5 (.q 6 (.q 7 (.q 8 (.q 9 (.q 10 (.q 11 (.q 12 (.q 13 (.q 14 (.q 15 (.q 16 (.q 17 (.q 18 (.q 19 .leaf))))))))))))))))))))
def treeK16 : Tv := (.q 0 (.q 1 (.q 2 (.q 3 (.q 4 (.q 5 (.q 6 (.q 7 (.q 8 (.q 9 (.q 10 (.q 12 (.br [(11, (.q 13 (.q 14 (.q 15 (.q 16 (.q 17 (.q 18 .leaf))))))), (13, (.q 14 (.br [(11, (.q 15 (.q 16 (.q 17 (.q 18 .leaf))))), (15, (.br [(11, (.q 16 (.q 17 (.q 18 .leaf))))]))])))])))))))))))))
def treeK18 : Tv := (.q 0 (.q 1 (.q 2 (.q 3 (.q 4 (.q 5 (.q 6 (.q 7 (.q 8 (.q 9 (.q 10 (.q 11 (.q 12 (.q 13 (.q 15 (.br [(14, (.q 16 (.q 17 (.q 18 (.q 19 (.q 20 (.q 21 (.q 22 (.q 23 (.q 24 (.q 25 (.q 26 (.q 28 (.br [(27, (.q 29 (.q 30 (.q 31 (.q 32 (.q 33 (.q 34 .leaf))))))), (29, (.q 30 (.br [(27, (.q 31 (.q 32 (.q 33 (.q 34 .leaf))))), (31, (.br [(27, (.q 32 (.q 33 (.q 34 .leaf))))]))])))])))))))))))))), (16, (.q 17 (.br [(14, (.q 18 (.q 19 (.q 20 (.q 21 (.q 22 (.q 23 (.q 24 (.q 25 (.q 26 (.q 28 (.br [(27, (.q 29 (.q 30 (.q 31 (.q 32 (.q 33 (.q 34 .leaf))))))), (29, (.q 30 (.br [(27, (.q 31 (.q 32 (.q 33 (.q 34 .leaf))))), (31, (.br [(27, (.q 32 (.q 33 (.q 34 .leaf))))]))])))])))))))))))), (18, (.br [(14, (.q 19 (.q 20 (.q 21 (.q 22 (.q 23 (.q 24 (.q 25 (.q 26 (.q 28 (.br [(27, (.q 29 (.q 30 (.q 31 (.q 32 (.q 33 (.q 34 .leaf))))))), (29, (.q 30 (.br [(27, (.q 31 (.q 32 (.q 33 (.q 34 .leaf))))), (31, (.br [(27, (.q 32 (.q 33 (.q 34 .leaf))))]))])))])))))))))))]))])))]))))))))))))))))
def treeK20 : Tv := (.q 0 (.q 1 (.q 2 (.q 3 (.q 4 (.q 5 (.q 6 (.q 7 (.q 8 (.q 9 (.q 10 (.q 11 (.q 12 (.q 13 (.q 14 (.q 15 (.q 16 (.q 17 (.q 18 (.q 19 (.q 20 (.q 22 (.br [(21, (.q 23 (.q 24 (.q 25 (.q 26 (.q 27 (.q 28 .leaf))))))), (23, (.q 24 (.br [(21, (.q 25 (.q 26 (.q 27 (.q 28 .leaf))))), (25, (.br [(21, (.q 26 (.q 27 (.q 28 .leaf))))]))])))])))))))))))))))))))))))
def treeK22 : Tv := (.q 0 (.q 1 (.q 2 (.q 3 (.q 4 (.q 5 (.q 6 (.q 7 (.q 8 (.q 9 (.q 10 (.q 11 (.q 12 (.q 13 (.q 14 (.q 15 (.q 16 (.q 17 (.q 18 (.q 19 (.q 20 (.q 21 (.q 22 (.q 23 (.q 24 (.q 25 (.q 26 (.q 27 (.q 29 (.br [(28, (.q 30 (.q 31 (.q 32 (.q 33 (.q 34 (.q 35 .leaf))))))), (30, (.q 31 (.br [(28, (.q 32 (.q 33 (.q 34 (.q 35 .leaf))))), (32, (.br [(28, (.q 33 (.q 34 (.q 35 .leaf))))]))])))]))))))))))))))))))))))))))))))
def treeK29 : Tv := (.q 0 (.q 1 (.q 2 (.q 3 (.q 4 (.q 5 (.q 6 (.q 7 (.q 8 (.q 9 (.q 10 (.q 12 (.br [(11, (.q 13 (.q 14 (.q 15 (.q 16 (.q 17 .leaf)))))), (13, (.q 14 (.br [(11, (.q 15 (.q 16 (.q 17 .leaf)))), (15, (.br [(11, (.q 16 (.q 17 .leaf)))]))])))])))))))))))))
def ckPreY (l : List Abs.Form) (p : Prf) : Prop := (∀ f ∈ l, brF f) ∧ l.length + 2 * p.size ≤ 100000
def Y10 : Tbl := Y9.add 18 (sp2 (fun l p => chkM p l) ckPreY)
attribute [go_sem] Y10
theorem in_false {l : List Abs.Form} {i : Int} (h : inL l i = false) : ¬ (0 ≤ i ∧ i < l.length) := by
  unfold inL at h
  intro ⟨h1, h2⟩
  rw [decide_eq_true h1, decide_eq_true h2] at h
  cases h
theorem in_true {l : List Abs.Form} {i : Int} (h : inL l i = true) : 0 ≤ i ∧ i < l.length := by
  unfold inL at h
  simp only [Bool.and_eq_true, decide_eq_true_eq] at h
  exact h
/-! a place that is none of the branch -/
set_option maxRecDepth 100000 in
set_option maxHeartbeats 1000000 in
theorem f42N {l : List Abs.Form} {i : Int} {id : Abs.Id} {H : Heap} {n : Nat} {R : D → Heap → Nat → Prop} (_hid : id.2 < n) (ho : H id = some ⟨[.fz (.sl (l.map enc))], true, false⟩) (h0 : ¬ (0 ≤ i ∧ i < l.length)) (hR : ∀ n', n ≤ n' → R (.fz (.b false)) H n') :
    Wcall Tryd.prog GA 42 [.fz (.i .i64 i), .ptr id 0] H n R := by
  refine Wcall_keep ok42 (fun hfr => ?_) hR
  obtain ⟨Q, hQ⟩ : ∃ Q : D → Heap → Nat → Prop, Q = (fun d' H' n' => d' = .fz (.b false) ∧ n ≤ n' ∧ ∀ id, id.2 < n → H' id = H id) := ⟨_, rfl⟩
  rw [← hQ]
  have e : H = hpX [] H := rfl
  rw [e]
  refine Wcall_K (N := 12) hm hY9 42000 (lst []) ok42 Tryd.func42 rfl rfl (by simp) (by kernel_rfl) ?_
  by_cases h1 : 0 ≤ i
  · have hlt : (i < (l.length : Int)) = False := eq_false fun h => h0 ⟨h1, h⟩
    have hge : (0 ≤ i) = True := eq_true h1
    repeat' (first | refine And.intro ?_ ?_ | exact True.intro | refine rq fun _ => ?_ | simp only [go_sem, ho, hge, hlt, Tryd.f42, hpX])
    all_goals
      rw [hQ]
      exact ⟨rfl, by omega, fun id _ => rfl⟩
  · have hge : (0 ≤ i) = False := eq_false h1
    repeat' (first | refine And.intro ?_ ?_ | exact True.intro | refine rq fun _ => ?_ | simp only [go_sem, ho, hge, Tryd.f42, hpX])
    all_goals
      rw [hQ]
      exact ⟨rfl, by omega, fun id _ => rfl⟩
set_option maxRecDepth 100000 in
set_option maxHeartbeats 1000000 in
set_option maxHeartbeats 16000000 in
theorem hY10 : TblOk Tryd.prog GA Y10 := by
  refine sp2_recB Prf.size ok18 hY9 fun k hT l p hpk hpre _ _ => ?_
  obtain ⟨hbr, hsz⟩ := hpre
  have hlen : l.length ≤ 1000000 := by omega
  have kT := Kp.mk hT
  have kb := Kp.mk hbr
  clear hT hbr
  have ec : chkM p l = chkN p.kind p.form p.other p.name (p.subs.map chkM) l := chkM_eq p l
  unfold chkN at ec
  cases hfi : inL l p.form with
  | false =>
    have hfo := in_false hfi
    rw [if_pos hfi] at ec
    rw [ec]
    refine Wcall_K (N := 259) hm kT.out 18000 (lst [1000012, 1000014, 1000016, 1000018, 1000020, 1000022, 1000029]) ok18 Tryd.func18 rfl rfl (by simp) (by kernel_rfl) ?_
    repeat' (first | refine WcallK.i (f42N (l := l) (by simp only; omega) (by simp only [go_sem]) hfo fun n' hn' => ?_) | refine And.intro ?_ ?_ | exact True.intro | refine rq fun _ => ?_ | simp only [go_sem, prf_eta, form_eta, Tryd.f18])
  | true =>
    have hfo := in_true hfi
    rw [if_neg (by simp [hfi])] at ec
    obtain ⟨fi, hfn⟩ : ∃ n : Nat, p.form = (n : Int) := ⟨p.form.toNat, by omega⟩
    have hfl : fi < l.length := by omega
    obtain ⟨f, hf⟩ : ∃ f, l[fi] = f := ⟨_, rfl⟩
    have hfb : brF f := kb.out f (by rw [← hf]; exact List.getElem_mem hfl)
    have haf : atL l p.form = f := by unfold atL; rw [hfn, Int.toNat_natCast, List.getD_eq_getElem?_getD, List.getElem?_eq_getElem hfl, hf]; rfl
    rw [haf] at ec
    obtain ⟨pb1, pb2, pb3, pb4⟩ := parts_br hfb
    obtain ⟨pk, po, pq, pt, hP⟩ : ∃ a b c d, partsM f = (a, b, c, d) := ⟨_, _, _, _, rfl⟩
    rw [hP] at ec pb1 pb2 pb3 pb4
    simp only at ec pb1 pb2 pb3 pb4
    rw [hfn] at hfo
    by_cases k1 : p.kind = 1
    · rw [if_pos k1] at ec
      by_cases h1 : p.subs.length = 0
      rotate_left
      · have e : chkM p l = false := by rw [ec, List.length_map, decide_eq_false h1]; rfl
        have h1' : ((p.subs.length : Int) = 0) = False := eq_false (by omega)
        rw [e]
        refine Wcall_K (N := 259) hm kT.out 18000 (lst [1000012, 1000014, 1000016, 1000018, 1000020, 1000022, 1000029]) ok18 Tryd.func18 rfl rfl (by simp) (by kernel_rfl) ?_
        repeat' (first | refine WcallK.i (f42 (l := l) (by simp only; omega) (by simp only [go_sem]) hfo.1 hfo.2 hlen fun n' hn' => ?_) | refine ReqK.i hfb fun _ => ?_ | refine And.intro ?_ ?_ | exact True.intro | refine rq fun _ => ?_ | simp only [go_sem, k1, hfn, hfl, hf, hP, h1', getD_map_lt, prf_eta, form_eta, Tryd.f18])
      have h1' : ((p.subs.length : Int) = 0) = True := eq_true (by omega)
      cases hoi : inL l p.other with
      | false =>
        have hoo := in_false hoi
        have e : chkM p l = false := by rw [ec, hoi]; simp
        rw [e]
        refine Wcall_K (N := 259) hm kT.out 18000 (lst [1000012, 1000014, 1000016, 1000018, 1000020, 1000022, 1000029]) ok18 Tryd.func18 rfl rfl (by simp) (by kernel_rfl) ?_
        repeat' (first | refine WcallK.i (f42 (l := l) (by simp only; omega) (by simp only [go_sem]) hfo.1 hfo.2 hlen fun n' hn' => ?_) | refine WcallK.i (f42N (l := l) (by simp only; omega) (by simp only [go_sem, hfn]) hoo fun n' hn' => ?_) | refine ReqK.i hfb fun _ => ?_ | refine And.intro ?_ ?_ | exact True.intro | refine rq fun _ => ?_ | simp only [go_sem, k1, hfn, hfl, hf, hP, h1', getD_map_lt, prf_eta, form_eta, Tryd.f18])
      | true =>
        have hoo := in_true hoi
        obtain ⟨oi, hon⟩ : ∃ n : Nat, p.other = (n : Int) := ⟨p.other.toNat, by omega⟩
        have hol : oi < l.length := by omega
        obtain ⟨g, hg⟩ : ∃ g, l[oi] = g := ⟨_, rfl⟩
        have hgb : brF g := kb.out g (by rw [← hg]; exact List.getElem_mem hol)
        have hag : atL l p.other = g := by unfold atL; rw [hon, Int.toNat_natCast, List.getD_eq_getElem?_getD, List.getElem?_eq_getElem hol, hg]; rfl
        rw [hon] at hoo
        obtain ⟨cw, cl⟩ := cls_wf l
        have hcp : (wfC (clsM l) ∧ (clsM l).length ≤ 1000000) := ⟨cw, by omega⟩
        have hlp : (∀ f ∈ l, brF f) ∧ l.length ≤ 100000 := ⟨kb.out, by omega⟩
        have hcon : conPreY (clsM l) f := ⟨hcp, hfb⟩
        have halk : (wfC (clsM l) ∧ (clsM l).length ≤ 1000000) ∧ f.fit = true := ⟨hcp, hfb.ft⟩
        have hng : f.fit = true ∧ f.size ≤ 900 := ng_small hfb
        rw [hag, hoi] at ec
        have ec : chkM p l = if p.other = p.form then conM (clsM l) f else closeM l f g := by rw [ec, List.length_map, decide_eq_true h1]; rfl
        obtain ⟨C, hC⟩ : ∃ C, clsM l = C := ⟨_, rfl⟩
        by_cases hof : oi = fi
        · have e : chkM p l = conM (clsM l) f := by rw [ec, if_pos (by omega)]
          have hofT : ((oi : Int) = fi) = True := eq_true (by omega)
          rw [hC] at e hcon
          obtain ⟨B, hB⟩ : ∃ B, conM C f = B := ⟨_, rfl⟩
          rw [e, hB]
          clear e ec halk hcp
          refine Wcall_K (N := 259) hm kT.out 18000 (lst [1000012, 1000014, 1000016, 1000018, 1000020, 1000022, 1000029]) ok18 Tryd.func18 rfl rfl (by simp) (by kernel_rfl) ?_
          repeat' (first | refine WcallK.i (f42 (l := l) (by simp only; omega) (by simp only [go_sem]) hfo.1 hfo.2 hlen fun n' hn' => ?_) | refine WcallK.i (f42 (l := l) (by simp only; omega) (by simp only [go_sem, hfn]) hoo.1 hoo.2 hlen fun n' hn' => ?_) | refine ReqK.i hfb fun _ => ?_ | refine ReqK.i hlp fun _ => ?_ | refine ReqK.i hcon fun _ => ?_ | refine WK_drawV (id := 12) hm kT.out 18000 (lst [1000012, 1000014, 1000016, 1000018, 1000020, 1000022, 1000029]) treeK12 (by kernel_rfl) (by kernel_rfl) ?_ | refine And.intro ?_ ?_ | exact True.intro | refine rq fun _ => ?_ | simp only [go_sem, k1, hfn, hon, hfl, hf, hP, h1', hofT, hC, hB, treeK12, getD_map_lt, prf_eta, form_eta, Tryd.f18])
        · have e : chkM p l = closeM l f g := by rw [ec, if_neg (by omega)]
          have hofF : ((oi : Int) = fi) = False := eq_false (by omega)
          unfold closeM at e
          rw [hC] at e halk
          obtain ⟨X, hX⟩ : ∃ X, negM f = X := ⟨_, rfl⟩
          have hXg : ngg f = X := hX
          rw [hXg] at e
          clear ec hcp
          by_cases hs : X = g
          · have e : chkM p l = true := by rw [e, decide_eq_true hs]; rfl
            have hsT : (X = g) = True := eq_true hs
            rw [e]
            refine Wcall_K (N := 259) hm kT.out 18000 (lst [1000012, 1000014, 1000016, 1000018, 1000020, 1000022, 1000029]) ok18 Tryd.func18 rfl rfl (by simp) (by kernel_rfl) ?_
            repeat' (first | refine WcallK.i (f42 (l := l) (by simp only; omega) (by simp only [go_sem]) hfo.1 hfo.2 hlen fun n' hn' => ?_) | refine WcallK.i (f42 (l := l) (by simp only; omega) (by simp only [go_sem, hfn]) hoo.1 hoo.2 hlen fun n' hn' => ?_) | refine ReqK.i hfb fun _ => ?_ | refine ReqK.i hlp fun _ => ?_ | refine ReqK.i hng fun _ => ?_ | refine ReqK.i halk fun _ => ?_ | refine WK_drawV (id := 14) hm kT.out 18000 (lst [1000012, 1000014, 1000016, 1000018, 1000020, 1000022, 1000029]) treeK14 (by kernel_rfl) (by kernel_rfl) ?_ | refine And.intro ?_ ?_ | exact True.intro | refine rq fun _ => ?_ | simp only [go_sem, k1, hfn, hon, hfl, hf, hol, hg, hP, h1', hofF, hC, hX, hsT, treeK14, getD_map_lt, prf_eta, form_eta, Tryd.f18])
          have hsF : (X = g) = False := eq_false hs
          rw [decide_eq_false hs, Bool.false_or] at e
          by_cases hg4 : g.kind = 4
          · obtain ⟨h, hh, s0, _⟩ := br_one hgb (.inl hg4)
            have eG : Abs.Form.mk 4 g.name g.words [h] = g := by rw [← hg4, ← hh]; exact form_eta
            have e : chkM p l = alikM C f h := by rw [e, decide_eq_true hg4, s0]; rfl
            obtain ⟨B, hB⟩ : ∃ B, alikM C f h = B := ⟨_, rfl⟩
            rw [e, hB]
            clear e s0
            refine Wcall_K (N := 259) hm kT.out 18000 (lst [1000012, 1000014, 1000016, 1000018, 1000020, 1000022, 1000029]) ok18 Tryd.func18 rfl rfl (by simp) (by kernel_rfl) ?_
            repeat' (first | refine WcallK.i (f42 (l := l) (by simp only; omega) (by simp only [go_sem]) hfo.1 hfo.2 hlen fun n' hn' => ?_) | refine WcallK.i (f42 (l := l) (by simp only; omega) (by simp only [go_sem, hfn]) hoo.1 hoo.2 hlen fun n' hn' => ?_) | refine ReqK.i hfb fun _ => ?_ | refine ReqK.i hlp fun _ => ?_ | refine ReqK.i hng fun _ => ?_ | refine ReqK.i halk fun _ => ?_ | refine WK_drawV (id := 14) hm kT.out 18000 (lst [1000012, 1000014, 1000016, 1000018, 1000020, 1000022, 1000029]) treeK14 (by kernel_rfl) (by kernel_rfl) ?_ | refine And.intro ?_ ?_ | exact True.intro | refine rq fun _ => ?_ | simp only [go_sem, k1, hfn, hon, hfl, hf, hol, hg, hP, h1', hofF, hC, hX, hsF, hg4, hh, eG, hB, treeK14, getD_map_lt, prf_eta, form_eta, Tryd.f18])
          · have e : chkM p l = false := by rw [e, decide_eq_false hg4]; rfl
            rw [e]
            refine Wcall_K (N := 259) hm kT.out 18000 (lst [1000012, 1000014, 1000016, 1000018, 1000020, 1000022, 1000029]) ok18 Tryd.func18 rfl rfl (by simp) (by kernel_rfl) ?_
            repeat' (first | refine WcallK.i (f42 (l := l) (by simp only; omega) (by simp only [go_sem]) hfo.1 hfo.2 hlen fun n' hn' => ?_) | refine WcallK.i (f42 (l := l) (by simp only; omega) (by simp only [go_sem, hfn]) hoo.1 hoo.2 hlen fun n' hn' => ?_) | refine ReqK.i hfb fun _ => ?_ | refine ReqK.i hlp fun _ => ?_ | refine ReqK.i hng fun _ => ?_ | refine ReqK.i halk fun _ => ?_ | refine WK_drawV (id := 14) hm kT.out 18000 (lst [1000012, 1000014, 1000016, 1000018, 1000020, 1000022, 1000029]) treeK14 (by kernel_rfl) (by kernel_rfl) ?_ | refine And.intro ?_ ?_ | exact True.intro | refine rq fun _ => ?_ | simp only [go_sem, k1, hfn, hon, hfl, hf, hol, hg, hP, h1', hofF, hC, hX, hsF, hg4, treeK14, getD_map_lt, prf_eta, form_eta, Tryd.f18])
    rw [if_neg k1] at ec
    by_cases k2 : p.kind = 2
    · rw [if_pos k2] at ec
      by_cases h1 : pk = 1
      rotate_left
      · have e : chkM p l = false := by rw [ec, decide_eq_false h1]; rfl
        rw [e]
        refine Wcall_K (N := 259) hm kT.out 18000 (lst [1000012, 1000014, 1000016, 1000018, 1000020, 1000022, 1000029]) ok18 Tryd.func18 rfl rfl (by simp) (by kernel_rfl) ?_
        repeat' (first | refine WcallK.i (f42 (l := l) (by simp only; omega) (by simp only [go_sem]) hfo.1 hfo.2 hlen fun n' hn' => ?_) | refine ReqK.i hfb fun _ => ?_ | refine WK_drawV (id := 16) hm kT.out 18000 (lst [1000012, 1000014, 1000016, 1000018, 1000020, 1000022, 1000029]) treeK16 (by kernel_rfl) (by kernel_rfl) ?_ | refine And.intro ?_ ?_ | exact True.intro | refine rq fun _ => ?_ | simp only [go_sem, k2, hfn, hfl, hf, hP, h1, treeK16, getD_map_lt, prf_eta, form_eta, Tryd.f18])
      by_cases h2 : p.subs.length = 1
      rotate_left
      · have e : chkM p l = false := by rw [ec, List.length_map, decide_eq_false h2]; simp
        have h2' : ((p.subs.length : Int) = 1) = False := eq_false (by omega)
        rw [e]
        refine Wcall_K (N := 259) hm kT.out 18000 (lst [1000012, 1000014, 1000016, 1000018, 1000020, 1000022, 1000029]) ok18 Tryd.func18 rfl rfl (by simp) (by kernel_rfl) ?_
        repeat' (first | refine WcallK.i (f42 (l := l) (by simp only; omega) (by simp only [go_sem]) hfo.1 hfo.2 hlen fun n' hn' => ?_) | refine ReqK.i hfb fun _ => ?_ | refine WK_drawV (id := 16) hm kT.out 18000 (lst [1000012, 1000014, 1000016, 1000018, 1000020, 1000022, 1000029]) treeK16 (by kernel_rfl) (by kernel_rfl) ?_ | refine And.intro ?_ ?_ | exact True.intro | refine rq fun _ => ?_ | simp only [go_sem, k2, hfn, hfl, hf, hP, h1, h2', treeK16, getD_map_lt, prf_eta, form_eta, Tryd.f18])
      obtain ⟨s0, hs0⟩ : ∃ s, p.subs = [s] := by
        match h : p.subs, h2 with
        | [s], _ => exact ⟨s, rfl⟩
      have hs0s := Prf.size_sub (f := p) (g := s0) (by rw [hs0]; simp)
      have e : chkM p l = chkM s0 (l ++ po) := by rw [ec, hs0]; simp [h1]
      rw [e]
      have hrec : s0.size < k ∧ ckPreY (l ++ po) s0 := ⟨by omega, fun x hx => by
        rcases List.mem_append.1 hx with hx | hx
        · exact kb.out x hx
        · exact pb1 x hx, by rw [List.length_append]; omega⟩
      obtain ⟨B, hB⟩ : ∃ B, chkM s0 (l ++ po) = B := ⟨_, rfl⟩
      rw [hB]
      have hpl : po.length ≤ 1000000 := by omega
      clear e ec h2 pb1 pb2 pb4
      refine Wcall_K (N := 259) hm kT.out 18000 (lst [1000012, 1000014, 1000016, 1000018, 1000020, 1000022, 1000029]) ok18 Tryd.func18 rfl rfl (by simp) (by kernel_rfl) ?_
      repeat' (first | refine WcallK.i (f42 (l := l) (by simp only; omega) (by simp only [go_sem]) hfo.1 hfo.2 hlen fun n' hn' => ?_) | refine ReqK.i hfb fun _ => ?_ | refine ReqK.i hrec fun _ => ?_ | refine WcallK.i (f44 (l := l) (fs := po) (.inr rfl) (by simp only; omega) (by simp only [go_sem]) hlen hpl fun n' hn' => ?_) | refine WK_drawV (id := 16) hm kT.out 18000 (lst [1000012, 1000014, 1000016, 1000018, 1000020, 1000022, 1000029]) treeK16 (by kernel_rfl) (by kernel_rfl) ?_ | refine And.intro ?_ ?_ | exact True.intro | refine rq fun _ => ?_ | simp only [go_sem, k2, hfn, hfl, hf, hP, h1, hs0, hB, treeK16, getD_map_lt, prf_eta, form_eta, List.map_append, Tryd.f18])
      all_goals trace_state
    rw [if_neg k2] at ec
    by_cases k3 : p.kind = 3
    · rw [if_pos k3] at ec
      by_cases h1 : pk = 2
      rotate_left
      · have e : chkM p l = false := by rw [ec, decide_eq_false h1]; rfl
        rw [e]
        refine Wcall_K (N := 259) hm kT.out 18000 (lst [1000012, 1000014, 1000016, 1000018, 1000020, 1000022, 1000029]) ok18 Tryd.func18 rfl rfl (by simp) (by kernel_rfl) ?_
        repeat' (first | refine WcallK.i (f42 (l := l) (by simp only; omega) (by simp only [go_sem]) hfo.1 hfo.2 hlen fun n' hn' => ?_) | refine ReqK.i hfb fun _ => ?_ | refine WK_drawV (id := 18) hm kT.out 18000 (lst [1000012, 1000014, 1000016, 1000018, 1000020, 1000022, 1000029]) treeK18 (by kernel_rfl) (by kernel_rfl) ?_ | refine And.intro ?_ ?_ | exact True.intro | refine rq fun _ => ?_ | simp only [go_sem, k3, hfn, hfl, hf, hP, h1, treeK18, getD_map_lt, prf_eta, form_eta, Tryd.f18])
      by_cases h2 : p.subs.length = 2
      rotate_left
      · have e : chkM p l = false := by rw [ec, List.length_map, decide_eq_false h2]; simp
        have h2' : ((p.subs.length : Int) = 2) = False := eq_false (by omega)
        rw [e]
        refine Wcall_K (N := 259) hm kT.out 18000 (lst [1000012, 1000014, 1000016, 1000018, 1000020, 1000022, 1000029]) ok18 Tryd.func18 rfl rfl (by simp) (by kernel_rfl) ?_
        repeat' (first | refine WcallK.i (f42 (l := l) (by simp only; omega) (by simp only [go_sem]) hfo.1 hfo.2 hlen fun n' hn' => ?_) | refine ReqK.i hfb fun _ => ?_ | refine WK_drawV (id := 18) hm kT.out 18000 (lst [1000012, 1000014, 1000016, 1000018, 1000020, 1000022, 1000029]) treeK18 (by kernel_rfl) (by kernel_rfl) ?_ | refine And.intro ?_ ?_ | exact True.intro | refine rq fun _ => ?_ | simp only [go_sem, k3, hfn, hfl, hf, hP, h1, h2', treeK18, getD_map_lt, prf_eta, form_eta, Tryd.f18])
      obtain ⟨s0, s1, hs0⟩ : ∃ s t, p.subs = [s, t] := by
        match h : p.subs, h2 with
        | [s, t], _ => exact ⟨s, t, rfl⟩
      obtain ⟨A, B, rfl⟩ : ∃ A B, po = [A, B] := by
        match po, pb2 h1 with
        | [A, B], _ => exact ⟨A, B, rfl⟩
      have hs0s := Prf.size_sub (f := p) (g := s0) (by rw [hs0]; simp)
      have hs1s := Prf.size_sub (f := p) (g := s1) (by rw [hs0]; simp)
      have e : chkM p l = (chkM s0 (l ++ [A]) && chkM s1 (l ++ [B])) := by rw [ec, hs0]; simp [h1]
      rw [e]
      have hA := pb1 A (by simp)
      have hB := pb1 B (by simp)
      have hrec0 : s0.size < k ∧ ckPreY (l ++ [A]) s0 := ⟨by omega, fun x hx => by
        rcases List.mem_append.1 hx with hx | hx
        · exact kb.out x hx
        · rw [List.mem_singleton.1 hx]; exact hA, by rw [List.length_append, List.length_singleton]; omega⟩
      have hrec1 : s1.size < k ∧ ckPreY (l ++ [B]) s1 := ⟨by omega, fun x hx => by
        rcases List.mem_append.1 hx with hx | hx
        · exact kb.out x hx
        · rw [List.mem_singleton.1 hx]; exact hB, by rw [List.length_append, List.length_singleton]; omega⟩
      obtain ⟨B0, hB0⟩ : ∃ b, chkM s0 (l ++ [A]) = b := ⟨_, rfl⟩
      obtain ⟨B1, hB1⟩ : ∃ b, chkM s1 (l ++ [B]) = b := ⟨_, rfl⟩
      rw [hB0, hB1]
      clear e ec h2 pb1 pb2 pb3 pb4 hA hB
      cases B0 with
      | false =>
        refine Wcall_K (N := 259) hm kT.out 18000 (lst [1000012, 1000014, 1000016, 1000018, 1000020, 1000022, 1000029]) ok18 Tryd.func18 rfl rfl (by simp) (by kernel_rfl) ?_
        repeat' (first | refine WcallK.i (f42 (l := l) (by simp only; omega) (by simp only [go_sem]) hfo.1 hfo.2 hlen fun n' hn' => ?_) | refine ReqK.i hfb fun _ => ?_ | refine ReqK.i hrec0 fun _ => ?_ | refine ReqK.i hrec1 fun _ => ?_ | refine WcallK.i (f44 (l := l) (fs := [A]) (.inl (congrArg (fun x => D.full [x]) (enc_form (f := A))).symm) (by simp only; omega) (by simp only [go_sem]) hlen (by simp) fun n' hn' => ?_) | refine WcallK.i (f44 (l := l) (fs := [B]) (.inl (congrArg (fun x => D.full [x]) (enc_form (f := B))).symm) (by simp only; omega) (by simp only [go_sem]) hlen (by simp) fun n' hn' => ?_) | refine WK_drawV (id := 18) hm kT.out 18000 (lst [1000012, 1000014, 1000016, 1000018, 1000020, 1000022, 1000029]) treeK18 (by kernel_rfl) (by kernel_rfl) ?_ | refine And.intro ?_ ?_ | exact True.intro | refine rq fun _ => ?_ | simp only [go_sem, k3, hfn, hfl, hf, hP, h1, hs0, hB0, hB1, treeK18, getD_map_lt, prf_eta, form_eta, List.map_append, List.map_cons, List.map_nil, Tryd.f18])
        all_goals trace_state
      | true =>
        refine Wcall_K (N := 259) hm kT.out 18000 (lst [1000012, 1000014, 1000016, 1000018, 1000020, 1000022, 1000029]) ok18 Tryd.func18 rfl rfl (by simp) (by kernel_rfl) ?_
        repeat' (first | refine WcallK.i (f42 (l := l) (by simp only; omega) (by simp only [go_sem]) hfo.1 hfo.2 hlen fun n' hn' => ?_) | refine ReqK.i hfb fun _ => ?_ | refine ReqK.i hrec0 fun _ => ?_ | refine ReqK.i hrec1 fun _ => ?_ | refine WcallK.i (f44 (l := l) (fs := [A]) (.inl (congrArg (fun x => D.full [x]) (enc_form (f := A))).symm) (by simp only; omega) (by simp only [go_sem]) hlen (by simp) fun n' hn' => ?_) | refine WcallK.i (f44 (l := l) (fs := [B]) (.inl (congrArg (fun x => D.full [x]) (enc_form (f := B))).symm) (by simp only; omega) (by simp only [go_sem]) hlen (by simp) fun n' hn' => ?_) | refine WK_drawV (id := 18) hm kT.out 18000 (lst [1000012, 1000014, 1000016, 1000018, 1000020, 1000022, 1000029]) treeK18 (by kernel_rfl) (by kernel_rfl) ?_ | refine And.intro ?_ ?_ | exact True.intro | refine rq fun _ => ?_ | simp only [go_sem, k3, hfn, hfl, hf, hP, h1, hs0, hB0, hB1, treeK18, getD_map_lt, prf_eta, form_eta, List.map_append, List.map_cons, List.map_nil, Tryd.f18])
        all_goals trace_state
    rw [if_neg k3] at ec
    by_cases k4 : p.kind = 4
    · rw [if_pos k4] at ec
      by_cases h1 : pk = 3
      rotate_left
      · have e : chkM p l = false := by rw [ec, decide_eq_false h1]; rfl
        rw [e]
        refine Wcall_K (N := 259) hm kT.out 18000 (lst [1000012, 1000014, 1000016, 1000018, 1000020, 1000022, 1000029]) ok18 Tryd.func18 rfl rfl (by simp) (by kernel_rfl) ?_
        repeat' (first | refine WcallK.i (f42 (l := l) (by simp only; omega) (by simp only [go_sem]) hfo.1 hfo.2 hlen fun n' hn' => ?_) | refine ReqK.i hfb fun _ => ?_ | refine WK_drawV (id := 20) hm kT.out 18000 (lst [1000012, 1000014, 1000016, 1000018, 1000020, 1000022, 1000029]) treeK20 (by kernel_rfl) (by kernel_rfl) ?_ | refine And.intro ?_ ?_ | exact True.intro | refine rq fun _ => ?_ | simp only [go_sem, k4, hfn, hfl, hf, hP, h1, treeK20, getD_map_lt, prf_eta, form_eta, Tryd.f18])
      cases h3 : isName p.name with
      | false =>
        have e : chkM p l = false := by rw [ec, h3]; simp
        rw [e]
        refine Wcall_K (N := 259) hm kT.out 18000 (lst [1000012, 1000014, 1000016, 1000018, 1000020, 1000022, 1000029]) ok18 Tryd.func18 rfl rfl (by simp) (by kernel_rfl) ?_
        repeat' (first | refine WcallK.i (f42 (l := l) (by simp only; omega) (by simp only [go_sem]) hfo.1 hfo.2 hlen fun n' hn' => ?_) | refine ReqK.i hfb fun _ => ?_ | refine WK_drawV (id := 20) hm kT.out 18000 (lst [1000012, 1000014, 1000016, 1000018, 1000020, 1000022, 1000029]) treeK20 (by kernel_rfl) (by kernel_rfl) ?_ | refine And.intro ?_ ?_ | exact True.intro | refine rq fun _ => ?_ | simp only [go_sem, k4, hfn, hfl, hf, hP, h1, h3, treeK20, getD_map_lt, str_eta, prf_eta, form_eta, Tryd.f18])
      | true =>
        by_cases h2 : p.subs.length = 1
        rotate_left
        · have e : chkM p l = false := by rw [ec, List.length_map, decide_eq_false h2]; simp
          have h2' : ((p.subs.length : Int) = 1) = False := eq_false (by omega)
          rw [e]
          refine Wcall_K (N := 259) hm kT.out 18000 (lst [1000012, 1000014, 1000016, 1000018, 1000020, 1000022, 1000029]) ok18 Tryd.func18 rfl rfl (by simp) (by kernel_rfl) ?_
          repeat' (first | refine WcallK.i (f42 (l := l) (by simp only; omega) (by simp only [go_sem]) hfo.1 hfo.2 hlen fun n' hn' => ?_) | refine ReqK.i hfb fun _ => ?_ | refine WK_drawV (id := 20) hm kT.out 18000 (lst [1000012, 1000014, 1000016, 1000018, 1000020, 1000022, 1000029]) treeK20 (by kernel_rfl) (by kernel_rfl) ?_ | refine And.intro ?_ ?_ | exact True.intro | refine rq fun _ => ?_ | simp only [go_sem, k4, hfn, hfl, hf, hP, h1, h3, h2', treeK20, getD_map_lt, str_eta, prf_eta, form_eta, Tryd.f18])
        obtain ⟨s0, hs0⟩ : ∃ s, p.subs = [s] := by
          match h : p.subs, h2 with
          | [s], _ => exact ⟨s, rfl⟩
        have hs0s := Prf.size_sub (f := p) (g := s0) (by rw [hs0]; simp)
        obtain ⟨a, hqa, hab, has⟩ := pb4 (by omega)
        have hip : instPre pq pt p.name := ⟨a, hqa, hab.ft, by omega⟩
        have hib := inst_br (t := pt) (nm := p.name) hqa hab has
        have e : chkM p l = chkM s0 (l ++ [instG pq pt p.name]) := by rw [ec, hs0, h3]; simp [h1]
        rw [e]
        have hig : instM pq pt p.name = instG pq pt p.name := rfl
        obtain ⟨I, hI⟩ : ∃ I, instG pq pt p.name = I := ⟨_, rfl⟩
        rw [hI] at hib hig
        rw [hI]
        have hrec : s0.size < k ∧ ckPreY (l ++ [I]) s0 := ⟨by omega, fun x hx => by
          rcases List.mem_append.1 hx with hx | hx
          · exact kb.out x hx
          · rw [List.mem_singleton.1 hx]; exact hib, by rw [List.length_append, List.length_singleton]; omega⟩
        obtain ⟨B, hB⟩ : ∃ B, chkM s0 (l ++ [I]) = B := ⟨_, rfl⟩
        rw [hB]
        clear e ec h2 pb1 pb2 pb3 pb4 hib hI
        refine Wcall_K (N := 259) hm kT.out 18000 (lst [1000012, 1000014, 1000016, 1000018, 1000020, 1000022, 1000029]) ok18 Tryd.func18 rfl rfl (by simp) (by kernel_rfl) ?_
        repeat' (first | refine WcallK.i (f42 (l := l) (by simp only; omega) (by simp only [go_sem]) hfo.1 hfo.2 hlen fun n' hn' => ?_) | refine ReqK.i hfb fun _ => ?_ | refine ReqK.i hip fun _ => ?_ | refine ReqK.i hrec fun _ => ?_ | refine WcallK.i (f44 (l := l) (fs := [I]) (.inl (congrArg (fun x => D.full [x]) (enc_form (f := I))).symm) (by simp only; omega) (by simp only [go_sem]) hlen (by simp) fun n' hn' => ?_) | refine WK_drawV (id := 20) hm kT.out 18000 (lst [1000012, 1000014, 1000016, 1000018, 1000020, 1000022, 1000029]) treeK20 (by kernel_rfl) (by kernel_rfl) ?_ | refine And.intro ?_ ?_ | exact True.intro | refine rq fun _ => ?_ | simp only [go_sem, k4, hfn, hfl, hf, hP, h1, h3, hs0, hig, hB, treeK20, getD_map_lt, str_eta, prf_eta, form_eta, List.map_append, List.map_cons, List.map_nil, Tryd.f18])
        all_goals trace_state
    rw [if_neg k4] at ec
    by_cases k5 : p.kind = 5
    · rw [if_pos k5] at ec
      by_cases h1 : pk = 4
      rotate_left
      · have e : chkM p l = false := by rw [ec, decide_eq_false h1]; rfl
        rw [e]
        refine Wcall_K (N := 259) hm kT.out 18000 (lst [1000012, 1000014, 1000016, 1000018, 1000020, 1000022, 1000029]) ok18 Tryd.func18 rfl rfl (by simp) (by kernel_rfl) ?_
        repeat' (first | refine WcallK.i (f42 (l := l) (by simp only; omega) (by simp only [go_sem]) hfo.1 hfo.2 hlen fun n' hn' => ?_) | refine ReqK.i hfb fun _ => ?_ | refine WK_drawV (id := 22) hm kT.out 18000 (lst [1000012, 1000014, 1000016, 1000018, 1000020, 1000022, 1000029]) treeK22 (by kernel_rfl) (by kernel_rfl) ?_ | refine And.intro ?_ ?_ | exact True.intro | refine rq fun _ => ?_ | simp only [go_sem, k5, hfn, hfl, hf, hP, h1, treeK22, getD_map_lt, prf_eta, form_eta, Tryd.f18])
      cases h3 : isName p.name with
      | false =>
        have e : chkM p l = false := by rw [ec, h3]; simp
        rw [e]
        refine Wcall_K (N := 259) hm kT.out 18000 (lst [1000012, 1000014, 1000016, 1000018, 1000020, 1000022, 1000029]) ok18 Tryd.func18 rfl rfl (by simp) (by kernel_rfl) ?_
        repeat' (first | refine WcallK.i (f42 (l := l) (by simp only; omega) (by simp only [go_sem]) hfo.1 hfo.2 hlen fun n' hn' => ?_) | refine ReqK.i hfb fun _ => ?_ | refine WK_drawV (id := 22) hm kT.out 18000 (lst [1000012, 1000014, 1000016, 1000018, 1000020, 1000022, 1000029]) treeK22 (by kernel_rfl) (by kernel_rfl) ?_ | refine And.intro ?_ ?_ | exact True.intro | refine rq fun _ => ?_ | simp only [go_sem, k5, hfn, hfl, hf, hP, h1, h3, treeK22, getD_map_lt, str_eta, prf_eta, form_eta, Tryd.f18])
      | true =>
        have hlb : ∀ f ∈ l, brF f := kb.out
        cases h4 : occM l p.name with
        | true =>
          have h4' : occG l p.name = true := h4
          have e : chkM p l = false := by rw [ec, h4']; simp
          rw [e]
          refine Wcall_K (N := 259) hm kT.out 18000 (lst [1000012, 1000014, 1000016, 1000018, 1000020, 1000022, 1000029]) ok18 Tryd.func18 rfl rfl (by simp) (by kernel_rfl) ?_
          repeat' (first | refine WcallK.i (f42 (l := l) (by simp only; omega) (by simp only [go_sem]) hfo.1 hfo.2 hlen fun n' hn' => ?_) | refine ReqK.i hfb fun _ => ?_ | refine ReqK.i hlb fun _ => ?_ | refine WK_drawV (id := 22) hm kT.out 18000 (lst [1000012, 1000014, 1000016, 1000018, 1000020, 1000022, 1000029]) treeK22 (by kernel_rfl) (by kernel_rfl) ?_ | refine And.intro ?_ ?_ | exact True.intro | refine rq fun _ => ?_ | simp only [go_sem, k5, hfn, hfl, hf, hP, h1, h3, h4, treeK22, getD_map_lt, str_eta, prf_eta, form_eta, Tryd.f18])
        | false =>
          have h4' : occG l p.name = false := h4
          by_cases h2 : p.subs.length = 1
          rotate_left
          · have e : chkM p l = false := by rw [ec, List.length_map, decide_eq_false h2]; simp
            have h2' : ((p.subs.length : Int) = 1) = False := eq_false (by omega)
            rw [e]
            refine Wcall_K (N := 259) hm kT.out 18000 (lst [1000012, 1000014, 1000016, 1000018, 1000020, 1000022, 1000029]) ok18 Tryd.func18 rfl rfl (by simp) (by kernel_rfl) ?_
            repeat' (first | refine WcallK.i (f42 (l := l) (by simp only; omega) (by simp only [go_sem]) hfo.1 hfo.2 hlen fun n' hn' => ?_) | refine ReqK.i hfb fun _ => ?_ | refine ReqK.i hlb fun _ => ?_ | refine WK_drawV (id := 22) hm kT.out 18000 (lst [1000012, 1000014, 1000016, 1000018, 1000020, 1000022, 1000029]) treeK22 (by kernel_rfl) (by kernel_rfl) ?_ | refine And.intro ?_ ?_ | exact True.intro | refine rq fun _ => ?_ | simp only [go_sem, k5, hfn, hfl, hf, hP, h1, h3, h4, h2', treeK22, getD_map_lt, str_eta, prf_eta, form_eta, Tryd.f18])
          obtain ⟨s0, hs0⟩ : ∃ s, p.subs = [s] := by
            match h : p.subs, h2 with
            | [s], _ => exact ⟨s, rfl⟩
          have hs0s := Prf.size_sub (f := p) (g := s0) (by rw [hs0]; simp)
          obtain ⟨a, hqa, hab, has⟩ := pb4 (by omega)
          have hip : instPre pq pt p.name := ⟨a, hqa, hab.ft, by omega⟩
          have hib := inst_br (t := pt) (nm := p.name) hqa hab has
          have e : chkM p l = chkM s0 (l ++ [instG pq pt p.name]) := by rw [ec, hs0, h3, h4']; simp [h1]
          rw [e]
          have hig : instM pq pt p.name = instG pq pt p.name := rfl
          obtain ⟨I, hI⟩ : ∃ I, instG pq pt p.name = I := ⟨_, rfl⟩
          rw [hI] at hib hig
          rw [hI]
          have hrec : s0.size < k ∧ ckPreY (l ++ [I]) s0 := ⟨by omega, fun x hx => by
            rcases List.mem_append.1 hx with hx | hx
            · exact kb.out x hx
            · rw [List.mem_singleton.1 hx]; exact hib, by rw [List.length_append, List.length_singleton]; omega⟩
          obtain ⟨B, hB⟩ : ∃ B, chkM s0 (l ++ [I]) = B := ⟨_, rfl⟩
          rw [hB]
          clear e ec h2 pb1 pb2 pb3 pb4 hib hI
          refine Wcall_K (N := 259) hm kT.out 18000 (lst [1000012, 1000014, 1000016, 1000018, 1000020, 1000022, 1000029]) ok18 Tryd.func18 rfl rfl (by simp) (by kernel_rfl) ?_
          repeat' (first | refine WcallK.i (f42 (l := l) (by simp only; omega) (by simp only [go_sem]) hfo.1 hfo.2 hlen fun n' hn' => ?_) | refine ReqK.i hfb fun _ => ?_ | refine ReqK.i hlb fun _ => ?_ | refine ReqK.i hip fun _ => ?_ | refine ReqK.i hrec fun _ => ?_ | refine WcallK.i (f44 (l := l) (fs := [I]) (.inl (congrArg (fun x => D.full [x]) (enc_form (f := I))).symm) (by simp only; omega) (by simp only [go_sem]) hlen (by simp) fun n' hn' => ?_) | refine WK_drawV (id := 22) hm kT.out 18000 (lst [1000012, 1000014, 1000016, 1000018, 1000020, 1000022, 1000029]) treeK22 (by kernel_rfl) (by kernel_rfl) ?_ | refine And.intro ?_ ?_ | exact True.intro | refine rq fun _ => ?_ | simp only [go_sem, k5, hfn, hfl, hf, hP, h1, h3, h4, hs0, hig, hB, treeK22, getD_map_lt, str_eta, prf_eta, form_eta, List.map_append, List.map_cons, List.map_nil, Tryd.f18])
          all_goals trace_state
    rw [if_neg k5] at ec
    by_cases k6 : p.kind = 6
    · rw [if_pos k6] at ec
      by_cases h1 : f.kind = 3
      rotate_left
      · have e : chkM p l = false := by rw [ec, decide_eq_false h1]; rfl
        rw [e]
        refine Wcall_K (N := 259) hm kT.out 18000 (lst [1000012, 1000014, 1000016, 1000018, 1000020, 1000022, 1000029]) ok18 Tryd.func18 rfl rfl (by simp) (by kernel_rfl) ?_
        repeat' (first | refine WcallK.i (f42 (l := l) (by simp only; omega) (by simp only [go_sem]) hfo.1 hfo.2 hlen fun n' hn' => ?_) | refine ReqK.i hfb fun _ => ?_ | refine And.intro ?_ ?_ | exact True.intro | refine rq fun _ => ?_ | simp only [go_sem, k6, hfn, hfl, hf, hP, h1, getD_map_lt, prf_eta, form_eta, Tryd.f18])
      have eF : Abs.Form.mk 3 f.name f.words f.subs = f := by rw [← h1]; exact form_eta
      cases hoi : inL l p.other with
      | false =>
        have hoo := in_false hoi
        have e : chkM p l = false := by rw [ec, hoi]; simp
        rw [e]
        refine Wcall_K (N := 259) hm kT.out 18000 (lst [1000012, 1000014, 1000016, 1000018, 1000020, 1000022, 1000029]) ok18 Tryd.func18 rfl rfl (by simp) (by kernel_rfl) ?_
        repeat' (first | refine WcallK.i (f42 (l := l) (by simp only; omega) (by simp only [go_sem]) hfo.1 hfo.2 hlen fun n' hn' => ?_) | refine WcallK.i (f42N (l := l) (by simp only; omega) (by simp only [go_sem, hfn]) hoo fun n' hn' => ?_) | refine ReqK.i hfb fun _ => ?_ | refine And.intro ?_ ?_ | exact True.intro | refine rq fun _ => ?_ | simp only [go_sem, k6, hfn, hfl, hf, hP, h1, eF, getD_map_lt, prf_eta, form_eta, Tryd.f18])
      | true =>
        have hoo := in_true hoi
        obtain ⟨oi, hon⟩ : ∃ n : Nat, p.other = (n : Int) := ⟨p.other.toNat, by omega⟩
        have hol : oi < l.length := by omega
        obtain ⟨g, hg⟩ : ∃ g, l[oi] = g := ⟨_, rfl⟩
        have hgb : brF g := kb.out g (by rw [← hg]; exact List.getElem_mem hol)
        have hag : atL l p.other = g := by unfold atL; rw [hon, Int.toNat_natCast, List.getD_eq_getElem?_getD, List.getElem?_eq_getElem hol, hg]; rfl
        rw [hon] at hoo
        rw [hag, hoi] at ec
        by_cases h2 : p.subs.length = 1
        rotate_left
        · have e : chkM p l = false := by rw [ec, List.length_map, decide_eq_false h2]; simp
          have h2' : ((p.subs.length : Int) = 1) = False := eq_false (by omega)
          rw [e]
          refine Wcall_K (N := 259) hm kT.out 18000 (lst [1000012, 1000014, 1000016, 1000018, 1000020, 1000022, 1000029]) ok18 Tryd.func18 rfl rfl (by simp) (by kernel_rfl) ?_
          repeat' (first | refine WcallK.i (f42 (l := l) (by simp only; omega) (by simp only [go_sem]) hfo.1 hfo.2 hlen fun n' hn' => ?_) | refine WcallK.i (f42 (l := l) (by simp only; omega) (by simp only [go_sem, hfn]) hoo.1 hoo.2 hlen fun n' hn' => ?_) | refine ReqK.i hfb fun _ => ?_ | refine And.intro ?_ ?_ | exact True.intro | refine rq fun _ => ?_ | simp only [go_sem, k6, hfn, hon, hfl, hf, hP, h1, eF, h2', getD_map_lt, str_eta, prf_eta, form_eta, Tryd.f18])
        obtain ⟨a, b, hab⟩ : ∃ a b, f.words = [a, b] := by
          have h2 := (vok_eq.1 hfb.v).2.2.2.1 h1
          match h : f.words, h2 with
          | [a, b], _ => exact ⟨a, b, rfl⟩
        by_cases h3 : p.name ∈ f.words
        rotate_left
        · have e : chkM p l = false := by rw [ec, decide_eq_false h3]; simp
          have h3' : (p.name ∈ f.words) = False := eq_false h3
          rw [e]
          refine Wcall_K (N := 259) hm kT.out 18000 (lst [1000012, 1000014, 1000016, 1000018, 1000020, 1000022, 1000029]) ok18 Tryd.func18 rfl rfl (by simp) (by kernel_rfl) ?_
          repeat' (first | refine WcallK.i (f42 (l := l) (by simp only; omega) (by simp only [go_sem]) hfo.1 hfo.2 hlen fun n' hn' => ?_) | refine WcallK.i (f42 (l := l) (by simp only; omega) (by simp only [go_sem, hfn]) hoo.1 hoo.2 hlen fun n' hn' => ?_) | refine ReqK.i hfb fun _ => ?_ | refine And.intro ?_ ?_ | exact True.intro | refine rq fun _ => ?_ | simp only [go_sem, k6, hfn, hon, hfl, hf, hP, h1, eF, h2, h3', getD_map_lt, str_eta, prf_eta, form_eta, Int.ofNat_one, Tryd.f18])
          all_goals trace_state
        obtain ⟨s0, hs0⟩ : ∃ s, p.subs = [s] := by
          match h : p.subs, h2 with
          | [s], _ => exact ⟨s, rfl⟩
        have hs0s := Prf.size_sub (f := p) (g := s0) (by rw [hs0]; simp)
        obtain ⟨T, hT0⟩ : ∃ T, swapTo f p.name = T := ⟨_, rfl⟩
        have hib : brF (canonM g [⟨p.name, T⟩]) := hgb.cn
        have e : chkM p l = chkM s0 (l ++ [canonM g [⟨p.name, T⟩]]) := by rw [ec, hs0, hT0]; simp [h1, h3]
        rw [e]
        obtain ⟨I, hI⟩ : ∃ I, canonM g [⟨p.name, T⟩] = I := ⟨_, rfl⟩
        rw [hI] at hib
        rw [hI]
        have hrec : s0.size < k ∧ ckPreY (l ++ [I]) s0 := ⟨by omega, fun x hx => by
          rcases List.mem_append.1 hx with hx | hx
          · exact kb.out x hx
          · rw [List.mem_singleton.1 hx]; exact hib, by rw [List.length_append, List.length_singleton]; omega⟩
        obtain ⟨B, hB⟩ : ∃ B, chkM s0 (l ++ [I]) = B := ⟨_, rfl⟩
        rw [hB]
        have hput : g.fit = true ∧ g.size ≤ 1000 := cn_small hgb
        rw [hab] at h3 eF
        have h3T : (p.name ∈ [a, b]) = True := eq_true h3
        clear e ec h2 pb1 pb2 pb3 pb4 hib h3
        unfold swapTo at hT0
        rw [hab] at hT0
        simp only [List.getD_cons_zero, List.getD_cons_succ] at hT0
        by_cases haN : a = p.name
        · rw [if_pos haN] at hT0
          subst hT0
          have hal : (a.l = p.name.l) = True := eq_true (by rw [haN])
          refine Wcall_K (N := 259) hm kT.out 18000 (lst [1000012, 1000014, 1000016, 1000018, 1000020, 1000022, 1000029]) ok18 Tryd.func18 rfl rfl (by simp) (by kernel_rfl) ?_
          repeat' (first | refine WcallK.i (f42 (l := l) (by simp only; omega) (by simp only [go_sem]) hfo.1 hfo.2 hlen fun n' hn' => ?_) | refine WcallK.i (f42 (l := l) (by simp only; omega) (by simp only [go_sem, hfn]) hoo.1 hoo.2 hlen fun n' hn' => ?_) | refine ReqK.i hfb fun _ => ?_ | refine ReqK.i hput fun _ => ?_ | refine ReqK.i hrec fun _ => ?_ | refine WcallK.i (f44 (l := l) (fs := [I]) (.inl (congrArg (fun x => D.full [x]) (enc_form (f := I))).symm) (by simp only; omega) (by simp only [go_sem]) hlen (by simp) fun n' hn' => ?_) | refine WK_drawV (id := 29) hm kT.out 18000 (lst [1000012, 1000014, 1000016, 1000018, 1000020, 1000022, 1000029]) treeK29 (by kernel_rfl) (by kernel_rfl) ?_ | refine And.intro ?_ ?_ | exact True.intro | refine rq fun _ => ?_ | simp only [go_sem, k6, hfn, hon, hfl, hf, hol, hg, hP, h1, eF, hab, h3T, hal, hs0, hI, hB, treeK29, getD_map_lt, str_eta, prf_eta, form_eta, List.map_append, List.map_cons, List.map_nil, Tryd.f18])
          all_goals trace_state
        · rw [if_neg haN] at hT0
          subst hT0
          have hal : (a.l = p.name.l) = False := eq_false fun h => haN (show (⟨a.l⟩ : Str) = ⟨p.name.l⟩ by rw [h])
          refine Wcall_K (N := 259) hm kT.out 18000 (lst [1000012, 1000014, 1000016, 1000018, 1000020, 1000022, 1000029]) ok18 Tryd.func18 rfl rfl (by simp) (by kernel_rfl) ?_
          repeat' (first | refine WcallK.i (f42 (l := l) (by simp only; omega) (by simp only [go_sem]) hfo.1 hfo.2 hlen fun n' hn' => ?_) | refine WcallK.i (f42 (l := l) (by simp only; omega) (by simp only [go_sem, hfn]) hoo.1 hoo.2 hlen fun n' hn' => ?_) | refine ReqK.i hfb fun _ => ?_ | refine ReqK.i hput fun _ => ?_ | refine ReqK.i hrec fun _ => ?_ | refine WcallK.i (f44 (l := l) (fs := [I]) (.inl (congrArg (fun x => D.full [x]) (enc_form (f := I))).symm) (by simp only; omega) (by simp only [go_sem]) hlen (by simp) fun n' hn' => ?_) | refine WK_drawV (id := 29) hm kT.out 18000 (lst [1000012, 1000014, 1000016, 1000018, 1000020, 1000022, 1000029]) treeK29 (by kernel_rfl) (by kernel_rfl) ?_ | refine And.intro ?_ ?_ | exact True.intro | refine rq fun _ => ?_ | simp only [go_sem, k6, hfn, hon, hfl, hf, hol, hg, hP, h1, eF, hab, h3T, hal, hs0, hI, hB, treeK29, getD_map_lt, str_eta, prf_eta, form_eta, List.map_append, List.map_cons, List.map_nil, Tryd.f18])
          all_goals trace_state
    rw [if_neg k6] at ec
    rw [ec]
    refine Wcall_K (N := 259) hm kT.out 18000 (lst [1000012, 1000014, 1000016, 1000018, 1000020, 1000022, 1000029]) ok18 Tryd.func18 rfl rfl (by simp) (by kernel_rfl) ?_
    repeat' (first | refine WcallK.i (f42 (l := l) (by simp only; omega) (by simp only [go_sem]) hfo.1 hfo.2 hlen fun n' hn' => ?_) | refine ReqK.i hfb fun _ => ?_ | refine And.intro ?_ ?_ | exact True.intro | refine rq fun _ => ?_ | simp only [go_sem, k1, k2, k3, k4, k5, k6, hfn, hfl, hf, hP, getD_map_lt, prf_eta, form_eta, Tryd.f18])
    all_goals trace_state
end Go.Proofs.YtdlioodgfopmfaaDoor
