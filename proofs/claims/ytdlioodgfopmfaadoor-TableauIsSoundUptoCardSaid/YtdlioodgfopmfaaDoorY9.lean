/- several texts of this proof in one; no conditions -/
import Derived.Test.YtdlioodgfopmfaaDoorAT
import Derived.Test.YtdlioodgfopmfaaDoorY8
import Derived.Test.YtdlioodgfopmfaaDoorPF
import Derived.Test.YtdlioodgfopmfaaDoorAL
set_option maxRecDepth 100000
set_option maxHeartbeats 1000000
set_option linter.unusedSimpArgs false
namespace Go.Proofs.YtdlioodgfopmfaaDoor
open Go Go.Abs Go.Proofs

section
variable {P : Program} {G : Nat → List FD} {T : Tbl}
theorem sp2_recN {α β ρ : Type} [Enc α] [Enc β] [Enc ρ] {f : FuncId} {g : α → β → ρ} (m : α → Nat) (hc : CallOk P f) (hT : TblOk P G T)
    (h : ∀ n, TblOk P G (T.add f (sp2 g fun a _ => m a < n)) → ∀ a b, m a = n → (enc a).Wf → (enc b).Wf → Wcall P G f [.fz (enc a), .fz (enc b)] (hpL []) 0 (fun d _ _ => D.val d = some (.fz (enc (g a b))))) : TblOk P G (T.add f (sp2 g fun _ _ => True)) := by
  have key : ∀ n, TblOk P G (T.add f (sp2 g fun a _ => m a < n)) := by
    intro n
    induction n with
    | zero => exact sp2_ok hc hT fun a _ ha => by omega
    | succ n ih =>
      refine sp2_ok hc hT fun a b ha hw hw2 => ?_
      rcases Nat.lt_or_ge (m a) n with h3 | h3
      · have h4 := ih f (sp2 g fun a _ => m a < n) [enc a, enc b] _ _ (by simp [Tbl.add]) (k_sp2) ⟨by rw [dec_enc], by rw [dec_enc], by rw [dec_enc]; exact h3⟩
        rw [dec_enc, dec_enc, H0_eq] at h4
        exact h4
      · exact h n ih a b (by omega) hw hw2
  exact sp2_ok hc hT fun a b _ hw hw2 => h (m a) (key _) a b rfl hw hw2
end
theorem form_extN {a b : Abs.Form} (h1 : a.kind = b.kind) (h2 : a.name = b.name) (h3 : a.words = b.words) (h4 : a.subs = b.subs) : a = b := by
  cases a; cases b; simp only [form_kind, form_name, form_words, form_subs] at *; subst h1 h2 h3 h4; rfl
theorem eq_of_takeN {α : Type} {a b : List α} (h : a.length = b.length) (h2 : a.take a.length = b.take a.length) : a = b := by
  rw [List.take_length] at h2
  rw [h, List.take_length] at h2
  exact h2
section
variable {P : Program} {G : Nat → List FD} {T : Tbl}
theorem sp2_recpN {α β ρ : Type} [Enc α] [Enc β] [Enc ρ] {f : FuncId} {g : α → β → ρ} {pre : α → β → Prop} (m : α → Nat) (hc : CallOk P f) (hT : TblOk P G T)
    (h : ∀ n, TblOk P G (T.add f (sp2 g fun a b => m a < n ∧ pre a b)) → ∀ a b, m a = n → pre a b → (enc a).Wf → (enc b).Wf → Wcall P G f [.fz (enc a), .fz (enc b)] (hpL []) 0 (fun d _ _ => D.val d = some (.fz (enc (g a b))))) : TblOk P G (T.add f (sp2 g pre)) := by
  have key : ∀ n, TblOk P G (T.add f (sp2 g fun a b => m a < n ∧ pre a b)) := by
    intro n
    induction n with
    | zero => exact sp2_ok hc hT fun a b ha => by omega
    | succ n ih =>
      refine sp2_ok hc hT fun a b ha hw hw2 => ?_
      rcases Nat.lt_or_ge (m a) n with h1 | h1
      · have h2 := ih f (sp2 g fun a b => m a < n ∧ pre a b) [enc a, enc b] _ _ (by simp [Tbl.add]) (k_sp2) ⟨by rw [dec_enc], by rw [dec_enc], by rw [dec_enc, dec_enc]; exact ⟨h1, ha.2⟩⟩
        rw [dec_enc, dec_enc, H0_eq] at h2
        exact h2
      · exact h n ih a b (by omega) ha.2 hw hw2
  exact sp2_ok hc hT fun a b ha hw hw2 => h (m a) (key _) a b rfl ha hw hw2
end
def N1 : Tbl := R4.add 84 (sp2 (fun a b : List Str => decide (a = b)) fun _ _ => True)
attribute [go_sem] N1
theorem hN1 : TblOk Tryd.prog GA N1 := by
  refine sp2_ok ok84 hR4 fun a b _ hwa hwb => ?_
  obtain ⟨Q, hQ⟩ : ∃ Q : D → Heap → Nat → Prop, Q = (fun d _ _ => D.val d = some (.fz (enc (decide (a = b))))) := ⟨_, rfl⟩
  rw [← hQ]
  have hf : a ≠ b → ∀ {H' n'}, Q (.fz (.b false)) H' n' := fun h H' n' => by rw [hQ]; show _ = some (D.fz (.b (decide (a = b)))); rw [decide_eq_false h]; rfl
  have ht : a = b → ∀ {H' n'}, Q (.fz (.b true)) H' n' := fun h H' n' => by rw [hQ]; show _ = some (D.fz (.b (decide (a = b)))); rw [decide_eq_true h]; rfl
  have hsl : a.length ≤ maxL := by
    have := Wf_sl hwa
    simpa using this
  unfold maxL at hsl
  have kf := Kp.mk @hf
  have kt := Kp.mk @ht
  clear hf ht hQ hwa hwb
  refine Wcall_K (N := 26) hm hR4 84000 (lst []) ok84 Tryd.func84 rfl rfl (by simp) (by kernel_rfl) ?_
  repeat' (first | refine CondK.d (fun _ => ?_) (fun _ => ?_) | refine rq fun _ => ?_ | simp only [go_sem, Tryd.f84])
  all_goals try (refine kf.out (fun e => ?_); subst e; omega)
  rename_i e1
  have hlen : a.length = b.length := by omega
  refine WK_loop hm hR4 84000 (lst []) (ι := LoopI a.length fun i => a.take i = b.take i)
    ⟨fun q => ⟨frL [(0, .fz (.sl (a.map enc))), (1, .fz (.sl (b.map enc))), (12, .fz (.i .i64 a.length)), (13, .fz (.i .i64 q.i))], hpL [], 0⟩, fun q => a.length - q.i⟩
    ⟨0, by omega, rfl⟩ (by kernel_rfl) ?_ ?_
  · refine Weak_to ?_ ?_ ?_ <;> simp only [go_sem]
  rintro ⟨i, hi, hpi⟩
  rcases Nat.lt_or_ge i a.length with h1 | h1
  · have h2 : i < b.length := by omega
    obtain ⟨x, hx⟩ : ∃ x, a[i] = x := ⟨_, rfl⟩
    obtain ⟨y, hy⟩ : ∃ y, b[i] = y := ⟨_, rfl⟩
    by_cases hxy : x = y
    · repeat' (first | refine rq fun _ => ?_ | simp only [go_sem, h1, h2, hx, hy, eq_true hxy, getD_map_lt, Tryd.f84])
      refine ⟨⟨i + 1, by omega, ?_⟩, by simp only; omega, ?_⟩
      · rw [List.take_succ_eq_append_getElem h1, List.take_succ_eq_append_getElem h2, hpi, hx, hy, hxy]
      · refine Weak_to ?_ ?_ ?_ <;> simp only [go_sem]
    · repeat' (first | refine rq fun _ => ?_ | simp only [go_sem, h1, h2, hx, hy, eq_false hxy, getD_map_lt, Tryd.f84])
      exact kf.out fun e => hxy (by subst e; rw [← hx, ← hy])
  · have h1' : ¬ i < a.length := by omega
    obtain rfl : i = a.length := by omega
    repeat' (first | refine rq fun _ => ?_ | simp only [go_sem, Nat.lt_irrefl, h1', Tryd.f84])
    exact kt.out (eq_of_takeN hlen hpi)

def N2 : Tbl := N1.add 47 (sp2 (fun a b : Abs.Form => decide (a = b)) fun _ _ => True)
attribute [go_sem] N2
theorem hN2 : TblOk Tryd.prog GA N2 := by
  refine sp2_recN Form.size ok47 hN1 fun n hT a b hn hwa hwb => ?_
  obtain ⟨Q, hQ⟩ : ∃ Q : D → Heap → Nat → Prop, Q = (fun d _ _ => D.val d = some (.fz (enc (decide (a = b))))) := ⟨_, rfl⟩
  rw [← hQ]
  have hf : a ≠ b → ∀ {H' n'}, Q (.fz (.b false)) H' n' := fun h H' n' => by rw [hQ]; show _ = some (D.fz (.b (decide (a = b)))); rw [decide_eq_false h]; rfl
  have ht : a = b → ∀ {H' n'}, Q (.fz (.b true)) H' n' := fun h H' n' => by rw [hQ]; show _ = some (D.fz (.b (decide (a = b)))); rw [decide_eq_true h]; rfl
  have hsl : a.subs.length ≤ maxL := by
    have h := Wf_agg (by have h := hwa; rw [enc_form] at h; exact h) (FD.sl (a.subs.map enc)) (by simp)
    have := Wf_sl h
    simpa using this
  unfold maxL at hsl
  have hsz : ∀ g ∈ a.subs, g.size < n := fun g hg => by have := Form.size_sub hg; omega
  have kf := Kp.mk @hf
  have kt := Kp.mk @ht
  have kz := Kp.mk hsz
  have kT := Kp.mk hT
  clear hf ht hQ hwa hwb hsz hT
  refine Wcall_K (N := 54) hm kT.out 47000 (lst []) ok47 Tryd.func47 rfl rfl (by simp) (by kernel_rfl) ?_
  repeat' (first | refine CondK.d (fun _ => ?_) (fun _ => ?_) | refine CondK.i (fun _ => ?_) (fun _ => ?_) | refine rq fun _ => ?_ | simp only [go_sem, Tryd.f47, *])
  all_goals try (refine kf.out (fun e => ?_); subst e; contradiction)
  rename_i e1 e2 e3 e4
  have hlen : a.subs.length = b.subs.length := by omega
  refine WK_loop hm kT.out 47000 (lst []) (ι := LoopI a.subs.length fun i => a.subs.take i = b.subs.take i)
    ⟨fun q => ⟨frL [(2, .ptr (47002, 0) 0), (3, .ptr (47003, 1) 0), (37, .fz (.i .i64 a.subs.length)), (38, .fz (.i .i64 q.i))],
      hpL [((47002, 0), some ⟨[.fz (.i .i64 a.kind), .fz (.s a.name.l), .fz (.sl (a.words.map enc)), .fz (.sl (a.subs.map enc))], true, false⟩), ((47003, 1), some ⟨[.fz (.i .i64 b.kind), .fz (.s b.name.l), .fz (.sl (b.words.map enc)), .fz (.sl (b.subs.map enc))], true, false⟩)], 2⟩, fun q => a.subs.length - q.i⟩
    ⟨0, by omega, rfl⟩ (by kernel_rfl) ?_ ?_
  · refine Weak_to ?_ ?_ ?_ <;> simp only [go_sem, *]
  rintro ⟨i, hi, hpi⟩
  rcases Nat.lt_or_ge i a.subs.length with h1 | h1
  · have h2 : i < b.subs.length := by omega
    obtain ⟨x, hx⟩ : ∃ x, a.subs[i] = x := ⟨_, rfl⟩
    obtain ⟨y, hy⟩ : ∃ y, b.subs[i] = y := ⟨_, rfl⟩
    have hxs : x.size < n := kz.out x (by rw [← hx]; exact List.getElem_mem h1)
    by_cases hxy : x = y
    · repeat' (first | refine rq fun _ => ?_ | simp only [go_sem, h1, h2, hx, hy, hxs, eq_true hxy, getD_map_lt, Tryd.f47])
      refine ⟨⟨i + 1, by omega, ?_⟩, by simp only; omega, ?_⟩
      · rw [List.take_succ_eq_append_getElem h1, List.take_succ_eq_append_getElem h2, hpi, hx, hy, hxy]
      · refine Weak_to ?_ ?_ ?_ <;> simp only [go_sem]
    · repeat' (first | refine rq fun _ => ?_ | simp only [go_sem, h1, h2, hx, hy, hxs, eq_false hxy, getD_map_lt, Tryd.f47])
      exact kf.out fun e => hxy (by subst e; rw [← hx, ← hy])
  · have h1' : ¬ i < a.subs.length := by omega
    obtain rfl : i = a.subs.length := by omega
    repeat' (first | refine rq fun _ => ?_ | simp only [go_sem, Nat.lt_irrefl, h1', Tryd.f47])
    exact kt.out (form_extN e1 e2 e3 (eq_of_takeN hlen hpi))



def negM (f : Abs.Form) : Abs.Form := canonM (notF f) []
def N3 : Tbl := N2.add 41 (sp1 negM fun f => f.fit = true ∧ f.size ≤ 900)
attribute [go_sem] N3
theorem hN3 : TblOk Tryd.prog GA N3 := by
  refine sp1_ok ok41 hN2 fun f hp _ => ?_
  have hp2 : (notF f).fit = true ∧ (notF f).size ≤ 1000 := ⟨by simp [notF, Form.fit, Form.fits, hp.1], by simp only [notF, Form.size, Form.sizes]; omega⟩
  have dN : Abs.Form.mk 4 ⟨[]⟩ [] [f] = notF f := rfl
  have nk : (notF f).kind = 4 := rfl
  have nn : (notF f).name.l = [] := rfl
  have nw : (notF f).words = [] := rfl
  have ns : (notF f).subs = [f] := rfl
  unfold negM
  obtain ⟨R, hR⟩ : ∃ R, canonM (notF f) [] = R := ⟨_, rfl⟩
  rw [hR]
  refine Wcall_K (N := 7) hm hN2 41000 (lst []) ok41 Tryd.func41 rfl rfl (by simp) (by kernel_rfl) ?_
  repeat' (first | refine ReqK.i ⟨rfl, hp2⟩ fun _ => ?_ | refine ReqK.i hp2 fun _ => ?_ | refine And.intro ?_ ?_ | exact True.intro | refine rq fun _ => ?_ | simp only [go_sem, dN, hR, nk, nn, nw, ns, form_eta, Tryd.f41])
def N4 : Tbl := N3.add 17 (sp2 cntK fun _ n => 0 ≤ n ∧ n ≤ 2000)
attribute [go_sem] N4
theorem hN4 : TblOk Tryd.prog GA N4 := by
  refine sp2_recpN Prf.size ok17 hN3 fun k hT p n hk hpre hwp _ => ?_
  have hpn := hpre
  have hsl : p.subs.length ≤ maxL := by
    have h := Wf_agg (by have h := hwp; rw [enc_prf] at h; exact h) (FD.sl (p.subs.map enc)) (by simp)
    have := Wf_sl h
    simpa using this
  unfold maxL at hsl
  have hsz : ∀ q ∈ p.subs, q.size < k := fun q hq => by have := Prf.size_sub hq; omega
  rw [cntK_eq]
  obtain ⟨l, hl⟩ : ∃ l, p.subs = l := ⟨_, rfl⟩
  rw [hl] at hsz hsl
  rw [hl]
  have kT := Kp.mk hT
  have kz := Kp.mk hsz
  clear hT hsz hk hwp hpre
  refine Wcall_K (N := 24) hm kT.out 17000 (lst []) ok17 Tryd.func17 rfl rfl (by simp) (by kernel_rfl) ?_
  repeat' (first | refine And.intro ?_ ?_ | exact True.intro | refine rq fun _ => ?_ | simp only [go_sem, hl, prf_eta, Tryd.f17])
  refine WK_loop hm kT.out 17000 (lst []) (ι := LoopM l.length 1 fun i => cntKs (l.take i) (n + 1) ≤ 2001 ∧ n + 1 ≤ cntKs (l.take i) (n + 1))
    ⟨fun q => ⟨frL [(1, .fz (.i .i64 (cntKs (l.take q.i) (n + 1)))), (2, .ptr (17002, 0) 0), (10, .fz (.sl (l.map enc))), (11, .fz (.i .i64 l.length)), (12, .fz (.i .i64 q.i))],
      hpL [((17002, 0), some ⟨[.fz (.i .i64 p.kind), .fz (.i .i64 p.form), .fz (.i .i64 p.other), .fz (.s p.name.l), .fz (.sl (l.map enc))], true, false⟩)], q.m⟩, fun q => l.length - q.i⟩
    ⟨0, 1, by omega, by omega, by rw [List.take_zero, cntKs]; omega⟩ (by kernel_rfl) ?_ ?_
  · refine Weak_to ?_ ?_ ?_ <;> simp only [go_sem, cntKs, hl]
    all_goals first | done | rfl | omega
  rintro ⟨i, m, hi, hm1, hb1, hb2⟩
  try simp only at hi hm1 hb1 hb2
  have ht : ∀ _ : Nat, cntKs (l.take i ++ l.drop i) (n + 1) = cntKs (l.drop i) (cntKs (l.take i) (n + 1)) := fun _ => cntKs_app _ _ _
  obtain ⟨c, hc⟩ : ∃ c, cntKs (l.take i) (n + 1) = c := ⟨_, rfl⟩
  rw [hc] at hb1 hb2
  rcases Nat.lt_or_ge i l.length with h1 | h1
  · obtain ⟨x, hx⟩ : ∃ x, l[i] = x := ⟨_, rfl⟩
    have hxs : x.size < k := kz.out x (by rw [← hx]; exact List.getElem_mem h1)
    have hdr : l.drop i = x :: l.drop (i + 1) := by rw [← hx]; exact List.drop_eq_getElem_cons h1
    by_cases h2 : 2000 < c
    · have e : cntKs l (n + 1) = c := by
        have := ht 0
        rw [List.take_append_drop, hc, hdr, cntKs, if_pos h2] at this
        exact this
      rw [e]
      repeat' (first | refine And.intro ?_ ?_ | exact True.intro | refine rq fun _ => ?_ | simp only [go_sem, h1, hc, h2, hx, getD_map_lt, prf_eta, Tryd.f17])
    · have hxp : x.size < k ∧ (0 ≤ c ∧ c ≤ 2000) := ⟨hxs, by omega, by omega⟩
      have es : cntKs (l.take (i + 1)) (n + 1) = cntK x c := by
        rw [List.take_succ_eq_append_getElem h1, cntKs_app, hc, hx, cntKs, if_neg h2, cntKs]
      have hle := cntK_le x c (by omega)
      obtain ⟨r, hr⟩ : ∃ r, cntK x c = r := ⟨_, rfl⟩
      rw [hr] at es hle
      repeat' (first | refine ReqK.i hxp fun _ => ?_ | refine And.intro ?_ ?_ | exact True.intro | refine rq fun _ => ?_ | simp only [go_sem, h1, hc, h2, hx, hr, getD_map_lt, prf_eta, Tryd.f17])
      refine ⟨⟨i + 1, m + 1, by omega, by omega, by rw [es]; omega⟩, by simp only; omega, ?_⟩
      refine Weak_to ?_ ?_ ?_ <;> simp only [go_sem, es]
      all_goals first | done | rfl | omega
  · obtain rfl : i = l.length := by omega
    rw [List.take_length] at hc
    rw [hc]
    repeat' (first | refine And.intro ?_ ?_ | exact True.intro | refine rq fun _ => ?_ | simp only [go_sem, Nat.lt_irrefl, List.take_length, hc, prf_eta, Tryd.f17])
end Go.Proofs.YtdlioodgfopmfaaDoor

namespace Go.Proofs.YtdlioodgfopmfaaDoor
open Go Go.Abs Go.Proofs

def badA : List Abs.Form → Nat → Fault
  | [], _ => ⟨0, 0⟩
  | f :: l, i => if (checkM false f).code ≠ 0 then ⟨(checkM false f).code, i⟩ else badA l (i + 1)
def canL (l : List Abs.Form) : List Abs.Form := l.map fun f => canonM f []
theorem canL_len (l : List Abs.Form) : (canL l).length = l.length := List.length_map _
def beginP (ax : List Abs.Form) (g : Abs.Form) : List Abs.Form × Fault :=
  if 40 < ax.length then ([], ⟨2, -1⟩) else if (badA ax 0).code ≠ 0 then ([], badA ax 0)
  else if (checkM false g).code ≠ 0 then ([], ⟨(checkM false g).code, -2⟩) else (canL ax ++ [negM g], ⟨0, 0⟩)
theorem badA_step : ∀ (l : List Abs.Form) (k i : Nat) (h : i < l.length), (∀ f ∈ l.take i, (checkM false f).code = 0) → (checkM false l[i]).code ≠ 0 → badA l k = ⟨(checkM false l[i]).code, ((k + i : Nat) : Int)⟩
  | f :: l, k, 0, _, _, h2 => by
    have h3 : (checkM false f).code ≠ 0 := h2
    rw [badA, if_pos h3]; rfl
  | f :: l, k, i + 1, h, h1, h2 => by
    rw [badA, if_neg (by simp [h1 f (by simp)]), badA_step l (k + 1) i (by simpa using h) (fun g hg => h1 g (by rw [List.take_succ_cons]; exact List.mem_cons_of_mem _ hg)) h2]
    simp only [List.getElem_cons_succ, Fault.mk.injEq, true_and]
    omega
theorem badA_zero : ∀ (l : List Abs.Form) (k : Nat), (∀ f ∈ l, (checkM false f).code = 0) → badA l k = ⟨0, 0⟩
  | [], _, _ => rfl
  | f :: l, k, h => by rw [badA, if_neg (by simp [h f (by simp)]), badA_zero l _ fun g hg => h g (by simp [hg])]
def tree449 : Tv := (.q 0 (.q 1 (.q 2 (.q 3 (.q 4 (.br [(5, .leaf)]))))))
def tree4414 : Tv := (.q 0 (.q 1 (.q 2 (.q 3 (.br [(4, .leaf)])))))
def N5 : Tbl := N4.add 16 (sp2p beginP fun _ _ => True)
attribute [go_sem] N5
set_option maxHeartbeats 4000000 in
theorem hN5 : TblOk Tryd.prog GA N5 := by
  refine sp2p_ok ok16 hN4 fun ax g _ hwa _ => ?_
  have hsl : ax.length ≤ maxL := by
    have := Wf_sl hwa
    simpa using this
  unfold maxL at hsl
  clear hwa
  by_cases h40 : 40 < ax.length
  · have e : beginP ax g = ([], ⟨2, -1⟩) := by unfold beginP; rw [if_pos h40]
    have h40' : ((40 : Int) < ax.length) = True := eq_true (by omega)
    rw [e]
    refine Wcall_K (N := 51) hm hN4 16000 (lsw [35, 49] [1000009, 1000014]) ok16 Tryd.func16 rfl rfl (by simp) (by kernel_rfl) ?_
    repeat' (first | refine And.intro ?_ ?_ | exact True.intro | refine rq fun _ => ?_ | simp only [go_sem, h40', form_eta, Tryd.f16])
  have h40' : ((40 : Int) < ax.length) = False := eq_false (by omega)
  refine Wcall_K (N := 51) hm hN4 16000 (lsw [35, 49] [1000009, 1000014]) ok16 Tryd.func16 rfl rfl (by simp) (by kernel_rfl) ?_
  repeat' (first | refine And.intro ?_ ?_ | exact True.intro | refine rq fun _ => ?_ | simp only [go_sem, h40', form_eta, Tryd.f16])
  refine WK_loop hm hN4 16000 (lsw [35, 49] [1000009, 1000014]) (ι := LoopG ax.length 3 fun i => ∀ f ∈ ax.take i, (checkM false f).code = 0)
    ⟨fun q => ⟨frL [(3, .ptr (16003, 0) 0), (5, .ptr (16005, 1) 0), (6, .ow (16035, q.g) 4 ((canL (ax.take q.i)).map enc)), (15, .fz (.sl (ax.map enc))), (16, .fz (.i .i64 ax.length)), (17, .fz (.i .i64 q.i))],
      hpL [((16003, 0), some ⟨[.fz (.i .i64 g.kind), .fz (.s g.name.l), .fz (.sl (g.words.map enc)), .fz (.sl (g.subs.map enc))], true, false⟩), ((16005, 1), some ⟨[.fz (.i .i64 0), .fz (.i .i64 0)], true, false⟩), ((16035, q.g), some tok)], q.m⟩, fun q => ax.length - q.i⟩
    ⟨0, 2, 3, by omega, by omega, by omega, by simp⟩ (by kernel_rfl) ?_ ?_
  · refine Weak_g [] [(16035, 2)] [] ?_ ?_ ?_ ?_ ?_ <;> simp only [go_sem]
    all_goals first | done | rfl | omega
  rintro ⟨i, gg, m, hi, hg, hm1, hp⟩
  try simp only at hi hg hm1 hp
  rcases Nat.lt_or_ge i ax.length with h1 | h1
  · obtain ⟨x, hx⟩ : ∃ x, ax[i] = x := ⟨_, rfl⟩
    by_cases hc : (checkM false x).code = 0
    rotate_left
    · have eb := badA_step ax 0 i h1 hp (by rw [hx]; exact hc)
      rw [hx, Nat.zero_add] at eb
      have e : beginP ax g = ([], ⟨(checkM false x).code, (i : Int)⟩) := by unfold beginP; rw [if_neg h40, eb, if_pos hc]
      rw [e]
      obtain ⟨X, hX⟩ : ∃ X, checkM false x = X := ⟨_, rfl⟩
      rw [hX] at hc
      rw [hX]
      repeat' (first | refine WK_drawV (id := 9) hm hN4 16000 (lsw [35, 49] [1000009, 1000014]) tree449 (by kernel_rfl) (by kernel_rfl) ?_ | refine And.intro ?_ ?_ | exact True.intro | refine rq fun _ => ?_ | simp only [go_sem, h1, hx, hX, hc, getD_map_lt, form_eta, tree449, Tryd.f16])
    · have hcz := checkM_code hc
      have hcp : x.fit = true ∧ x.size ≤ 1000 := ⟨checkM_fit hc, by have := checkM_size hc; omega⟩
      have et : canL (ax.take (i + 1)) = canL (ax.take i) ++ [canonM x []] := by
        unfold canL
        rw [List.take_succ_eq_append_getElem h1, List.map_append, hx]; rfl
      have hlt : (canL (ax.take i)).length = i := by rw [canL_len, List.length_take]; omega
      repeat' (first | refine ReqK.i hcp fun _ => ?_ | refine rf fun _ => ?_ | refine And.intro ?_ ?_ | exact True.intro | refine rq fun _ => ?_ | simp only [go_sem, h1, hx, hcz, getD_map_lt, form_eta, Tryd.f16])
      refine ⟨⟨i + 1, m + 2, m + 3, by omega, by omega, by omega, ?_⟩, by simp only; omega, ?_⟩
      · rw [List.take_succ_eq_append_getElem h1, hx]
        intro f hf
        rcases List.mem_append.1 hf with hf | hf
        · exact hp f hf
        · rw [List.mem_singleton.1 hf]; exact hc
      refine Weak_to ?_ ?_ ?_ <;> simp only [go_sem, et, List.map_append]
      all_goals first | done | rfl | omega
  · obtain rfl : i = ax.length := by omega
    rw [List.take_length] at hp
    have eb := badA_zero ax 0 hp
    by_cases hc : (checkM false g).code = 0
    rotate_left
    · have e : beginP ax g = ([], ⟨(checkM false g).code, -2⟩) := by unfold beginP; rw [if_neg h40, eb, if_neg (by decide), if_pos hc]
      rw [e]
      obtain ⟨X, hX⟩ : ∃ X, checkM false g = X := ⟨_, rfl⟩
      rw [hX] at hc
      rw [hX]
      repeat' (first | refine WK_drawV (id := 14) hm hN4 16000 (lsw [35, 49] [1000009, 1000014]) tree4414 (by kernel_rfl) (by kernel_rfl) ?_ | refine And.intro ?_ ?_ | exact True.intro | refine rq fun _ => ?_ | simp only [go_sem, Nat.lt_irrefl, hX, hc, form_eta, tree4414, Tryd.f16])
    · have hcz := checkM_code hc
      have hgp : g.fit = true ∧ g.size ≤ 900 := ⟨checkM_fit hc, by have := checkM_size hc; omega⟩
      have e : beginP ax g = (canL ax ++ [negM g], ⟨0, 0⟩) := by unfold beginP; rw [if_neg h40, eb, if_neg (by decide), if_neg (by simp [hc])]
      rw [e]
      obtain ⟨R, hR⟩ : ∃ R, negM g = R := ⟨_, rfl⟩
      rw [hR]
      have hlt : (canL ax).length = ax.length := canL_len ax
      repeat' (first | refine ReqK.i hgp fun _ => ?_ | refine rf fun _ => ?_ | refine And.intro ?_ ?_ | exact True.intro | refine rq fun _ => ?_ | simp only [go_sem, Nat.lt_irrefl, List.take_length, hcz, hR, form_eta, List.map_append, Tryd.f16])
end Go.Proofs.YtdlioodgfopmfaaDoor

namespace Go.Proofs.YtdlioodgfopmfaaDoor
open Go Go.Abs Go.Proofs

section
variable {P : Program} {G : Nat → List FD} {T : Tbl}
def sp1q {α ρ σ τ υ : Type} [Enc α] [Enc ρ] [Enc σ] [Enc τ] [Enc υ] (f : α → ρ × σ × τ × υ) (pre : α → Prop) : List FD → Option (D × Prop)
  | [x] => some (.tup [.fz (enc (f (dec x)).1), .fz (enc (f (dec x)).2.1), .fz (enc (f (dec x)).2.2.1), .fz (enc (f (dec x)).2.2.2)], x = enc (dec (α := α) x) ∧ pre (dec x))
  | _ => none
@[go_sem] theorem k_sp1q {α ρ σ τ υ : Type} [Enc α] [Enc ρ] [Enc σ] [Enc τ] [Enc υ] {f : α → ρ × σ × τ × υ} {pre : α → Prop} {x : FD} : sp1q f pre [x] = some (.tup [.fz (enc (f (dec x)).1), .fz (enc (f (dec x)).2.1), .fz (enc (f (dec x)).2.2.1), .fz (enc (f (dec x)).2.2.2)], x = enc (dec (α := α) x) ∧ pre (dec x)) := rfl
theorem sp1q_ok {α ρ σ τ υ : Type} [Enc α] [Enc ρ] [Enc σ] [Enc τ] [Enc υ] {f : FuncId} {g : α → ρ × σ × τ × υ} {pre : α → Prop} (hc : CallOk P f) (hT : TblOk P G T)
    (h : ∀ a, pre a → (enc a).Wf → Wcall P G f [.fz (enc a)] (hpL []) 0 (fun d _ _ => D.val d = some (.tup [.fz (enc (g a).1), .fz (enc (g a).2.1), .fz (enc (g a).2.2.1), .fz (enc (g a).2.2.2)]))) : TblOk P G (T.add f (sp1q g pre)) := by
  refine TblOk_add hT fun xs r c hx hcc => ?_
  unfold sp1q at hx
  split at hx
  · rename_i x
    simp only [Option.some.injEq, Prod.mk.injEq] at hx
    obtain ⟨rfl, rfl⟩ := hx
    obtain ⟨e, hp⟩ := hcc
    refine Wcall_wf hc fun hw => ?_
    rw [H0_eq]
    have := h (dec x) hp (by rw [← e]; exact hw x (by simp))
    rw [← e] at this
    exact this
  · cases hx
end
def partS (_ : Abs.Form) : Int × List Abs.Form × Abs.Form × Bool := (0, [], zeroF, false)
def N6 : Tbl := N5.add 43 (sp1q partS fun f => f.kind = 2)
attribute [go_sem] N6
def chkS (_ : List Abs.Form) (p : Prf) : Bool := decide (p.kind = 1)
def chkPre (l : List Abs.Form) (p : Prf) : Prop := ∃ f, f.kind = 2 ∧ l = [f, negM f] ∧ (f.fit = true ∧ f.size ≤ 900) ∧ p.form = 0 ∧ ((p.kind = 1 ∧ p.other = 1 ∧ p.subs = []) ∨ p.kind = 3)
def N7 : Tbl := N6.add 18 (sp2 chkS chkPre)
attribute [go_sem] N7
end Go.Proofs.YtdlioodgfopmfaaDoor
