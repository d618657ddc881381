import Derived.Test.YtbbjghecpcobjaaDoorAT
import Derived.Test.YtbbjghecpcobjaaDoorQ28
import Derived.Test.YtbbjghecpcobjaaDoorPF
import Derived.Test.YtbbjghecpcobjaaDoorAL
set_option linter.unusedSimpArgs false
namespace Go.Proofs.YtbbjghecpcobjaaDoor
open Go Go.Abs Go.Proofs
theorem ok5 : CallOk Tryd.prog 5 := Tryd.call5
theorem ok15 : CallOk Tryd.prog 15 := Tryd.call15
theorem ok44 : CallOk Tryd.prog 44 := Tryd.call44
theorem ok45 : CallOk Tryd.prog 45 := Tryd.call45
theorem ok46 : CallOk Tryd.prog 46 := Tryd.call46
theorem ok89 : CallOk Tryd.prog 89 := Tryd.call89
theorem ok90 : CallOk Tryd.prog 90 := Tryd.call90
theorem ok91 : CallOk Tryd.prog 91 := Tryd.call91

/-! ## the package tableau: what checks a proof -/
section
variable {P : Program} {G : Nat → List FD} {T : Tbl}
theorem sp2_recN {α β ρ : Type} [Enc α] [Enc β] [Enc ρ] {f : FuncId} {g : α → β → ρ} (m : α → Nat) (hc : CallOk P f) (hT : TblOk P G T)
    (h : ∀ n, TblOk P G (T.add f (sp2 g fun a _ => m a < n)) → ∀ a b, m a = n → (enc a).Wf → (enc b).Wf → Wcall P G f [.fz (enc a), .fz (enc b)] (hpL []) 0 (fun d _ _ => D.val d = some (.fz (enc (g a b))))) : TblOk P G (T.add f (sp2 g fun _ _ => True)) := by
  have key : ∀ n, TblOk P G (T.add f (sp2 g fun a _ => m a < n)) := by
    intro n
    induction n with
    | zero => exact sp2_ok hc hT fun a _ ha => by omega
    | succ n ih =>
      refine sp2_ok hc hT fun a b ha hw hw2 => ?_
      rcases Nat.lt_or_ge (m a) n with h3 | h3
      · have h4 := ih f (sp2 g fun a _ => m a < n) [enc a, enc b] _ _ (by simp [Tbl.add]) (k_sp2) ⟨by rw [dec_enc], by rw [dec_enc], by rw [dec_enc]; exact h3⟩
        rw [dec_enc, dec_enc, H0_eq] at h4
        exact h4
      · exact h n ih a b (by omega) hw hw2
  exact sp2_ok hc hT fun a b _ hw hw2 => h (m a) (key _) a b rfl hw hw2
end
theorem form_extN {a b : Abs.Form} (h1 : a.kind = b.kind) (h2 : a.name = b.name) (h3 : a.words = b.words) (h4 : a.subs = b.subs) : a = b := by
  cases a; cases b; simp only [form_kind, form_name, form_words, form_subs] at *; subst h1 h2 h3 h4; rfl
theorem eq_of_takeN {α : Type} {a b : List α} (h : a.length = b.length) (h2 : a.take a.length = b.take a.length) : a = b := by
  rw [List.take_length] at h2
  rw [h, List.take_length] at h2
  exact h2
section
variable {P : Program} {G : Nat → List FD} {T : Tbl}
/-- a recursive function of two arguments, under a condition -/
theorem sp2_recpN {α β ρ : Type} [Enc α] [Enc β] [Enc ρ] {f : FuncId} {g : α → β → ρ} {pre : α → β → Prop} (m : α → Nat) (hc : CallOk P f) (hT : TblOk P G T)
    (h : ∀ n, TblOk P G (T.add f (sp2 g fun a b => m a < n ∧ pre a b)) → ∀ a b, m a = n → pre a b → (enc a).Wf → (enc b).Wf → Wcall P G f [.fz (enc a), .fz (enc b)] (hpL []) 0 (fun d _ _ => D.val d = some (.fz (enc (g a b))))) : TblOk P G (T.add f (sp2 g pre)) := by
  have key : ∀ n, TblOk P G (T.add f (sp2 g fun a b => m a < n ∧ pre a b)) := by
    intro n
    induction n with
    | zero => exact sp2_ok hc hT fun a b ha => by omega
    | succ n ih =>
      refine sp2_ok hc hT fun a b ha hw hw2 => ?_
      rcases Nat.lt_or_ge (m a) n with h1 | h1
      · have h2 := ih f (sp2 g fun a b => m a < n ∧ pre a b) [enc a, enc b] _ _ (by simp [Tbl.add]) (k_sp2) ⟨by rw [dec_enc], by rw [dec_enc], by rw [dec_enc, dec_enc]; exact ⟨h1, ha.2⟩⟩
        rw [dec_enc, dec_enc, H0_eq] at h2
        exact h2
      · exact h n ih a b (by omega) ha.2 hw hw2
  exact sp2_ok hc hT fun a b ha hw hw2 => h (m a) (key _) a b rfl ha hw hw2
end
def N1 : Tbl := R4.add 109 (sp2 (fun a b : List Str => decide (a = b)) fun _ _ => True)
attribute [go_sem] N1
set_option maxRecDepth 100000 in
set_option maxHeartbeats 1000000 in
theorem hN1 : TblOk Tryd.prog GA N1 := by
  refine sp2_ok ok109 hR4 fun a b _ hwa hwb => ?_
  obtain ⟨Q, hQ⟩ : ∃ Q : D → Heap → Nat → Prop, Q = (fun d _ _ => D.val d = some (.fz (enc (decide (a = b))))) := ⟨_, rfl⟩
  rw [← hQ]
  have hf : a ≠ b → ∀ {H' n'}, Q (.fz (.b false)) H' n' := fun h H' n' => by rw [hQ]; show _ = some (D.fz (.b (decide (a = b)))); rw [decide_eq_false h]; rfl
  have ht : a = b → ∀ {H' n'}, Q (.fz (.b true)) H' n' := fun h H' n' => by rw [hQ]; show _ = some (D.fz (.b (decide (a = b)))); rw [decide_eq_true h]; rfl
  have hsl : a.length ≤ maxL := by
    have := Wf_sl hwa
    simpa using this
  unfold maxL at hsl
  have kf := Kp.mk @hf
  have kt := Kp.mk @ht
  clear hf ht hQ hwa hwb
  refine Wcall_K (N := 26) hm hR4 109000 (lst []) ok109 Tryd.func109 rfl rfl (by simp) (by kernel_rfl) ?_
  repeat' (first | refine CondK.d (fun _ => ?_) (fun _ => ?_) | refine rq fun _ => ?_ | simp only [go_sem, Tryd.f109])
  all_goals try (refine kf.out (fun e => ?_); subst e; omega)
  rename_i e1
  have hlen : a.length = b.length := by omega
  refine WK_loop hm hR4 109000 (lst []) (ι := LoopI a.length fun i => a.take i = b.take i)
    ⟨fun q => ⟨frL [(0, .fz (.sl (a.map enc))), (1, .fz (.sl (b.map enc))), (12, .fz (.i .i64 a.length)), (13, .fz (.i .i64 q.i))], hpL [], 0⟩, fun q => a.length - q.i⟩
    ⟨0, by omega, rfl⟩ (by kernel_rfl) ?_ ?_
  · refine Weak_to ?_ ?_ ?_ <;> simp only [go_sem]
  rintro ⟨i, hi, hpi⟩
  rcases Nat.lt_or_ge i a.length with h1 | h1
  · have h2 : i < b.length := by omega
    obtain ⟨x, hx⟩ : ∃ x, a[i] = x := ⟨_, rfl⟩
    obtain ⟨y, hy⟩ : ∃ y, b[i] = y := ⟨_, rfl⟩
    by_cases hxy : x = y
    · repeat' (first | refine rq fun _ => ?_ | simp only [go_sem, h1, h2, hx, hy, eq_true hxy, getD_map_lt, Tryd.f109])
      refine ⟨⟨i + 1, by omega, ?_⟩, by simp only; omega, ?_⟩
      · rw [List.take_succ_eq_append_getElem h1, List.take_succ_eq_append_getElem h2, hpi, hx, hy, hxy]
      · refine Weak_to ?_ ?_ ?_ <;> simp only [go_sem]
    · repeat' (first | refine rq fun _ => ?_ | simp only [go_sem, h1, h2, hx, hy, eq_false hxy, getD_map_lt, Tryd.f109])
      exact kf.out fun e => hxy (by subst e; rw [← hx, ← hy])
  · have h1' : ¬ i < a.length := by omega
    obtain rfl : i = a.length := by omega
    repeat' (first | refine rq fun _ => ?_ | simp only [go_sem, Nat.lt_irrefl, h1', Tryd.f109])
    exact kt.out (eq_of_takeN hlen hpi)

def N2 : Tbl := N1.add 67 (sp2 (fun a b : Abs.Form => decide (a = b)) fun _ _ => True)
attribute [go_sem] N2
set_option maxRecDepth 100000 in
set_option maxHeartbeats 1000000 in
theorem hN2 : TblOk Tryd.prog GA N2 := by
  refine sp2_recN Form.size ok67 hN1 fun n hT a b hn hwa hwb => ?_
  obtain ⟨Q, hQ⟩ : ∃ Q : D → Heap → Nat → Prop, Q = (fun d _ _ => D.val d = some (.fz (enc (decide (a = b))))) := ⟨_, rfl⟩
  rw [← hQ]
  have hf : a ≠ b → ∀ {H' n'}, Q (.fz (.b false)) H' n' := fun h H' n' => by rw [hQ]; show _ = some (D.fz (.b (decide (a = b)))); rw [decide_eq_false h]; rfl
  have ht : a = b → ∀ {H' n'}, Q (.fz (.b true)) H' n' := fun h H' n' => by rw [hQ]; show _ = some (D.fz (.b (decide (a = b)))); rw [decide_eq_true h]; rfl
  have hsl : a.subs.length ≤ maxL := by
    have h := Wf_agg (by have h := hwa; rw [enc_form] at h; exact h) (FD.sl (a.subs.map enc)) (by simp)
    have := Wf_sl h
    simpa using this
  unfold maxL at hsl
  have hsz : ∀ g ∈ a.subs, g.size < n := fun g hg => by have := Form.size_sub hg; omega
  have kf := Kp.mk @hf
  have kt := Kp.mk @ht
  have kz := Kp.mk hsz
  have kT := Kp.mk hT
  clear hf ht hQ hwa hwb hsz hT
  refine Wcall_K (N := 54) hm kT.out 67000 (lst []) ok67 Tryd.func67 rfl rfl (by simp) (by kernel_rfl) ?_
  repeat' (first | refine CondK.d (fun _ => ?_) (fun _ => ?_) | refine CondK.i (fun _ => ?_) (fun _ => ?_) | refine rq fun _ => ?_ | simp only [go_sem, Tryd.f67, *])
  all_goals try (refine kf.out (fun e => ?_); subst e; contradiction)
  rename_i e1 e2 e3 e4
  have hlen : a.subs.length = b.subs.length := by omega
  refine WK_loop hm kT.out 67000 (lst []) (ι := LoopI a.subs.length fun i => a.subs.take i = b.subs.take i)
    ⟨fun q => ⟨frL [(2, .ptr (67002, 0) 0), (3, .ptr (67003, 1) 0), (37, .fz (.i .i64 a.subs.length)), (38, .fz (.i .i64 q.i))],
      hpL [((67002, 0), some ⟨[.fz (.i .i64 a.kind), .fz (.s a.name.l), .fz (.sl (a.words.map enc)), .fz (.sl (a.subs.map enc))], true, false⟩), ((67003, 1), some ⟨[.fz (.i .i64 b.kind), .fz (.s b.name.l), .fz (.sl (b.words.map enc)), .fz (.sl (b.subs.map enc))], true, false⟩)], 2⟩, fun q => a.subs.length - q.i⟩
    ⟨0, by omega, rfl⟩ (by kernel_rfl) ?_ ?_
  · refine Weak_to ?_ ?_ ?_ <;> simp only [go_sem, *]
  rintro ⟨i, hi, hpi⟩
  rcases Nat.lt_or_ge i a.subs.length with h1 | h1
  · have h2 : i < b.subs.length := by omega
    obtain ⟨x, hx⟩ : ∃ x, a.subs[i] = x := ⟨_, rfl⟩
    obtain ⟨y, hy⟩ : ∃ y, b.subs[i] = y := ⟨_, rfl⟩
    have hxs : x.size < n := kz.out x (by rw [← hx]; exact List.getElem_mem h1)
    by_cases hxy : x = y
    · repeat' (first | refine rq fun _ => ?_ | simp only [go_sem, h1, h2, hx, hy, hxs, eq_true hxy, getD_map_lt, Tryd.f67])
      refine ⟨⟨i + 1, by omega, ?_⟩, by simp only; omega, ?_⟩
      · rw [List.take_succ_eq_append_getElem h1, List.take_succ_eq_append_getElem h2, hpi, hx, hy, hxy]
      · refine Weak_to ?_ ?_ ?_ <;> simp only [go_sem]
    · repeat' (first | refine rq fun _ => ?_ | simp only [go_sem, h1, h2, hx, hy, hxs, eq_false hxy, getD_map_lt, Tryd.f67])
      exact kf.out fun e => hxy (by subst e; rw [← hx, ← hy])
  · have h1' : ¬ i < a.subs.length := by omega
    obtain rfl : i = a.subs.length := by omega
    repeat' (first | refine rq fun _ => ?_ | simp only [go_sem, Nat.lt_irrefl, h1', Tryd.f67])
    exact kt.out (form_extN e1 e2 e3 (eq_of_takeN hlen hpi))



def negM (f : Abs.Form) : Abs.Form := canonM (notF f) []
def N3 : Tbl := N2.add 89 (sp1 negM fun f => f.fit = true ∧ f.size ≤ 900)
attribute [go_sem] N3
set_option maxRecDepth 100000 in
set_option maxHeartbeats 1000000 in
theorem hN3 : TblOk Tryd.prog GA N3 := by
  refine sp1_ok ok89 hN2 fun f hp _ => ?_
  have hp2 : (notF f).fit = true ∧ (notF f).size ≤ 1000 := ⟨by simp [notF, Form.fit, Form.fits, hp.1], by simp only [notF, Form.size, Form.sizes]; omega⟩
  have dN : Abs.Form.mk 4 ⟨[]⟩ [] [f] = notF f := rfl
  have nk : (notF f).kind = 4 := rfl
  have nn : (notF f).name.l = [] := rfl
  have nw : (notF f).words = [] := rfl
  have ns : (notF f).subs = [f] := rfl
  unfold negM
  obtain ⟨R, hR⟩ : ∃ R, canonM (notF f) [] = R := ⟨_, rfl⟩
  rw [hR]
  refine Wcall_K (N := 7) hm hN2 89000 (lst []) ok89 Tryd.func89 rfl rfl (by simp) (by kernel_rfl) ?_
  repeat' (first | refine ReqK.i ⟨rfl, hp2⟩ fun _ => ?_ | refine ReqK.i hp2 fun _ => ?_ | refine And.intro ?_ ?_ | exact True.intro | refine rq fun _ => ?_ | simp only [go_sem, dN, hR, nk, nn, nw, ns, form_eta, Tryd.f89])
/-! the steps of a proof -/
def N4 : Tbl := N3.add 45 (sp2 cntK fun _ n => 0 ≤ n ∧ n ≤ 2000)
attribute [go_sem] N4
set_option maxRecDepth 100000 in
set_option maxHeartbeats 1000000 in
theorem hN4 : TblOk Tryd.prog GA N4 := by
  refine sp2_recpN Prf.size ok45 hN3 fun k hT p n hk hpre hwp _ => ?_
  have hpn := hpre
  have hsl : p.subs.length ≤ maxL := by
    have h := Wf_agg (by have h := hwp; rw [enc_prf] at h; exact h) (FD.sl (p.subs.map enc)) (by simp)
    have := Wf_sl h
    simpa using this
  unfold maxL at hsl
  have hsz : ∀ q ∈ p.subs, q.size < k := fun q hq => by have := Prf.size_sub hq; omega
  rw [cntK_eq]
  obtain ⟨l, hl⟩ : ∃ l, p.subs = l := ⟨_, rfl⟩
  rw [hl] at hsz hsl
  rw [hl]
  have kT := Kp.mk hT
  have kz := Kp.mk hsz
  clear hT hsz hk hwp hpre
  refine Wcall_K (N := 24) hm kT.out 45000 (lst []) ok45 Tryd.func45 rfl rfl (by simp) (by kernel_rfl) ?_
  repeat' (first | refine And.intro ?_ ?_ | exact True.intro | refine rq fun _ => ?_ | simp only [go_sem, hl, prf_eta, Tryd.f45])
  refine WK_loop hm kT.out 45000 (lst []) (ι := LoopM l.length 1 fun i => cntKs (l.take i) (n + 1) ≤ 2001 ∧ n + 1 ≤ cntKs (l.take i) (n + 1))
    ⟨fun q => ⟨frL [(1, .fz (.i .i64 (cntKs (l.take q.i) (n + 1)))), (2, .ptr (45002, 0) 0), (10, .fz (.sl (l.map enc))), (11, .fz (.i .i64 l.length)), (12, .fz (.i .i64 q.i))],
      hpL [((45002, 0), some ⟨[.fz (.i .i64 p.kind), .fz (.i .i64 p.form), .fz (.i .i64 p.other), .fz (.s p.name.l), .fz (.sl (l.map enc))], true, false⟩)], q.m⟩, fun q => l.length - q.i⟩
    ⟨0, 1, by omega, by omega, by rw [List.take_zero, cntKs]; omega⟩ (by kernel_rfl) ?_ ?_
  · refine Weak_to ?_ ?_ ?_ <;> simp only [go_sem, cntKs, hl]
    all_goals first | done | rfl | omega | trace_state
  rintro ⟨i, m, hi, hm1, hb1, hb2⟩
  try simp only at hi hm1 hb1 hb2
  have ht : ∀ _ : Nat, cntKs (l.take i ++ l.drop i) (n + 1) = cntKs (l.drop i) (cntKs (l.take i) (n + 1)) := fun _ => cntKs_app _ _ _
  obtain ⟨c, hc⟩ : ∃ c, cntKs (l.take i) (n + 1) = c := ⟨_, rfl⟩
  rw [hc] at hb1 hb2
  rcases Nat.lt_or_ge i l.length with h1 | h1
  · obtain ⟨x, hx⟩ : ∃ x, l[i] = x := ⟨_, rfl⟩
    have hxs : x.size < k := kz.out x (by rw [← hx]; exact List.getElem_mem h1)
    have hdr : l.drop i = x :: l.drop (i + 1) := by rw [← hx]; exact List.drop_eq_getElem_cons h1
    by_cases h2 : 2000 < c
    · have e : cntKs l (n + 1) = c := by
        have := ht 0
        rw [List.take_append_drop, hc, hdr, cntKs, if_pos h2] at this
        exact this
      rw [e]
      repeat' (first | refine And.intro ?_ ?_ | exact True.intro | refine rq fun _ => ?_ | simp only [go_sem, h1, hc, h2, hx, getD_map_lt, prf_eta, Tryd.f45])
    · have hxp : x.size < k ∧ (0 ≤ c ∧ c ≤ 2000) := ⟨hxs, by omega, by omega⟩
      have es : cntKs (l.take (i + 1)) (n + 1) = cntK x c := by
        rw [List.take_succ_eq_append_getElem h1, cntKs_app, hc, hx, cntKs, if_neg h2, cntKs]
      have hle := cntK_le x c (by omega)
      obtain ⟨r, hr⟩ : ∃ r, cntK x c = r := ⟨_, rfl⟩
      rw [hr] at es hle
      repeat' (first | refine ReqK.i hxp fun _ => ?_ | refine And.intro ?_ ?_ | exact True.intro | refine rq fun _ => ?_ | simp only [go_sem, h1, hc, h2, hx, hr, getD_map_lt, prf_eta, Tryd.f45])
      refine ⟨⟨i + 1, m + 1, by omega, by omega, by rw [es]; omega⟩, by simp only; omega, ?_⟩
      refine Weak_to ?_ ?_ ?_ <;> simp only [go_sem, es]
      all_goals first | done | rfl | omega | trace_state
  · obtain rfl : i = l.length := by omega
    rw [List.take_length] at hc
    rw [hc]
    repeat' (first | refine And.intro ?_ ?_ | exact True.intro | refine rq fun _ => ?_ | simp only [go_sem, Nat.lt_irrefl, List.take_length, hc, prf_eta, Tryd.f45])
end Go.Proofs.YtbbjghecpcobjaaDoor
