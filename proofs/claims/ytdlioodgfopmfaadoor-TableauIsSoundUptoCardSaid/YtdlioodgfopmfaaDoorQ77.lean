import Derived.Test.YtdlioodgfopmfaaDoorAT
import Derived.Test.YtdlioodgfopmfaaDoorY16
set_option linter.unusedSimpArgs false
namespace Go.Abs
open Go
section
variable {P : Program} {G : Nat → List FD} {T : Tbl}
theorem sp3_recM {α β γ ρ : Type} [Enc α] [Enc β] [Enc γ] [Enc ρ] {f : FuncId} {g : α → β → γ → ρ} {pre : α → β → γ → Prop} (m : β → Nat) (hc : CallOk P f) (hT : TblOk P G T)
    (h : ∀ n, TblOk P G (T.add f (sp3 g fun a b c => m b < n ∧ pre a b c)) → ∀ a b c, m b = n → pre a b c → (enc a).Wf → (enc b).Wf → (enc c).Wf → Wcall P G f [.fz (enc a), .fz (enc b), .fz (enc c)] (hpL []) 0 (fun d _ _ => D.val d = some (.fz (enc (g a b c))))) : TblOk P G (T.add f (sp3 g pre)) := by
  have key : ∀ n, TblOk P G (T.add f (sp3 g fun a b c => m b < n ∧ pre a b c)) := by
    intro n
    induction n with
    | zero => exact sp3_ok hc hT fun a b c ha => by omega
    | succ n ih =>
      refine sp3_ok hc hT fun a b c ha hw hw2 hw3 => ?_
      rcases Nat.lt_or_ge (m b) n with h1 | h1
      · have h2 := ih f (sp3 g fun a b c => m b < n ∧ pre a b c) [enc a, enc b, enc c] _ _ (by simp [Tbl.add]) (k_sp3) ⟨by rw [dec_enc], by rw [dec_enc], by rw [dec_enc], by rw [dec_enc, dec_enc, dec_enc]; exact ⟨h1, ha.2⟩⟩
        rw [dec_enc, dec_enc, dec_enc, H0_eq] at h2
        exact h2
      · exact h n ih a b c (by omega) ha.2 hw hw2 hw3
  exact sp3_ok hc hT fun a b c ha hw hw2 hw3 => h (m b) (key _) a b c rfl ha hw hw2 hw3
end
def treeV16 : Tv := (.q 0 (.q 1 (.q 2 (.q 3 (.q 4 (.q 6 (.q 7 (.r 8 (.q 9 (.br [(5, (.q 10 (.br [(11, (.q 12 (.q 13 .leaf)))]))), (10, (.br [(5, (.br [(11, (.q 12 (.q 13 .leaf)))]))]))]))))))))))
structure valP (m : Model) (f : Form) (env : List Const) : Prop where
  m : mval m
  v : vok f
  s : szP f
  e : env.length + nestM f ≤ 900
theorem valP_sub {m : Model} {f g : Form} {env : List Const} (h : valP m f env) (hg : g ∈ f.subs) : g.size < f.size ∧ valP m g env := by
  have hs := szP_sub h.s hg
  refine ⟨hs.1, h.m, (voks_mem _).1 (vok_eq.1 h.v).2.2.2.2.2.2 g hg, hs.2, ?_⟩
  have := nests_mem hg
  have h2 := h.e
  rw [nest_eq] at h2
  omega
theorem valP_bind {m : Model} {f g : Form} {env : List Const} (h : valP m f env) (hg : g ∈ f.subs) (hq : isQ f.kind) (c : Const) : g.size < f.size ∧ valP m g (env ++ [c]) := by
  have hs := szP_sub h.s hg
  refine ⟨hs.1, h.m, (voks_mem _).1 (vok_eq.1 h.v).2.2.2.2.2.2 g hg, hs.2, ?_⟩
  have := nests_mem hg
  have h2 := h.e
  rw [nest_eq, if_pos hq] at h2
  rw [List.length_append, List.length_singleton]
  omega
theorem val_1 {m : Model} {f : Form} {env : List Const} (h : f.kind = 1) : valM m f env = true := by cases f; simp only [form_kind] at h; subst h; rw [valM, if_pos rfl]
theorem val_2 {m : Model} {f : Form} {env : List Const} (h : f.kind = 2) : valM m f env = decide (f.words.map (wordV m env) ∈ tupsV m f.name f.words.length) := by cases f; simp only [form_kind] at h; subst h; rw [valM]; rfl
theorem val_3 {m : Model} {f : Form} {env : List Const} {a b : Str} (h : f.kind = 3) (hw : f.words = [a, b]) : valM m f env = decide (wordV m env a = wordV m env b) := by cases f; simp only [form_kind, form_words] at h hw; subst h hw; rw [valM]; rfl
theorem val_4 {m : Model} {f x : Form} {env : List Const} (h : f.kind = 4) (hs : f.subs = [x]) : valM m f env = !valM m x env := by cases f; simp only [form_kind, form_subs] at h hs; subst h hs; rw [valM, valMs, valMs]; rfl
theorem val_5 {m : Model} {f x y : Form} {env : List Const} (h : f.kind = 5) (hs : f.subs = [x, y]) : valM m f env = (valM m x env && valM m y env) := by cases f; simp only [form_kind, form_subs] at h hs; subst h hs; rw [valM, valMs, valMs, valMs]; rfl
theorem val_6 {m : Model} {f x y : Form} {env : List Const} (h : f.kind = 6) (hs : f.subs = [x, y]) : valM m f env = (valM m x env || valM m y env) := by cases f; simp only [form_kind, form_subs] at h hs; subst h hs; rw [valM, valMs, valMs, valMs]; rfl
theorem val_7 {m : Model} {f x y : Form} {env : List Const} (h : f.kind = 7) (hs : f.subs = [x, y]) : valM m f env = (!valM m x env || valM m y env) := by cases f; simp only [form_kind, form_subs] at h hs; subst h hs; rw [valM, valMs, valMs, valMs]; rfl
theorem val_8 {m : Model} {f x : Form} {env : List Const} (h : f.kind = 8) (hs : f.subs = [x]) : valM m f env = (indiv m).all fun v => valM m x (env ++ [⟨f.name, v⟩]) := by cases f; simp only [form_kind, form_subs] at h hs; subst h hs; rw [valM]; simp only [valMs]; rfl
theorem val_9 {m : Model} {f x : Form} {env : List Const} (h : f.kind = 9) (hs : f.subs = [x]) : valM m f env = (indiv m).any fun v => valM m x (env ++ [⟨f.name, v⟩]) := by cases f; simp only [form_kind, form_subs] at h hs; subst h hs; rw [valM]; simp only [valMs]; rfl
theorem one_ofF {s : List Form} (h : s.length = 1) : ∃ a, s = [a] := by
  match s, h with
  | [a], _ => exact ⟨a, rfl⟩
theorem two_ofF {s : List Form} (h : s.length = 2) : ∃ a b, s = [a, b] := by
  match s, h with
  | [a, b], _ => exact ⟨a, b, rfl⟩
theorem two_ofW {s : List Str} (h : s.length = 2) : ∃ a b, s = [a, b] := by
  match s, h with
  | [a, b], _ => exact ⟨a, b, rfl⟩
end Go.Abs
namespace Go.Proofs.YtdlioodgfopmfaaDoor
open Go Go.Abs Go.Proofs
section
variable {G : Nat → List FD}
theorem tup_step {m : Model} (h : mval m) (w : Str) (n : Int) (t : List Int) : stepC (tupK t) (relP m w n).1.tuples := by
  unfold relP
  split
  · rename_i r hr
    have hm := h.t r (List.mem_of_find?_eq_some hr)
    exact fun i j hi hj hij h2 => cmpL_trans (hm i j hi hj hij) h2
  · exact fun i j hi => absurd hi (by simp [noRel])
theorem tups_rel (m : Model) (w : Str) (n : Int) : tupsV m w n = (relP m w n).1.tuples := by
  unfold tupsV relP
  cases findR m w n <;> rfl
theorem bs_mem {m : Model} (h : mval m) (w : Str) (n : Int) (t : List Int) : bsB (tupK t) (relP m w n).1.tuples = decide (t ∈ tupsV m w n) := by
  have := find_bs (tup_step h w n t)
  rw [tups_rel]
  cases hb : bsB (tupK t) (relP m w n).1.tuples with
  | true =>
    rw [hb, if_pos rfl] at this
    have h1 := List.find?_some this
    have h2 := List.mem_of_find?_eq_some this
    rw [cmpL_zero.1 (of_decide_eq_true h1)] at h2
    exact (decide_eq_true h2).symm
  | false =>
    rw [hb] at this
    refine (decide_eq_false fun h2 => ?_).symm
    have h3 := (List.find?_eq_none.1 this) t h2
    simp only [decide_eq_true_eq] at h3
    exact h3 (cmpL_zero.2 rfl)
theorem wordV_wf {m : Model} {env : List Const} (h : (enc m).Wf) (h2 : (enc env).Wf) (w : Str) : (enc (wordV m env w)).Wf := by
  have hv : ∀ {l : List Const}, (enc l).Wf → ∀ c ∈ l, (enc c.value).Wf := fun {l} h c hc => by
    have h1 := Wf_mem h _ (List.mem_map_of_mem hc)
    exact Wf_agg (by rw [enc_const] at h1; exact h1) (FD.i .i64 c.value) (by simp)
  have hc : (enc m.consts).Wf := Wf_agg (by rw [enc_model] at h; exact h) (FD.sl (m.consts.map enc)) (by simp)
  have key : ∀ (l : List Const) (v : Int), lastE l w = some v → ∃ c ∈ l, c.value = v := by
    intro l
    induction l with
    | nil => intro v h; simp [lastE] at h
    | cons e l ih =>
      intro v h
      rw [lastE] at h
      cases hl : lastE l w with
      | some u =>
        rw [hl] at h
        obtain ⟨c, h1, h2⟩ := ih u hl
        exact ⟨c, List.mem_cons_of_mem _ h1, by rw [h2]; exact Option.some.inj h⟩
      | none =>
        rw [hl] at h
        simp only at h
        split at h
        · exact ⟨e, by simp, Option.some.inj h⟩
        · cases h
  unfold wordV
  cases hl : lastE env w with
  | some v =>
    obtain ⟨c, h3, rfl⟩ := key env v hl
    exact hv h2 c h3
  | none =>
    simp only
    unfold constV
    cases hf : findC m w with
    | some c => exact hv hc c (List.mem_of_find?_eq_some hf)
    | none => exact .i _ _ (by decide) (by decide)
def A15 : Tbl := A14.add 39 (sp3 valM valP)
attribute [go_sem] A15
set_option maxRecDepth 100000 in
set_option maxHeartbeats 1000000 in
set_option maxHeartbeats 8000000 in
theorem hA15 : TblOk Tryd.prog G A15 := by
  refine sp3_recM Form.size ok39 hA14 fun n hT m f env hn hpre hwm hwf hwe => ?_
  have hm0 := hpre.m
  have hok := hpre.m.c
  have hokr := hpre.m.r
  have s1 := hpre.m.s1
  have s6 := hpre.m.s6
  have lc := hpre.m.lc
  have lr := hpre.m.lr
  have hel : env.length ≤ 900 := by have := hpre.e; omega
  have hwl := (Form.fit_eq hpre.s.1).1
  have hsl := (Form.fit_eq hpre.s.1).2.1
  have hsub : ∀ g ∈ f.subs, g.size < n ∧ valP m g env := fun g hg => by have := valP_sub hpre hg; exact ⟨by omega, this.2⟩
  have hsq : isQ f.kind → ∀ g ∈ f.subs, ∀ c, g.size < n ∧ valP m g (env ++ [c]) := fun hq g hg c => by have := valP_bind hpre hg hq c; exact ⟨by omega, this.2⟩
  have hv := vok_eq.1 hpre.v
  obtain ⟨v1, v9, v2, v3, v4, v5, _⟩ := hv
  have kT := Kp.mk hT
  have kS := Kp.mk hsub
  have kQ := Kp.mk hsq
  clear hT hsub hsq hpre hn
  have hkk : f.kind = 1 ∨ f.kind = 2 ∨ f.kind = 3 ∨ f.kind = 4 ∨ f.kind = 5 ∨ f.kind = 6 ∨ f.kind = 7 ∨ f.kind = 8 ∨ f.kind = 9 := by omega
  rcases hkk with hk | hk | hk | hk | hk | hk | hk | hk | hk
  · rw [val_1 hk]
    refine Wcall_K (N := 168) hm (G := G) kT.out 39000 (lsw [35] [1000016]) ok39 Tryd.func39 rfl rfl (by simp) (by kernel_rfl) ?_
    repeat' (first | refine rq fun _ => ?_ | refine rf fun _ => ?_ | simp only [go_sem, hk, form_eta, model_eta, Tryd.f39])
  · rw [val_2 hk]
    have hws := v2 hk
    obtain ⟨A, hA⟩ : ∃ A : Nat → List Int, A = fun i => (f.words.take i).map (wordV m env) := ⟨_, rfl⟩
    have hA0 : A 0 = [] := by rw [hA]; rfl
    have hAs : ∀ i (h : i < f.words.length), A (i + 1) = A i ++ [wordV m env f.words[i]] := fun i h => by rw [hA]; simp only [List.take_succ_eq_append_getElem h, List.map_append, List.map_cons, List.map_nil]
    have hAl : ∀ i, i ≤ f.words.length → (A i).length = i := fun i h => by rw [hA]; simp only [List.length_map, List.length_take]; omega
    obtain ⟨t, ht⟩ : ∃ t, A f.words.length = t := ⟨_, rfl⟩
    have hte : f.words.map (wordV m env) = t := by rw [← ht, hA]; simp only [List.take_length]
    have htl : t.length = f.words.length := by rw [← ht]; exact hAl _ (Nat.le_refl _)
    rw [hte]
    have hbm := bs_mem hm0 f.name f.words.length t
    have hst := tup_step hm0 f.name f.words.length t
    rw [← hbm]
    obtain ⟨rl, hrl⟩ : ∃ rl, (relP m f.name f.words.length).1 = rl := ⟨_, rfl⟩
    obtain ⟨bl, hbl⟩ : ∃ bl, (relP m f.name f.words.length).2 = bl := ⟨_, rfl⟩
    have hrp : relP m f.name f.words.length = (rl, bl) := by rw [← hrl, ← hbl]
    rw [hrl] at hst ⊢
    have hwt : (enc rl.tuples).Wf := by
      rw [← hrl]; unfold relP
      split
      · rename_i r hr
        have h1 : (enc r).Wf := Wf_mem (Wf_agg (by have h := hwm; rw [enc_model] at h; exact h) (FD.sl (m.rels.map enc)) (by simp)) _ (List.mem_map_of_mem (List.mem_of_find?_eq_some hr))
        exact Wf_agg (by have h := h1; rw [enc_rel] at h; exact h) (FD.sl (r.tuples.map enc)) (by simp)
      · exact .sl _ (by simp [noRel]) (by simp [noRel])
    have hwtt : (enc t).Wf := by
      rw [← hte]
      refine .sl _ (by simp only [List.length_map]; unfold maxL; omega) fun y hy => ?_
      obtain ⟨v, hv2, rfl⟩ := List.mem_map.1 hy
      obtain ⟨w, _, rfl⟩ := List.mem_map.1 hv2
      exact wordV_wf hwm hwe w
    have kA := Kp.mk hAs
    have kL := Kp.mk hAl
    have kw := Kp.mk hwt
    have ks := Kp.mk hst
    have kwt := Kp.mk hwtt
    clear hA hAs hAl hte hbm hst hwt hrl hbl hwtt
    refine Wcall_K (N := 168) hm (G := G) kT.out 39000 (lsw [35] [1000016]) ok39 Tryd.func39 rfl rfl (by simp) (by kernel_rfl) ?_
    repeat' (first | refine rq fun _ => ?_ | refine rf fun _ => ?_ | simp only [go_sem, hk, form_eta, model_eta, Tryd.f39])
    refine WK_loop hm (G := G) kT.out 39000 (lsw [35] [1000016]) (ι := LoopG f.words.length 4 fun _ => True)
      ⟨fun q => ⟨frL [(3, .ptr (39003, 0) 0), (4, .ptr (39004, 1) 0), (5, .ptr (39005, 2) 0), (7, .fn 80 [.ptr (39005, 2) 0, .ptr (39003, 0) 0]), (8, .ow (39035, q.g) 1 ((A q.i).map enc)), (24, .fz (.sl (f.words.map enc))), (25, .fz (.i .i64 f.words.length)), (26, .fz (.i .i64 q.i))],
        hpL [((39003, 0), some ⟨[.fz (.i .i64 m.size), .fz (.sl (m.consts.map enc)), .fz (.sl (m.rels.map enc))], true, false⟩), ((39004, 1), some ⟨[.fz (.i .i64 f.kind), .fz (.s f.name.l), .fz (.sl (f.words.map enc)), .fz (.sl (f.subs.map enc))], true, false⟩), ((39005, 2), some ⟨[.fz (.sl (env.map enc))], true, false⟩), ((39035, q.g), some tok)], q.m⟩, fun q => f.words.length - q.i⟩
      ⟨0, 3, 4, by omega, by omega, by omega, trivial⟩ (by kernel_rfl) ?_ ?_
    · refine Weak_g [] [(39035, 3)] [] ?_ ?_ ?_ ?_ ?_ <;> simp only [go_sem, hA0, hk]
      all_goals first | done | rfl | omega
    rintro ⟨i, g, q, hi, hg, hq, _⟩
    try simp only at hi hg hq
    rcases Nat.lt_or_ge i f.words.length with h1 | h1
    · have hs := kA.out i h1
      have hl := kL.out i (by omega)
      obtain ⟨w, hw⟩ : ∃ w, f.words[i] = w := ⟨_, rfl⟩
      rw [hw] at hs
      repeat' (first | refine rq fun _ => ?_ | refine rf fun _ => ?_ | simp only [go_sem, h1, hw, str_eta, getD_map_lt, form_eta, model_eta, Tryd.f39])
      refine WcallK.i (f80 (env := env) (m := m) hok (by omega) (by simp only [go_sem]) (by simp only [go_sem]) ?_)
      repeat' (first | refine rq fun _ => ?_ | refine rf fun _ => ?_ | simp only [go_sem, h1, hw, str_eta, getD_map_lt, form_eta, model_eta, Tryd.f39])
      refine ⟨⟨i + 1, q, q + 1, by omega, by omega, by omega, trivial⟩, by simp only; omega, ?_⟩
      refine Weak_to ?_ ?_ ?_ <;> (try simp only [go_sem, hs, List.map_append])
      all_goals first | done | omega | rfl
    obtain rfl : i = f.words.length := by omega
    repeat' (first | refine ReqK.i hokr fun _ => ?_ | refine rq fun _ => ?_ | refine rf fun _ => ?_ | simp only [go_sem, Nat.lt_irrefl, ht, htl, hrp, str_eta, rel_eta, form_eta, model_eta, Tryd.f39])
    refine WcallK.i (Wcall_mono (Wcall_pureF (ds := [_, _]) rfl (bsTup (G := G) kw.out kwt.out ks.out)) ?_)
    rintro d' H' n1 ⟨rfl, rfl, rfl⟩
    repeat' (first | refine rq fun _ => ?_ | refine rf fun _ => ?_ | simp only [go_sem, Nat.lt_irrefl, ht, str_eta, rel_eta, form_eta, model_eta, Tryd.f39])
  · obtain ⟨a, b, hab⟩ := two_ofW (v3 hk)
    rw [val_3 hk hab]
    refine Wcall_K (N := 168) hm (G := G) kT.out 39000 (lsw [35] [1000016]) ok39 Tryd.func39 rfl rfl (by simp) (by kernel_rfl) ?_
    repeat' (first | refine rq fun _ => ?_ | refine rf fun _ => ?_ | simp only [go_sem, hk, hab, form_eta, model_eta, Tryd.f39])
    refine WK_weak2 (Weak_rpA (id := (39004, 1)) (t := 4) (b := true) (ys := [.i .i64 f.kind, .s f.name.l, .sl (f.words.map enc), .sl (f.subs.map enc)]) (by simp only [go_sem, hk, hab]) (by simp only [go_sem])) ?_
    refine WK_drawV hm (G := G) kT.out 39000 (lsw [35] [1000016]) treeV16 (by kernel_rfl) (by kernel_rfl) ?_
    repeat' (first | refine And.intro ?_ ?_ | exact True.intro | refine WcallK.i (f80 (env := env) (m := m) hok (by omega) (by simp only [go_sem]) (by simp only [go_sem]) ?_) | refine rq fun _ => ?_ | refine rf fun _ => ?_ | simp only [go_sem, treeV16, hk, hab, str_eta, form_eta, model_eta, Tryd.f39])
  · obtain ⟨x, hx⟩ := one_ofF (v4 (.inl hk))
    rw [val_4 hk hx]
    have hz := kS.out x (by rw [hx]; simp)
    obtain ⟨b, hb⟩ : ∃ b, valM m x env = b := ⟨_, rfl⟩
    rw [hb]
    refine Wcall_K (N := 168) hm (G := G) kT.out 39000 (lsw [35] [1000016]) ok39 Tryd.func39 rfl rfl (by simp) (by kernel_rfl) ?_
    repeat' (first | refine ReqK.i hz fun _ => ?_ | refine rq fun _ => ?_ | refine rf fun _ => ?_ | simp only [go_sem, hk, hx, hb, form_eta, model_eta, Tryd.f39])
  · obtain ⟨x, y, hxy⟩ := two_ofF (v5 (by omega))
    rw [val_5 hk hxy]
    have hz := kS.out x (by rw [hxy]; simp)
    have hz2 := kS.out y (by rw [hxy]; simp)
    obtain ⟨b2, hb2⟩ : ∃ b, valM m y env = b := ⟨_, rfl⟩
    rw [hb2]
    cases hb : valM m x env
    · refine Wcall_K (N := 168) hm (G := G) kT.out 39000 (lsw [35] [1000016]) ok39 Tryd.func39 rfl rfl (by simp) (by kernel_rfl) ?_
      repeat' (first | refine ReqK.i hz fun _ => ?_ | refine ReqK.i hz2 fun _ => ?_ | refine rq fun _ => ?_ | refine rf fun _ => ?_ | simp only [go_sem, hk, hxy, hb, hb2, form_eta, model_eta, Tryd.f39])
    · refine Wcall_K (N := 168) hm (G := G) kT.out 39000 (lsw [35] [1000016]) ok39 Tryd.func39 rfl rfl (by simp) (by kernel_rfl) ?_
      repeat' (first | refine ReqK.i hz fun _ => ?_ | refine ReqK.i hz2 fun _ => ?_ | refine rq fun _ => ?_ | refine rf fun _ => ?_ | simp only [go_sem, hk, hxy, hb, hb2, form_eta, model_eta, Tryd.f39])
  · obtain ⟨x, y, hxy⟩ := two_ofF (v5 (by omega))
    rw [val_6 hk hxy]
    have hz := kS.out x (by rw [hxy]; simp)
    have hz2 := kS.out y (by rw [hxy]; simp)
    obtain ⟨b2, hb2⟩ : ∃ b, valM m y env = b := ⟨_, rfl⟩
    rw [hb2]
    cases hb : valM m x env
    · refine Wcall_K (N := 168) hm (G := G) kT.out 39000 (lsw [35] [1000016]) ok39 Tryd.func39 rfl rfl (by simp) (by kernel_rfl) ?_
      repeat' (first | refine ReqK.i hz fun _ => ?_ | refine ReqK.i hz2 fun _ => ?_ | refine rq fun _ => ?_ | refine rf fun _ => ?_ | simp only [go_sem, hk, hxy, hb, hb2, form_eta, model_eta, Tryd.f39])
    · refine Wcall_K (N := 168) hm (G := G) kT.out 39000 (lsw [35] [1000016]) ok39 Tryd.func39 rfl rfl (by simp) (by kernel_rfl) ?_
      repeat' (first | refine ReqK.i hz fun _ => ?_ | refine ReqK.i hz2 fun _ => ?_ | refine rq fun _ => ?_ | refine rf fun _ => ?_ | simp only [go_sem, hk, hxy, hb, hb2, form_eta, model_eta, Tryd.f39])
  · obtain ⟨x, y, hxy⟩ := two_ofF (v5 (by omega))
    rw [val_7 hk hxy]
    have hz := kS.out x (by rw [hxy]; simp)
    have hz2 := kS.out y (by rw [hxy]; simp)
    obtain ⟨b2, hb2⟩ : ∃ b, valM m y env = b := ⟨_, rfl⟩
    rw [hb2]
    cases hb : valM m x env
    · refine Wcall_K (N := 168) hm (G := G) kT.out 39000 (lsw [35] [1000016]) ok39 Tryd.func39 rfl rfl (by simp) (by kernel_rfl) ?_
      repeat' (first | refine ReqK.i hz fun _ => ?_ | refine ReqK.i hz2 fun _ => ?_ | refine rq fun _ => ?_ | refine rf fun _ => ?_ | simp only [go_sem, hk, hxy, hb, hb2, form_eta, model_eta, Tryd.f39])
    · refine Wcall_K (N := 168) hm (G := G) kT.out 39000 (lsw [35] [1000016]) ok39 Tryd.func39 rfl rfl (by simp) (by kernel_rfl) ?_
      repeat' (first | refine ReqK.i hz fun _ => ?_ | refine ReqK.i hz2 fun _ => ?_ | refine rq fun _ => ?_ | refine rf fun _ => ?_ | simp only [go_sem, hk, hxy, hb, hb2, form_eta, model_eta, Tryd.f39])
  · obtain ⟨x, hx⟩ := one_ofF (v4 (by omega))
    rw [val_8 hk hx]
    have hz := fun c => kQ.out (by unfold isQ; omega) x (by rw [hx]; simp) c
    obtain ⟨V, hV⟩ : ∃ V : Int → Bool, V = fun v => valM m x (env ++ [⟨f.name, v⟩]) := ⟨_, rfl⟩
    rw [← hV]
    have hVv : ∀ v, valM m x (env ++ [⟨f.name, v⟩]) = V v := fun v => by rw [hV]
    have kz := Kp.mk hz
    have kV := Kp.mk hVv
    clear hV hz hVv
    obtain ⟨r, hr⟩ : ∃ r, (indiv m).all V = r := ⟨_, rfl⟩
    have kr := Kp.mk hr
    rw [hr]
    clear hr
    refine Wcall_K (N := 168) hm (G := G) kT.out 39000 (lsw [35] [1000016]) ok39 Tryd.func39 rfl rfl (by simp) (by kernel_rfl) ?_
    repeat' (first | refine rq fun _ => ?_ | refine rf fun _ => ?_ | simp only [go_sem, hk, hx, form_eta, model_eta, Tryd.f39])
    refine WK_loop hm (G := G) kT.out 39000 (lsw [35] [1000016]) (ι := LoopM m.size.toNat 3 fun i => ∀ v : Nat, v < m.size.toNat → v < i → V v = true)
      ⟨fun q => ⟨frL [(3, .ptr (39003, 0) 0), (4, .ptr (39004, 1) 0), (5, .ptr (39005, 2) 0), (135, .fz (.i .i64 m.size)), (136, .fz (.i .i64 q.i))],
        hpL [((39003, 0), some ⟨[.fz (.i .i64 m.size), .fz (.sl (m.consts.map enc)), .fz (.sl (m.rels.map enc))], true, false⟩), ((39004, 1), some ⟨[.fz (.i .i64 f.kind), .fz (.s f.name.l), .fz (.sl (f.words.map enc)), .fz (.sl (f.subs.map enc))], true, false⟩), ((39005, 2), some ⟨[.fz (.sl (env.map enc))], true, false⟩)], q.m⟩, fun q => m.size.toNat - q.i⟩
      ⟨0, 3, by omega, by omega, fun v h h2 => by omega⟩ (by kernel_rfl) ?_ ?_
    · refine Weak_to ?_ ?_ ?_ <;> simp only [go_sem, hk, hx]
    rintro ⟨i, q, hi, hq, hp⟩
    try simp only at hi hq
    rcases Nat.lt_or_ge i m.size.toNat with h1 | h1
    · have h1' : ((i : Int) < m.size) = True := eq_true (by omega)
      have hz := kz.out ⟨f.name, (i : Int)⟩
      have hvi := kV.out (i : Int)
      have hbb : V i = false ∨ V i = true := by cases V i <;> simp
      rcases hbb with hb | hb
      · have hrr : r = false := by rw [← kr.out]; exact indiv_all_not (v := i) (by omega) hb
        subst hrr
        repeat' (first | refine ReqK.i hz fun _ => ?_ | refine rq fun _ => ?_ | refine rf fun _ => ?_ | simp only [go_sem, hk, hx, h1, h1', hvi, hb, str_eta, List.map_append, dec_sl_app, dec_sl_cons, dec_sl_nil, dec_const, form_eta, model_eta, Tryd.f39])
      · have hp2 := below_succ hp hb
        have kp := Kp.mk hp2
        clear hp2
        repeat' (first | refine ReqK.i hz fun _ => ?_ | refine rq fun _ => ?_ | refine rf fun _ => ?_ | simp only [go_sem, hk, hx, h1, h1', hvi, hb, str_eta, List.map_append, dec_sl_app, dec_sl_cons, dec_sl_nil, dec_const, form_eta, model_eta, Tryd.f39])
        refine ⟨⟨i + 1, q + 1, by omega, by omega, kp.out⟩, by simp only; omega, ?_⟩
        refine Weak_to ?_ ?_ ?_ <;> simp only [go_sem, hk, hx]
        all_goals first | done | omega
    · obtain rfl : i = m.size.toNat := by omega
      have hrr : r = true := by rw [← kr.out]; exact indiv_all fun v hv => hp v (by omega) (by omega)
      have h1' : ((m.size.toNat : Int) < m.size) = False := eq_false (by omega)
      subst hrr
      repeat' (first | refine rq fun _ => ?_ | refine rf fun _ => ?_ | simp only [go_sem, hk, hx, Nat.lt_irrefl, h1', form_eta, model_eta, Tryd.f39])
  · obtain ⟨x, hx⟩ := one_ofF (v4 (by omega))
    rw [val_9 hk hx]
    have hz := fun c => kQ.out (by unfold isQ; omega) x (by rw [hx]; simp) c
    obtain ⟨V, hV⟩ : ∃ V : Int → Bool, V = fun v => valM m x (env ++ [⟨f.name, v⟩]) := ⟨_, rfl⟩
    rw [← hV]
    have hVv : ∀ v, valM m x (env ++ [⟨f.name, v⟩]) = V v := fun v => by rw [hV]
    have kz := Kp.mk hz
    have kV := Kp.mk hVv
    clear hV hz hVv
    obtain ⟨r, hr⟩ : ∃ r, (indiv m).any V = r := ⟨_, rfl⟩
    have kr := Kp.mk hr
    rw [hr]
    clear hr
    refine Wcall_K (N := 168) hm (G := G) kT.out 39000 (lsw [35] [1000016]) ok39 Tryd.func39 rfl rfl (by simp) (by kernel_rfl) ?_
    repeat' (first | refine rq fun _ => ?_ | refine rf fun _ => ?_ | simp only [go_sem, hk, hx, form_eta, model_eta, Tryd.f39])
    refine WK_loop hm (G := G) kT.out 39000 (lsw [35] [1000016]) (ι := LoopM m.size.toNat 3 fun i => ∀ v : Nat, v < m.size.toNat → v < i → V v = false)
      ⟨fun q => ⟨frL [(3, .ptr (39003, 0) 0), (4, .ptr (39004, 1) 0), (5, .ptr (39005, 2) 0), (135, .fz (.i .i64 m.size)), (136, .fz (.i .i64 q.i))],
        hpL [((39003, 0), some ⟨[.fz (.i .i64 m.size), .fz (.sl (m.consts.map enc)), .fz (.sl (m.rels.map enc))], true, false⟩), ((39004, 1), some ⟨[.fz (.i .i64 f.kind), .fz (.s f.name.l), .fz (.sl (f.words.map enc)), .fz (.sl (f.subs.map enc))], true, false⟩), ((39005, 2), some ⟨[.fz (.sl (env.map enc))], true, false⟩)], q.m⟩, fun q => m.size.toNat - q.i⟩
      ⟨0, 3, by omega, by omega, fun v h h2 => by omega⟩ (by kernel_rfl) ?_ ?_
    · refine Weak_to ?_ ?_ ?_ <;> simp only [go_sem, hk, hx]
    rintro ⟨i, q, hi, hq, hp⟩
    try simp only at hi hq
    rcases Nat.lt_or_ge i m.size.toNat with h1 | h1
    · have h1' : ((i : Int) < m.size) = True := eq_true (by omega)
      have hz := kz.out ⟨f.name, (i : Int)⟩
      have hvi := kV.out (i : Int)
      have hbb : V i = false ∨ V i = true := by cases V i <;> simp
      rcases hbb with hb | hb
      · have hp2 := below_succ hp hb
        have kp := Kp.mk hp2
        clear hp2
        repeat' (first | refine ReqK.i hz fun _ => ?_ | refine rq fun _ => ?_ | refine rf fun _ => ?_ | simp only [go_sem, hk, hx, h1, h1', hvi, hb, str_eta, List.map_append, dec_sl_app, dec_sl_cons, dec_sl_nil, dec_const, form_eta, model_eta, Tryd.f39])
        refine ⟨⟨i + 1, q + 1, by omega, by omega, kp.out⟩, by simp only; omega, ?_⟩
        refine Weak_to ?_ ?_ ?_ <;> simp only [go_sem, hk, hx]
        all_goals first | done | omega
      · have hrr : r = true := by rw [← kr.out]; exact indiv_any (v := i) (by omega) hb
        subst hrr
        repeat' (first | refine ReqK.i hz fun _ => ?_ | refine rq fun _ => ?_ | refine rf fun _ => ?_ | simp only [go_sem, hk, hx, h1, h1', hvi, hb, str_eta, List.map_append, dec_sl_app, dec_sl_cons, dec_sl_nil, dec_const, form_eta, model_eta, Tryd.f39])
    · obtain rfl : i = m.size.toNat := by omega
      have hrr : r = false := by rw [← kr.out]; exact indiv_any_not fun v hv => hp v (by omega) (by omega)
      have h1' : ((m.size.toNat : Int) < m.size) = False := eq_false (by omega)
      subst hrr
      repeat' (first | refine rq fun _ => ?_ | refine rf fun _ => ?_ | simp only [go_sem, hk, hx, Nat.lt_irrefl, h1', form_eta, model_eta, Tryd.f39])
end
end Go.Proofs.YtdlioodgfopmfaaDoor
