/- several texts of this proof in one; no conditions -/
import Derived.Test.YtbbjghecpcobjaaDoorAT
import Derived.Test.YtbbjghecpcobjaaDoorZQ86Q951
import Derived.Test.YtbbjghecpcobjaaDoorTB
set_option linter.unusedSimpArgs false
namespace Go.Proofs.YtbbjghecpcobjaaDoor
open Go Go.Abs Go.Proofs
section
variable {G : Nat → List FD}
theorem mkOne {n : Nat} {d : D} : (List.range n).map (fun j => [d].getD (j % 1) .junk) = List.replicate n d := by
  simp [Nat.mod_one, List.map_const']
theorem rep_bools {n : Nat} : List.replicate n (D.fz (.b false)) = flatFz ((List.replicate n false).map enc) := by
  rw [flat_one]; simp [enc_bool]
/-- a row that a function made and returns is immutable for its caller -/
theorem tab_post {fn : FuncId} {args : List D} {xs : List Bool} (h : Wcall Tryd.prog G fn args (hpL []) 0 (fun d H n' => ∃ id : Abs.Id, id.2 < n' ∧ d = .arr id 1 0 xs.length ∧ H id = some ⟨flatFz (xs.map enc), false, false⟩)) :
    Wcall Tryd.prog G fn args (hpL []) 0 (fun d _ _ => D.val d = some (.fz (enc xs))) := by
  refine Wcall_post h ?_
  rintro d H n' ⟨id, hid, rfl, hH⟩
  refine ⟨.fz (.sl (xs.map enc)), hpL [], n', ?_, rfl⟩
  refine Weak_g [] [] [(id, xs.map enc)] ?_ ?_ ?_ ?_ ?_ <;> (try simp only [go_sem, hH])
  all_goals first | done | omega | trace_state
structure tabP (m : Model) (f : Abs.Form) (vars : List Str) : Prop where
  gd : mgood m
  vk : vok f
  sz : szP f
  nl : vars.length + nestM f ≤ 6
  cs : ∀ c ∈ cst f vars, (findC m c).isSome = true
set_option maxRecDepth 100000 in
set_option maxHeartbeats 1000000 in
set_option maxHeartbeats 4000000 in
theorem tab1 {n : Nat} (hT : TblOk Tryd.prog G (E3.add 88 (sp3 tabM fun m f vs => f.size < n ∧ tabP m f vs))) {m : Model} {f : Abs.Form} {vars : List Str} (hn : f.size = n) (hp : tabP m f vars) (hk : f.kind = 1) : Wcall Tryd.prog G 88 [.fz (enc m), .fz (enc f), .fz (enc vars)] (hpL []) 0 (fun d _ _ => D.val d = some (.fz (enc (tabM m f vars)))) := by
  obtain ⟨V, hV⟩ : ∃ V : Nat → Bool, V = rowM m f vars := ⟨_, rfl⟩
  obtain ⟨s, hs⟩ : ∃ s : Nat, m.size = (s : Int) := ⟨m.size.toNat, by have := hp.gd.v.s1; omega⟩
  have me : Model.mk (s : Int) m.consts m.rels = m := by rw [← hs]
  have hs1 : 1 ≤ s := by have := hp.gd.v.s1; omega
  have hs6 : s ≤ 6 := by have := hp.gd.v.s6; omega
  have hvl : vars.length ≤ 6 := by have := hp.nl; omega
  obtain ⟨W, hW⟩ : ∃ W : Nat → Nat, W = fun i => s ^ i := ⟨_, rfl⟩
  have hW0 : W 0 = 1 := by rw [hW]; rfl
  have hWs : ∀ i, (W i : Int) * (s : Int) = (W (i + 1) : Int) := fun i => by rw [hW]; simp only; rw [Nat.pow_succ]; simp
  have hWl : ∀ i, i ≤ 6 → W i ≤ 46656 := fun i h => by
    rw [hW]
    exact Nat.le_trans (Nat.pow_le_pow_left hs6 i) (Nat.pow_le_pow_right (by omega) h)
  obtain ⟨N, hN⟩ : ∃ N, W vars.length = N := ⟨_, rfl⟩
  have hNl : N ≤ 46656 := by rw [← hN]; exact hWl _ hvl
  have hT' : tabM m f vars = (List.range N).map V := by
    unfold tabM
    rw [hV, ← hN, hW, hs]; rfl
  have hP0 := partB_zero V N
  rw [hT', ← partB_all V N]
  refine tab_post ?_
  have hpl : ∀ i, (partB V N i).length = N := fun i => partB_len V N i
  have kT := Kp.mk hT
  have kW := Kp.mk hWs
  have kl := Kp.mk hWl
  clear hT hT' hW hWs hWl
  refine Wcall_K (N := 345) hm kT.out 88000 (lst []) ok88 Tryd.func88 rfl rfl (by simp) (by kernel_rfl) ?_
  repeat' (first | refine rq fun _ => ?_ | simp only [go_sem, hs, Tryd.f88])
  refine WK_loop hm kT.out 88000 (lst []) (ι := LoopI vars.length fun _ => True)
    ⟨fun q => ⟨frL [(2, .fz (.sl (vars.map enc))), (3, .ptr (88003, 0) 0), (4, .ptr (88004, 1) 0), (7, .fz (.i .i64 (W q.i : Nat))), (34, .fz (.i .i64 vars.length)), (35, .fz (.i .i64 q.i))], hpL [((88003, 0), some ⟨[.fz (.i .i64 s), .fz (.sl (m.consts.map enc)), .fz (.sl (m.rels.map enc))], true, false⟩), ((88004, 1), some ⟨[.fz (.i .i64 f.kind), .fz (.s f.name.l), .fz (.sl (f.words.map enc)), .fz (.sl (f.subs.map enc))], true, false⟩)], 2⟩, fun q => vars.length - q.i⟩
    ⟨0, by omega, trivial⟩ (by kernel_rfl) ?_ ?_
  · refine Weak_to ?_ ?_ ?_ <;> simp only [go_sem, hW0, hs]
    all_goals first | done | rfl | omega | trace_state
  rintro ⟨i, hi, _⟩
  try simp only at hi
  rcases Nat.lt_or_ge i vars.length with h1 | h1
  · have hws := kW.out i
    have hwl := kl.out (i + 1) (by omega)
    repeat' (first | refine rq fun _ => ?_ | simp only [go_sem, h1, hws, Tryd.f88])
    refine ⟨⟨i + 1, by omega, trivial⟩, by simp only; omega, ?_⟩
    refine Weak_to ?_ ?_ ?_ <;> simp only [go_sem, hws]
    all_goals first | done | rfl | omega | trace_state
  obtain rfl : i = vars.length := by omega
  have hV1 : ∀ i, V i = true := fun i => by
    rw [hV]
    obtain ⟨a, b, c, d⟩ := f
    simp only [form_kind] at hk
    subst hk
    exact row_one m b c d vars i
  have kV := Kp.mk hV1
  clear hV1 hV hp hn
  repeat' (first | refine rq fun _ => ?_ | simp only [go_sem, Nat.lt_irrefl, hN, hk, mkOne, rep_bools, ← hP0, Tryd.f88])
  refine WK_loop hm kT.out 88000 (lst []) (ι := LoopI N fun _ => True)
    ⟨fun q => ⟨frL [(2, .fz (.sl (vars.map enc))), (3, .ptr (88003, 0) 0), (4, .ptr (88004, 1) 0), (8, .arr (88043, 2) 1 0 N), (131, .arr (88043, 2) 1 0 N), (132, .fz (.i .i64 N)), (133, .fz (.i .i64 q.i))], hpL [((88003, 0), some ⟨[.fz (.i .i64 s), .fz (.sl (m.consts.map enc)), .fz (.sl (m.rels.map enc))], true, false⟩), ((88004, 1), some ⟨[.fz (.i .i64 f.kind), .fz (.s f.name.l), .fz (.sl (f.words.map enc)), .fz (.sl (f.subs.map enc))], true, false⟩), ((88043, 2), some ⟨flatFz ((partB V N q.i).map enc), false, false⟩)], 3⟩, fun q => N - q.i⟩
    ⟨0, by omega, trivial⟩ (by kernel_rfl) ?_ ?_
  · refine Weak_to ?_ ?_ ?_ <;> simp only [go_sem, hk]
    all_goals first | done | rfl | omega | trace_state
  rintro ⟨i, hi, _⟩
  try simp only at hi
  rcases Nat.lt_or_ge i N with h1 | h1
  · have hset : (flatFz ((partB V N i).map enc)).set i (.fz (.b true)) = flatFz ((partB V N (i + 1)).map enc) := by
      rw [← partB_set h1, ← flat_set, kV.out]; rfl
    repeat' (first | refine rq fun _ => ?_ | simp only [go_sem, h1, hpl, Tryd.f88])
    refine ⟨⟨i + 1, by omega, trivial⟩, by simp only; omega, ?_⟩
    refine Weak_to ?_ ?_ ?_ <;> simp only [go_sem, hset, hk]
    all_goals first | done | rfl | omega | trace_state
  obtain rfl : i = N := by omega
  repeat' (first | refine rq fun _ => ?_ | simp only [go_sem, Nat.lt_irrefl, hpl, Tryd.f88])
  exact ⟨(88043, 2), by simp only; omega, rfl, by simp only [go_sem]⟩
end
end Go.Proofs.YtbbjghecpcobjaaDoor

namespace Go.Proofs.YtbbjghecpcobjaaDoor
open Go Go.Abs Go.Proofs
section
variable {G : Nat → List FD}
theorem one_of {α : Type} {l : List α} (h : l.length = 1) : ∃ a, l = [a] := by
  match l, h with
  | [a], _ => exact ⟨a, rfl⟩
theorem two_of {α : Type} {l : List α} (h : l.length = 2) : ∃ a b, l = [a, b] := by
  match l, h with
  | [a, b], _ => exact ⟨a, b, rfl⟩
theorem cst_subs {f g : Abs.Form} {vars : List Str} {x : Str} (hg : g ∈ f.subs) (h : x ∈ cst g (if isQ f.kind then vars ++ [f.name] else vars)) : x ∈ cst f vars := by
  obtain ⟨k, nm, ws, s⟩ := f
  rw [cst, List.mem_append]
  exact .inr (csts_mem.2 ⟨g, hg, h⟩)
theorem tabP_sub {m : Model} {f g : Abs.Form} {vars : List Str} (h : tabP m f vars) (hq : ¬ isQ f.kind) (hg : g ∈ f.subs) : g.size < f.size ∧ tabP m g vars := by
  have h1 := nest_eq (f := f)
  rw [if_neg hq] at h1
  have h2 := nests_mem hg
  have h3 := h.nl
  refine ⟨Form.size_sub hg, h.gd, (voks_mem _).1 (vok_eq.1 h.vk).2.2.2.2.2.2 g hg, (szP_sub h.sz hg).2, by omega, fun c hc => h.cs c (cst_subs hg (by rw [if_neg hq]; exact hc))⟩
theorem tabP_q {m : Model} {f g : Abs.Form} {vars : List Str} (h : tabP m f vars) (hq : isQ f.kind) (hg : g ∈ f.subs) : g.size < f.size ∧ tabP m g (vars ++ [f.name]) := by
  have h1 := nest_eq (f := f)
  rw [if_pos hq] at h1
  have h2 := nests_mem hg
  have h3 := h.nl
  refine ⟨Form.size_sub hg, h.gd, (voks_mem _).1 (vok_eq.1 h.vk).2.2.2.2.2.2 g hg, (szP_sub h.sz hg).2, by rw [List.length_append, List.length_cons, List.length_nil]; omega, fun c hc => h.cs c (cst_subs hg (by rw [if_pos hq]; exact hc))⟩
theorem getD_bool {l : List Bool} {i : Nat} (h : i < l.length) : (l.map enc).getD i FD.nilf = FD.b (l.getD i false) := by
  rw [getD_map_lt h, List.getD_eq_getElem?_getD, List.getElem?_eq_getElem h]; rfl
def tree8 : Tv := (.q 0 (.q 1 (.q 2 (.q 3 (.q 4 (.q 5 (.q 6 (.q 7 .leaf))))))))
set_option maxRecDepth 100000 in
set_option maxHeartbeats 1000000 in
set_option maxHeartbeats 4000000 in
theorem tab4 {n : Nat} (hT : TblOk Tryd.prog G (E3.add 88 (sp3 tabM fun m f vs => f.size < n ∧ tabP m f vs))) {m : Model} {f : Abs.Form} {vars : List Str} (hn : f.size = n) (hp : tabP m f vars) (hk : f.kind = 4) : Wcall Tryd.prog G 88 [.fz (enc m), .fz (enc f), .fz (enc vars)] (hpL []) 0 (fun d _ _ => D.val d = some (.fz (enc (tabM m f vars)))) := by
  have hlen := (vok_eq.1 hp.vk).2.2.2.2.1 (.inl hk)
  obtain ⟨g, hb⟩ := one_of hlen
  have hq : ¬ isQ f.kind := by rw [hk]; unfold isQ; omega
  have hga := tabP_sub hp hq (g := g) (by rw [hb]; simp)
  rw [hn] at hga
  have hgb := hga
  obtain ⟨V, hV⟩ : ∃ V : Nat → Bool, V = rowM m f vars := ⟨_, rfl⟩
  obtain ⟨s, hs⟩ : ∃ s : Nat, m.size = (s : Int) := ⟨m.size.toNat, by have := hp.gd.v.s1; omega⟩
  have me : Model.mk (s : Int) m.consts m.rels = m := by rw [← hs]
  have hs1 : 1 ≤ s := by have := hp.gd.v.s1; omega
  have hs6 : s ≤ 6 := by have := hp.gd.v.s6; omega
  have hvl : vars.length ≤ 6 := by have := hp.nl; omega
  obtain ⟨W, hW⟩ : ∃ W : Nat → Nat, W = fun i => s ^ i := ⟨_, rfl⟩
  have hW' := hW
  have hW0 : W 0 = 1 := by rw [hW]; rfl
  have hWs : ∀ i, (W i : Int) * (s : Int) = (W (i + 1) : Int) := fun i => by rw [hW]; simp only; rw [Nat.pow_succ]; simp
  have hWl : ∀ i, i ≤ 6 → W i ≤ 46656 := fun i h => by
    rw [hW]
    exact Nat.le_trans (Nat.pow_le_pow_left hs6 i) (Nat.pow_le_pow_right (by omega) h)
  obtain ⟨N, hN⟩ : ∃ N, W vars.length = N := ⟨_, rfl⟩
  have hNl : N ≤ 46656 := by rw [← hN]; exact hWl _ hvl
  have hT' : tabM m f vars = (List.range N).map V := by
    unfold tabM
    rw [hV, ← hN, hW, hs]; rfl
  have hP0 := partB_zero V N
  rw [hT', ← partB_all V N]
  refine tab_post ?_
  have hpl : ∀ i, (partB V N i).length = N := fun i => partB_len V N i
  have kT := Kp.mk hT
  have kW := Kp.mk hWs
  have kl := Kp.mk hWl
  clear hT hT' hW hWs hWl
  refine Wcall_K (N := 345) hm kT.out 88000 (lst [1000008, 1000011]) ok88 Tryd.func88 rfl rfl (by simp) (by kernel_rfl) ?_
  repeat' (first | refine rq fun _ => ?_ | simp only [go_sem, hs, Tryd.f88])
  refine WK_loop hm kT.out 88000 (lst [1000008, 1000011]) (ι := LoopI vars.length fun _ => True)
    ⟨fun q => ⟨frL [(2, .fz (.sl (vars.map enc))), (3, .ptr (88003, 0) 0), (4, .ptr (88004, 1) 0), (7, .fz (.i .i64 (W q.i : Nat))), (34, .fz (.i .i64 vars.length)), (35, .fz (.i .i64 q.i))], hpL [((88003, 0), some ⟨[.fz (.i .i64 s), .fz (.sl (m.consts.map enc)), .fz (.sl (m.rels.map enc))], true, false⟩), ((88004, 1), some ⟨[.fz (.i .i64 f.kind), .fz (.s f.name.l), .fz (.sl (f.words.map enc)), .fz (.sl (f.subs.map enc))], true, false⟩)], 2⟩, fun q => vars.length - q.i⟩
    ⟨0, by omega, trivial⟩ (by kernel_rfl) ?_ ?_
  · refine Weak_to ?_ ?_ ?_ <;> simp only [go_sem, hW0, hs]
    all_goals first | done | rfl | omega | trace_state
  rintro ⟨i, hi, _⟩
  try simp only at hi
  rcases Nat.lt_or_ge i vars.length with h1 | h1
  · have hws := kW.out i
    have hwl := kl.out (i + 1) (by omega)
    repeat' (first | refine rq fun _ => ?_ | simp only [go_sem, h1, hws, Tryd.f88])
    refine ⟨⟨i + 1, by omega, trivial⟩, by simp only; omega, ?_⟩
    refine Weak_to ?_ ?_ ?_ <;> simp only [go_sem, hws]
    all_goals first | done | rfl | omega | trace_state
  obtain rfl : i = vars.length := by omega
  have hVi : ∀ i, V i = !rowM m g vars i := fun i => by
    rw [hV]
    obtain ⟨a, b, c, d⟩ := f
    simp only [form_kind, form_subs] at hk hb
    subst hk
    subst hb
    exact row_not
  obtain ⟨A, hA⟩ : ∃ A, tabM m g vars = A := ⟨_, rfl⟩
  have hAl : A.length = N := by rw [← hA, tabM_len]; rw [← hN, hW', hs]; rfl
  have hAg : ∀ i, i < N → A.getD i false = rowM m g vars i := fun i h => by rw [← hA]; exact tabM_get (by rw [hs]; rw [← hN, hW'] at h; exact h)
  have hB := hA
  have hBl := hAl
  have hBg := hAg
  have kV := Kp.mk hVi
  have kA := Kp.mk hAg
  have kB := Kp.mk hBg
  clear hVi hAg hBg hV hp hn hW'
  repeat' (first | refine WK_drawV hm kT.out 88000 (lst [1000008, 1000011]) tree8 (by kernel_rfl) (by kernel_rfl) ?_ | refine And.intro ?_ ?_ | exact True.intro | refine ReqK.i hga fun _ => ?_ | refine ReqK.i hgb fun _ => ?_ | refine rq fun _ => ?_ | simp only [go_sem, hk, hb, hs, me, hA, hB, Nat.lt_irrefl, hN, mkOne, rep_bools, ← hP0, tree8, form_eta, str_eta, model_eta, getD_map_lt, Tryd.f88])
  refine WK_loop hm kT.out 88000 (lst [1000008, 1000011]) (ι := LoopI N fun _ => True)
    ⟨fun q => ⟨frL [(2, .fz (.sl (vars.map enc))), (3, .ptr (88003, 0) 0), (4, .ptr (88004, 1) 0), (8, .arr (88043, 2) 1 0 N), (30, .fz (.sl (A.map enc))), (31, .fz (.sl (A.map enc))), (65, .arr (88043, 2) 1 0 N), (66, .fz (.i .i64 N)), (67, .fz (.i .i64 q.i))], hpL [((88003, 0), some ⟨[.fz (.i .i64 s), .fz (.sl (m.consts.map enc)), .fz (.sl (m.rels.map enc))], true, false⟩), ((88004, 1), some ⟨[.fz (.i .i64 f.kind), .fz (.s f.name.l), .fz (.sl (f.words.map enc)), .fz (.sl (f.subs.map enc))], true, false⟩), ((88043, 2), some ⟨flatFz ((partB V N q.i).map enc), false, false⟩)], 3⟩, fun q => N - q.i⟩
    ⟨0, by omega, trivial⟩ (by kernel_rfl) ?_ ?_
  · refine Weak_to ?_ ?_ ?_ <;> simp only [go_sem, hk, hb, hs]
    all_goals first | done | rfl | omega | trace_state
  rintro ⟨i, hi, _⟩
  try simp only at hi
  rcases Nat.lt_or_ge i N with h1 | h1
  · have hset : ∀ v, V i = v → (flatFz ((partB V N i).map enc)).set i (.fz (.b v)) = flatFz ((partB V N (i + 1)).map enc) := fun v hv => by
      rw [← partB_set h1, ← flat_set, hv]; rfl
    have hv := kV.out i
    have ha := kA.out i h1
    have hbb := kB.out i h1
    have ha2 := getD_bool (l := A) (i := i) (by omega)
    have hb2 := getD_bool (l := A) (i := i) (by omega)
    rw [ha] at ha2
    rw [hbb] at hb2
    obtain ⟨a, hae⟩ : ∃ a, rowM m g vars i = a := ⟨_, rfl⟩
    rw [hae] at ha2 hv
    rw [hae] at hb2
    cases a
    all_goals
      have hset := hset _ hv
      simp only [Bool.not_true, Bool.not_false, Bool.true_and, Bool.false_and, Bool.true_or, Bool.false_or] at hset
      repeat' (first | refine ReqK.i (by rw [ha2]; rfl) fun _ => ?_ | refine ReqK.i (by rw [hb2]; rfl) fun _ => ?_ | refine rq fun _ => ?_ | simp only [go_sem, h1, hpl, hk, hAl, hBl, ha2, hb2, Tryd.f88])
      refine ⟨⟨i + 1, by omega, trivial⟩, by simp only; omega, ?_⟩
      refine Weak_to ?_ ?_ ?_ <;> simp only [go_sem, hset, hk, hb, hs]
      all_goals first | done | rfl | omega | trace_state
  obtain rfl : i = N := by omega
  repeat' (first | refine rq fun _ => ?_ | simp only [go_sem, Nat.lt_irrefl, hpl, Tryd.f88])
  exact ⟨(88043, 2), by simp only; omega, rfl, by simp only [go_sem]⟩
set_option maxRecDepth 100000 in
set_option maxHeartbeats 1000000 in
set_option maxHeartbeats 4000000 in
theorem tab5 {n : Nat} (hT : TblOk Tryd.prog G (E3.add 88 (sp3 tabM fun m f vs => f.size < n ∧ tabP m f vs))) {m : Model} {f : Abs.Form} {vars : List Str} (hn : f.size = n) (hp : tabP m f vars) (hk : f.kind = 5) : Wcall Tryd.prog G 88 [.fz (enc m), .fz (enc f), .fz (enc vars)] (hpL []) 0 (fun d _ _ => D.val d = some (.fz (enc (tabM m f vars)))) := by
  have hlen := (vok_eq.1 hp.vk).2.2.2.2.2.1 (by rw [hk]; decide)
  obtain ⟨g, h, hb⟩ := two_of hlen
  have hq : ¬ isQ f.kind := by rw [hk]; unfold isQ; omega
  have hga := tabP_sub hp hq (g := g) (by rw [hb]; simp)
  rw [hn] at hga
  have hgb := tabP_sub hp hq (g := h) (by rw [hb]; simp)
  rw [hn] at hgb
  obtain ⟨V, hV⟩ : ∃ V : Nat → Bool, V = rowM m f vars := ⟨_, rfl⟩
  obtain ⟨s, hs⟩ : ∃ s : Nat, m.size = (s : Int) := ⟨m.size.toNat, by have := hp.gd.v.s1; omega⟩
  have me : Model.mk (s : Int) m.consts m.rels = m := by rw [← hs]
  have hs1 : 1 ≤ s := by have := hp.gd.v.s1; omega
  have hs6 : s ≤ 6 := by have := hp.gd.v.s6; omega
  have hvl : vars.length ≤ 6 := by have := hp.nl; omega
  obtain ⟨W, hW⟩ : ∃ W : Nat → Nat, W = fun i => s ^ i := ⟨_, rfl⟩
  have hW' := hW
  have hW0 : W 0 = 1 := by rw [hW]; rfl
  have hWs : ∀ i, (W i : Int) * (s : Int) = (W (i + 1) : Int) := fun i => by rw [hW]; simp only; rw [Nat.pow_succ]; simp
  have hWl : ∀ i, i ≤ 6 → W i ≤ 46656 := fun i h => by
    rw [hW]
    exact Nat.le_trans (Nat.pow_le_pow_left hs6 i) (Nat.pow_le_pow_right (by omega) h)
  obtain ⟨N, hN⟩ : ∃ N, W vars.length = N := ⟨_, rfl⟩
  have hNl : N ≤ 46656 := by rw [← hN]; exact hWl _ hvl
  have hT' : tabM m f vars = (List.range N).map V := by
    unfold tabM
    rw [hV, ← hN, hW, hs]; rfl
  have hP0 := partB_zero V N
  rw [hT', ← partB_all V N]
  refine tab_post ?_
  have hpl : ∀ i, (partB V N i).length = N := fun i => partB_len V N i
  have kT := Kp.mk hT
  have kW := Kp.mk hWs
  have kl := Kp.mk hWl
  clear hT hT' hW hWs hWl
  refine Wcall_K (N := 345) hm kT.out 88000 (lst [1000008, 1000011]) ok88 Tryd.func88 rfl rfl (by simp) (by kernel_rfl) ?_
  repeat' (first | refine rq fun _ => ?_ | simp only [go_sem, hs, Tryd.f88])
  refine WK_loop hm kT.out 88000 (lst [1000008, 1000011]) (ι := LoopI vars.length fun _ => True)
    ⟨fun q => ⟨frL [(2, .fz (.sl (vars.map enc))), (3, .ptr (88003, 0) 0), (4, .ptr (88004, 1) 0), (7, .fz (.i .i64 (W q.i : Nat))), (34, .fz (.i .i64 vars.length)), (35, .fz (.i .i64 q.i))], hpL [((88003, 0), some ⟨[.fz (.i .i64 s), .fz (.sl (m.consts.map enc)), .fz (.sl (m.rels.map enc))], true, false⟩), ((88004, 1), some ⟨[.fz (.i .i64 f.kind), .fz (.s f.name.l), .fz (.sl (f.words.map enc)), .fz (.sl (f.subs.map enc))], true, false⟩)], 2⟩, fun q => vars.length - q.i⟩
    ⟨0, by omega, trivial⟩ (by kernel_rfl) ?_ ?_
  · refine Weak_to ?_ ?_ ?_ <;> simp only [go_sem, hW0, hs]
    all_goals first | done | rfl | omega | trace_state
  rintro ⟨i, hi, _⟩
  try simp only at hi
  rcases Nat.lt_or_ge i vars.length with h1 | h1
  · have hws := kW.out i
    have hwl := kl.out (i + 1) (by omega)
    repeat' (first | refine rq fun _ => ?_ | simp only [go_sem, h1, hws, Tryd.f88])
    refine ⟨⟨i + 1, by omega, trivial⟩, by simp only; omega, ?_⟩
    refine Weak_to ?_ ?_ ?_ <;> simp only [go_sem, hws]
    all_goals first | done | rfl | omega | trace_state
  obtain rfl : i = vars.length := by omega
  have hVi : ∀ i, V i = (rowM m g vars i && rowM m h vars i) := fun i => by
    rw [hV]
    obtain ⟨a, b, c, d⟩ := f
    simp only [form_kind, form_subs] at hk hb
    subst hk
    subst hb
    exact row_and
  obtain ⟨A, hA⟩ : ∃ A, tabM m g vars = A := ⟨_, rfl⟩
  have hAl : A.length = N := by rw [← hA, tabM_len]; rw [← hN, hW', hs]; rfl
  have hAg : ∀ i, i < N → A.getD i false = rowM m g vars i := fun i h => by rw [← hA]; exact tabM_get (by rw [hs]; rw [← hN, hW'] at h; exact h)
  obtain ⟨B, hB⟩ : ∃ B, tabM m h vars = B := ⟨_, rfl⟩
  have hBl : B.length = N := by rw [← hB, tabM_len]; rw [← hN, hW', hs]; rfl
  have hBg : ∀ i, i < N → B.getD i false = rowM m h vars i := fun i h' => by rw [← hB]; exact tabM_get (by rw [hs]; rw [← hN, hW'] at h'; exact h')
  have kV := Kp.mk hVi
  have kA := Kp.mk hAg
  have kB := Kp.mk hBg
  clear hVi hAg hBg hV hp hn hW'
  repeat' (first | refine WK_drawV hm kT.out 88000 (lst [1000008, 1000011]) tree8 (by kernel_rfl) (by kernel_rfl) ?_ | refine And.intro ?_ ?_ | exact True.intro | refine ReqK.i hga fun _ => ?_ | refine ReqK.i hgb fun _ => ?_ | refine rq fun _ => ?_ | simp only [go_sem, hk, hb, hs, me, hA, hB, Nat.lt_irrefl, hN, mkOne, rep_bools, ← hP0, tree8, form_eta, str_eta, model_eta, getD_map_lt, Tryd.f88])
  refine WK_loop hm kT.out 88000 (lst [1000008, 1000011]) (ι := LoopI N fun _ => True)
    ⟨fun q => ⟨frL [(2, .fz (.sl (vars.map enc))), (3, .ptr (88003, 0) 0), (4, .ptr (88004, 1) 0), (8, .arr (88043, 2) 1 0 N), (30, .fz (.sl (A.map enc))), (31, .fz (.sl (B.map enc))), (65, .arr (88043, 2) 1 0 N), (66, .fz (.i .i64 N)), (67, .fz (.i .i64 q.i))], hpL [((88003, 0), some ⟨[.fz (.i .i64 s), .fz (.sl (m.consts.map enc)), .fz (.sl (m.rels.map enc))], true, false⟩), ((88004, 1), some ⟨[.fz (.i .i64 f.kind), .fz (.s f.name.l), .fz (.sl (f.words.map enc)), .fz (.sl (f.subs.map enc))], true, false⟩), ((88043, 2), some ⟨flatFz ((partB V N q.i).map enc), false, false⟩)], 3⟩, fun q => N - q.i⟩
    ⟨0, by omega, trivial⟩ (by kernel_rfl) ?_ ?_
  · refine Weak_to ?_ ?_ ?_ <;> simp only [go_sem, hk, hb, hs]
    all_goals first | done | rfl | omega | trace_state
  rintro ⟨i, hi, _⟩
  try simp only at hi
  rcases Nat.lt_or_ge i N with h1 | h1
  · have hset : ∀ v, V i = v → (flatFz ((partB V N i).map enc)).set i (.fz (.b v)) = flatFz ((partB V N (i + 1)).map enc) := fun v hv => by
      rw [← partB_set h1, ← flat_set, hv]; rfl
    have hv := kV.out i
    have ha := kA.out i h1
    have hbb := kB.out i h1
    have ha2 := getD_bool (l := A) (i := i) (by omega)
    have hb2 := getD_bool (l := B) (i := i) (by omega)
    rw [ha] at ha2
    rw [hbb] at hb2
    obtain ⟨a, hae⟩ : ∃ a, rowM m g vars i = a := ⟨_, rfl⟩
    rw [hae] at ha2 hv
    obtain ⟨b, hbe⟩ : ∃ b, rowM m h vars i = b := ⟨_, rfl⟩
    rw [hbe] at hb2 hv
    cases a <;> cases b
    all_goals
      have hset := hset _ hv
      simp only [Bool.not_true, Bool.not_false, Bool.true_and, Bool.false_and, Bool.true_or, Bool.false_or] at hset
      repeat' (first | refine ReqK.i (by rw [ha2]; rfl) fun _ => ?_ | refine ReqK.i (by rw [hb2]; rfl) fun _ => ?_ | refine rq fun _ => ?_ | simp only [go_sem, h1, hpl, hk, hAl, hBl, ha2, hb2, Tryd.f88])
      refine ⟨⟨i + 1, by omega, trivial⟩, by simp only; omega, ?_⟩
      refine Weak_to ?_ ?_ ?_ <;> simp only [go_sem, hset, hk, hb, hs]
      all_goals first | done | rfl | omega | trace_state
  obtain rfl : i = N := by omega
  repeat' (first | refine rq fun _ => ?_ | simp only [go_sem, Nat.lt_irrefl, hpl, Tryd.f88])
  exact ⟨(88043, 2), by simp only; omega, rfl, by simp only [go_sem]⟩
set_option maxRecDepth 100000 in
set_option maxHeartbeats 1000000 in
set_option maxHeartbeats 4000000 in
theorem tab6 {n : Nat} (hT : TblOk Tryd.prog G (E3.add 88 (sp3 tabM fun m f vs => f.size < n ∧ tabP m f vs))) {m : Model} {f : Abs.Form} {vars : List Str} (hn : f.size = n) (hp : tabP m f vars) (hk : f.kind = 6) : Wcall Tryd.prog G 88 [.fz (enc m), .fz (enc f), .fz (enc vars)] (hpL []) 0 (fun d _ _ => D.val d = some (.fz (enc (tabM m f vars)))) := by
  have hlen := (vok_eq.1 hp.vk).2.2.2.2.2.1 (by rw [hk]; decide)
  obtain ⟨g, h, hb⟩ := two_of hlen
  have hq : ¬ isQ f.kind := by rw [hk]; unfold isQ; omega
  have hga := tabP_sub hp hq (g := g) (by rw [hb]; simp)
  rw [hn] at hga
  have hgb := tabP_sub hp hq (g := h) (by rw [hb]; simp)
  rw [hn] at hgb
  obtain ⟨V, hV⟩ : ∃ V : Nat → Bool, V = rowM m f vars := ⟨_, rfl⟩
  obtain ⟨s, hs⟩ : ∃ s : Nat, m.size = (s : Int) := ⟨m.size.toNat, by have := hp.gd.v.s1; omega⟩
  have me : Model.mk (s : Int) m.consts m.rels = m := by rw [← hs]
  have hs1 : 1 ≤ s := by have := hp.gd.v.s1; omega
  have hs6 : s ≤ 6 := by have := hp.gd.v.s6; omega
  have hvl : vars.length ≤ 6 := by have := hp.nl; omega
  obtain ⟨W, hW⟩ : ∃ W : Nat → Nat, W = fun i => s ^ i := ⟨_, rfl⟩
  have hW' := hW
  have hW0 : W 0 = 1 := by rw [hW]; rfl
  have hWs : ∀ i, (W i : Int) * (s : Int) = (W (i + 1) : Int) := fun i => by rw [hW]; simp only; rw [Nat.pow_succ]; simp
  have hWl : ∀ i, i ≤ 6 → W i ≤ 46656 := fun i h => by
    rw [hW]
    exact Nat.le_trans (Nat.pow_le_pow_left hs6 i) (Nat.pow_le_pow_right (by omega) h)
  obtain ⟨N, hN⟩ : ∃ N, W vars.length = N := ⟨_, rfl⟩
  have hNl : N ≤ 46656 := by rw [← hN]; exact hWl _ hvl
  have hT' : tabM m f vars = (List.range N).map V := by
    unfold tabM
    rw [hV, ← hN, hW, hs]; rfl
  have hP0 := partB_zero V N
  rw [hT', ← partB_all V N]
  refine tab_post ?_
  have hpl : ∀ i, (partB V N i).length = N := fun i => partB_len V N i
  have kT := Kp.mk hT
  have kW := Kp.mk hWs
  have kl := Kp.mk hWl
  clear hT hT' hW hWs hWl
  refine Wcall_K (N := 345) hm kT.out 88000 (lst [1000008, 1000011]) ok88 Tryd.func88 rfl rfl (by simp) (by kernel_rfl) ?_
  repeat' (first | refine rq fun _ => ?_ | simp only [go_sem, hs, Tryd.f88])
  refine WK_loop hm kT.out 88000 (lst [1000008, 1000011]) (ι := LoopI vars.length fun _ => True)
    ⟨fun q => ⟨frL [(2, .fz (.sl (vars.map enc))), (3, .ptr (88003, 0) 0), (4, .ptr (88004, 1) 0), (7, .fz (.i .i64 (W q.i : Nat))), (34, .fz (.i .i64 vars.length)), (35, .fz (.i .i64 q.i))], hpL [((88003, 0), some ⟨[.fz (.i .i64 s), .fz (.sl (m.consts.map enc)), .fz (.sl (m.rels.map enc))], true, false⟩), ((88004, 1), some ⟨[.fz (.i .i64 f.kind), .fz (.s f.name.l), .fz (.sl (f.words.map enc)), .fz (.sl (f.subs.map enc))], true, false⟩)], 2⟩, fun q => vars.length - q.i⟩
    ⟨0, by omega, trivial⟩ (by kernel_rfl) ?_ ?_
  · refine Weak_to ?_ ?_ ?_ <;> simp only [go_sem, hW0, hs]
    all_goals first | done | rfl | omega | trace_state
  rintro ⟨i, hi, _⟩
  try simp only at hi
  rcases Nat.lt_or_ge i vars.length with h1 | h1
  · have hws := kW.out i
    have hwl := kl.out (i + 1) (by omega)
    repeat' (first | refine rq fun _ => ?_ | simp only [go_sem, h1, hws, Tryd.f88])
    refine ⟨⟨i + 1, by omega, trivial⟩, by simp only; omega, ?_⟩
    refine Weak_to ?_ ?_ ?_ <;> simp only [go_sem, hws]
    all_goals first | done | rfl | omega | trace_state
  obtain rfl : i = vars.length := by omega
  have hVi : ∀ i, V i = (rowM m g vars i || rowM m h vars i) := fun i => by
    rw [hV]
    obtain ⟨a, b, c, d⟩ := f
    simp only [form_kind, form_subs] at hk hb
    subst hk
    subst hb
    exact row_or
  obtain ⟨A, hA⟩ : ∃ A, tabM m g vars = A := ⟨_, rfl⟩
  have hAl : A.length = N := by rw [← hA, tabM_len]; rw [← hN, hW', hs]; rfl
  have hAg : ∀ i, i < N → A.getD i false = rowM m g vars i := fun i h => by rw [← hA]; exact tabM_get (by rw [hs]; rw [← hN, hW'] at h; exact h)
  obtain ⟨B, hB⟩ : ∃ B, tabM m h vars = B := ⟨_, rfl⟩
  have hBl : B.length = N := by rw [← hB, tabM_len]; rw [← hN, hW', hs]; rfl
  have hBg : ∀ i, i < N → B.getD i false = rowM m h vars i := fun i h' => by rw [← hB]; exact tabM_get (by rw [hs]; rw [← hN, hW'] at h'; exact h')
  have kV := Kp.mk hVi
  have kA := Kp.mk hAg
  have kB := Kp.mk hBg
  clear hVi hAg hBg hV hp hn hW'
  repeat' (first | refine WK_drawV hm kT.out 88000 (lst [1000008, 1000011]) tree8 (by kernel_rfl) (by kernel_rfl) ?_ | refine And.intro ?_ ?_ | exact True.intro | refine ReqK.i hga fun _ => ?_ | refine ReqK.i hgb fun _ => ?_ | refine rq fun _ => ?_ | simp only [go_sem, hk, hb, hs, me, hA, hB, Nat.lt_irrefl, hN, mkOne, rep_bools, ← hP0, tree8, form_eta, str_eta, model_eta, getD_map_lt, Tryd.f88])
  refine WK_loop hm kT.out 88000 (lst [1000008, 1000011]) (ι := LoopI N fun _ => True)
    ⟨fun q => ⟨frL [(2, .fz (.sl (vars.map enc))), (3, .ptr (88003, 0) 0), (4, .ptr (88004, 1) 0), (8, .arr (88043, 2) 1 0 N), (30, .fz (.sl (A.map enc))), (31, .fz (.sl (B.map enc))), (65, .arr (88043, 2) 1 0 N), (66, .fz (.i .i64 N)), (67, .fz (.i .i64 q.i))], hpL [((88003, 0), some ⟨[.fz (.i .i64 s), .fz (.sl (m.consts.map enc)), .fz (.sl (m.rels.map enc))], true, false⟩), ((88004, 1), some ⟨[.fz (.i .i64 f.kind), .fz (.s f.name.l), .fz (.sl (f.words.map enc)), .fz (.sl (f.subs.map enc))], true, false⟩), ((88043, 2), some ⟨flatFz ((partB V N q.i).map enc), false, false⟩)], 3⟩, fun q => N - q.i⟩
    ⟨0, by omega, trivial⟩ (by kernel_rfl) ?_ ?_
  · refine Weak_to ?_ ?_ ?_ <;> simp only [go_sem, hk, hb, hs]
    all_goals first | done | rfl | omega | trace_state
  rintro ⟨i, hi, _⟩
  try simp only at hi
  rcases Nat.lt_or_ge i N with h1 | h1
  · have hset : ∀ v, V i = v → (flatFz ((partB V N i).map enc)).set i (.fz (.b v)) = flatFz ((partB V N (i + 1)).map enc) := fun v hv => by
      rw [← partB_set h1, ← flat_set, hv]; rfl
    have hv := kV.out i
    have ha := kA.out i h1
    have hbb := kB.out i h1
    have ha2 := getD_bool (l := A) (i := i) (by omega)
    have hb2 := getD_bool (l := B) (i := i) (by omega)
    rw [ha] at ha2
    rw [hbb] at hb2
    obtain ⟨a, hae⟩ : ∃ a, rowM m g vars i = a := ⟨_, rfl⟩
    rw [hae] at ha2 hv
    obtain ⟨b, hbe⟩ : ∃ b, rowM m h vars i = b := ⟨_, rfl⟩
    rw [hbe] at hb2 hv
    cases a <;> cases b
    all_goals
      have hset := hset _ hv
      simp only [Bool.not_true, Bool.not_false, Bool.true_and, Bool.false_and, Bool.true_or, Bool.false_or] at hset
      repeat' (first | refine ReqK.i (by rw [ha2]; rfl) fun _ => ?_ | refine ReqK.i (by rw [hb2]; rfl) fun _ => ?_ | refine rq fun _ => ?_ | simp only [go_sem, h1, hpl, hk, hAl, hBl, ha2, hb2, Tryd.f88])
      refine ⟨⟨i + 1, by omega, trivial⟩, by simp only; omega, ?_⟩
      refine Weak_to ?_ ?_ ?_ <;> simp only [go_sem, hset, hk, hb, hs]
      all_goals first | done | rfl | omega | trace_state
  obtain rfl : i = N := by omega
  repeat' (first | refine rq fun _ => ?_ | simp only [go_sem, Nat.lt_irrefl, hpl, Tryd.f88])
  exact ⟨(88043, 2), by simp only; omega, rfl, by simp only [go_sem]⟩
set_option maxRecDepth 100000 in
set_option maxHeartbeats 1000000 in
set_option maxHeartbeats 4000000 in
theorem tab7 {n : Nat} (hT : TblOk Tryd.prog G (E3.add 88 (sp3 tabM fun m f vs => f.size < n ∧ tabP m f vs))) {m : Model} {f : Abs.Form} {vars : List Str} (hn : f.size = n) (hp : tabP m f vars) (hk : f.kind = 7) : Wcall Tryd.prog G 88 [.fz (enc m), .fz (enc f), .fz (enc vars)] (hpL []) 0 (fun d _ _ => D.val d = some (.fz (enc (tabM m f vars)))) := by
  have hlen := (vok_eq.1 hp.vk).2.2.2.2.2.1 (by rw [hk]; decide)
  obtain ⟨g, h, hb⟩ := two_of hlen
  have hq : ¬ isQ f.kind := by rw [hk]; unfold isQ; omega
  have hga := tabP_sub hp hq (g := g) (by rw [hb]; simp)
  rw [hn] at hga
  have hgb := tabP_sub hp hq (g := h) (by rw [hb]; simp)
  rw [hn] at hgb
  obtain ⟨V, hV⟩ : ∃ V : Nat → Bool, V = rowM m f vars := ⟨_, rfl⟩
  obtain ⟨s, hs⟩ : ∃ s : Nat, m.size = (s : Int) := ⟨m.size.toNat, by have := hp.gd.v.s1; omega⟩
  have me : Model.mk (s : Int) m.consts m.rels = m := by rw [← hs]
  have hs1 : 1 ≤ s := by have := hp.gd.v.s1; omega
  have hs6 : s ≤ 6 := by have := hp.gd.v.s6; omega
  have hvl : vars.length ≤ 6 := by have := hp.nl; omega
  obtain ⟨W, hW⟩ : ∃ W : Nat → Nat, W = fun i => s ^ i := ⟨_, rfl⟩
  have hW' := hW
  have hW0 : W 0 = 1 := by rw [hW]; rfl
  have hWs : ∀ i, (W i : Int) * (s : Int) = (W (i + 1) : Int) := fun i => by rw [hW]; simp only; rw [Nat.pow_succ]; simp
  have hWl : ∀ i, i ≤ 6 → W i ≤ 46656 := fun i h => by
    rw [hW]
    exact Nat.le_trans (Nat.pow_le_pow_left hs6 i) (Nat.pow_le_pow_right (by omega) h)
  obtain ⟨N, hN⟩ : ∃ N, W vars.length = N := ⟨_, rfl⟩
  have hNl : N ≤ 46656 := by rw [← hN]; exact hWl _ hvl
  have hT' : tabM m f vars = (List.range N).map V := by
    unfold tabM
    rw [hV, ← hN, hW, hs]; rfl
  have hP0 := partB_zero V N
  rw [hT', ← partB_all V N]
  refine tab_post ?_
  have hpl : ∀ i, (partB V N i).length = N := fun i => partB_len V N i
  have kT := Kp.mk hT
  have kW := Kp.mk hWs
  have kl := Kp.mk hWl
  clear hT hT' hW hWs hWl
  refine Wcall_K (N := 345) hm kT.out 88000 (lst [1000008, 1000011]) ok88 Tryd.func88 rfl rfl (by simp) (by kernel_rfl) ?_
  repeat' (first | refine rq fun _ => ?_ | simp only [go_sem, hs, Tryd.f88])
  refine WK_loop hm kT.out 88000 (lst [1000008, 1000011]) (ι := LoopI vars.length fun _ => True)
    ⟨fun q => ⟨frL [(2, .fz (.sl (vars.map enc))), (3, .ptr (88003, 0) 0), (4, .ptr (88004, 1) 0), (7, .fz (.i .i64 (W q.i : Nat))), (34, .fz (.i .i64 vars.length)), (35, .fz (.i .i64 q.i))], hpL [((88003, 0), some ⟨[.fz (.i .i64 s), .fz (.sl (m.consts.map enc)), .fz (.sl (m.rels.map enc))], true, false⟩), ((88004, 1), some ⟨[.fz (.i .i64 f.kind), .fz (.s f.name.l), .fz (.sl (f.words.map enc)), .fz (.sl (f.subs.map enc))], true, false⟩)], 2⟩, fun q => vars.length - q.i⟩
    ⟨0, by omega, trivial⟩ (by kernel_rfl) ?_ ?_
  · refine Weak_to ?_ ?_ ?_ <;> simp only [go_sem, hW0, hs]
    all_goals first | done | rfl | omega | trace_state
  rintro ⟨i, hi, _⟩
  try simp only at hi
  rcases Nat.lt_or_ge i vars.length with h1 | h1
  · have hws := kW.out i
    have hwl := kl.out (i + 1) (by omega)
    repeat' (first | refine rq fun _ => ?_ | simp only [go_sem, h1, hws, Tryd.f88])
    refine ⟨⟨i + 1, by omega, trivial⟩, by simp only; omega, ?_⟩
    refine Weak_to ?_ ?_ ?_ <;> simp only [go_sem, hws]
    all_goals first | done | rfl | omega | trace_state
  obtain rfl : i = vars.length := by omega
  have hVi : ∀ i, V i = (!rowM m g vars i || rowM m h vars i) := fun i => by
    rw [hV]
    obtain ⟨a, b, c, d⟩ := f
    simp only [form_kind, form_subs] at hk hb
    subst hk
    subst hb
    exact row_imp
  obtain ⟨A, hA⟩ : ∃ A, tabM m g vars = A := ⟨_, rfl⟩
  have hAl : A.length = N := by rw [← hA, tabM_len]; rw [← hN, hW', hs]; rfl
  have hAg : ∀ i, i < N → A.getD i false = rowM m g vars i := fun i h => by rw [← hA]; exact tabM_get (by rw [hs]; rw [← hN, hW'] at h; exact h)
  obtain ⟨B, hB⟩ : ∃ B, tabM m h vars = B := ⟨_, rfl⟩
  have hBl : B.length = N := by rw [← hB, tabM_len]; rw [← hN, hW', hs]; rfl
  have hBg : ∀ i, i < N → B.getD i false = rowM m h vars i := fun i h' => by rw [← hB]; exact tabM_get (by rw [hs]; rw [← hN, hW'] at h'; exact h')
  have kV := Kp.mk hVi
  have kA := Kp.mk hAg
  have kB := Kp.mk hBg
  clear hVi hAg hBg hV hp hn hW'
  repeat' (first | refine WK_drawV hm kT.out 88000 (lst [1000008, 1000011]) tree8 (by kernel_rfl) (by kernel_rfl) ?_ | refine And.intro ?_ ?_ | exact True.intro | refine ReqK.i hga fun _ => ?_ | refine ReqK.i hgb fun _ => ?_ | refine rq fun _ => ?_ | simp only [go_sem, hk, hb, hs, me, hA, hB, Nat.lt_irrefl, hN, mkOne, rep_bools, ← hP0, tree8, form_eta, str_eta, model_eta, getD_map_lt, Tryd.f88])
  refine WK_loop hm kT.out 88000 (lst [1000008, 1000011]) (ι := LoopI N fun _ => True)
    ⟨fun q => ⟨frL [(2, .fz (.sl (vars.map enc))), (3, .ptr (88003, 0) 0), (4, .ptr (88004, 1) 0), (8, .arr (88043, 2) 1 0 N), (30, .fz (.sl (A.map enc))), (31, .fz (.sl (B.map enc))), (65, .arr (88043, 2) 1 0 N), (66, .fz (.i .i64 N)), (67, .fz (.i .i64 q.i))], hpL [((88003, 0), some ⟨[.fz (.i .i64 s), .fz (.sl (m.consts.map enc)), .fz (.sl (m.rels.map enc))], true, false⟩), ((88004, 1), some ⟨[.fz (.i .i64 f.kind), .fz (.s f.name.l), .fz (.sl (f.words.map enc)), .fz (.sl (f.subs.map enc))], true, false⟩), ((88043, 2), some ⟨flatFz ((partB V N q.i).map enc), false, false⟩)], 3⟩, fun q => N - q.i⟩
    ⟨0, by omega, trivial⟩ (by kernel_rfl) ?_ ?_
  · refine Weak_to ?_ ?_ ?_ <;> simp only [go_sem, hk, hb, hs]
    all_goals first | done | rfl | omega | trace_state
  rintro ⟨i, hi, _⟩
  try simp only at hi
  rcases Nat.lt_or_ge i N with h1 | h1
  · have hset : ∀ v, V i = v → (flatFz ((partB V N i).map enc)).set i (.fz (.b v)) = flatFz ((partB V N (i + 1)).map enc) := fun v hv => by
      rw [← partB_set h1, ← flat_set, hv]; rfl
    have hv := kV.out i
    have ha := kA.out i h1
    have hbb := kB.out i h1
    have ha2 := getD_bool (l := A) (i := i) (by omega)
    have hb2 := getD_bool (l := B) (i := i) (by omega)
    rw [ha] at ha2
    rw [hbb] at hb2
    obtain ⟨a, hae⟩ : ∃ a, rowM m g vars i = a := ⟨_, rfl⟩
    rw [hae] at ha2 hv
    obtain ⟨b, hbe⟩ : ∃ b, rowM m h vars i = b := ⟨_, rfl⟩
    rw [hbe] at hb2 hv
    cases a <;> cases b
    all_goals
      have hset := hset _ hv
      simp only [Bool.not_true, Bool.not_false, Bool.true_and, Bool.false_and, Bool.true_or, Bool.false_or] at hset
      repeat' (first | refine ReqK.i (by rw [ha2]; rfl) fun _ => ?_ | refine ReqK.i (by rw [hb2]; rfl) fun _ => ?_ | refine rq fun _ => ?_ | simp only [go_sem, h1, hpl, hk, hAl, hBl, ha2, hb2, Tryd.f88])
      refine ⟨⟨i + 1, by omega, trivial⟩, by simp only; omega, ?_⟩
      refine Weak_to ?_ ?_ ?_ <;> simp only [go_sem, hset, hk, hb, hs]
      all_goals first | done | rfl | omega | trace_state
  obtain rfl : i = N := by omega
  repeat' (first | refine rq fun _ => ?_ | simp only [go_sem, Nat.lt_irrefl, hpl, Tryd.f88])
  exact ⟨(88043, 2), by simp only; omega, rfl, by simp only [go_sem]⟩
end
end Go.Proofs.YtbbjghecpcobjaaDoor

namespace Go.Proofs.YtbbjghecpcobjaaDoor
open Go Go.Abs Go.Proofs
section
variable {G : Nat → List FD}
def tree76 : Tv := (.q 1 (.q 5 (.q 6 (.q 8 (.r 0 (.r 2 (.q 3 (.r 4 (.r 9 (.q 10 (.br [(7, (.br [(11, (.q 12 (.q 13 .leaf)))]))])))))))))))
set_option maxRecDepth 100000 in
set_option maxHeartbeats 1000000 in
set_option maxHeartbeats 4000000 in
theorem tab8 {n : Nat} (hT : TblOk Tryd.prog G (E3.add 88 (sp3 tabM fun m f vs => f.size < n ∧ tabP m f vs))) {m : Model} {f : Abs.Form} {vars : List Str} (hn : f.size = n) (hp : tabP m f vars) (hk : f.kind = 8) : Wcall Tryd.prog G 88 [.fz (enc m), .fz (enc f), .fz (enc vars)] (hpL []) 0 (fun d _ _ => D.val d = some (.fz (enc (tabM m f vars)))) := by
  have hlen := (vok_eq.1 hp.vk).2.2.2.2.1 (by rw [hk]; decide)
  obtain ⟨g, hb⟩ := one_of hlen
  have hga := tabP_q hp (by rw [hk]; unfold isQ; omega) (g := g) (by rw [hb]; simp)
  rw [hn] at hga
  obtain ⟨V, hV⟩ : ∃ V : Nat → Bool, V = rowM m f vars := ⟨_, rfl⟩
  obtain ⟨s, hs⟩ : ∃ s : Nat, m.size = (s : Int) := ⟨m.size.toNat, by have := hp.gd.v.s1; omega⟩
  have me : Model.mk (s : Int) m.consts m.rels = m := by rw [← hs]
  have hs1 : 1 ≤ s := by have := hp.gd.v.s1; omega
  have hs6 : s ≤ 6 := by have := hp.gd.v.s6; omega
  have hvl : vars.length ≤ 6 := by have := hp.nl; omega
  obtain ⟨W, hW⟩ : ∃ W : Nat → Nat, W = fun i => s ^ i := ⟨_, rfl⟩
  have hW' := hW
  have hW0 : W 0 = 1 := by rw [hW]; rfl
  have hWs : ∀ i, (W i : Int) * (s : Int) = (W (i + 1) : Int) := fun i => by rw [hW]; simp only; rw [Nat.pow_succ]; simp
  have hWl : ∀ i, i ≤ 6 → W i ≤ 46656 := fun i h => by
    rw [hW]
    exact Nat.le_trans (Nat.pow_le_pow_left hs6 i) (Nat.pow_le_pow_right (by omega) h)
  obtain ⟨N, hN⟩ : ∃ N, W vars.length = N := ⟨_, rfl⟩
  have hNl : N ≤ 46656 := by rw [← hN]; exact hWl _ hvl
  have hT' : tabM m f vars = (List.range N).map V := by
    unfold tabM
    rw [hV, ← hN, hW, hs]; rfl
  have hP0 := partB_zero V N
  rw [hT', ← partB_all V N]
  refine tab_post ?_
  have hpl : ∀ i, (partB V N i).length = N := fun i => partB_len V N i
  have kT := Kp.mk hT
  have kW := Kp.mk hWs
  have kl := Kp.mk hWl
  clear hT hT' hW hWs hWl
  refine Wcall_K (N := 345) hm kT.out 88000 (lsw [285, 289] [1000076]) ok88 Tryd.func88 rfl rfl (by simp) (by kernel_rfl) ?_
  repeat' (first | refine rq fun _ => ?_ | simp only [go_sem, hs, Tryd.f88])
  refine WK_weak2 (Weak_rpL (id := (88003, 0)) (t := 3) (b := true) (ys := [.i .i64 s, .sl (m.consts.map enc), .sl (m.rels.map enc)]) (by simp only [go_sem]) (by simp only [go_sem])) ?_
  refine WK_weak2 (Weak_rpL (id := (88004, 1)) (t := 4) (b := true) (ys := [.i .i64 f.kind, .s f.name.l, .sl (f.words.map enc), .sl (f.subs.map enc)]) (by simp only [go_sem]) (by simp only [go_sem])) ?_
  refine WK_loop hm kT.out 88000 (lsw [285, 289] [1000076]) (ι := LoopI vars.length fun _ => True)
    ⟨fun q => ⟨frL [(2, .fz (.sl (vars.map enc))), (3, .rp [.i .i64 s, .sl (m.consts.map enc), .sl (m.rels.map enc)]), (4, .rp [.i .i64 f.kind, .s f.name.l, .sl (f.words.map enc), .sl (f.subs.map enc)]), (7, .fz (.i .i64 (W q.i : Nat))), (34, .fz (.i .i64 vars.length)), (35, .fz (.i .i64 q.i))], hpL [], 2⟩, fun q => vars.length - q.i⟩
    ⟨0, by omega, trivial⟩ (by kernel_rfl) ?_ ?_
  · refine Weak_to ?_ ?_ ?_ <;> simp only [go_sem, hW0, hs]
    all_goals first | done | rfl | omega | trace_state
  rintro ⟨i, hi, _⟩
  try simp only at hi
  rcases Nat.lt_or_ge i vars.length with h1 | h1
  · have hws := kW.out i
    have hwl := kl.out (i + 1) (by omega)
    repeat' (first | refine rq fun _ => ?_ | simp only [go_sem, h1, hws, Tryd.f88])
    refine ⟨⟨i + 1, by omega, trivial⟩, by simp only; omega, ?_⟩
    refine Weak_to ?_ ?_ ?_ <;> simp only [go_sem, hws]
    all_goals first | done | rfl | omega | trace_state
  obtain rfl : i = vars.length := by omega
  obtain ⟨R, hR⟩ : ∃ R : Nat → Bool, R = rowM m g (vars ++ [f.name]) := ⟨_, rfl⟩
  obtain ⟨AA, hAA⟩ : ∃ AA : Nat → Nat → Bool, AA = fun i d => (List.range d).all fun e => R (i * s + e) := ⟨_, rfl⟩
  have hA0 : ∀ i, AA i 0 = true := fun i => by rw [hAA]; rfl
  have hAs : ∀ i d, AA i (d + 1) = (AA i d && R (i * s + d)) := fun i d => by rw [hAA]; simp only [List.range_succ, List.all_append, List.all_cons, List.all_nil, Bool.and_true]
  obtain ⟨SS, hSS⟩ : ∃ SS : Nat → Nat → Bool, SS = fun i d => (List.range d).any fun e => R (i * s + e) := ⟨_, rfl⟩
  have hS0 : ∀ i, SS i 0 = false := fun i => by rw [hSS]; rfl
  have hSs : ∀ i d, SS i (d + 1) = (SS i d || R (i * s + d)) := fun i d => by rw [hSS]; simp only [List.range_succ, List.any_append, List.any_cons, List.any_nil, Bool.or_false]
  have hms : m.size.toNat = s := by rw [hs]; rfl
  have hVi : ∀ i, V i = AA i s := fun i => by
    rw [hV, hAA, hR]
    obtain ⟨a, b, c, d⟩ := f
    simp only [form_kind, form_subs] at hk hb
    subst hk
    subst hb
    rw [row_all, hms]
    rfl
  obtain ⟨A, hA⟩ : ∃ A, tabM m g (vars ++ [f.name]) = A := ⟨_, rfl⟩
  have hAl : A.length = N * s := by rw [← hA, tabM_len, hms, ← hN, hW', List.length_append, List.length_cons, List.length_nil, Nat.pow_succ]
  have hAg : ∀ x, x < N * s → A.getD x false = R x := fun x h => by
    rw [← hA, hR]
    refine tabM_get ?_
    rw [hms, List.length_append, List.length_cons, List.length_nil, Nat.pow_succ]
    rw [← hN, hW'] at h
    exact h
  have kV := Kp.mk hVi
  have kA := Kp.mk hAg
  have kA0 := Kp.mk hA0
  have kAs := Kp.mk hAs
  have kS0 := Kp.mk hS0
  have kSs := Kp.mk hSs
  clear hVi hAg hV hp hn hW' hA0 hAs hS0 hSs hAA hSS hR
  repeat' (first | refine WK_drawV hm kT.out 88000 (lsw [285, 289] [1000076]) tree76 (by kernel_rfl) (by kernel_rfl) ?_ | refine And.intro ?_ ?_ | exact True.intro | refine ReqK.i (fits_of2 (by first | omega | (simp only [List.length_map, List.length_append, List.length_cons, List.length_nil]; omega)) (by decide)) fun _ => ?_ | refine ReqK.i hga fun _ => ?_ | refine rq fun _ => ?_ | simp only [go_sem, hk, hb, hs, me, hA, Nat.lt_irrefl, hN, mkOne, rep_bools, ← hP0, tree76, List.nil_append, form_eta, str_eta, model_eta, getD_map_lt, Tryd.f88])
  refine WK_loop hm kT.out 88000 (lsw [285, 289] [1000076]) (ι := LoopM N 3 fun _ => True)
    ⟨fun q => ⟨frL [(2, .fz (.sl (vars.map enc))), (3, .rp [.i .i64 s, .sl (m.consts.map enc), .sl (m.rels.map enc)]), (4, .rp [.i .i64 f.kind, .s f.name.l, .sl (f.words.map enc), .sl (f.subs.map enc)]), (8, .arr (88043, 2) 1 0 N), (25, .fz (.sl (A.map enc))), (291, .arr (88043, 2) 1 0 N), (292, .fz (.i .i64 N)), (293, .fz (.i .i64 q.i))], hpL [((88043, 2), some ⟨flatFz ((partB V N q.i).map enc), false, false⟩)], q.m⟩, fun q => N - q.i⟩
    ⟨0, 12, by omega, by omega, trivial⟩ (by kernel_rfl) ?_ ?_
  · refine Weak_to ?_ ?_ ?_ <;> simp only [go_sem, hk, hb, hs]
    all_goals first | done | rfl | omega | trace_state
  rintro ⟨i, n, hi, hn, _⟩
  try simp only at hi hn
  rcases Nat.lt_or_ge i N with h1 | h1
  rotate_left
  · obtain rfl : i = N := by omega
    repeat' (first | refine rq fun _ => ?_ | simp only [go_sem, Nat.lt_irrefl, hpl, Tryd.f88])
    exact ⟨(88043, 2), by simp only; omega, rfl, by simp only [go_sem]⟩
  have hset : ∀ v, V i = v → (flatFz ((partB V N i).map enc)).set i (.fz (.b v)) = flatFz ((partB V N (i + 1)).map enc) := fun v hv => by
    rw [← partB_set h1, ← flat_set, hv]; rfl
  have hv := kV.out i
  have a0 := kA0.out i
  have s0 := kS0.out i
  repeat' (first | refine rq fun _ => ?_ | simp only [go_sem, h1, hs, hk, hb, Tryd.f88])
  refine WK_loop hm kT.out 88000 (lsw [285, 289] [1000076]) (ι := LoopM s 3 fun _ => True)
    ⟨fun q => ⟨frL [(2, .fz (.sl (vars.map enc))), (3, .rp [.i .i64 s, .sl (m.consts.map enc), .sl (m.rels.map enc)]), (4, .rp [.i .i64 f.kind, .s f.name.l, .sl (f.words.map enc), .sl (f.subs.map enc)]), (8, .arr (88043, 2) 1 0 N), (25, .fz (.sl (A.map enc))), (26, .fz (.i .i64 i)), (27, .fz (.b (AA i q.i))), (28, .fz (.b (SS i q.i))), (29, .fz (.i .i64 q.i)), (291, .arr (88043, 2) 1 0 N), (292, .fz (.i .i64 N)), (293, .fz (.i .i64 i))], hpL [((88043, 2), some ⟨flatFz ((partB V N i).map enc), false, false⟩)], q.m⟩, fun q => s - q.i⟩
    ⟨0, n, by omega, by omega, trivial⟩ (by kernel_rfl) ?_ ?_
  · refine Weak_to ?_ ?_ ?_ <;> simp only [go_sem, hk, hb, hs, a0, s0]
    all_goals first | done | rfl | omega | trace_state
  rintro ⟨d, n2, hd, hn2, _⟩
  try simp only at hd hn2
  rcases Nat.lt_or_ge d s with h2 | h2
  · have aas := kAs.out i d
    have ss := kSs.out i d
    obtain ⟨y, hy⟩ : ∃ y, i * s = y := ⟨_, rfl⟩
    have hyl : y + s ≤ N * s := by rw [← hy]; have := Nat.mul_le_mul_right s (show i + 1 ≤ N by omega); rw [Nat.add_mul, Nat.one_mul] at this; exact this
    have hNs : N * s ≤ 279936 := Nat.le_trans (Nat.mul_le_mul hNl hs6) (by decide)
    have hiy : (i : Int) * (s : Int) = (y : Int) := by rw [← hy]; simp
    rw [hy] at aas ss
    obtain ⟨x, hx⟩ : ∃ x, y + d = x := ⟨_, rfl⟩
    have hix : (y : Int) + (d : Int) = (x : Int) := by omega
    have hxl : x < A.length := by omega
    have hxg := kA.out x (by omega)
    have hgd := getD_bool hxl
    rw [hxg] at hgd
    rw [hx] at aas ss
    obtain ⟨r, hr⟩ : ∃ r, R x = r := ⟨_, rfl⟩
    rw [hr] at aas ss hgd
    obtain ⟨P, hP⟩ : ∃ P, AA i d = P := ⟨_, rfl⟩
    obtain ⟨Q, hQ⟩ : ∃ Q, SS i d = Q := ⟨_, rfl⟩
    rw [hP] at aas
    rw [hQ] at ss
    cases P <;> cases Q <;> cases r
    all_goals
      simp only [Bool.and_true, Bool.and_false, Bool.true_and, Bool.false_and, Bool.or_true, Bool.or_false, Bool.true_or, Bool.false_or] at aas ss
      repeat' (first | refine ReqK.i (by rw [hgd]; rfl) fun _ => ?_ | refine rq fun _ => ?_ | simp only [go_sem, h2, hs, hP, hQ, hiy, hix, hgd, hxl, Tryd.f88])
      refine ⟨⟨d + 1, n2, by omega, by omega, trivial⟩, by simp only; omega, ?_⟩
      refine Weak_to ?_ ?_ ?_ <;> simp only [go_sem, aas, ss, hk, hb, hs]
      all_goals first | done | rfl | omega | trace_state
  obtain rfl : d = s := by omega
  obtain ⟨P, hP⟩ : ∃ P, AA i d = P := ⟨_, rfl⟩
  obtain ⟨Q, hQ⟩ : ∃ Q, SS i d = Q := ⟨_, rfl⟩
  rw [hP] at hv
  have hset := hset _ hv
  cases P <;> cases Q
  all_goals
    repeat' (first | refine rq fun _ => ?_ | simp only [go_sem, Nat.lt_irrefl, hpl, hs, hk, hP, hQ, h1, Tryd.f88])
    refine ⟨⟨i + 1, n2, by omega, by omega, trivial⟩, by simp only; omega, ?_⟩
    refine Weak_to ?_ ?_ ?_ <;> simp only [go_sem, hset, hk, hb, hs]
    all_goals first | done | rfl | omega | trace_state
set_option maxRecDepth 100000 in
set_option maxHeartbeats 1000000 in
set_option maxHeartbeats 4000000 in
theorem tab9 {n : Nat} (hT : TblOk Tryd.prog G (E3.add 88 (sp3 tabM fun m f vs => f.size < n ∧ tabP m f vs))) {m : Model} {f : Abs.Form} {vars : List Str} (hn : f.size = n) (hp : tabP m f vars) (hk : f.kind = 9) : Wcall Tryd.prog G 88 [.fz (enc m), .fz (enc f), .fz (enc vars)] (hpL []) 0 (fun d _ _ => D.val d = some (.fz (enc (tabM m f vars)))) := by
  have hlen := (vok_eq.1 hp.vk).2.2.2.2.1 (by rw [hk]; decide)
  obtain ⟨g, hb⟩ := one_of hlen
  have hga := tabP_q hp (by rw [hk]; unfold isQ; omega) (g := g) (by rw [hb]; simp)
  rw [hn] at hga
  obtain ⟨V, hV⟩ : ∃ V : Nat → Bool, V = rowM m f vars := ⟨_, rfl⟩
  obtain ⟨s, hs⟩ : ∃ s : Nat, m.size = (s : Int) := ⟨m.size.toNat, by have := hp.gd.v.s1; omega⟩
  have me : Model.mk (s : Int) m.consts m.rels = m := by rw [← hs]
  have hs1 : 1 ≤ s := by have := hp.gd.v.s1; omega
  have hs6 : s ≤ 6 := by have := hp.gd.v.s6; omega
  have hvl : vars.length ≤ 6 := by have := hp.nl; omega
  obtain ⟨W, hW⟩ : ∃ W : Nat → Nat, W = fun i => s ^ i := ⟨_, rfl⟩
  have hW' := hW
  have hW0 : W 0 = 1 := by rw [hW]; rfl
  have hWs : ∀ i, (W i : Int) * (s : Int) = (W (i + 1) : Int) := fun i => by rw [hW]; simp only; rw [Nat.pow_succ]; simp
  have hWl : ∀ i, i ≤ 6 → W i ≤ 46656 := fun i h => by
    rw [hW]
    exact Nat.le_trans (Nat.pow_le_pow_left hs6 i) (Nat.pow_le_pow_right (by omega) h)
  obtain ⟨N, hN⟩ : ∃ N, W vars.length = N := ⟨_, rfl⟩
  have hNl : N ≤ 46656 := by rw [← hN]; exact hWl _ hvl
  have hT' : tabM m f vars = (List.range N).map V := by
    unfold tabM
    rw [hV, ← hN, hW, hs]; rfl
  have hP0 := partB_zero V N
  rw [hT', ← partB_all V N]
  refine tab_post ?_
  have hpl : ∀ i, (partB V N i).length = N := fun i => partB_len V N i
  have kT := Kp.mk hT
  have kW := Kp.mk hWs
  have kl := Kp.mk hWl
  clear hT hT' hW hWs hWl
  refine Wcall_K (N := 345) hm kT.out 88000 (lsw [285, 289] [1000076]) ok88 Tryd.func88 rfl rfl (by simp) (by kernel_rfl) ?_
  repeat' (first | refine rq fun _ => ?_ | simp only [go_sem, hs, Tryd.f88])
  refine WK_weak2 (Weak_rpL (id := (88003, 0)) (t := 3) (b := true) (ys := [.i .i64 s, .sl (m.consts.map enc), .sl (m.rels.map enc)]) (by simp only [go_sem]) (by simp only [go_sem])) ?_
  refine WK_weak2 (Weak_rpL (id := (88004, 1)) (t := 4) (b := true) (ys := [.i .i64 f.kind, .s f.name.l, .sl (f.words.map enc), .sl (f.subs.map enc)]) (by simp only [go_sem]) (by simp only [go_sem])) ?_
  refine WK_loop hm kT.out 88000 (lsw [285, 289] [1000076]) (ι := LoopI vars.length fun _ => True)
    ⟨fun q => ⟨frL [(2, .fz (.sl (vars.map enc))), (3, .rp [.i .i64 s, .sl (m.consts.map enc), .sl (m.rels.map enc)]), (4, .rp [.i .i64 f.kind, .s f.name.l, .sl (f.words.map enc), .sl (f.subs.map enc)]), (7, .fz (.i .i64 (W q.i : Nat))), (34, .fz (.i .i64 vars.length)), (35, .fz (.i .i64 q.i))], hpL [], 2⟩, fun q => vars.length - q.i⟩
    ⟨0, by omega, trivial⟩ (by kernel_rfl) ?_ ?_
  · refine Weak_to ?_ ?_ ?_ <;> simp only [go_sem, hW0, hs]
    all_goals first | done | rfl | omega | trace_state
  rintro ⟨i, hi, _⟩
  try simp only at hi
  rcases Nat.lt_or_ge i vars.length with h1 | h1
  · have hws := kW.out i
    have hwl := kl.out (i + 1) (by omega)
    repeat' (first | refine rq fun _ => ?_ | simp only [go_sem, h1, hws, Tryd.f88])
    refine ⟨⟨i + 1, by omega, trivial⟩, by simp only; omega, ?_⟩
    refine Weak_to ?_ ?_ ?_ <;> simp only [go_sem, hws]
    all_goals first | done | rfl | omega | trace_state
  obtain rfl : i = vars.length := by omega
  obtain ⟨R, hR⟩ : ∃ R : Nat → Bool, R = rowM m g (vars ++ [f.name]) := ⟨_, rfl⟩
  obtain ⟨AA, hAA⟩ : ∃ AA : Nat → Nat → Bool, AA = fun i d => (List.range d).all fun e => R (i * s + e) := ⟨_, rfl⟩
  have hA0 : ∀ i, AA i 0 = true := fun i => by rw [hAA]; rfl
  have hAs : ∀ i d, AA i (d + 1) = (AA i d && R (i * s + d)) := fun i d => by rw [hAA]; simp only [List.range_succ, List.all_append, List.all_cons, List.all_nil, Bool.and_true]
  obtain ⟨SS, hSS⟩ : ∃ SS : Nat → Nat → Bool, SS = fun i d => (List.range d).any fun e => R (i * s + e) := ⟨_, rfl⟩
  have hS0 : ∀ i, SS i 0 = false := fun i => by rw [hSS]; rfl
  have hSs : ∀ i d, SS i (d + 1) = (SS i d || R (i * s + d)) := fun i d => by rw [hSS]; simp only [List.range_succ, List.any_append, List.any_cons, List.any_nil, Bool.or_false]
  have hms : m.size.toNat = s := by rw [hs]; rfl
  have hVi : ∀ i, V i = SS i s := fun i => by
    rw [hV, hSS, hR]
    obtain ⟨a, b, c, d⟩ := f
    simp only [form_kind, form_subs] at hk hb
    subst hk
    subst hb
    rw [row_any, hms]
    rfl
  obtain ⟨A, hA⟩ : ∃ A, tabM m g (vars ++ [f.name]) = A := ⟨_, rfl⟩
  have hAl : A.length = N * s := by rw [← hA, tabM_len, hms, ← hN, hW', List.length_append, List.length_cons, List.length_nil, Nat.pow_succ]
  have hAg : ∀ x, x < N * s → A.getD x false = R x := fun x h => by
    rw [← hA, hR]
    refine tabM_get ?_
    rw [hms, List.length_append, List.length_cons, List.length_nil, Nat.pow_succ]
    rw [← hN, hW'] at h
    exact h
  have kV := Kp.mk hVi
  have kA := Kp.mk hAg
  have kA0 := Kp.mk hA0
  have kAs := Kp.mk hAs
  have kS0 := Kp.mk hS0
  have kSs := Kp.mk hSs
  clear hVi hAg hV hp hn hW' hA0 hAs hS0 hSs hAA hSS hR
  repeat' (first | refine WK_drawV hm kT.out 88000 (lsw [285, 289] [1000076]) tree76 (by kernel_rfl) (by kernel_rfl) ?_ | refine And.intro ?_ ?_ | exact True.intro | refine ReqK.i (fits_of2 (by first | omega | (simp only [List.length_map, List.length_append, List.length_cons, List.length_nil]; omega)) (by decide)) fun _ => ?_ | refine ReqK.i hga fun _ => ?_ | refine rq fun _ => ?_ | simp only [go_sem, hk, hb, hs, me, hA, Nat.lt_irrefl, hN, mkOne, rep_bools, ← hP0, tree76, List.nil_append, form_eta, str_eta, model_eta, getD_map_lt, Tryd.f88])
  refine WK_loop hm kT.out 88000 (lsw [285, 289] [1000076]) (ι := LoopM N 3 fun _ => True)
    ⟨fun q => ⟨frL [(2, .fz (.sl (vars.map enc))), (3, .rp [.i .i64 s, .sl (m.consts.map enc), .sl (m.rels.map enc)]), (4, .rp [.i .i64 f.kind, .s f.name.l, .sl (f.words.map enc), .sl (f.subs.map enc)]), (8, .arr (88043, 2) 1 0 N), (25, .fz (.sl (A.map enc))), (291, .arr (88043, 2) 1 0 N), (292, .fz (.i .i64 N)), (293, .fz (.i .i64 q.i))], hpL [((88043, 2), some ⟨flatFz ((partB V N q.i).map enc), false, false⟩)], q.m⟩, fun q => N - q.i⟩
    ⟨0, 12, by omega, by omega, trivial⟩ (by kernel_rfl) ?_ ?_
  · refine Weak_to ?_ ?_ ?_ <;> simp only [go_sem, hk, hb, hs]
    all_goals first | done | rfl | omega | trace_state
  rintro ⟨i, n, hi, hn, _⟩
  try simp only at hi hn
  rcases Nat.lt_or_ge i N with h1 | h1
  rotate_left
  · obtain rfl : i = N := by omega
    repeat' (first | refine rq fun _ => ?_ | simp only [go_sem, Nat.lt_irrefl, hpl, Tryd.f88])
    exact ⟨(88043, 2), by simp only; omega, rfl, by simp only [go_sem]⟩
  have hset : ∀ v, V i = v → (flatFz ((partB V N i).map enc)).set i (.fz (.b v)) = flatFz ((partB V N (i + 1)).map enc) := fun v hv => by
    rw [← partB_set h1, ← flat_set, hv]; rfl
  have hv := kV.out i
  have a0 := kA0.out i
  have s0 := kS0.out i
  repeat' (first | refine rq fun _ => ?_ | simp only [go_sem, h1, hs, hk, hb, Tryd.f88])
  refine WK_loop hm kT.out 88000 (lsw [285, 289] [1000076]) (ι := LoopM s 3 fun _ => True)
    ⟨fun q => ⟨frL [(2, .fz (.sl (vars.map enc))), (3, .rp [.i .i64 s, .sl (m.consts.map enc), .sl (m.rels.map enc)]), (4, .rp [.i .i64 f.kind, .s f.name.l, .sl (f.words.map enc), .sl (f.subs.map enc)]), (8, .arr (88043, 2) 1 0 N), (25, .fz (.sl (A.map enc))), (26, .fz (.i .i64 i)), (27, .fz (.b (AA i q.i))), (28, .fz (.b (SS i q.i))), (29, .fz (.i .i64 q.i)), (291, .arr (88043, 2) 1 0 N), (292, .fz (.i .i64 N)), (293, .fz (.i .i64 i))], hpL [((88043, 2), some ⟨flatFz ((partB V N i).map enc), false, false⟩)], q.m⟩, fun q => s - q.i⟩
    ⟨0, n, by omega, by omega, trivial⟩ (by kernel_rfl) ?_ ?_
  · refine Weak_to ?_ ?_ ?_ <;> simp only [go_sem, hk, hb, hs, a0, s0]
    all_goals first | done | rfl | omega | trace_state
  rintro ⟨d, n2, hd, hn2, _⟩
  try simp only at hd hn2
  rcases Nat.lt_or_ge d s with h2 | h2
  · have aas := kAs.out i d
    have ss := kSs.out i d
    obtain ⟨y, hy⟩ : ∃ y, i * s = y := ⟨_, rfl⟩
    have hyl : y + s ≤ N * s := by rw [← hy]; have := Nat.mul_le_mul_right s (show i + 1 ≤ N by omega); rw [Nat.add_mul, Nat.one_mul] at this; exact this
    have hNs : N * s ≤ 279936 := Nat.le_trans (Nat.mul_le_mul hNl hs6) (by decide)
    have hiy : (i : Int) * (s : Int) = (y : Int) := by rw [← hy]; simp
    rw [hy] at aas ss
    obtain ⟨x, hx⟩ : ∃ x, y + d = x := ⟨_, rfl⟩
    have hix : (y : Int) + (d : Int) = (x : Int) := by omega
    have hxl : x < A.length := by omega
    have hxg := kA.out x (by omega)
    have hgd := getD_bool hxl
    rw [hxg] at hgd
    rw [hx] at aas ss
    obtain ⟨r, hr⟩ : ∃ r, R x = r := ⟨_, rfl⟩
    rw [hr] at aas ss hgd
    obtain ⟨P, hP⟩ : ∃ P, AA i d = P := ⟨_, rfl⟩
    obtain ⟨Q, hQ⟩ : ∃ Q, SS i d = Q := ⟨_, rfl⟩
    rw [hP] at aas
    rw [hQ] at ss
    cases P <;> cases Q <;> cases r
    all_goals
      simp only [Bool.and_true, Bool.and_false, Bool.true_and, Bool.false_and, Bool.or_true, Bool.or_false, Bool.true_or, Bool.false_or] at aas ss
      repeat' (first | refine ReqK.i (by rw [hgd]; rfl) fun _ => ?_ | refine rq fun _ => ?_ | simp only [go_sem, h2, hs, hP, hQ, hiy, hix, hgd, hxl, Tryd.f88])
      refine ⟨⟨d + 1, n2, by omega, by omega, trivial⟩, by simp only; omega, ?_⟩
      refine Weak_to ?_ ?_ ?_ <;> simp only [go_sem, aas, ss, hk, hb, hs]
      all_goals first | done | rfl | omega | trace_state
  obtain rfl : d = s := by omega
  obtain ⟨P, hP⟩ : ∃ P, AA i d = P := ⟨_, rfl⟩
  obtain ⟨Q, hQ⟩ : ∃ Q, SS i d = Q := ⟨_, rfl⟩
  rw [hQ] at hv
  have hset := hset _ hv
  cases P <;> cases Q
  all_goals
    repeat' (first | refine rq fun _ => ?_ | simp only [go_sem, Nat.lt_irrefl, hpl, hs, hk, hP, hQ, h1, Tryd.f88])
    refine ⟨⟨i + 1, n2, by omega, by omega, trivial⟩, by simp only; omega, ?_⟩
    refine Weak_to ?_ ?_ ?_ <;> simp only [go_sem, hset, hk, hb, hs]
    all_goals first | done | rfl | omega | trace_state
end
end Go.Proofs.YtbbjghecpcobjaaDoor
