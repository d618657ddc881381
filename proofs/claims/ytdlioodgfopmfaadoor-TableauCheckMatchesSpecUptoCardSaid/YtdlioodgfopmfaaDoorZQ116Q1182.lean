/- several texts of this proof in one; no conditions -/
import Derived.Test.YtdlioodgfopmfaaDoorAT
import Derived.Test.YtdlioodgfopmfaaDoorY3
import Derived.Test.YtdlioodgfopmfaaDoorZQ33Q341
import Derived.Test.YtdlioodgfopmfaaDoorTK
set_option linter.unusedSimpArgs false
namespace Go.Proofs.YtdlioodgfopmfaaDoor
open Go Go.Abs Go.Proofs

/-! ## the document's tableaux: small functions -/
structure clB (f : Abs.Form) : Prop where
  b : brF f
  c : clean f
theorem clB.sub {f g : Abs.Form} (h : clB f) (hg : g ∈ f.subs) : clB g := ⟨h.b.sub hg, by
  have hc := h.c
  obtain ⟨k, nm, ws, s⟩ := f
  rw [clean] at hc
  exact (cleans_mem s).1 hc.2 g hg⟩
theorem cl_one {f : Abs.Form} (h : clB f) (hk : f.kind = 4 ∨ f.kind = 8 ∨ f.kind = 9) : ∃ a, f.subs = [a] ∧ sub0 f = a ∧ clB a := by
  obtain ⟨a, ha, s0, _⟩ := br_one h.b hk
  exact ⟨a, ha, s0, h.sub (by rw [ha]; simp)⟩
theorem cl_two {f : Abs.Form} (h : clB f) (hk : f.kind = 5 ∨ f.kind = 6 ∨ f.kind = 7) : ∃ a b, f.subs = [a, b] ∧ sub0 f = a ∧ sub1 f = b ∧ clB a ∧ clB b := by
  obtain ⟨a, b, ha, s0, s1, _⟩ := br_two h.b hk
  exact ⟨a, b, ha, s0, s1, h.sub (by rw [ha]; simp), h.sub (by rw [ha]; simp)⟩
theorem clean_not {f : Abs.Form} (h : clean f) : clean (notF f) := by
  unfold notF
  rw [clean, cleans, cleans]
  exact ⟨by simp, h, trivial⟩
theorem wth_cnn {f : Abs.Form} (h : clean f) : wthM f [] = cnn f := (canon_with h (by simp) (by simp)).symm
def O1 : Tbl := R11.add 31 (sp1 ngg fun f => clB f)
attribute [go_sem] O1
set_option maxRecDepth 100000 in
set_option maxHeartbeats 1000000 in
theorem hO1 : TblOk Tryd.prog GA O1 := by
  refine sp1_ok ok31 hR11 fun f hp _ => ?_
  have hs := hp.b.s
  have hp2 : (notF f).fit = true ∧ (notF f).size ≤ 1000 := ⟨by simp [notF, Form.fit, Form.fits, hp.b.ft], by simp only [notF, Form.size, Form.sizes]; omega⟩
  have dN : Abs.Form.mk 4 ⟨[]⟩ [] [f] = notF f := rfl
  have nk : (notF f).kind = 4 := rfl
  have nn : (notF f).name.l = [] := rfl
  have nw : (notF f).words = [] := rfl
  have ns : (notF f).subs = [f] := rfl
  have e : wthM (notF f) [] = ngg f := wth_cnn (clean_not hp.c)
  obtain ⟨R, hR⟩ : ∃ R, ngg f = R := ⟨_, rfl⟩
  rw [hR] at e
  rw [hR]
  refine Wcall_K (N := 7) hm hR11 31000 (lst []) ok31 Tryd.func31 rfl rfl (by simp) (by kernel_rfl) ?_
  repeat' (first | refine ReqK.i ⟨rfl, hp2⟩ fun _ => ?_ | refine ReqK.i hp2 fun _ => ?_ | refine And.intro ?_ ?_ | exact True.intro | refine rq fun _ => ?_ | simp only [go_sem, dN, e, nk, nn, nw, ns, form_eta, Tryd.f31])
def qfS (ax : List Abs.Form) (g : Abs.Form) : Fault := if 40 < ax.length then ⟨2, -1⟩ else if (badA ax 0).code ≠ 0 then badA ax 0 else if (checkM false g).code ≠ 0 then ⟨(checkM false g).code, -2⟩ else ⟨0, 0⟩
theorem qfS_begin (ax : List Abs.Form) (g : Abs.Form) : (beginP ax g).2 = qfS ax g := by
  unfold beginP qfS
  split
  · rfl
  split
  · rfl
  split
  · rfl
  · rfl
def O2 : Tbl := O1.add 9 (sp2 qfS fun _ _ => True)
attribute [go_sem] O2
set_option maxRecDepth 100000 in
set_option maxHeartbeats 1000000 in
set_option maxHeartbeats 4000000 in
theorem hO2 : TblOk Tryd.prog GA O2 := by
  refine sp2_ok ok9 hO1 fun ax g _ hwa _ => ?_
  have hsl : ax.length ≤ maxL := by
    have := Wf_sl hwa
    simpa using this
  unfold maxL at hsl
  clear hwa
  by_cases h40 : 40 < ax.length
  · have e : qfS ax g = ⟨2, -1⟩ := by unfold qfS; rw [if_pos h40]
    have h40' : ((40 : Int) < ax.length) = True := eq_true (by omega)
    rw [e]
    refine Wcall_K (N := 39) hm hO1 9000 (lst []) ok9 Tryd.func9 rfl rfl (by simp) (by kernel_rfl) ?_
    repeat' (first | refine And.intro ?_ ?_ | exact True.intro | refine rq fun _ => ?_ | simp only [go_sem, h40', form_eta, Tryd.f9])
  have h40' : ((40 : Int) < ax.length) = False := eq_false (by omega)
  refine Wcall_K (N := 39) hm hO1 9000 (lst []) ok9 Tryd.func9 rfl rfl (by simp) (by kernel_rfl) ?_
  repeat' (first | refine And.intro ?_ ?_ | exact True.intro | refine rq fun _ => ?_ | simp only [go_sem, h40', form_eta, Tryd.f9])
  refine WK_loop hm hO1 9000 (lst []) (ι := LoopM ax.length 2 fun i => ∀ f ∈ ax.take i, (checkM false f).code = 0)
    ⟨fun q => ⟨frL [(0, .fz (.sl (ax.map enc))), (3, .ptr (9003, 0) 0), (4, .ptr (9004, 1) 0), (13, .fz (.i .i64 ax.length)), (14, .fz (.i .i64 q.i))],
      hpL [((9003, 0), some ⟨[.fz (.i .i64 g.kind), .fz (.s g.name.l), .fz (.sl (g.words.map enc)), .fz (.sl (g.subs.map enc))], true, false⟩), ((9004, 1), some ⟨[.fz (.i .i64 0), .fz (.i .i64 0)], true, false⟩)], q.m⟩, fun q => ax.length - q.i⟩
    ⟨0, 2, by omega, by omega, by simp⟩ (by kernel_rfl) ?_ ?_
  · refine Weak_to ?_ ?_ ?_ <;> simp only [go_sem]
    all_goals first | done | rfl | omega | trace_state
  rintro ⟨i, m, hi, hm1, hp⟩
  try simp only at hi hm1 hp
  rcases Nat.lt_or_ge i ax.length with h1 | h1
  · obtain ⟨x, hx⟩ : ∃ x, ax[i] = x := ⟨_, rfl⟩
    by_cases hc : (checkM false x).code = 0
    rotate_left
    · have eb := badA_step ax 0 i h1 hp (by rw [hx]; exact hc)
      rw [hx, Nat.zero_add] at eb
      have e : qfS ax g = ⟨(checkM false x).code, (i : Int)⟩ := by unfold qfS; rw [if_neg h40, eb, if_pos hc]
      rw [e]
      obtain ⟨X, hX⟩ : ∃ X, checkM false x = X := ⟨_, rfl⟩
      rw [hX] at hc
      rw [hX]
      repeat' (first | refine And.intro ?_ ?_ | exact True.intro | refine rq fun _ => ?_ | simp only [go_sem, h1, hx, hX, hc, getD_map_lt, form_eta, Tryd.f9])
    · have hcz := checkM_code hc
      repeat' (first | refine And.intro ?_ ?_ | exact True.intro | refine rq fun _ => ?_ | simp only [go_sem, h1, hx, hcz, getD_map_lt, form_eta, Tryd.f9])
      refine ⟨⟨i + 1, m + 1, by omega, by omega, ?_⟩, by simp only; omega, ?_⟩
      · rw [List.take_succ_eq_append_getElem h1, hx]
        intro f hf
        rcases List.mem_append.1 hf with hf | hf
        · exact hp f hf
        · rw [List.mem_singleton.1 hf]; exact hc
      refine Weak_to ?_ ?_ ?_ <;> simp only [go_sem]
      all_goals first | done | rfl | omega | trace_state
  · obtain rfl : i = ax.length := by omega
    rw [List.take_length] at hp
    have eb := badA_zero ax 0 hp
    by_cases hc : (checkM false g).code = 0
    rotate_left
    · have e : qfS ax g = ⟨(checkM false g).code, -2⟩ := by unfold qfS; rw [if_neg h40, eb, if_neg (by decide), if_pos hc]
      rw [e]
      obtain ⟨X, hX⟩ : ∃ X, checkM false g = X := ⟨_, rfl⟩
      rw [hX] at hc
      rw [hX]
      repeat' (first | refine And.intro ?_ ?_ | exact True.intro | refine rq fun _ => ?_ | simp only [go_sem, Nat.lt_irrefl, hX, hc, form_eta, Tryd.f9])
    · have hcz := checkM_code hc
      have e : qfS ax g = ⟨0, 0⟩ := by unfold qfS; rw [if_neg h40, eb, if_neg (by decide), if_neg (by simp [hc])]
      rw [e]
      repeat' (first | refine And.intro ?_ ?_ | exact True.intro | refine rq fun _ => ?_ | simp only [go_sem, Nat.lt_irrefl, hcz, form_eta, Tryd.f9])
def firstR (ax : List Abs.Form) (g : Abs.Form) : List Abs.Form := canL ax ++ [ngg g]
def O3 : Tbl := O2.add 12 (sp2 firstR fun ax g => (∀ f ∈ ax, clB f) ∧ clB g ∧ ax.length ≤ 1000)
attribute [go_sem] O3
set_option maxRecDepth 100000 in
set_option maxHeartbeats 1000000 in
theorem hO3 : TblOk Tryd.prog GA O3 := by
  refine sp2_ok ok12 hO2 fun ax g hp _ _ => ?_
  obtain ⟨hax, hg, hsl⟩ := hp
  have kb := Kp.mk hax
  clear hax
  refine Wcall_K (N := 26) hm hO2 12000 (lsw [19, 25] []) ok12 Tryd.func12 rfl rfl (by simp) (by kernel_rfl) ?_
  repeat' (first | refine And.intro ?_ ?_ | exact True.intro | refine rq fun _ => ?_ | simp only [go_sem, form_eta, Tryd.f12])
  refine WK_loop hm hO2 12000 (lsw [19, 25] []) (ι := LoopG ax.length 2 fun _ => True)
    ⟨fun q => ⟨frL [(0, .fz (.sl (ax.map enc))), (3, .ptr (12003, 0) 0), (5, .ow (12019, q.g) 4 ((canL (ax.take q.i)).map enc)), (8, .fz (.i .i64 ax.length)), (9, .fz (.i .i64 q.i))],
      hpL [((12003, 0), some ⟨[.fz (.i .i64 g.kind), .fz (.s g.name.l), .fz (.sl (g.words.map enc)), .fz (.sl (g.subs.map enc))], true, false⟩), ((12019, q.g), some tok)], q.m⟩, fun q => ax.length - q.i⟩
    ⟨0, 1, 2, by omega, by omega, by omega, trivial⟩ (by kernel_rfl) ?_ ?_
  · refine Weak_g [] [(12019, 1)] [] ?_ ?_ ?_ ?_ ?_ <;> simp only [go_sem]
    all_goals first | done | rfl | omega | trace_state
  rintro ⟨i, gg, m, hi, hgm, hm1, _⟩
  try simp only at hi hgm hm1
  rcases Nat.lt_or_ge i ax.length with h1 | h1
  · obtain ⟨x, hx⟩ : ∃ x, ax[i] = x := ⟨_, rfl⟩
    have hxb : clB x := kb.out x (by rw [← hx]; exact List.getElem_mem h1)
    have hcp : x.fit = true ∧ x.size ≤ 1000 := ⟨hxb.b.ft, by have := hxb.b.s; omega⟩
    have ex : wthM x [] = canonM x [] := wth_cnn hxb.c
    have et : canL (ax.take (i + 1)) = canL (ax.take i) ++ [canonM x []] := by
      unfold canL
      rw [List.take_succ_eq_append_getElem h1, List.map_append, hx]; rfl
    have hlt : (canL (ax.take i)).length = i := by rw [canL_len, List.length_take]; omega
    repeat' (first | refine ReqK.i hcp fun _ => ?_ | refine ReqK.i (fits_of2 (by first | omega | (simp only [List.length_map, List.length_take, List.length_append, List.length_cons, List.length_nil]; omega)) (by decide)) fun _ => ?_ | refine And.intro ?_ ?_ | exact True.intro | refine rq fun _ => ?_ | simp only [go_sem, h1, hx, ex, getD_map_lt, form_eta, Tryd.f12])
    refine ⟨⟨i + 1, m, m + 1, by omega, by omega, by omega, trivial⟩, by simp only; omega, ?_⟩
    refine Weak_to ?_ ?_ ?_ <;> simp only [go_sem, et, List.map_append]
    all_goals first | done | rfl | omega | trace_state
  · obtain rfl : i = ax.length := by omega
    obtain ⟨R, hR⟩ : ∃ R, ngg g = R := ⟨_, rfl⟩
    have hlt : (canL ax).length = ax.length := canL_len ax
    unfold firstR
    rw [hR]
    repeat' (first | refine ReqK.i hg fun _ => ?_ | refine ReqK.i (fits_of2 (by first | omega | (simp only [List.length_map, List.length_take, List.length_append, List.length_cons, List.length_nil]; omega)) (by decide)) fun _ => ?_ | refine And.intro ?_ ?_ | exact True.intro | refine rq fun _ => ?_ | simp only [go_sem, Nat.lt_irrefl, List.take_length, hR, form_eta, List.map_append, Tryd.f12])
end Go.Proofs.YtdlioodgfopmfaaDoor

namespace Go.Proofs.YtdlioodgfopmfaaDoor
open Go Go.Abs Go.Proofs

/-! ## the document's tableaux: of which kind, pieces, instances -/
def sortM (f : Abs.Form) : Int := (partsM f).1
def O4 : Tbl := O3.add 24 (sp1 sortM brF)
attribute [go_sem] O4
set_option maxRecDepth 100000 in
set_option maxHeartbeats 1000000 in
set_option maxHeartbeats 4000000 in
theorem hO4 : TblOk Tryd.prog GA O4 := by
  refine sp1_ok ok24 hO3 fun f hbr _ => ?_
  have hkb := vok_eq.1 hbr.v
  have hk1 := hkb.1
  have hk2 := hkb.2.1
  clear hkb
  by_cases k4 : f.kind = 4
  · obtain ⟨g, hg, s0, hbg⟩ := br_one hbr (.inl k4)
    have hgk := vok_eq.1 hbg.v
    have hg1 := hgk.1
    have hg2 := hgk.2.1
    clear hgk
    have hcase : g.kind = 1 ∨ g.kind = 2 ∨ g.kind = 3 ∨ g.kind = 4 ∨ g.kind = 5 ∨ g.kind = 6 ∨ g.kind = 7 ∨ g.kind = 8 ∨ g.kind = 9 := by omega
    rcases hcase with j | j | j | j | j | j | j | j | j
    · have e : sortM f = 0 := by unfold sortM partsM; rw [s0, k4, j]; rfl
      rw [e]
      refine Wcall_K (N := 19) hm hO3 24000 (lst []) ok24 Tryd.func24 rfl rfl (by simp) (by kernel_rfl) ?_
      repeat' (first | refine And.intro ?_ ?_ | exact True.intro | refine rq fun _ => ?_ | simp only [go_sem, k4, hg, j, getD_map_lt, form_eta, Tryd.f24])
    · have e : sortM f = 0 := by unfold sortM partsM; rw [s0, k4, j]; rfl
      rw [e]
      refine Wcall_K (N := 19) hm hO3 24000 (lst []) ok24 Tryd.func24 rfl rfl (by simp) (by kernel_rfl) ?_
      repeat' (first | refine And.intro ?_ ?_ | exact True.intro | refine rq fun _ => ?_ | simp only [go_sem, k4, hg, j, getD_map_lt, form_eta, Tryd.f24])
    · have e : sortM f = 0 := by unfold sortM partsM; rw [s0, k4, j]; rfl
      rw [e]
      refine Wcall_K (N := 19) hm hO3 24000 (lst []) ok24 Tryd.func24 rfl rfl (by simp) (by kernel_rfl) ?_
      repeat' (first | refine And.intro ?_ ?_ | exact True.intro | refine rq fun _ => ?_ | simp only [go_sem, k4, hg, j, getD_map_lt, form_eta, Tryd.f24])
    · have e : sortM f = 1 := by unfold sortM partsM; rw [s0, k4, j]; rfl
      rw [e]
      refine Wcall_K (N := 19) hm hO3 24000 (lst []) ok24 Tryd.func24 rfl rfl (by simp) (by kernel_rfl) ?_
      repeat' (first | refine And.intro ?_ ?_ | exact True.intro | refine rq fun _ => ?_ | simp only [go_sem, k4, hg, j, getD_map_lt, form_eta, Tryd.f24])
    · have e : sortM f = 2 := by unfold sortM partsM; rw [s0, k4, j]; rfl
      rw [e]
      refine Wcall_K (N := 19) hm hO3 24000 (lst []) ok24 Tryd.func24 rfl rfl (by simp) (by kernel_rfl) ?_
      repeat' (first | refine And.intro ?_ ?_ | exact True.intro | refine rq fun _ => ?_ | simp only [go_sem, k4, hg, j, getD_map_lt, form_eta, Tryd.f24])
    · have e : sortM f = 1 := by unfold sortM partsM; rw [s0, k4, j]; rfl
      rw [e]
      refine Wcall_K (N := 19) hm hO3 24000 (lst []) ok24 Tryd.func24 rfl rfl (by simp) (by kernel_rfl) ?_
      repeat' (first | refine And.intro ?_ ?_ | exact True.intro | refine rq fun _ => ?_ | simp only [go_sem, k4, hg, j, getD_map_lt, form_eta, Tryd.f24])
    · have e : sortM f = 1 := by unfold sortM partsM; rw [s0, k4, j]; rfl
      rw [e]
      refine Wcall_K (N := 19) hm hO3 24000 (lst []) ok24 Tryd.func24 rfl rfl (by simp) (by kernel_rfl) ?_
      repeat' (first | refine And.intro ?_ ?_ | exact True.intro | refine rq fun _ => ?_ | simp only [go_sem, k4, hg, j, getD_map_lt, form_eta, Tryd.f24])
    · have e : sortM f = 4 := by unfold sortM partsM; rw [s0, k4, j]; rfl
      rw [e]
      refine Wcall_K (N := 19) hm hO3 24000 (lst []) ok24 Tryd.func24 rfl rfl (by simp) (by kernel_rfl) ?_
      repeat' (first | refine And.intro ?_ ?_ | exact True.intro | refine rq fun _ => ?_ | simp only [go_sem, k4, hg, j, getD_map_lt, form_eta, Tryd.f24])
    · have e : sortM f = 3 := by unfold sortM partsM; rw [s0, k4, j]; rfl
      rw [e]
      refine Wcall_K (N := 19) hm hO3 24000 (lst []) ok24 Tryd.func24 rfl rfl (by simp) (by kernel_rfl) ?_
      repeat' (first | refine And.intro ?_ ?_ | exact True.intro | refine rq fun _ => ?_ | simp only [go_sem, k4, hg, j, getD_map_lt, form_eta, Tryd.f24])
  have hcase : f.kind = 1 ∨ f.kind = 2 ∨ f.kind = 3 ∨ f.kind = 5 ∨ f.kind = 6 ∨ f.kind = 7 ∨ f.kind = 8 ∨ f.kind = 9 := by omega
  rcases hcase with j | j | j | j | j | j | j | j
  · have e : sortM f = 0 := by unfold sortM partsM; rw [j]; rfl
    rw [e]
    refine Wcall_K (N := 19) hm hO3 24000 (lst []) ok24 Tryd.func24 rfl rfl (by simp) (by kernel_rfl) ?_
    repeat' (first | refine And.intro ?_ ?_ | exact True.intro | refine rq fun _ => ?_ | simp only [go_sem, j, getD_map_lt, form_eta, Tryd.f24])
  · have e : sortM f = 0 := by unfold sortM partsM; rw [j]; rfl
    rw [e]
    refine Wcall_K (N := 19) hm hO3 24000 (lst []) ok24 Tryd.func24 rfl rfl (by simp) (by kernel_rfl) ?_
    repeat' (first | refine And.intro ?_ ?_ | exact True.intro | refine rq fun _ => ?_ | simp only [go_sem, j, getD_map_lt, form_eta, Tryd.f24])
  · have e : sortM f = 0 := by unfold sortM partsM; rw [j]; rfl
    rw [e]
    refine Wcall_K (N := 19) hm hO3 24000 (lst []) ok24 Tryd.func24 rfl rfl (by simp) (by kernel_rfl) ?_
    repeat' (first | refine And.intro ?_ ?_ | exact True.intro | refine rq fun _ => ?_ | simp only [go_sem, j, getD_map_lt, form_eta, Tryd.f24])
  · have e : sortM f = 1 := by unfold sortM partsM; rw [j]; rfl
    rw [e]
    refine Wcall_K (N := 19) hm hO3 24000 (lst []) ok24 Tryd.func24 rfl rfl (by simp) (by kernel_rfl) ?_
    repeat' (first | refine And.intro ?_ ?_ | exact True.intro | refine rq fun _ => ?_ | simp only [go_sem, j, getD_map_lt, form_eta, Tryd.f24])
  · have e : sortM f = 2 := by unfold sortM partsM; rw [j]; rfl
    rw [e]
    refine Wcall_K (N := 19) hm hO3 24000 (lst []) ok24 Tryd.func24 rfl rfl (by simp) (by kernel_rfl) ?_
    repeat' (first | refine And.intro ?_ ?_ | exact True.intro | refine rq fun _ => ?_ | simp only [go_sem, j, getD_map_lt, form_eta, Tryd.f24])
  · have e : sortM f = 2 := by unfold sortM partsM; rw [j]; rfl
    rw [e]
    refine Wcall_K (N := 19) hm hO3 24000 (lst []) ok24 Tryd.func24 rfl rfl (by simp) (by kernel_rfl) ?_
    repeat' (first | refine And.intro ?_ ?_ | exact True.intro | refine rq fun _ => ?_ | simp only [go_sem, j, getD_map_lt, form_eta, Tryd.f24])
  · have e : sortM f = 3 := by unfold sortM partsM; rw [j]; rfl
    rw [e]
    refine Wcall_K (N := 19) hm hO3 24000 (lst []) ok24 Tryd.func24 rfl rfl (by simp) (by kernel_rfl) ?_
    repeat' (first | refine And.intro ?_ ?_ | exact True.intro | refine rq fun _ => ?_ | simp only [go_sem, j, getD_map_lt, form_eta, Tryd.f24])
  · have e : sortM f = 4 := by unfold sortM partsM; rw [j]; rfl
    rw [e]
    refine Wcall_K (N := 19) hm hO3 24000 (lst []) ok24 Tryd.func24 rfl rfl (by simp) (by kernel_rfl) ?_
    repeat' (first | refine And.intro ?_ ?_ | exact True.intro | refine rq fun _ => ?_ | simp only [go_sem, j, getD_map_lt, form_eta, Tryd.f24])
def insPre (f : Abs.Form) (name : Str) : Prop := (∃ a, f.subs = [a] ∧ clB a) ∧ ¬ bang name
def treeIn : Tv := (.q 0 (.q 1 (.q 2 (.q 3 (.q 4 (.q 5 (.q 6 (.q 7 (.q 8 (.q 9 (.br [(10, .leaf)])))))))))))
def O5 : Tbl := O4.add 58 (sp2 bodyG insPre)
attribute [go_sem] O5
set_option maxRecDepth 100000 in
set_option maxHeartbeats 1000000 in
theorem hO5 : TblOk Tryd.prog GA O5 := by
  refine sp2_ok ok58 hO4 fun f name hp _ _ => ?_
  obtain ⟨⟨a, ha, hca⟩, hnb⟩ := hp
  have e : bodyG f name = canonM a [⟨f.name, name⟩] := by unfold bodyG sub0; rw [ha]; rfl
  have e2 : wthM a [⟨f.name, name⟩] = canonM a [⟨f.name, name⟩] := (canon_with hca.c (by simp) (fun b hb => by rw [List.mem_singleton.1 hb]; exact hnb)).symm
  have zW : List.zipWith Abs.Bind.mk [f.name] [name] = [⟨f.name, name⟩] := rfl
  have hw : wthPre a [f.name] [name] := ⟨hca.b.ft, by have := hca.b.s; omega, rfl, by simp⟩
  rw [e]
  obtain ⟨R, hR⟩ : ∃ R, canonM a [⟨f.name, name⟩] = R := ⟨_, rfl⟩
  rw [hR] at e2
  rw [hR]
  refine Wcall_K (N := 15) hm hO4 58000 (lst [1000001]) ok58 Tryd.func58 rfl rfl (by simp) (by kernel_rfl) ?_
  repeat' (first | refine ReqK.i hw fun _ => ?_ | refine ReqK.i ⟨rfl, rfl, hw⟩ fun _ => ?_ | refine ReqK.i ⟨rfl, hw⟩ fun _ => ?_ | refine WK_drawV (id := 1) hm hO4 58000 (lst [1000001]) treeIn (by kernel_rfl) (by kernel_rfl) ?_ | refine And.intro ?_ ?_ | exact True.intro | refine rq fun _ => ?_ | simp only [go_sem, ha, zW, e2, str_eta, form_eta, dec_sl_cons, dec_sl_nil, treeIn, Tryd.f58])
  all_goals trace_state
def forG (f : Abs.Form) (name : Str) : Abs.Form := instG (partsM f).2.2.1 (partsM f).2.2.2 name
def forPre (f : Abs.Form) (name : Str) : Prop := clB f ∧ (sortM f = 3 ∨ sortM f = 4) ∧ isName name = true
theorem clB.inst {a : Abs.Form} {x nm : Str} (h : clB a) (hn : ¬ bang nm) : clB (canonM a [⟨x, nm⟩]) := ⟨h.b.cn, canonM_clean h.c fun b hb => by rw [List.mem_singleton.1 hb]; exact hn⟩
theorem sort_gd {f : Abs.Form} (h : brF f) (hs : sortM f = 3 ∨ sortM f = 4) : f.kind = 8 ∨ f.kind = 9 ∨ (f.kind = 4 ∧ ((sub0 f).kind = 8 ∨ (sub0 f).kind = 9)) := by
  unfold sortM partsM at hs
  have hkb := vok_eq.1 h.v
  by_cases k8 : f.kind = 8
  · exact .inl k8
  by_cases k9 : f.kind = 9
  · exact .inr (.inl k9)
  refine .inr (.inr ?_)
  by_cases k4 : f.kind = 4
  · refine ⟨k4, ?_⟩
    by_cases j8 : (sub0 f).kind = 8
    · exact .inl j8
    by_cases j9 : (sub0 f).kind = 9
    · exact .inr j9
    exfalso
    simp only [k4, j8, j9, if_false, if_true, show ¬ ((4 : Int) = 5) by decide, show ¬ ((4 : Int) = 6) by decide, show ¬ ((4 : Int) = 7) by decide, show ¬ ((4 : Int) = 8) by decide, show ¬ ((4 : Int) = 9) by decide] at hs
    split at hs <;> (try split at hs) <;> (try split at hs) <;> (try split at hs) <;> simp at hs
  · exfalso
    simp only [k4, k8, k9, if_false] at hs
    split at hs <;> (try split at hs) <;> (try split at hs) <;> simp at hs
def O6 : Tbl := O5.add 29 (sp2 forG forPre)
attribute [go_sem] O6
set_option maxRecDepth 100000 in
set_option maxHeartbeats 1000000 in
theorem hO6 : TblOk Tryd.prog GA O6 := by
  refine sp2_ok ok29 hO5 fun f name hp _ _ => ?_
  obtain ⟨hcb, hso, hnm⟩ := hp
  have hnb : ¬ bang name := name_bang hnm
  have hq := sort_gd hcb.b hso
  by_cases k4 : f.kind = 4
  · obtain ⟨q, hq0, s0, hcq⟩ := cl_one hcb (.inl k4)
    have hqk : q.kind = 8 ∨ q.kind = 9 := by rw [s0] at hq; omega
    obtain ⟨a, ha, t0, hca⟩ := cl_one hcq (by omega)
    have hz := size_one hq0
    have hz2 := size_one ha
    have hfs := hcb.b.s
    have e : forG f name = ngg (bodyG q name) := by
      unfold forG partsM
      rw [s0]
      rcases hqk with j | j <;> (rw [k4, j]; rfl)
    have hip : insPre q name := ⟨⟨a, ha, hca⟩, hnb⟩
    have eb : bodyG q name = canonM a [⟨q.name, name⟩] := by unfold bodyG sub0; rw [ha]; rfl
    have hcb2 : clB (bodyG q name) := by rw [eb]; exact hca.inst hnb
    obtain ⟨B, hB⟩ : ∃ B, bodyG q name = B := ⟨_, rfl⟩
    rw [hB] at e hcb2
    obtain ⟨R, hR⟩ : ∃ R, ngg B = R := ⟨_, rfl⟩
    rw [e, hR]
    refine Wcall_K (N := 18) hm hO5 29000 (lst []) ok29 Tryd.func29 rfl rfl (by simp) (by kernel_rfl) ?_
    repeat' (first | refine ReqK.i hip fun _ => ?_ | refine ReqK.i hcb2 fun _ => ?_ | refine And.intro ?_ ?_ | exact True.intro | refine rq fun _ => ?_ | simp only [go_sem, k4, hq0, hB, hR, str_eta, form_eta, Tryd.f29])
  · have hqk : f.kind = 8 ∨ f.kind = 9 := by omega
    obtain ⟨a, ha, t0, hca⟩ := cl_one hcb (by omega)
    have e : forG f name = bodyG f name := by
      unfold forG partsM
      rcases hqk with j | j <;> (rw [j]; rfl)
    have hip : insPre f name := ⟨⟨a, ha, hca⟩, hnb⟩
    obtain ⟨B, hB⟩ : ∃ B, bodyG f name = B := ⟨_, rfl⟩
    rw [e, hB]
    refine Wcall_K (N := 18) hm hO5 29000 (lst []) ok29 Tryd.func29 rfl rfl (by simp) (by kernel_rfl) ?_
    repeat' (first | refine ReqK.i hip fun _ => ?_ | refine And.intro ?_ ?_ | exact True.intro | refine rq fun _ => ?_ | simp only [go_sem, k4, hB, str_eta, form_eta, Tryd.f29])
end Go.Proofs.YtdlioodgfopmfaaDoor

namespace Go.Proofs.YtdlioodgfopmfaaDoor
open Go Go.Abs Go.Proofs

/-! ## the document's tableaux: pieces -/
def piecesG (f : Abs.Form) : List Abs.Form := (partsM f).2.1
def treeZ2 : Tv := (.q 0 (.q 1 (.q 2 (.q 3 (.q 4 (.q 5 (.q 6 (.q 7 (.q 8 (.q 9 (.q 10 (.q 11 .leaf))))))))))))
def treeZ4 : Tv := (.q 0 (.q 1 (.q 2 (.q 3 (.q 4 (.q 5 (.q 6 (.q 7 (.q 8 (.q 9 (.q 10 (.q 11 .leaf))))))))))))
def treeZ9 : Tv := (.q 0 (.q 1 (.q 2 (.q 3 (.q 4 (.q 5 (.q 6 (.q 7 (.q 8 (.q 9 (.q 10 (.q 11 .leaf))))))))))))
def treeZ10 : Tv := (.q 0 (.q 1 (.q 2 (.q 3 (.q 4 (.q 5 (.q 6 (.q 7 (.q 8 (.q 9 (.q 10 (.q 11 .leaf))))))))))))
theorem cnS {a : Abs.Form} (h : clB a) : a.fit = true ∧ a.size ≤ 1000 := ⟨h.b.ft, by have := h.b.s; omega⟩
def O7 : Tbl := O6.add 25 (sp1 piecesG fun f => clB f ∧ (sortM f = 1 ∨ sortM f = 2))
attribute [go_sem] O7
set_option maxRecDepth 100000 in
set_option maxHeartbeats 1000000 in
set_option maxHeartbeats 8000000 in
theorem hO7 : TblOk Tryd.prog GA O7 := by
  refine sp1_ok ok25 hO6 fun f hp _ => ?_
  obtain ⟨hcb, hso⟩ := hp
  have hkb := vok_eq.1 hcb.b.v
  have hk1 := hkb.1
  have hk2 := hkb.2.1
  clear hkb
  by_cases k5 : f.kind = 5
  · obtain ⟨a, b, hab, s0, s1, ha, hb⟩ := cl_two hcb (by omega)
    have pa := cnS ha
    have pb := cnS hb
    have ea : wthM a [] = canonM a [] := wth_cnn ha.c
    have eb : wthM b [] = canonM b [] := wth_cnn hb.c
    obtain ⟨A, hA⟩ : ∃ A, canonM a [] = A := ⟨_, rfl⟩
    obtain ⟨B, hB⟩ : ∃ B, canonM b [] = B := ⟨_, rfl⟩
    have e : piecesG f = [A, B] := by
      unfold piecesG partsM
      rw [s0, s1, k5, ← hA, ← hB]; rfl
    rw [e]
    clear e s0 s1
    refine Wcall_K (N := 75) hm hO6 25000 (lst [1000002, 1000004, 1000009, 1000010]) ok25 Tryd.func25 rfl rfl (by simp) (by kernel_rfl) ?_
    repeat' (first | refine ReqK.i pa fun _ => ?_ | refine ReqK.i pb fun _ => ?_ | refine ReqK.i ha fun _ => ?_ | refine WK_drawV (id := 2) hm hO6 25000 (lst [1000002, 1000004, 1000009, 1000010]) treeZ2 (by kernel_rfl) (by kernel_rfl) ?_ | refine And.intro ?_ ?_ | exact True.intro | refine rq fun _ => ?_ | simp only [go_sem, k5, hab, ea, eb, hA, hB, treeZ2, getD_map_lt, form_eta, Tryd.f25])
  by_cases k6 : f.kind = 6
  · obtain ⟨a, b, hab, s0, s1, ha, hb⟩ := cl_two hcb (by omega)
    have pa := cnS ha
    have pb := cnS hb
    have ea : wthM a [] = canonM a [] := wth_cnn ha.c
    have eb : wthM b [] = canonM b [] := wth_cnn hb.c
    obtain ⟨A, hA⟩ : ∃ A, canonM a [] = A := ⟨_, rfl⟩
    obtain ⟨B, hB⟩ : ∃ B, canonM b [] = B := ⟨_, rfl⟩
    have e : piecesG f = [A, B] := by
      unfold piecesG partsM
      rw [s0, s1, k6, ← hA, ← hB]; rfl
    rw [e]
    clear e s0 s1
    refine Wcall_K (N := 75) hm hO6 25000 (lst [1000002, 1000004, 1000009, 1000010]) ok25 Tryd.func25 rfl rfl (by simp) (by kernel_rfl) ?_
    repeat' (first | refine ReqK.i pa fun _ => ?_ | refine ReqK.i pb fun _ => ?_ | refine ReqK.i ha fun _ => ?_ | refine WK_drawV (id := 2) hm hO6 25000 (lst [1000002, 1000004, 1000009, 1000010]) treeZ2 (by kernel_rfl) (by kernel_rfl) ?_ | refine And.intro ?_ ?_ | exact True.intro | refine rq fun _ => ?_ | simp only [go_sem, k6, hab, ea, eb, hA, hB, treeZ2, getD_map_lt, form_eta, Tryd.f25])
  by_cases k7 : f.kind = 7
  · obtain ⟨a, b, hab, s0, s1, ha, hb⟩ := cl_two hcb (by omega)
    have pa := cnS ha
    have pb := cnS hb
    have ea : wthM a [] = canonM a [] := wth_cnn ha.c
    have eb : wthM b [] = canonM b [] := wth_cnn hb.c
    obtain ⟨A, hA⟩ : ∃ A, ngg a = A := ⟨_, rfl⟩
    obtain ⟨B, hB⟩ : ∃ B, canonM b [] = B := ⟨_, rfl⟩
    have e : piecesG f = [A, B] := by
      unfold piecesG partsM
      rw [s0, s1, k7, ← hA, ← hB]; rfl
    rw [e]
    clear e s0 s1
    refine Wcall_K (N := 75) hm hO6 25000 (lst [1000002, 1000004, 1000009, 1000010]) ok25 Tryd.func25 rfl rfl (by simp) (by kernel_rfl) ?_
    repeat' (first | refine ReqK.i pa fun _ => ?_ | refine ReqK.i pb fun _ => ?_ | refine ReqK.i ha fun _ => ?_ | refine WK_drawV (id := 4) hm hO6 25000 (lst [1000002, 1000004, 1000009, 1000010]) treeZ4 (by kernel_rfl) (by kernel_rfl) ?_ | refine And.intro ?_ ?_ | exact True.intro | refine rq fun _ => ?_ | simp only [go_sem, k7, hab, ea, eb, hA, hB, treeZ4, getD_map_lt, form_eta, Tryd.f25])
  by_cases k4 : f.kind = 4
  rotate_left
  · exfalso
    unfold sortM partsM at hso
    simp only [k4, k5, k6, k7, if_false] at hso
    split at hso <;> (try split at hso) <;> simp at hso
  obtain ⟨g, hg, s0, hcg⟩ := cl_one hcb (.inl k4)
  have hgk := vok_eq.1 hcg.b.v
  have hg1 := hgk.1
  have hg2 := hgk.2.1
  clear hgk
  by_cases j4 : g.kind = 4
  · obtain ⟨a, ha0, t0, ha⟩ := cl_one hcg (.inl j4)
    have pa := cnS ha
    have ea : wthM a [] = canonM a [] := wth_cnn ha.c
    obtain ⟨A, hA⟩ : ∃ A, canonM a [] = A := ⟨_, rfl⟩
    have e : piecesG f = [A] := by
      unfold piecesG partsM
      rw [s0, t0, k4, j4, ← hA]; rfl
    rw [e]
    clear e s0 t0
    refine Wcall_K (N := 75) hm hO6 25000 (lst [1000002, 1000004, 1000009, 1000010]) ok25 Tryd.func25 rfl rfl (by simp) (by kernel_rfl) ?_
    repeat' (first | refine ReqK.i pa fun _ => ?_ | refine And.intro ?_ ?_ | exact True.intro | refine rq fun _ => ?_ | simp only [go_sem, k4, hg, j4, ha0, ea, hA, getD_map_lt, form_eta, Tryd.f25])
  by_cases j7 : g.kind = 7
  · obtain ⟨a, b, hab, t0, t1, ha, hb⟩ := cl_two hcg (by omega)
    have pa := cnS ha
    have ea : wthM a [] = canonM a [] := wth_cnn ha.c
    obtain ⟨A, hA⟩ : ∃ A, canonM a [] = A := ⟨_, rfl⟩
    obtain ⟨B, hB⟩ : ∃ B, ngg b = B := ⟨_, rfl⟩
    have e : piecesG f = [A, B] := by
      unfold piecesG partsM
      rw [s0, t0, t1, k4, j7, ← hA, ← hB]; rfl
    rw [e]
    clear e s0 t0 t1
    refine Wcall_K (N := 75) hm hO6 25000 (lst [1000002, 1000004, 1000009, 1000010]) ok25 Tryd.func25 rfl rfl (by simp) (by kernel_rfl) ?_
    repeat' (first | refine ReqK.i pa fun _ => ?_ | refine ReqK.i ha fun _ => ?_ | refine ReqK.i hb fun _ => ?_ | refine WK_drawV (id := 9) hm hO6 25000 (lst [1000002, 1000004, 1000009, 1000010]) treeZ9 (by kernel_rfl) (by kernel_rfl) ?_ | refine And.intro ?_ ?_ | exact True.intro | refine rq fun _ => ?_ | simp only [go_sem, k4, hg, j7, hab, ea, hA, hB, treeZ9, getD_map_lt, form_eta, Tryd.f25])
  by_cases j5 : g.kind = 5
  · obtain ⟨a, b, hab, t0, t1, ha, hb⟩ := cl_two hcg (by omega)
    have pa := cnS ha
    have ea : wthM a [] = canonM a [] := wth_cnn ha.c
    obtain ⟨A, hA⟩ : ∃ A, ngg a = A := ⟨_, rfl⟩
    obtain ⟨B, hB⟩ : ∃ B, ngg b = B := ⟨_, rfl⟩
    have e : piecesG f = [A, B] := by
      unfold piecesG partsM
      rw [s0, t0, t1, k4, j5, ← hA, ← hB]; rfl
    rw [e]
    clear e s0 t0 t1
    refine Wcall_K (N := 75) hm hO6 25000 (lst [1000002, 1000004, 1000009, 1000010]) ok25 Tryd.func25 rfl rfl (by simp) (by kernel_rfl) ?_
    repeat' (first | refine ReqK.i pa fun _ => ?_ | refine ReqK.i ha fun _ => ?_ | refine ReqK.i hb fun _ => ?_ | refine WK_drawV (id := 10) hm hO6 25000 (lst [1000002, 1000004, 1000009, 1000010]) treeZ10 (by kernel_rfl) (by kernel_rfl) ?_ | refine And.intro ?_ ?_ | exact True.intro | refine rq fun _ => ?_ | simp only [go_sem, k4, hg, j5, hab, ea, hA, hB, treeZ10, getD_map_lt, form_eta, Tryd.f25])
  by_cases j6 : g.kind = 6
  · obtain ⟨a, b, hab, t0, t1, ha, hb⟩ := cl_two hcg (by omega)
    have pa := cnS ha
    have ea : wthM a [] = canonM a [] := wth_cnn ha.c
    obtain ⟨A, hA⟩ : ∃ A, ngg a = A := ⟨_, rfl⟩
    obtain ⟨B, hB⟩ : ∃ B, ngg b = B := ⟨_, rfl⟩
    have e : piecesG f = [A, B] := by
      unfold piecesG partsM
      rw [s0, t0, t1, k4, j6, ← hA, ← hB]; rfl
    rw [e]
    clear e s0 t0 t1
    refine Wcall_K (N := 75) hm hO6 25000 (lst [1000002, 1000004, 1000009, 1000010]) ok25 Tryd.func25 rfl rfl (by simp) (by kernel_rfl) ?_
    repeat' (first | refine ReqK.i pa fun _ => ?_ | refine ReqK.i ha fun _ => ?_ | refine ReqK.i hb fun _ => ?_ | refine WK_drawV (id := 10) hm hO6 25000 (lst [1000002, 1000004, 1000009, 1000010]) treeZ10 (by kernel_rfl) (by kernel_rfl) ?_ | refine And.intro ?_ ?_ | exact True.intro | refine rq fun _ => ?_ | simp only [go_sem, k4, hg, j6, hab, ea, hA, hB, treeZ10, getD_map_lt, form_eta, Tryd.f25])
  exfalso
  unfold sortM partsM at hso
  rw [s0, k4] at hso
  simp only [j4, j5, j6, j7, if_false, show ¬ ((4 : Int) = 5) by decide, show ¬ ((4 : Int) = 6) by decide, show ¬ ((4 : Int) = 7) by decide, show ¬ ((4 : Int) = 8) by decide, show ¬ ((4 : Int) = 9) by decide, if_true] at hso
  split at hso <;> (try split at hso) <;> simp at hso
/-! ## are two constants equal? -/
def valR (ns : List Str) (cs : List Int) (w : Str) (d : Int) : Int := (List.zip ns cs).foldl (fun acc p => if p.1 = w then p.2 else acc) d
def eqR (ns : List Str) (cs : List Int) (a b : Str) : Bool := if a = b then true else decide (valR ns cs a (-1) = valR ns cs b (-2))
theorem valR_take {ns : List Str} {cs : List Int} {w : Str} {d : Int} {i : Nat} (h : i < ns.length) (h2 : i < cs.length) : valR (ns.take (i + 1)) (cs.take (i + 1)) w d = if ns[i] = w then cs[i] else valR (ns.take i) (cs.take i) w d := by
  unfold valR
  rw [List.take_succ_eq_append_getElem h, List.take_succ_eq_append_getElem h2, List.zip_append (by rw [List.length_take, List.length_take]; omega), List.foldl_append]
  rfl
def O8 : Tbl := O7.add 23 (sp4 eqR fun ns cs _ _ => ns.length = cs.length ∧ ns.length ≤ 1000000)
attribute [go_sem] O8
set_option maxRecDepth 100000 in
set_option maxHeartbeats 1000000 in
set_option maxHeartbeats 8000000 in
theorem hO8 : TblOk Tryd.prog GA O8 := by
  refine sp4_ok ok23 hO7 fun ns cs a b hp _ _ _ _ => ?_
  obtain ⟨hl, hn⟩ := hp
  by_cases hab : a = b
  · have e : eqR ns cs a b = true := by unfold eqR; rw [if_pos hab]
    have hl2 : (a.l = b.l) = True := eq_true (by rw [hab])
    rw [e]
    refine Wcall_K (N := 44) hm hO7 23000 (lst []) ok23 Tryd.func23 rfl rfl (by simp) (by kernel_rfl) ?_
    repeat' (first | refine And.intro ?_ ?_ | exact True.intro | refine rq fun _ => ?_ | simp only [go_sem, hl2, Tryd.f23])
  have e : eqR ns cs a b = decide (valR ns cs a (-1) = valR ns cs b (-2)) := by unfold eqR; rw [if_neg hab]
  have hl2 : (a.l = b.l) = False := eq_false fun h => hab (show (⟨a.l⟩ : Str) = ⟨b.l⟩ by rw [h])
  rw [e]
  refine Wcall_K (N := 44) hm hO7 23000 (lst []) ok23 Tryd.func23 rfl rfl (by simp) (by kernel_rfl) ?_
  repeat' (first | refine And.intro ?_ ?_ | exact True.intro | refine rq fun _ => ?_ | simp only [go_sem, hl2, Tryd.f23])
  refine WK_loop hm hO7 23000 (lst []) (ι := LoopI ns.length fun _ => True)
    ⟨fun q => ⟨frL [(0, .fz (.sl (ns.map enc))), (1, .fz (.sl (cs.map enc))), (2, .fz (.s a.l)), (3, .fz (.s b.l)), (9, .fz (.i .i64 (valR (ns.take q.i) (cs.take q.i) a (-1)))), (10, .fz (.i .i64 (valR (ns.take q.i) (cs.take q.i) b (-2)))), (16, .fz (.i .i64 ns.length)), (17, .fz (.i .i64 q.i))], hpL [], 0⟩, fun q => ns.length - q.i⟩
    ⟨0, by omega, trivial⟩ (by kernel_rfl) ?_ ?_
  · refine Weak_to ?_ ?_ ?_ <;> simp only [go_sem, valR]
    all_goals first | done | rfl | exact ⟨rfl, rfl⟩ | omega | trace_state
  rintro ⟨i, hi, _⟩
  try simp only at hi
  rcases Nat.lt_or_ge i ns.length with h1 | h1
  · have h2 : i < cs.length := by omega
    have va := valR_take (w := a) (d := -1) h1 h2
    have vb := valR_take (w := b) (d := -2) h1 h2
    obtain ⟨x, hx⟩ : ∃ x, ns[i] = x := ⟨_, rfl⟩
    obtain ⟨v, hv⟩ : ∃ v, cs[i] = v := ⟨_, rfl⟩
    rw [hx, hv] at va vb
    obtain ⟨X, hX⟩ : ∃ X, valR (ns.take i) (cs.take i) a (-1) = X := ⟨_, rfl⟩
    obtain ⟨Z, hZ⟩ : ∃ X, valR (ns.take i) (cs.take i) b (-2) = X := ⟨_, rfl⟩
    rw [hX] at va
    rw [hZ] at vb
    by_cases ca : x = a
    · have cal : (x.l = a.l) = True := eq_true (by rw [ca])
      rw [if_pos ca] at va
      have cb : ¬ x = b := fun h => hab (ca.symm.trans h)
      have cbl : (x.l = b.l) = False := eq_false fun h => cb (show (⟨x.l⟩ : Str) = ⟨b.l⟩ by rw [h])
      rw [if_neg cb] at vb
      repeat' (first | refine And.intro ?_ ?_ | exact True.intro | refine rq fun _ => ?_ | simp only [go_sem, h1, h2, hx, hv, hX, hZ, cal, cbl, getD_map_lt, Tryd.f23])
      refine ⟨⟨i + 1, by omega, trivial⟩, by simp only; omega, ?_⟩
      refine Weak_to ?_ ?_ ?_ <;> simp only [go_sem, va, vb]
      all_goals first | done | rfl | omega | trace_state
    · have cal : (x.l = a.l) = False := eq_false fun h => ca (show (⟨x.l⟩ : Str) = ⟨a.l⟩ by rw [h])
      rw [if_neg ca] at va
      by_cases cb : x = b
      · have cbl : (x.l = b.l) = True := eq_true (by rw [cb])
        rw [if_pos cb] at vb
        repeat' (first | refine And.intro ?_ ?_ | exact True.intro | refine rq fun _ => ?_ | simp only [go_sem, h1, h2, hx, hv, hX, hZ, cal, cbl, getD_map_lt, Tryd.f23])
        refine ⟨⟨i + 1, by omega, trivial⟩, by simp only; omega, ?_⟩
        refine Weak_to ?_ ?_ ?_ <;> simp only [go_sem, va, vb]
        all_goals first | done | rfl | omega | trace_state
      · have cbl : (x.l = b.l) = False := eq_false fun h => cb (show (⟨x.l⟩ : Str) = ⟨b.l⟩ by rw [h])
        rw [if_neg cb] at vb
        repeat' (first | refine And.intro ?_ ?_ | exact True.intro | refine rq fun _ => ?_ | simp only [go_sem, h1, h2, hx, hv, hX, hZ, cal, cbl, getD_map_lt, Tryd.f23])
        refine ⟨⟨i + 1, by omega, trivial⟩, by simp only; omega, ?_⟩
        refine Weak_to ?_ ?_ ?_ <;> simp only [go_sem, va, vb]
        all_goals first | done | rfl | omega | trace_state
  obtain rfl : i = ns.length := by omega
  have ec : cs.take ns.length = cs := by rw [hl, List.take_length]
  repeat' (first | refine And.intro ?_ ?_ | exact True.intro | refine rq fun _ => ?_ | simp only [go_sem, Nat.lt_irrefl, List.take_length, ec, Tryd.f23])
  all_goals trace_state
end Go.Proofs.YtdlioodgfopmfaaDoor
