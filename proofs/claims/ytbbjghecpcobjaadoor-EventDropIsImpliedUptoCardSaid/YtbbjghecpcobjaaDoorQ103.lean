import Derived.Test.YtbbjghecpcobjaaDoorAT
import Derived.Test.YtbbjghecpcobjaaDoorZQ81Q832
import Derived.Test.YtbbjghecpcobjaaDoorZQ89QC1
import Derived.Test.YtbbjghecpcobjaaDoorMV
set_option linter.unusedSimpArgs false
namespace Go.Proofs.YtbbjghecpcobjaaDoor
open Go Go.Abs Go.Proofs

/-! ## an event formula implies the one without a modifier; the document's functions for every formula, valid or not -/
def U0 : Tbl := Tbl.or M45 C2
attribute [go_sem] U0
theorem hU0 : TblOk Tryd.prog GA U0 := TblOk_or hM45 hC2
theorem depth_sub {f g : Abs.Form} (h : g ∈ f.subs) : g.depth + 1 ≤ f.depth := by
  obtain ⟨k, nm, ws, s⟩ := f
  rw [Form.depth]
  have : ∀ s : List Abs.Form, g ∈ s → g.depth ≤ Form.depths s := by
    intro s
    induction s with
    | nil => intro h; simp at h
    | cons x s ih =>
      intro h
      rw [Form.depths]
      rcases List.mem_cons.1 h with rfl | h
      · omega
      · have := ih h; omega
  have := this s h
  omega
theorem depth_pos (f : Abs.Form) : 1 ≤ f.depth := by obtain ⟨k, nm, ws, s⟩ := f; rw [Form.depth]; omega
def dPre (f : Abs.Form) : Prop := f.depth ≤ 2000000
structure PartD (f : Abs.Form) where
  c : Abs.Form
  acc : List Abs.Form
  m : Nat
  hm : 1 ≤ m
  h : listM f = listM c ++ acc
  hs : acc.length + c.depth ≤ f.depth
def U1 : Tbl := U0.add 70 (sp1 listM dPre)
attribute [go_sem] U1
set_option maxRecDepth 100000 in
set_option maxHeartbeats 1000000 in
theorem hU1 : TblOk Tryd.prog GA U1 := by
  refine sp1_ok ok70 hU0 fun f hpre _ => ?_
  have hp2 : f.depth ≤ 2000000 := hpre
  refine Wcall_K (N := 28) hm hU0 70000 (lst []) ok70 Tryd.func70 rfl rfl (by simp) (by kernel_rfl) ?_
  repeat' (first | refine ReqK.i (fits_of2 (by first | omega | (simp only [List.length_map, List.length_take, List.length_append, List.length_cons, List.length_nil]; omega)) (by decide)) fun _ => ?_ | refine rq fun _ => ?_ | simp only [go_sem, Tryd.f70])
  refine WK_loop hm hU0 70000 (lst []) (ι := PartD f)
    ⟨fun q => ⟨frL [(1, .ptr (70001, 0) 0), (3, .fz (.sl (q.acc.map enc)))], hpL [((70001, 0), some ⟨[.fz (.i .i64 q.c.kind), .fz (.s q.c.name.l), .fz (.sl (q.c.words.map enc)), .fz (.sl (q.c.subs.map enc))], true, false⟩)], q.m⟩, fun q => q.c.depth⟩
    ⟨f, [], 1, Nat.le_refl _, by simp, by simp⟩ (by kernel_rfl) ?_ ?_
  · refine Weak_g [] [] [] ?_ ?_ ?_ ?_ ?_ <;> simp only [go_sem]
    all_goals first | done | rfl | omega | trace_state
  rintro ⟨c, acc, m, hm1, h, hs⟩
  try simp only at hm1 h hs
  have hd1 := depth_pos c
  by_cases hk : c.kind = 5
  · by_cases h2 : c.subs.length = 2
    · obtain ⟨a, b, hab⟩ := two_of h2
      have hsa := depth_sub (f := c) (g := a) (by rw [hab]; simp)
      clear h2
      repeat' (first | refine ReqK.i (fits_of2 (by first | omega | (simp only [List.length_map, List.length_take, List.length_append, List.length_cons, List.length_nil]; omega)) (by decide)) fun _ => ?_ | refine rq fun _ => ?_ | simp only [go_sem, hk, hab, Tryd.f70])
      refine ⟨⟨a, b :: acc, m + 5, by omega, by rw [h, listM_and hk hab, List.append_assoc]; rfl, by rw [List.length_cons]; omega⟩, by simp only; omega, ?_⟩
      refine Weak_g [] [] [] ?_ ?_ ?_ ?_ ?_ <;> (try simp only [go_sem])
      all_goals first | done | rfl | omega | trace_state
    · have hl := listM_one (f := c) (fun h => h2 h.2)
      have hr : listM f = c :: acc := by rw [h, hl]; rfl
      rw [hr]
      have h2' : ((c.subs.length : Int) = 2) = False := eq_false (by omega)
      repeat' (first | refine ReqK.i (fits_of2 (by first | omega | (simp only [List.length_map, List.length_take, List.length_append, List.length_cons, List.length_nil]; omega)) (by decide)) fun _ => ?_ | refine rq fun _ => ?_ | simp only [go_sem, hk, h2', form_eta, Tryd.f70])
  · have hl := listM_one (f := c) (fun h => hk h.1)
    have hr : listM f = c :: acc := by rw [h, hl]; rfl
    rw [hr]
    repeat' (first | refine ReqK.i (fits_of2 (by first | omega | (simp only [List.length_map, List.length_take, List.length_append, List.length_cons, List.length_nil]; omega)) (by decide)) fun _ => ?_ | refine rq fun _ => ?_ | simp only [go_sem, hk, form_eta, Tryd.f70])

theorem listM_depth : ∀ (n : Nat) (f : Abs.Form), f.size ≤ n → (listM f).length ≤ f.depth := by
  intro n
  induction n with
  | zero => intro f h; have := f.size_pos; omega
  | succ n ih =>
    intro f hn
    have := depth_pos f
    by_cases hk : f.kind = 5 ∧ f.subs.length = 2
    · obtain ⟨a, b, hs⟩ := two_of hk.2
      have h1 := Form.size_sub (f := f) (g := a) (by rw [hs]; simp)
      have h2 := ih a (by omega)
      have h3 := depth_sub (f := f) (g := a) (by rw [hs]; simp)
      rw [listM_and hk.1 hs, List.length_append, List.length_singleton]
      omega
    · rw [listM_one hk]; simp only [List.length_singleton]; omega
def nameD (f : Abs.Form) : Str := if f.subs.length = 1 then nameE f else ⟨[]⟩
def U2 : Tbl := U1.add 27 (sp1 nameD dPre)
attribute [go_sem] U2
set_option maxRecDepth 100000 in
set_option maxHeartbeats 1000000 in
theorem hU2 : TblOk Tryd.prog GA U2 := by
  refine sp1_ok ok27 hU1 fun f hpre _ => ?_
  have hp2 : f.depth ≤ 2000000 := hpre
  by_cases hk : f.kind = 9
  · by_cases h1 : f.subs.length = 1
    · have e0 : nameD f = nameE f := by unfold nameD; rw [if_pos h1]
      rw [e0]
      obtain ⟨a, ha⟩ := one_of h1
      have hpa : dPre a := by have := depth_sub (f := f) (g := a) (by rw [ha]; simp); unfold dPre; omega
      have hpe : partsE f = listM a := by unfold partsE; rw [ha]; rfl
      obtain ⟨x, tl, hx⟩ : ∃ x tl, listM a = x :: tl := by
        have := (listM_len a.size a (Nat.le_refl _)).1
        match h : listM a, this with
        | x :: tl, _ => exact ⟨x, tl, rfl⟩
      have hh : headE f = x := by unfold headE; rw [hpe, hx]; rfl
      obtain ⟨ok, hok⟩ : ∃ ok, okE f = ok := ⟨_, rfl⟩
      have e1 : nameE f = if ok then x.name else ⟨[]⟩ := by unfold nameE; rw [hok, hh]
      unfold okE at hok
      rw [hh] at hok
      rw [e1]
      clear h1
      by_cases c1 : x.kind = 2
      · by_cases c2 : x.words.length = 1
        · obtain ⟨w, hw⟩ : ∃ w, x.words = [w] := by
            match h : x.words, c2 with
            | [w], _ => exact ⟨w, rfl⟩
          by_cases c3 : w = f.name
          · have hb : ok = true := by rw [← hok]; simp [hk, c1, hw, c3]
            refine Wcall_K (N := 40) hm hU1 27000 (lst []) ok27 Tryd.func27 rfl rfl (by simp) (by kernel_rfl) ?_
            repeat' (first | refine ReqK.i hpa fun _ => ?_ | refine rq fun _ => ?_ | simp only [go_sem, hk, ha, hx, c1, hw, c3, hb, form_eta, Tryd.f27, U1])
          · have hb : ok = false := by rw [← hok]; simp [hk, c1, hw, c3]
            have c3' : (w = f.name) = False := eq_false c3
            refine Wcall_K (N := 40) hm hU1 27000 (lst []) ok27 Tryd.func27 rfl rfl (by simp) (by kernel_rfl) ?_
            repeat' (first | refine ReqK.i hpa fun _ => ?_ | refine rq fun _ => ?_ | simp only [go_sem, hk, ha, hx, c1, hw, c3', hb, form_eta, Bool.false_eq_true, Tryd.f27, U1])
        · have hb : ok = false := by rw [← hok]; simp [hk, c1, c2]
          have c2' : ((x.words.length : Int) = 1) = False := eq_false (by omega)
          refine Wcall_K (N := 40) hm hU1 27000 (lst []) ok27 Tryd.func27 rfl rfl (by simp) (by kernel_rfl) ?_
          repeat' (first | refine ReqK.i hpa fun _ => ?_ | refine rq fun _ => ?_ | simp only [go_sem, hk, ha, hx, c1, c2', hb, form_eta, Bool.false_eq_true, Tryd.f27, U1])
      · have hb : ok = false := by rw [← hok]; simp [hk, c1]
        refine Wcall_K (N := 40) hm hU1 27000 (lst []) ok27 Tryd.func27 rfl rfl (by simp) (by kernel_rfl) ?_
        repeat' (first | refine ReqK.i hpa fun _ => ?_ | refine rq fun _ => ?_ | simp only [go_sem, hk, ha, hx, c1, hb, form_eta, Bool.false_eq_true, Tryd.f27, U1])
    · have e0 : nameD f = ⟨[]⟩ := by unfold nameD; rw [if_neg h1]
      rw [e0]
      have h1' : ((f.subs.length : Int) = 1) = False := eq_false (by omega)
      refine Wcall_K (N := 40) hm hU1 27000 (lst []) ok27 Tryd.func27 rfl rfl (by simp) (by kernel_rfl) ?_
      repeat' (first | refine rq fun _ => ?_ | simp only [go_sem, hk, h1', form_eta, Tryd.f27, U1])
  · have e1 : nameD f = ⟨[]⟩ := by
      unfold nameD nameE okE
      rw [decide_eq_false hk]; simp
    rw [e1]
    refine Wcall_K (N := 40) hm hU1 27000 (lst []) ok27 Tryd.func27 rfl rfl (by simp) (by kernel_rfl) ?_
    repeat' (first | refine rq fun _ => ?_ | simp only [go_sem, hk, form_eta, Tryd.f27, U1])
/-! is an event formula a conjunction of predicates? -/
def simpM (f : Abs.Form) : Bool := (partsE f).all fun x => decide (x.kind = 2)
def siPre (f : Abs.Form) : Prop := f.subs.length = 1 ∧ f.depth ≤ 2000000
def U3 : Tbl := U2.add 29 (sp1 simpM siPre)
attribute [go_sem] U3
set_option maxRecDepth 100000 in
set_option maxHeartbeats 1000000 in
theorem hU3 : TblOk Tryd.prog GA U3 := by
  refine sp1_ok ok29 hU2 fun f hpre _ => ?_
  have hp2 : f.depth ≤ 2000000 := hpre.2
  obtain ⟨a, ha⟩ := one_of hpre.1
  have hpa : dPre a := by have := depth_sub (f := f) (g := a) (by rw [ha]; simp); unfold dPre; omega
  have hpe : partsE f = listM a := by unfold partsE; rw [ha]; rfl
  unfold simpM
  rw [hpe]
  have hll := listM_depth a.size a (Nat.le_refl _)
  have hda : a.depth ≤ 2000000 := hpa
  obtain ⟨l, hl⟩ : ∃ l, listM a = l := ⟨_, rfl⟩
  rw [hl] at hll
  rw [hl]
  refine Wcall_K (N := 19) hm hU2 29000 (lst []) ok29 Tryd.func29 rfl rfl (by simp) (by kernel_rfl) ?_
  repeat' (first | refine ReqK.i hpa fun _ => ?_ | refine rq fun _ => ?_ | simp only [go_sem, ha, hl, form_eta, Tryd.f29, U2, U1])
  refine WK_loop hm hU2 29000 (lst []) (ι := LoopM l.length 1 fun i => (l.take i).all (fun x => decide (x.kind = 2)) = true)
    ⟨fun q => ⟨frL [(1, .ptr (29001, 0) 0), (9, .fz (.sl (l.map enc))), (10, .fz (.i .i64 l.length)), (11, .fz (.i .i64 q.i))], hpL [((29001, 0), some ⟨[.fz (.i .i64 f.kind), .fz (.s f.name.l), .fz (.sl (f.words.map enc)), .fz (.sl (f.subs.map enc))], true, false⟩)], q.m⟩, fun q => l.length - q.i⟩
    ⟨0, 1, by omega, by omega, by simp⟩ (by kernel_rfl) ?_ ?_
  · refine Weak_to ?_ ?_ ?_ <;> simp only [go_sem, ha]
    all_goals first | done | rfl | omega | trace_state
  rintro ⟨i, q, hi, hq, hp⟩
  try simp only at hi hq hp
  rcases Nat.lt_or_ge i l.length with h6 | h6
  · obtain ⟨x, hx⟩ : ∃ x, l[i] = x := ⟨_, rfl⟩
    by_cases hk : x.kind = 2
    · repeat' (first | refine rq fun _ => ?_ | simp only [go_sem, h6, hx, hk, getD_map_lt, form_eta, Tryd.f29, U2, U1])
      refine ⟨⟨i + 1, q + 1, by omega, by omega, ?_⟩, by simp only; omega, ?_⟩
      · rw [List.take_succ_eq_append_getElem h6, List.all_append, hp, hx]; simp [hk]
      refine Weak_to ?_ ?_ ?_ <;> simp only [go_sem]
      all_goals first | done | rfl | omega | trace_state
    · have e : (l.all fun x => decide (x.kind = 2)) = false := by
        rw [List.all_eq_false]
        exact ⟨l[i], List.getElem_mem _, by rw [hx]; simp [hk]⟩
      rw [e]
      repeat' (first | refine rq fun _ => ?_ | simp only [go_sem, h6, hx, hk, getD_map_lt, form_eta, Tryd.f29, U2, U1])
  obtain rfl : i = l.length := by omega
  rw [List.take_length] at hp
  rw [hp]
  repeat' (first | refine rq fun _ => ?_ | simp only [go_sem, Nat.lt_irrefl, form_eta, Tryd.f29, U2, U1])
/-! ## the law EventDropIsImplied -/
set_option maxRecDepth 100000 in
set_option maxHeartbeats 1000000 in
set_option maxHeartbeats 8000000 in
theorem lawDrop (hT : TblOk Tryd.prog GA U3) (m : Model) (f : Abs.Form) (mod : Str) (hdep : f.depth ≤ 2000000) (_ : (enc m).Wf) (_ : (enc f).Wf) (_ : (enc mod).Wf) : Wcall Tryd.prog GA 7 [.fz (enc m), .fz (enc f), .fz (enc mod)] (hpL []) 0 (fun d _ _ => d = .fz (.b true)) := by
  have dW : Str.mk [119, 97, 108, 107] = sWalk := rfl
  have dE : Str.mk [101] = sDE := rfl
  have dF : Str.mk [102, 97, 115, 116] = sDF := rfl
  have zm := zero_mk
  have gk : gD1.kind = 9 := rfl
  have hdp : dPre f := hdep
  refine Wcall_K (N := 89) hm hT 7000 (lst []) ok7 Tryd.func7 rfl rfl (by simp) (by kernel_rfl) ?_
  obtain ⟨nm, hnm⟩ : ∃ nm, nameD f = nm := ⟨_, rfl⟩
  obtain ⟨b, e, hbe⟩ : ∃ b e, holdsP m f = (b, e) := ⟨_, _, rfl⟩
  by_cases hn0 : nm = ⟨[]⟩
  · have hnl : (nm.l = []) = True := eq_true (by rw [hn0])
    subst hn0
    repeat' (first | refine ReqK.i hdp fun _ => ?_ | refine rq fun _ => ?_ | simp only [go_sem, dW, dE, dF, zm, gk, twD2, bnD2, drop_x, hnm, hbe, GA, str_eta, form_eta, model_eta, Tryd.f7])
  have hnl : (nm.l = []) = False := eq_false fun h => hn0 (by cases nm; simp_all)
  by_cases he : e.code = 0
  rotate_left
  · have he' : (e.code = 0) = False := eq_false he
    repeat' (first | refine ReqK.i hdp fun _ => ?_ | refine rq fun _ => ?_ | simp only [go_sem, dW, dE, dF, zm, gk, twD2, bnD2, drop_x, hnm, hnl, hbe, he', GA, str_eta, form_eta, model_eta, Tryd.f7])
  obtain ⟨k1, k2, k3, hb, rfl⟩ := holds_inv hbe he
  clear he
  cases b with
  | false =>
    repeat' (first | refine ReqK.i hdp fun _ => ?_ | refine rq fun _ => ?_ | simp only [go_sem, dW, dE, dF, zm, gk, twD2, bnD2, drop_x, hnm, hnl, hbe, GA, str_eta, form_eta, model_eta, Tryd.f7])
  | true =>
    have hE : nameE f = nm := by
      have h := hnm
      unfold nameD at h
      split at h
      · exact h
      · exact absurd h.symm hn0
    have hsl : f.subs.length = 1 := by
      by_cases h1 : f.subs.length = 1
      · exact h1
      · unfold nameD at hnm; rw [if_neg h1] at hnm; exact absurd hnm.symm hn0
    have hsi : siPre f := ⟨hsl, hdep⟩
    have hie : isE nm f = true := (nameE_is (fun h => hn0 (by cases nm; simp_all))).1 hE
    cases hs : simpM f with
    | false =>
      repeat' (first | refine ReqK.i hdp fun _ => ?_ | refine ReqK.i hsi fun _ => ?_ | refine rq fun _ => ?_ | simp only [go_sem, dW, dE, dF, zm, gk, twD2, bnD2, drop_x, hnm, hnl, hbe, hs, GA, str_eta, form_eta, model_eta, Tryd.f7])
    | true =>
      cases hmd : isName mod with
      | false =>
        repeat' (first | refine ReqK.i hdp fun _ => ?_ | refine ReqK.i hsi fun _ => ?_ | refine rq fun _ => ?_ | simp only [go_sem, dW, dE, dF, zm, gk, twD2, bnD2, drop_x, hnm, hnl, hbe, hs, hmd, GA, str_eta, form_eta, model_eta, Tryd.f7])
      | true =>
        have hnn : isName nm = true := by
          have hw := checkM_shp k2
          have hk9 := (okE_kind (isE_ok hie).1).1
          have hmem := headE_mem (checkM_wfE k2) hk9
          have hk2 := (okE_kind (isE_ok hie).1).2
          obtain ⟨a, ha⟩ := one_of hsl
          have hpe : partsE f = listM a := by unfold partsE; rw [ha]; rfl
          rw [hpe] at hmem
          have hs1 := listM_shp (shp_sub hw a (by rw [ha]; simp)) _ hmem
          rw [← (isE_ok hie).2]
          refine (shp_eq.1 hs1).1.2.2.1 ?_ ?_
          · unfold named; simp [hk2]
          · rw [hk2]; decide
        obtain ⟨g1, g2, g3, g4⟩ := drop_implied (mod := mod) k2 hie (fun x hx => by simpa using List.all_eq_true.1 hs x hx) k3 (by rw [← hb])
        have hdr : dropP f nm mod = (canonM (changeM (dropBy nm mod) f) [], ⟨0, 0⟩) := by
          unfold dropP checkE
          rw [if_neg (by simp [k2, hnn, hmd])]
          unfold doneF doneE
          rw [if_pos g1, if_pos g1]
        have hh := holds_ok k1 g2 g3
        rw [g4] at hh
        obtain ⟨G, hG⟩ : ∃ G, canonM (changeM (dropBy nm mod) f) [] = G := ⟨_, rfl⟩
        rw [hG] at hdr hh
        clear g1 g2 g3 g4 hG
        repeat' (first | refine ReqK.i hdp fun _ => ?_ | refine ReqK.i hsi fun _ => ?_ | refine rq fun _ => ?_ | simp only [go_sem, dW, dE, dF, zm, gk, twD2, bnD2, drop_x, hnm, hnl, hbe, hs, hmd, hdr, hh, GA, str_eta, form_eta, model_eta, Tryd.f7])
end Go.Proofs.YtbbjghecpcobjaaDoor
