import Derived.Test.YtbbjghecpcobjaaDoorAT
import Derived.Test.YtbbjghecpcobjaaDoorQ45
import Derived.Test.YtbbjghecpcobjaaDoorQ89
import Derived.Test.YtbbjghecpcobjaaDoorQ88
import Derived.Test.YtbbjghecpcobjaaDoorQC
set_option linter.unusedSimpArgs false
namespace Go.Proofs.YtbbjghecpcobjaaDoor
open Go Go.Abs Go.Proofs

/-! ## in a model the formulas of quantities are true just if the number of individuals is such -/
def D1 : Tbl := Tbl.or R40 (Tbl.or C2 B24)
attribute [go_sem] D1
theorem hD1 : TblOk Tryd.prog GA D1 := TblOk_or hR40 (TblOk_or hC2 hB24)
def cntdP (m : Model) (f : Abs.Form) (e : Fault) (w : Bool) : Bool := if e = ⟨0, 0⟩ then (if (holdsP m f).2 = ⟨0, 0⟩ then decide ((holdsP m f).1 = w) else true) else true
def D2 : Tbl := D1.add 23 (sp4 cntdP fun _ _ _ _ => True)
attribute [go_sem] D2
set_option maxRecDepth 100000 in
set_option maxHeartbeats 1000000 in
set_option maxHeartbeats 4000000 in
theorem hD2 : TblOk Tryd.prog GA D2 := by
  refine sp4_ok ok23 hD1 fun m f e w _ _ _ _ _ => ?_
  obtain ⟨c, i⟩ := e
  obtain ⟨b, c2, i2, hb⟩ : ∃ b c i, holdsP m f = (b, ⟨c, i⟩) := ⟨(holdsP m f).1, (holdsP m f).2.code, (holdsP m f).2.index, rfl⟩
  by_cases h1 : c = 0
  rotate_left
  · have e : cntdP m f ⟨c, i⟩ w = true := by unfold cntdP; rw [if_neg (by simp [h1])]
    rw [e]
    refine Wcall_K (N := 28) hm hD1 23000 (lst []) ok23 Tryd.func23 rfl rfl (by simp) (by kernel_rfl) ?_
    repeat' (first | refine rq fun _ => ?_ | simp only [go_sem, GA, h1, hb, form_eta, model_eta, Tryd.f23])
  by_cases h2 : i = 0
  rotate_left
  · have e : cntdP m f ⟨c, i⟩ w = true := by unfold cntdP; rw [if_neg (by simp [h2])]
    rw [e]
    refine Wcall_K (N := 28) hm hD1 23000 (lst []) ok23 Tryd.func23 rfl rfl (by simp) (by kernel_rfl) ?_
    repeat' (first | refine rq fun _ => ?_ | simp only [go_sem, GA, h1, h2, hb, form_eta, model_eta, Tryd.f23])
  subst h1 h2
  by_cases h3 : c2 = 0
  rotate_left
  · have e : cntdP m f ⟨0, 0⟩ w = true := by unfold cntdP; rw [if_pos rfl, hb, if_neg (by simp [h3])]
    rw [e]
    refine Wcall_K (N := 28) hm hD1 23000 (lst []) ok23 Tryd.func23 rfl rfl (by simp) (by kernel_rfl) ?_
    repeat' (first | refine rq fun _ => ?_ | simp only [go_sem, GA, h3, hb, form_eta, model_eta, Tryd.f23])
  by_cases h4 : i2 = 0
  rotate_left
  · have e : cntdP m f ⟨0, 0⟩ w = true := by unfold cntdP; rw [if_pos rfl, hb, if_neg (by simp [h4])]
    rw [e]
    refine Wcall_K (N := 28) hm hD1 23000 (lst []) ok23 Tryd.func23 rfl rfl (by simp) (by kernel_rfl) ?_
    repeat' (first | refine rq fun _ => ?_ | simp only [go_sem, GA, h3, h4, hb, form_eta, model_eta, Tryd.f23])
  subst h3 h4
  have e : cntdP m f ⟨0, 0⟩ w = decide (b = w) := by unfold cntdP; rw [if_pos rfl, hb, if_pos rfl]
  rw [e]
  refine Wcall_K (N := 28) hm hD1 23000 (lst []) ok23 Tryd.func23 rfl rfl (by simp) (by kernel_rfl) ?_
  repeat' (first | refine rq fun _ => ?_ | simp only [go_sem, GA, hb, form_eta, model_eta, Tryd.f23])
  cases b <;> cases w <;> rfl
/-! what is counted -/
theorem cnt_done {m : Model} {F : Abs.Form} {w : Bool} (hv : vok F) (hw : valM m F [] = w) : cntdP m (doneF F) (doneE F) w = true := by
  unfold cntdP
  by_cases h : doneE F = ⟨0, 0⟩
  rotate_left
  · rw [if_neg h]
  rw [if_pos h]
  have hf : fitsM F = true := by
    cases hf : fitsM F with
    | true => rfl
    | false => unfold doneE at h; rw [hf, if_neg (by simp)] at h; cases h
  have hd : doneF F = canonM F [] := by unfold doneF; rw [if_pos hf]
  rw [hd]
  by_cases h2 : (holdsP m (canonM F [])).2 = ⟨0, 0⟩
  rotate_left
  · rw [if_neg h2]
  rw [if_pos h2]
  obtain ⟨_, _, _, hb, _⟩ := holds_inv (m := m) (f := canonM F []) (b := (holdsP m (canonM F [])).1) (e := (holdsP m (canonM F [])).2) rfl (by rw [h2])
  rw [hb, canon_val hv, hw]
  simp
theorem cnt_zero {m : Model} {F : Abs.Form} {e : Fault} {w : Bool} (h : e.code ≠ 0) : cntdP m F e w = true := by
  unfold cntdP
  rw [if_neg fun e => h (by rw [e])]
theorem cnt_filter (m : Model) (name : Str) (f : Abs.Form) : cntM (valsM m name f) = ((indiv m).filter fun v => valM m f [⟨name, v⟩]).length := by
  unfold cntM valsM
  rw [List.filter_map, List.length_map]
  rfl
theorem all_counted {m : Model} {n : Int} {name : Str} {f : Abs.Form} {k : Nat} (hk : k = cntM (valsM m name f)) :
    cntdP m (alP n name f).1 (alP n name f).2 (decide (n ≤ (k : Int))) = true ∧ cntdP m (amP n name f).1 (amP n name f).2 (decide ((k : Int) ≤ n)) = true ∧ cntdP m (exP n name f).1 (exP n name f).2 (decide ((k : Int) = n)) = true := by
  by_cases h : (checkQ n name f).code = 0
  rotate_left
  · obtain ⟨e1, e2, e3⟩ := all_bad rfl h
    rw [e1, e2, e3]
    exact ⟨cnt_zero h, cnt_zero h, cnt_zero h⟩
  obtain ⟨_, h0, h3, _, hc⟩ := checkQ_ok h
  obtain ⟨N, rfl⟩ : ∃ N : Nat, n = (N : Int) := ⟨n.toNat, by omega⟩
  have v0 := fun j => least_vok (name := name) hc j
  have w0 := fun j => least_count (m := m) (name := name) hc j
  rw [← cnt_filter, ← hk] at w0
  have n1 : valM m (notF (leastP f name (N + 1))) [] = !decide (N + 1 ≤ k) := by
    show valM m (.mk 4 ⟨[]⟩ [] [leastP f name (N + 1)]) [] = _
    rw [val_not, w0]
  unfold alP amP exP
  rw [if_neg (by simp [h]), if_neg (by simp [h]), if_neg (by simp [h])]
  show cntdP m (doneF (leastP f name N)) _ _ = true ∧ cntdP m (doneF (notF (leastP f name (N + 1)))) _ _ = true ∧ cntdP m (doneF (andF (leastP f name N) (notF (leastP f name (N + 1))))) _ _ = true
  refine ⟨cnt_done (v0 N) ?_, cnt_done (not_vok (v0 (N + 1))) ?_, cnt_done (and_vok (v0 N) (not_vok (v0 (N + 1)))) ?_⟩
  · rw [w0, Bool.eq_iff_iff]; simp
  · rw [n1, Bool.eq_iff_iff]; simp; omega
  · show valM m (.mk 5 ⟨[]⟩ [] [leastP f name N, notF (leastP f name (N + 1))]) [] = _
    rw [val_and, w0, n1, Bool.eq_iff_iff]; simp; omega
theorem put_dogN (i : Nat) : canonM fDog [⟨sX, qn i⟩] = predM sDog [qn i] := by
  have h : lkp [⟨sX, qn i⟩] sX = qn i := by
    have := lkp_snoc [] ⟨sX, qn i⟩ sX
    rw [List.nil_append] at this
    rw [this, if_pos rfl]
  unfold canonM fDog predM
  rw [ren, if_neg (by decide), rens]
  simp only [List.map_cons, List.map_nil, h]
theorem least_dog2 : leastP fDog sX 2 = .mk 9 (qn 0) [] [.mk 9 (qn 1) [] [.mk 5 ⟨[]⟩ [] [.mk 5 ⟨[]⟩ [] [predM sDog [qn 0], predM sDog [qn 1]], .mk 4 ⟨[]⟩ [] [.mk 3 ⟨[]⟩ [qn 0, qn 1] []]]]] := by
  have : leastP fDog sX 2 = .mk 9 (qn 0) [] [.mk 9 (qn 1) [] [.mk 5 ⟨[]⟩ [] [.mk 5 ⟨[]⟩ [] [canonM fDog [⟨sX, qn 0⟩], canonM fDog [⟨sX, qn 1⟩]], .mk 4 ⟨[]⟩ [] [.mk 3 ⟨[]⟩ [qn 0, qn 1] []]]]] := rfl
  rw [this, put_dogN, put_dogN]
theorem exq_x : ∃ g : Abs.Form, exP 1 sX fDog = (g, ⟨0, 0⟩) ∧ g.kind = 5 := by
  have hf : fitsM (andF (leastP fDog sX 1) (notF (leastP fDog sX 2))) = true := by
    rw [least_dog, least_dog2]
    simp [fitsM, andF, notF, predM, Form.size, Form.sizes, Form.depth, Form.depths]
  refine ⟨canonM (andF (leastP fDog sX 1) (notF (leastP fDog sX 2))) [], ?_, ?_⟩
  · unfold exP
    rw [chk_dog, if_neg (by decide), show ((1 : Int)).toNat = 1 from rfl]
    unfold doneF doneE
    rw [if_pos hf, if_pos hf]
  · unfold canonM
    show (ren _ (.mk 5 ⟨[]⟩ [] [_, _]) [] 0).1.kind = 5
    rw [ren, if_neg (by decide)]
    rfl
theorem dec_flt {e : Fault} : dec (α := Fault) (.agg [.i .i64 e.code, .i .i64 e.index]) = e := rfl
/-! ## the law QuantityIsCounted -/
set_option maxRecDepth 100000 in
set_option maxHeartbeats 1000000 in
set_option maxHeartbeats 8000000 in
theorem lawCounted (hT : TblOk Tryd.prog GA D2) (m : Model) (n : Int) (name : Str) (f : Abs.Form) (_ : (enc m).Wf) (_ : (enc n).Wf) (_ : (enc name).Wf) (_ : (enc f).Wf) : Wcall Tryd.prog GA 6 [.fz (enc m), .fz (enc n), .fz (enc name), .fz (enc f)] (hpL []) 0 (fun d _ _ => d = .fz (.b true)) := by
  have dD : Str.mk [100, 111, 103] = sDog := rfl
  have dX : Str.mk [120] = sX := rfl
  have dF : predM sDog [sX] = fDog := rfl
  obtain ⟨g0, hg0, hk0⟩ := exq_x
  obtain ⟨k, e, hke⟩ : ∃ k e, numP m name f = (k, e) := ⟨_, _, rfl⟩
  refine Wcall_K (N := 89) hm hT 6000 (lst []) ok6 Tryd.func6 rfl rfl (by simp) (by kernel_rfl) ?_
  by_cases he : e.code = 0
  rotate_left
  · have he' : (e.code = 0) = False := eq_false he
    repeat' (first | refine rq fun _ => ?_ | simp only [go_sem, dD, dX, dF, hg0, hk0, GA, str_eta, form_eta, model_eta, hke, he', Tryd.f6])
  obtain ⟨_, _, _, h4⟩ := numP_ok (show (numP m name f).2.code = 0 by rw [hke]; exact he)
  rw [h4] at hke
  obtain ⟨rfl, rfl⟩ := Prod.mk.inj hke
  obtain ⟨k, hk⟩ : ∃ k : Nat, cntM (valsM m name f) = k := ⟨_, rfl⟩
  rw [hk] at h4
  obtain ⟨c1, c2, c3⟩ := all_counted (n := n) hk.symm
  obtain ⟨a, ea, ha⟩ : ∃ a e, alP n name f = (a, e) := ⟨_, _, rfl⟩
  obtain ⟨b, eb, hb⟩ : ∃ a e, amP n name f = (a, e) := ⟨_, _, rfl⟩
  obtain ⟨c, ec, hc⟩ : ∃ a e, exP n name f = (a, e) := ⟨_, _, rfl⟩
  rw [ha] at c1
  rw [hb] at c2
  rw [hc] at c3
  try simp only at c1 c2 c3
  clear he hk
  repeat' (first | refine rq fun _ => ?_ | simp only [go_sem, dD, dX, dF, hg0, hk0, GA, str_eta, form_eta, model_eta, h4, ha, hb, hc, c1, c2, c3, dec_flt, Tryd.f6])
end Go.Proofs.YtbbjghecpcobjaaDoor
