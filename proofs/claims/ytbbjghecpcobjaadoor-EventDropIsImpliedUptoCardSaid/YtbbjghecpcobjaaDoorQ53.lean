import Derived.Test.YtbbjghecpcobjaaDoorAT
import Derived.Test.YtbbjghecpcobjaaDoorQ52
set_option linter.unusedSimpArgs false
namespace Go.Proofs.YtbbjghecpcobjaaDoor
open Go Go.Abs Go.Proofs

/-! ## PartsOf and EventName -/
structure PartI (f : Abs.Form) where
  c : Abs.Form
  acc : List Abs.Form
  m : Nat
  hm : 1 ≤ m
  h : listM f = listM c ++ acc
  hw : wfE c
  hs : acc.length + c.size ≤ f.size
def V36 : Tbl := V35.add 70 (sp1 listM evPre)
attribute [go_sem] V36
set_option maxRecDepth 100000 in
set_option maxHeartbeats 1000000 in
theorem hV36 : TblOk Tryd.prog GA V36 := by
  refine sp1_ok ok70 hV35 fun f hpre _ => ?_
  have hp2 := hpre.2
  refine Wcall_K (N := 28) hm hV35 70000 (lst []) ok70 Tryd.func70 rfl rfl (by simp) (by kernel_rfl) ?_
  repeat' (first | refine rq fun _ => ?_ | refine ReqK.i (fits_of2 (by first | omega | (simp only [List.length_map, List.length_take, List.length_append, List.length_cons, List.length_nil]; omega)) (by decide)) fun _ => ?_ | simp only [go_sem, Tryd.f70])
  refine WK_loop hm hV35 70000 (lst []) (ι := PartI f)
    ⟨fun q => ⟨frL [(1, .ptr (70001, 0) 0), (3, .fz (.sl (q.acc.map enc)))], hpL [((70001, 0), some ⟨[.fz (.i .i64 q.c.kind), .fz (.s q.c.name.l), .fz (.sl (q.c.words.map enc)), .fz (.sl (q.c.subs.map enc))], true, false⟩)], q.m⟩, fun q => q.c.size⟩
    ⟨f, [], 1, Nat.le_refl _, by simp, hpre.1, by simp⟩ (by kernel_rfl) ?_ ?_
  · refine Weak_g [] [] [] ?_ ?_ ?_ ?_ ?_ <;> simp only [go_sem]
    all_goals first | done | rfl | omega | trace_state
  rintro ⟨c, acc, m, hm1, h, hw, hs⟩
  try simp only at hm1 h hw hs
  by_cases hk : c.kind = 5
  · obtain ⟨a, b, hab⟩ := two_of ((wfE_eq.1 hw).1 hk)
    have hsa := Form.size_sub (f := c) (g := a) (by rw [hab]; simp)
    repeat' (first | refine rq fun _ => ?_ | refine ReqK.i (fits_of2 (by first | omega | (simp only [List.length_map, List.length_take, List.length_append, List.length_cons, List.length_nil]; omega)) (by decide)) fun _ => ?_ | simp only [go_sem, hk, hab, Tryd.f70])
    refine ⟨⟨a, b :: acc, m + 5, by omega, by rw [h, listM_and hk hab, List.append_assoc]; rfl, wfE_sub hw a (by rw [hab]; simp), by rw [List.length_cons]; omega⟩, by simp only; omega, ?_⟩
    refine Weak_g [] [] [] ?_ ?_ ?_ ?_ ?_ <;> (try simp only [go_sem])
    all_goals first | done | rfl | omega | trace_state
  · have hl := listM_one (f := c) (fun h => hk h.1)
    have hr : listM f = c :: acc := by rw [h, hl]; rfl
    rw [hr]
    repeat' (first | refine rq fun _ => ?_ | refine ReqK.i (fits_of2 (by first | omega | (simp only [List.length_map, List.length_take, List.length_append, List.length_cons, List.length_nil]; omega)) (by decide)) fun _ => ?_ | simp only [go_sem, hk, form_eta, Tryd.f70])

def nameE (f : Abs.Form) : Str := if okE f then (headE f).name else ⟨[]⟩
def V37 : Tbl := V36.add 27 (sp1 nameE evPre)
attribute [go_sem] V37
set_option maxRecDepth 100000 in
set_option maxHeartbeats 1000000 in
theorem hV37 : TblOk Tryd.prog GA V37 := by
  refine sp1_ok ok27 hV36 fun f hpre _ => ?_
  by_cases hk : f.kind = 9
  · obtain ⟨a, ha⟩ := one_of ((wfE_eq.1 hpre.1).2.1 hk)
    have hpa : evPre a := ⟨wfE_sub hpre.1 a (by rw [ha]; simp), by have := Form.size_sub (f := f) (g := a) (by rw [ha]; simp); have := hpre.2; omega⟩
    have hpe : partsE f = listM a := by unfold partsE; rw [ha]; rfl
    obtain ⟨x, tl, hx⟩ : ∃ x tl, listM a = x :: tl := by
      have := (listM_len a.size a (Nat.le_refl _)).1
      match h : listM a, this with
      | x :: tl, _ => exact ⟨x, tl, rfl⟩
    have hh : headE f = x := by unfold headE; rw [hpe, hx]; rfl
    obtain ⟨ok, hok⟩ : ∃ ok, okE f = ok := ⟨_, rfl⟩
    have e1 : nameE f = if ok then x.name else ⟨[]⟩ := by unfold nameE; rw [hok, hh]
    unfold okE at hok
    rw [hh] at hok
    rw [e1]
    by_cases c1 : x.kind = 2
    · by_cases c2 : x.words.length = 1
      · obtain ⟨w, hw⟩ : ∃ w, x.words = [w] := by
          match h : x.words, c2 with
          | [w], _ => exact ⟨w, rfl⟩
        by_cases c3 : w = f.name
        · have hb : ok = true := by rw [← hok]; simp [hk, c1, hw, c3]
          refine Wcall_K (N := 40) hm hV36 27000 (lst []) ok27 Tryd.func27 rfl rfl (by simp) (by kernel_rfl) ?_
          repeat' (first | refine ReqK.i hpa fun _ => ?_ | refine rq fun _ => ?_ | refine ReqK.i (fits_of2 (by first | omega | (simp only [List.length_map, List.length_take, List.length_append, List.length_cons, List.length_nil]; omega)) (by decide)) fun _ => ?_ | simp only [go_sem, hk, ha, hx, c1, hw, c3, hb, form_eta, Tryd.f27])
        · have hb : ok = false := by rw [← hok]; simp [hk, c1, hw, c3]
          have c3' : (w = f.name) = False := eq_false c3
          refine Wcall_K (N := 40) hm hV36 27000 (lst []) ok27 Tryd.func27 rfl rfl (by simp) (by kernel_rfl) ?_
          repeat' (first | refine ReqK.i hpa fun _ => ?_ | refine rq fun _ => ?_ | refine ReqK.i (fits_of2 (by first | omega | (simp only [List.length_map, List.length_take, List.length_append, List.length_cons, List.length_nil]; omega)) (by decide)) fun _ => ?_ | simp only [go_sem, hk, ha, hx, c1, hw, c3', hb, form_eta, Bool.false_eq_true, Tryd.f27])
      · have hb : ok = false := by rw [← hok]; simp [hk, c1, c2]
        have c2' : ((x.words.length : Int) = 1) = False := eq_false (by omega)
        refine Wcall_K (N := 40) hm hV36 27000 (lst []) ok27 Tryd.func27 rfl rfl (by simp) (by kernel_rfl) ?_
        repeat' (first | refine ReqK.i hpa fun _ => ?_ | refine rq fun _ => ?_ | refine ReqK.i (fits_of2 (by first | omega | (simp only [List.length_map, List.length_take, List.length_append, List.length_cons, List.length_nil]; omega)) (by decide)) fun _ => ?_ | simp only [go_sem, hk, ha, hx, c1, c2', hb, form_eta, Bool.false_eq_true, Tryd.f27])
    · have hb : ok = false := by rw [← hok]; simp [hk, c1]
      refine Wcall_K (N := 40) hm hV36 27000 (lst []) ok27 Tryd.func27 rfl rfl (by simp) (by kernel_rfl) ?_
      repeat' (first | refine ReqK.i hpa fun _ => ?_ | refine rq fun _ => ?_ | refine ReqK.i (fits_of2 (by first | omega | (simp only [List.length_map, List.length_take, List.length_append, List.length_cons, List.length_nil]; omega)) (by decide)) fun _ => ?_ | simp only [go_sem, hk, ha, hx, c1, hb, form_eta, Bool.false_eq_true, Tryd.f27])
  · have e1 : nameE f = ⟨[]⟩ := by
      unfold nameE okE
      rw [decide_eq_false hk]; rfl
    rw [e1]
    refine Wcall_K (N := 40) hm hV36 27000 (lst []) ok27 Tryd.func27 rfl rfl (by simp) (by kernel_rfl) ?_
    repeat' (first | refine rq fun _ => ?_ | refine ReqK.i (fits_of2 (by first | omega | (simp only [List.length_map, List.length_take, List.length_append, List.length_cons, List.length_nil]; omega)) (by decide)) fun _ => ?_ | simp only [go_sem, hk, form_eta, Tryd.f27])
end Go.Proofs.YtbbjghecpcobjaaDoor
