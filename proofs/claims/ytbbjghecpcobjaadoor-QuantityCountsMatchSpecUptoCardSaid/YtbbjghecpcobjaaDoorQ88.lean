import Derived.Test.YtbbjghecpcobjaaDoorAT
import Derived.Test.YtbbjghecpcobjaaDoorZQ84Q872
import Derived.Test.YtbbjghecpcobjaaDoorVP
set_option linter.unusedSimpArgs false
namespace Go.Proofs.YtbbjghecpcobjaaDoor
open Go Go.Abs Go.Proofs
section
variable {G : Nat → List FD}
/-! ## quantity.Most -/
theorem numP_ok {m : Model} {name : Str} {f : Abs.Form} (h : (numP m name f).2.code = 0) : (modelM m).code = 0 ∧ isName name = true ∧ (qfM m name f (-3)).code = 0 ∧ numP m name f = (((cntM (valsM m name f) : Nat) : Int), ⟨0, 0⟩) := by
  unfold numP at h ⊢
  by_cases h1 : (modelM m).code = 0
  · rw [if_neg (by simp [h1])] at h ⊢
    by_cases h2 : isName name = false
    · rw [if_pos h2] at h; exact absurd h (by decide)
    · rw [if_neg h2] at h ⊢
      by_cases h3 : (qfM m name f (-3)).code = 0
      · rw [if_neg (by simp [h3])]; exact ⟨h1, by simpa using h2, h3, rfl⟩
      · rw [if_pos h3] at h; exact absurd h h3
  · rw [if_pos h1] at h; exact absurd h h1
theorem qfM_ok {m : Model} {name : Str} {f : Abs.Form} {at' : Int} (h : (qfM m name f at').code = 0) : (checkM false f).code = 0 ∧ (truthE m (.mk 9 name [] [f])).code = 0 ∧ qfM m name f at' = ⟨0, 0⟩ := by
  unfold qfM at h ⊢
  by_cases h1 : (checkM false f).code = 0
  · rw [if_neg (by simp [h1])] at h ⊢
    by_cases h2 : (truthE m (.mk 9 name [] [f])).code = 0
    · rw [if_neg (by simp [h2])]; exact ⟨h1, h2, rfl⟩
    · rw [if_pos h2] at h; exact absurd h h2
  · rw [if_pos h1] at h; exact absurd h h1
def B25 : Tbl := B24.add 12 (sp4p mostP fun _ _ _ _ => True)
attribute [go_sem] B25
set_option maxRecDepth 100000 in
set_option maxHeartbeats 1000000 in
set_option maxHeartbeats 4000000 in
theorem hB25 : TblOk Tryd.prog G B25 := by
  refine sp4p_ok ok12 hB24 fun m name a b _ _ _ _ _ => ?_
  by_cases h1 : (numP m name a).2.code = 0
  rotate_left
  · have e : mostP m name a b = (false, (numP m name a).2) := by unfold mostP; rw [if_pos h1]
    obtain ⟨X, Y, hX⟩ : ∃ X Y, numP m name a = (X, Y) := ⟨_, _, rfl⟩
    rw [hX] at e h1
    simp only at e h1
    rw [e]
    refine Wcall_K (N := 66) hm (G := G) hB24 12000 (lst []) ok12 Tryd.func12 rfl rfl (by simp) (by kernel_rfl) ?_
    repeat' (first | refine rq fun _ => ?_ | simp only [go_sem, h1, hX, model_eta, str_eta, form_eta, Tryd.f12])
  obtain ⟨g1, g2, g3, hX⟩ := numP_ok h1
  have hmg := modelM_good g1
  have hmv := hmg.v
  have s1 := hmv.s1
  have s6 := hmv.s6
  by_cases h3 : (qfM m name b (-4)).code = 0
  rotate_left
  · have e : mostP m name a b = (false, qfM m name b (-4)) := by unfold mostP; rw [if_neg (by simp [h1]), if_pos h3]
    obtain ⟨Y, hY⟩ : ∃ Y, qfM m name b (-4) = Y := ⟨_, rfl⟩
    rw [hY] at e h3
    rw [e]
    refine Wcall_K (N := 66) hm (G := G) hB24 12000 (lst []) ok12 Tryd.func12 rfl rfl (by simp) (by kernel_rfl) ?_
    repeat' (first | refine ReqK.i hmv fun _ => ?_ | refine rq fun _ => ?_ | simp only [go_sem, h3, hX, hY, model_eta, str_eta, form_eta, Tryd.f12])
  have e : mostP m name a b = (decide (cntM (valsM m name a) < 2 * bothM (valsM m name a) (valsM m name b)), ⟨0, 0⟩) := by unfold mostP; rw [if_neg (by simp [h1]), if_neg (by simp [h3])]
  obtain ⟨_, _, hY⟩ := qfM_ok h3
  have va := vsP_ok hmv (qfM_ok g3).1
  have vb := vsP_ok hmv (qfM_ok h3).1
  have hvl := valsM_len m name a
  have hwl := valsM_len m name b
  obtain ⟨V, hV⟩ : ∃ V, valsM m name a = V := ⟨_, rfl⟩
  obtain ⟨W, hW⟩ : ∃ W, valsM m name b = W := ⟨_, rfl⟩
  rw [hV] at hvl hX
  rw [hW] at hwl
  rw [hV, hW] at e
  have hct := fun i h => cntM_take (l := V) (i := i) h
  have hbt := fun i h => bothM_take (x := V) (y := W) (i := i) h
  have hcl : ∀ i, cntM (V.take i) ≤ 6 := fun i => by have := cntM_le (V.take i); rw [List.length_take] at this; omega
  have hbl : ∀ i, bothM (V.take i) W ≤ 6 := fun i => by have := bothM_le (V.take i) W; rw [List.length_take] at this; omega
  have hdd : decide (cntM V < 2 * bothM V W) = decide ((cntM V : Int) < 2 * (bothM V W : Int)) := decide_eq_decide.2 (by omega)
  rw [hdd] at e
  rw [e]
  have kc := Kp.mk hct
  have kb := Kp.mk hbt
  have kcl := Kp.mk hcl
  have kbl := Kp.mk hbl
  clear hct hbt hcl hbl hdd e
  refine Wcall_K (N := 66) hm (G := G) hB24 12000 (lst []) ok12 Tryd.func12 rfl rfl (by simp) (by kernel_rfl) ?_
  repeat' (first | refine ReqK.i hmv fun _ => ?_ | refine ReqK.i va fun _ => ?_ | refine ReqK.i vb fun _ => ?_ | refine rq fun _ => ?_ | simp only [go_sem, hX, hY, hV, hW, model_eta, str_eta, form_eta, Tryd.f12])
  refine WK_loop hm (G := G) hB24 12000 (lst []) (ι := LoopI V.length fun _ => True)
    ⟨fun q => ⟨frL [(9, .ptr (12009, 3) 0), (13, .fz (.i .i64 (bothM (V.take q.i) W : Nat))), (14, .fz (.i .i64 (cntM (V.take q.i) : Nat))), (15, .fz (.sl (W.map enc))), (44, .fz (.sl (V.map enc))), (45, .fz (.i .i64 V.length)), (46, .fz (.i .i64 q.i))],
      hpL [((12009, 3), some ⟨[.fz (.i .i64 0), .fz (.i .i64 0)], true, false⟩)], 9⟩, fun q => V.length - q.i⟩
    ⟨0, by omega, trivial⟩ (by kernel_rfl) ?_ ?_
  · refine Weak_to ?_ ?_ ?_ <;> simp only [go_sem]
    all_goals first | done | exact ⟨rfl, rfl⟩ | rfl | omega | trace_state
  rintro ⟨i, hi, _⟩
  try simp only at hi
  rcases Nat.lt_or_ge i V.length with h4 | h4
  · have hc := kc.out i h4
    have hb := kb.out i h4
    have hl1 := kcl.out i
    have hl2 := kbl.out i
    have h5 : i < W.length := by omega
    rw [show W.getD i false = W[i] by rw [List.getD_eq_getElem?_getD, List.getElem?_eq_getElem h5]; rfl] at hb
    obtain ⟨x, hx⟩ : ∃ x, V[i] = x := ⟨_, rfl⟩
    obtain ⟨y, hy⟩ : ∃ y, W[i] = y := ⟨_, rfl⟩
    rw [hx] at hc hb
    rw [hy] at hb
    obtain ⟨K, hK⟩ : ∃ K, cntM (V.take i) = K := ⟨_, rfl⟩
    obtain ⟨B, hB⟩ : ∃ B, bothM (V.take i) W = B := ⟨_, rfl⟩
    rw [hK] at hc hl1
    rw [hB] at hb hl2
    cases x <;> cases y
    all_goals
      simp only [Bool.and_true, Bool.and_false, Bool.true_and, Bool.false_and, Bool.false_eq_true, if_false, if_true, Nat.add_zero] at hc hb
      repeat' (first | refine rq fun _ => ?_ | simp only [go_sem, h4, h5, hx, hy, hK, hB, getD_map_lt, Bool.false_eq_true, Tryd.f12])
      refine ⟨⟨i + 1, by omega, trivial⟩, by simp only; omega, ?_⟩
      refine Weak_to ?_ ?_ ?_ <;> simp only [go_sem, hc, hb, hK, hB]
      all_goals first | done | rfl | omega | trace_state
  obtain rfl : i = V.length := by omega
  have hl1 := kcl.out V.length
  have hl2 := kbl.out V.length
  rw [List.take_length] at hl1 hl2
  repeat' (first | refine rq fun _ => ?_ | simp only [go_sem, Nat.lt_irrefl, List.take_length, Tryd.f12])
end
def oneM : Model := ⟨2, [⟨⟨[107, 105, 109]⟩, 0⟩, ⟨⟨[108, 101, 101]⟩, 1⟩], [⟨⟨[100, 111, 103]⟩, 1, [[0]]⟩]⟩
section
variable {G : Nat → List FD}
def B26 : Tbl := B25.add 10 (sp0 oneM)
attribute [go_sem] B26
set_option maxRecDepth 100000 in
set_option maxHeartbeats 1000000 in
theorem hB26 : TblOk Tryd.prog G B26 := by
  refine sp0_ok hB25 ?_
  refine Wcall_K (N := 9) hm (G := G) hB25 10000 (lst []) ok10 Tryd.func10 rfl rfl (by simp) (by kernel_rfl) ?_
  repeat' (first | refine rq fun _ => ?_ | simp only [go_sem, oneM, Tryd.f10])
def B27 : Tbl := B26
attribute [go_sem] B27
theorem hB27 : TblOk Tryd.prog G B27 := hB26
end
/-! ## the law QuantityOfSame -/
def G1 : Nat → List FD := fun g => if g = 0 then [.i .i64 0, .i .i64 0] else []
def sQD : Str := ⟨[100, 111, 103]⟩
def sQX : Str := ⟨[120]⟩
def fQD : Abs.Form := predM sQD [sQX]
def tree745 : Tv := (.q 0 (.q 1 (.q 2 (.q 3 (.q 4 (.q 5 (.q 6 (.q 7 (.q 8 (.br [(9, (.q 10 (.br [(11, .leaf)])))]))))))))))
end Go.Proofs.YtbbjghecpcobjaaDoor
