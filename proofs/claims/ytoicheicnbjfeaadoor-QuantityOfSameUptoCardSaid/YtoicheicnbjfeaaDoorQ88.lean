import Derived.Test.YtoicheicnbjfeaaDoorAT
import Derived.Test.YtoicheicnbjfeaaDoorZQ84Q872
import Derived.Test.YtoicheicnbjfeaaDoorVP
set_option linter.unusedSimpArgs false
namespace Go.Proofs.YtoicheicnbjfeaaDoor
open Go Go.Abs Go.Proofs
section
variable {G : Nat → List FD}
/-! ## quantity.Most -/
theorem numP_ok {m : Model} {name : Str} {f : Abs.Form} (h : (numP m name f).2.code = 0) : (modelM m).code = 0 ∧ isName name = true ∧ (qfM m name f (-3)).code = 0 ∧ numP m name f = (((cntM (valsM m name f) : Nat) : Int), ⟨0, 0⟩) := by
  unfold numP at h ⊢
  by_cases h1 : (modelM m).code = 0
  · rw [if_neg (by simp [h1])] at h ⊢
    by_cases h2 : isName name = false
    · rw [if_pos h2] at h; exact absurd h (by decide)
    · rw [if_neg h2] at h ⊢
      by_cases h3 : (qfM m name f (-3)).code = 0
      · rw [if_neg (by simp [h3])]; exact ⟨h1, by simpa using h2, h3, rfl⟩
      · rw [if_pos h3] at h; exact absurd h h3
  · rw [if_pos h1] at h; exact absurd h h1
theorem qfM_ok {m : Model} {name : Str} {f : Abs.Form} {at' : Int} (h : (qfM m name f at').code = 0) : (checkM false f).code = 0 ∧ (truthE m (.mk 9 name [] [f])).code = 0 ∧ qfM m name f at' = ⟨0, 0⟩ := by
  unfold qfM at h ⊢
  by_cases h1 : (checkM false f).code = 0
  · rw [if_neg (by simp [h1])] at h ⊢
    by_cases h2 : (truthE m (.mk 9 name [] [f])).code = 0
    · rw [if_neg (by simp [h2])]; exact ⟨h1, h2, rfl⟩
    · rw [if_pos h2] at h; exact absurd h h2
  · rw [if_pos h1] at h; exact absurd h h1
def B25 : Tbl := B24.add 31 (sp4p mostP fun _ _ _ _ => True)
set_option maxRecDepth 100000 in
set_option maxHeartbeats 1000000 in
set_option maxHeartbeats 4000000 in
theorem hB25 : TblOk Tryd.prog G B25 := by
  refine sp4p_ok ok31 hB24 fun m name a b _ _ _ _ _ => ?_
  by_cases h1 : (numP m name a).2.code = 0
  rotate_left
  · have e : mostP m name a b = (false, (numP m name a).2) := by unfold mostP; rw [if_pos h1]
    obtain ⟨X, Y, hX⟩ : ∃ X Y, numP m name a = (X, Y) := ⟨_, _, rfl⟩
    rw [hX] at e h1
    simp only at e h1
    rw [e]
    refine Wcall_K (N := 66) hm (G := G) hB24 31000 (lst []) ok31 Tryd.func31 rfl rfl (by simp) (by kernel_rfl) ?_
    repeat' (first | refine ReqK.i (by omega) fun _ => ?_ | refine ReqK.i (by unfold maxL; omega) fun _ => ?_ | refine ReqK.i rfl fun _ => ?_ | refine ReqK.i ⟨rfl, rfl⟩ fun _ => ?_ | refine ReqK.i ⟨rfl, rfl, rfl⟩ fun _ => ?_ | refine ReqK.i ⟨rfl, rfl, rfl, rfl⟩ fun _ => ?_ | refine ReqK.i ⟨rfl, rfl, rfl, trivial⟩ fun _ => ?_ | refine ReqK.i ⟨rfl, rfl, rfl, rfl, trivial⟩ fun _ => ?_ | simp only [go_sem, h1, hX, model_eta, str_eta, form_eta, Tryd.f31, B24, B23, B22, A21, A20, A19, A18, A17, A16, A15, A14, A13, A12, A11, A10, A9, A8, A7, A6, A5, A4, A3, A2, A1, Q20, Q19, Q18, Q17, Q16, Q15, Q14, Q13, Q12, Q11, Q10, Q9, Q8, Q7, Q6, Q5, Q4, Q3, Q2, Q1, Tbl0])
  obtain ⟨g1, g2, g3, hX⟩ := numP_ok h1
  have hmg := modelM_good g1
  have hmv := hmg.v
  have s1 := hmv.s1
  have s6 := hmv.s6
  by_cases h3 : (qfM m name b (-4)).code = 0
  rotate_left
  · have e : mostP m name a b = (false, qfM m name b (-4)) := by unfold mostP; rw [if_neg (by simp [h1]), if_pos h3]
    obtain ⟨Y, hY⟩ : ∃ Y, qfM m name b (-4) = Y := ⟨_, rfl⟩
    rw [hY] at e h3
    rw [e]
    refine Wcall_K (N := 66) hm (G := G) hB24 31000 (lst []) ok31 Tryd.func31 rfl rfl (by simp) (by kernel_rfl) ?_
    repeat' (first | refine ReqK.i hmv fun _ => ?_ | refine ReqK.i (by omega) fun _ => ?_ | refine ReqK.i (by unfold maxL; omega) fun _ => ?_ | refine ReqK.i rfl fun _ => ?_ | refine ReqK.i ⟨rfl, rfl⟩ fun _ => ?_ | refine ReqK.i ⟨rfl, rfl, rfl⟩ fun _ => ?_ | refine ReqK.i ⟨rfl, rfl, rfl, rfl⟩ fun _ => ?_ | refine ReqK.i ⟨rfl, rfl, rfl, trivial⟩ fun _ => ?_ | refine ReqK.i ⟨rfl, rfl, rfl, rfl, trivial⟩ fun _ => ?_ | simp only [go_sem, h3, hX, hY, model_eta, str_eta, form_eta, Tryd.f31, B24, B23, B22, A21, A20, A19, A18, A17, A16, A15, A14, A13, A12, A11, A10, A9, A8, A7, A6, A5, A4, A3, A2, A1, Q20, Q19, Q18, Q17, Q16, Q15, Q14, Q13, Q12, Q11, Q10, Q9, Q8, Q7, Q6, Q5, Q4, Q3, Q2, Q1, Tbl0])
  have e : mostP m name a b = (decide (cntM (valsM m name a) < 2 * bothM (valsM m name a) (valsM m name b)), ⟨0, 0⟩) := by unfold mostP; rw [if_neg (by simp [h1]), if_neg (by simp [h3])]
  obtain ⟨_, _, hY⟩ := qfM_ok h3
  have va := vsP_ok hmv (qfM_ok g3).1
  have vb := vsP_ok hmv (qfM_ok h3).1
  have hvl := valsM_len m name a
  have hwl := valsM_len m name b
  obtain ⟨V, hV⟩ : ∃ V, valsM m name a = V := ⟨_, rfl⟩
  obtain ⟨W, hW⟩ : ∃ W, valsM m name b = W := ⟨_, rfl⟩
  rw [hV] at hvl hX
  rw [hW] at hwl
  rw [hV, hW] at e
  have hct := fun i h => cntM_take (l := V) (i := i) h
  have hbt := fun i h => bothM_take (x := V) (y := W) (i := i) h
  have hcl : ∀ i, cntM (V.take i) ≤ 6 := fun i => by have := cntM_le (V.take i); rw [List.length_take] at this; omega
  have hbl : ∀ i, bothM (V.take i) W ≤ 6 := fun i => by have := bothM_le (V.take i) W; rw [List.length_take] at this; omega
  have hdd : decide (cntM V < 2 * bothM V W) = decide ((cntM V : Int) < 2 * (bothM V W : Int)) := decide_eq_decide.2 (by omega)
  rw [hdd] at e
  rw [e]
  have kc := Kp.mk hct
  have kb := Kp.mk hbt
  have kcl := Kp.mk hcl
  have kbl := Kp.mk hbl
  clear hct hbt hcl hbl hdd e
  refine Wcall_K (N := 66) hm (G := G) hB24 31000 (lst []) ok31 Tryd.func31 rfl rfl (by simp) (by kernel_rfl) ?_
  repeat' (first | refine ReqK.i hmv fun _ => ?_ | refine ReqK.i va fun _ => ?_ | refine ReqK.i vb fun _ => ?_ | refine ReqK.i (by omega) fun _ => ?_ | refine ReqK.i (by unfold maxL; omega) fun _ => ?_ | refine ReqK.i rfl fun _ => ?_ | refine ReqK.i ⟨rfl, rfl⟩ fun _ => ?_ | refine ReqK.i ⟨rfl, rfl, rfl⟩ fun _ => ?_ | refine ReqK.i ⟨rfl, rfl, rfl, rfl⟩ fun _ => ?_ | refine ReqK.i ⟨rfl, rfl, rfl, trivial⟩ fun _ => ?_ | refine ReqK.i ⟨rfl, rfl, rfl, rfl, trivial⟩ fun _ => ?_ | simp only [go_sem, hX, hY, hV, hW, model_eta, str_eta, form_eta, Tryd.f31, B24, B23, B22, A21, A20, A19, A18, A17, A16, A15, A14, A13, A12, A11, A10, A9, A8, A7, A6, A5, A4, A3, A2, A1, Q20, Q19, Q18, Q17, Q16, Q15, Q14, Q13, Q12, Q11, Q10, Q9, Q8, Q7, Q6, Q5, Q4, Q3, Q2, Q1, Tbl0])
  refine WK_loop hm (G := G) hB24 31000 (lst []) (ι := LoopI V.length fun _ => True)
    ⟨fun q => ⟨frL [(9, .ptr (31009, 3) 0), (13, .fz (.i .i64 (bothM (V.take q.i) W : Nat))), (14, .fz (.i .i64 (cntM (V.take q.i) : Nat))), (15, .fz (.sl (W.map enc))), (44, .fz (.sl (V.map enc))), (45, .fz (.i .i64 V.length)), (46, .fz (.i .i64 q.i))],
      hpL [((31009, 3), some ⟨[.fz (.i .i64 0), .fz (.i .i64 0)], true, false⟩)], 9⟩, fun q => V.length - q.i⟩
    ⟨0, by omega, trivial⟩ (by kernel_rfl) ?_ ?_
  · refine Weak_to ?_ ?_ ?_ <;> simp only [go_sem]
    all_goals first | done | exact ⟨rfl, rfl⟩ | rfl | omega | trace_state
  rintro ⟨i, hi, _⟩
  try simp only at hi
  rcases Nat.lt_or_ge i V.length with h4 | h4
  · have hc := kc.out i h4
    have hb := kb.out i h4
    have hl1 := kcl.out i
    have hl2 := kbl.out i
    have h5 : i < W.length := by omega
    rw [show W.getD i false = W[i] by rw [List.getD_eq_getElem?_getD, List.getElem?_eq_getElem h5]; rfl] at hb
    obtain ⟨x, hx⟩ : ∃ x, V[i] = x := ⟨_, rfl⟩
    obtain ⟨y, hy⟩ : ∃ y, W[i] = y := ⟨_, rfl⟩
    rw [hx] at hc hb
    rw [hy] at hb
    obtain ⟨K, hK⟩ : ∃ K, cntM (V.take i) = K := ⟨_, rfl⟩
    obtain ⟨B, hB⟩ : ∃ B, bothM (V.take i) W = B := ⟨_, rfl⟩
    rw [hK] at hc hl1
    rw [hB] at hb hl2
    cases x <;> cases y
    all_goals
      simp only [Bool.and_true, Bool.and_false, Bool.true_and, Bool.false_and, Bool.false_eq_true, if_false, if_true, Nat.add_zero] at hc hb
      repeat' (first | refine ReqK.i (by omega) fun _ => ?_ | refine ReqK.i (by unfold maxL; omega) fun _ => ?_ | refine ReqK.i rfl fun _ => ?_ | refine ReqK.i ⟨rfl, rfl⟩ fun _ => ?_ | refine ReqK.i ⟨rfl, rfl, rfl⟩ fun _ => ?_ | refine ReqK.i ⟨rfl, rfl, rfl, rfl⟩ fun _ => ?_ | refine ReqK.i ⟨rfl, rfl, rfl, trivial⟩ fun _ => ?_ | refine ReqK.i ⟨rfl, rfl, rfl, rfl, trivial⟩ fun _ => ?_ | simp only [go_sem, h4, h5, hx, hy, hK, hB, getD_map_lt, Bool.false_eq_true, Tryd.f31, B24, B23, B22, A21, A20, A19, A18, A17, A16, A15, A14, A13, A12, A11, A10, A9, A8, A7, A6, A5, A4, A3, A2, A1, Q20, Q19, Q18, Q17, Q16, Q15, Q14, Q13, Q12, Q11, Q10, Q9, Q8, Q7, Q6, Q5, Q4, Q3, Q2, Q1, Tbl0])
      refine ⟨⟨i + 1, by omega, trivial⟩, by simp only; omega, ?_⟩
      refine Weak_to ?_ ?_ ?_ <;> simp only [go_sem, hc, hb, hK, hB]
      all_goals first | done | rfl | omega | trace_state
  obtain rfl : i = V.length := by omega
  have hl1 := kcl.out V.length
  have hl2 := kbl.out V.length
  rw [List.take_length] at hl1 hl2
  repeat' (first | refine ReqK.i (by omega) fun _ => ?_ | refine ReqK.i (by unfold maxL; omega) fun _ => ?_ | refine ReqK.i rfl fun _ => ?_ | refine ReqK.i ⟨rfl, rfl⟩ fun _ => ?_ | refine ReqK.i ⟨rfl, rfl, rfl⟩ fun _ => ?_ | refine ReqK.i ⟨rfl, rfl, rfl, rfl⟩ fun _ => ?_ | refine ReqK.i ⟨rfl, rfl, rfl, trivial⟩ fun _ => ?_ | refine ReqK.i ⟨rfl, rfl, rfl, rfl, trivial⟩ fun _ => ?_ | simp only [go_sem, Nat.lt_irrefl, List.take_length, Tryd.f31, B24, B23, B22, A21, A20, A19, A18, A17, A16, A15, A14, A13, A12, A11, A10, A9, A8, A7, A6, A5, A4, A3, A2, A1, Q20, Q19, Q18, Q17, Q16, Q15, Q14, Q13, Q12, Q11, Q10, Q9, Q8, Q7, Q6, Q5, Q4, Q3, Q2, Q1, Tbl0])
end
def oneM : Model := ⟨2, [⟨⟨[107, 105, 109]⟩, 0⟩, ⟨⟨[108, 101, 101]⟩, 1⟩], [⟨⟨[100, 111, 103]⟩, 1, [[0]]⟩]⟩
section
variable {G : Nat → List FD}
def B26 : Tbl := B25.add 29 (sp0 oneM)
set_option maxRecDepth 100000 in
set_option maxHeartbeats 1000000 in
theorem hB26 : TblOk Tryd.prog G B26 := by
  refine sp0_ok hB25 ?_
  refine Wcall_K (N := 9) hm (G := G) hB25 29000 (lst []) ok29 Tryd.func29 rfl rfl (by simp) (by kernel_rfl) ?_
  repeat' (first | refine ReqK.i (by omega) fun _ => ?_ | refine ReqK.i (by unfold maxL; omega) fun _ => ?_ | refine ReqK.i rfl fun _ => ?_ | refine ReqK.i ⟨rfl, rfl⟩ fun _ => ?_ | refine ReqK.i ⟨rfl, rfl, rfl⟩ fun _ => ?_ | refine ReqK.i ⟨rfl, rfl, rfl, rfl⟩ fun _ => ?_ | refine ReqK.i ⟨rfl, rfl, rfl, trivial⟩ fun _ => ?_ | refine ReqK.i ⟨rfl, rfl, rfl, rfl, trivial⟩ fun _ => ?_ | simp only [go_sem, oneM, Tryd.f29, B25, B24, B23, B22, A21, A20, A19, A18, A17, A16, A15, A14, A13, A12, A11, A10, A9, A8, A7, A6, A5, A4, A3, A2, A1, Q20, Q19, Q18, Q17, Q16, Q15, Q14, Q13, Q12, Q11, Q10, Q9, Q8, Q7, Q6, Q5, Q4, Q3, Q2, Q1, Tbl0])
def B27 : Tbl := B26.add 34 (sp1 notF fun _ => True)
set_option maxRecDepth 100000 in
set_option maxHeartbeats 1000000 in
theorem hB27 : TblOk Tryd.prog G B27 := by
  refine sp1_ok ok34 hB26 fun f _ _ => ?_
  simp only [notF]
  refine Wcall_K (N := 6) hm (G := G) hB26 34000 (lst []) ok34 Tryd.func34 rfl rfl (by simp) (by kernel_rfl) ?_
  repeat' (first | refine ReqK.i (by omega) fun _ => ?_ | refine ReqK.i (by unfold maxL; omega) fun _ => ?_ | refine ReqK.i rfl fun _ => ?_ | refine ReqK.i ⟨rfl, rfl⟩ fun _ => ?_ | refine ReqK.i ⟨rfl, rfl, rfl⟩ fun _ => ?_ | refine ReqK.i ⟨rfl, rfl, rfl, rfl⟩ fun _ => ?_ | refine ReqK.i ⟨rfl, rfl, rfl, trivial⟩ fun _ => ?_ | refine ReqK.i ⟨rfl, rfl, rfl, rfl, trivial⟩ fun _ => ?_ | simp only [go_sem, form_eta, Tryd.f34, B26, B25, B24, B23, B22, A21, A20, A19, A18, A17, A16, A15, A14, A13, A12, A11, A10, A9, A8, A7, A6, A5, A4, A3, A2, A1, Q20, Q19, Q18, Q17, Q16, Q15, Q14, Q13, Q12, Q11, Q10, Q9, Q8, Q7, Q6, Q5, Q4, Q3, Q2, Q1, Tbl0])
end
/-! ## the law QuantityOfSame -/
def G1 : Nat → List FD := fun g => if g = 0 then [.i .i64 0, .i .i64 0] else []
def sQD : Str := ⟨[100, 111, 103]⟩
def sQX : Str := ⟨[120]⟩
def fQD : Abs.Form := predM sQD [sQX]
theorem most_x : mostP oneM sQX fQD fQD = (true, ⟨0, 0⟩) := by kernel_rfl
theorem vals_not2 (m : Model) (name : Str) (f : Abs.Form) : valsM m name (notF (notF f)) = valsM m name f := by
  unfold valsM notF
  refine List.map_congr_left fun v _ => ?_
  rw [val_not, val_not, Bool.not_not]
theorem both_self (l : List Bool) : bothM l l = cntM l := by
  have key : ∀ i, i ≤ l.length → bothM (l.take i) l = cntM (l.take i) := by
    intro i
    induction i with
    | zero => intro _; rfl
    | succ i ih =>
      intro h
      rw [bothM_take (by omega), cntM_take (by omega), ih (by omega)]
      have : l.getD i false = l[i] := by rw [List.getD_eq_getElem?_getD, List.getElem?_eq_getElem (by omega)]; rfl
      rw [this, Bool.and_self]
  have := key l.length (Nat.le_refl _)
  rwa [List.take_length] at this
def tree745 : Tv := (.q 0 (.q 1 (.q 2 (.q 3 (.q 4 (.q 5 (.q 6 (.q 7 (.q 8 (.br [(9, (.q 10 (.br [(11, .leaf)])))]))))))))))
set_option maxRecDepth 100000 in
set_option maxHeartbeats 1000000 in
set_option maxHeartbeats 4000000 in
theorem lawSame (hT : TblOk Tryd.prog G1 B27) (m : Model) (name : Str) (f : Abs.Form) (_ : (enc m).Wf) (_ : (enc name).Wf) (_ : (enc f).Wf) : Wcall Tryd.prog G1 7 [.fz (enc m), .fz (enc name), .fz (enc f)] (hpL []) 0 (fun d _ _ => d = .fz (.b true)) := by
  have dD : Str.mk [100, 111, 103] = sQD := rfl
  have dX : Str.mk [120] = sQX := rfl
  have dF : predM sQD [sQX] = fQD := rfl
  have hmx := most_x
  obtain ⟨n, e, hn⟩ : ∃ n e, numP m name f = (n, e) := ⟨_, _, rfl⟩
  obtain ⟨k, d, hk⟩ : ∃ k d, numP m name (notF (notF f)) = (k, d) := ⟨_, _, rfl⟩
  obtain ⟨b, c, hb⟩ : ∃ b c, mostP m name f f = (b, c) := ⟨_, _, rfl⟩
  refine Wcall_K (N := 77) hm hT 7000 (lst [1000005]) ok7 Tryd.func7 rfl rfl (by simp) (by kernel_rfl) ?_
  by_cases h1 : e.code = 0
  rotate_left
  · have h1' : (e.code = 0) = False := eq_false h1
    repeat' (first | refine WK_drawV hm hT 7000 (lst [1000005]) tree745 (by kernel_rfl) (by kernel_rfl) ?_ | refine And.intro ?_ ?_ | exact True.intro | refine ReqK.i (by omega) fun _ => ?_ | refine ReqK.i (by unfold maxL; omega) fun _ => ?_ | refine ReqK.i rfl fun _ => ?_ | refine ReqK.i ⟨rfl, rfl⟩ fun _ => ?_ | refine ReqK.i ⟨rfl, rfl, rfl⟩ fun _ => ?_ | refine ReqK.i ⟨rfl, rfl, rfl, rfl⟩ fun _ => ?_ | refine ReqK.i ⟨rfl, rfl, rfl, trivial⟩ fun _ => ?_ | refine ReqK.i ⟨rfl, rfl, rfl, rfl, trivial⟩ fun _ => ?_ | simp only [go_sem, tree745, dD, dX, dF, hmx, hn, hk, hb, h1', G1, str_eta, form_eta, model_eta, Tryd.f7, B27, B26, B25, B24, B23, B22, A21, A20, A19, A18, A17, A16, A15, A14, A13, A12, A11, A10, A9, A8, A7, A6, A5, A4, A3, A2, A1, Q20, Q19, Q18, Q17, Q16, Q15, Q14, Q13, Q12, Q11, Q10, Q9, Q8, Q7, Q6, Q5, Q4, Q3, Q2, Q1, Tbl0])
  have n1 := (numP_ok (m := m) (name := name) (f := f) (by rw [hn]; exact h1)).2.2.2
  by_cases h2 : d.code = 0
  rotate_left
  · have h2' : (d.code = 0) = False := eq_false h2
    repeat' (first | refine WK_drawV hm hT 7000 (lst [1000005]) tree745 (by kernel_rfl) (by kernel_rfl) ?_ | refine And.intro ?_ ?_ | exact True.intro | refine ReqK.i (by omega) fun _ => ?_ | refine ReqK.i (by unfold maxL; omega) fun _ => ?_ | refine ReqK.i rfl fun _ => ?_ | refine ReqK.i ⟨rfl, rfl⟩ fun _ => ?_ | refine ReqK.i ⟨rfl, rfl, rfl⟩ fun _ => ?_ | refine ReqK.i ⟨rfl, rfl, rfl, rfl⟩ fun _ => ?_ | refine ReqK.i ⟨rfl, rfl, rfl, trivial⟩ fun _ => ?_ | refine ReqK.i ⟨rfl, rfl, rfl, rfl, trivial⟩ fun _ => ?_ | simp only [go_sem, tree745, dD, dX, dF, hmx, n1, hk, hb, h2', G1, str_eta, form_eta, model_eta, Tryd.f7, B27, B26, B25, B24, B23, B22, A21, A20, A19, A18, A17, A16, A15, A14, A13, A12, A11, A10, A9, A8, A7, A6, A5, A4, A3, A2, A1, Q20, Q19, Q18, Q17, Q16, Q15, Q14, Q13, Q12, Q11, Q10, Q9, Q8, Q7, Q6, Q5, Q4, Q3, Q2, Q1, Tbl0])
  have n2 := (numP_ok (m := m) (name := name) (f := notF (notF f)) (by rw [hk]; exact h2)).2.2.2
  by_cases h3 : c.code = 0
  rotate_left
  · have h3' : (c.code = 0) = False := eq_false h3
    repeat' (first | refine WK_drawV hm hT 7000 (lst [1000005]) tree745 (by kernel_rfl) (by kernel_rfl) ?_ | refine And.intro ?_ ?_ | exact True.intro | refine ReqK.i (by omega) fun _ => ?_ | refine ReqK.i (by unfold maxL; omega) fun _ => ?_ | refine ReqK.i rfl fun _ => ?_ | refine ReqK.i ⟨rfl, rfl⟩ fun _ => ?_ | refine ReqK.i ⟨rfl, rfl, rfl⟩ fun _ => ?_ | refine ReqK.i ⟨rfl, rfl, rfl, rfl⟩ fun _ => ?_ | refine ReqK.i ⟨rfl, rfl, rfl, trivial⟩ fun _ => ?_ | refine ReqK.i ⟨rfl, rfl, rfl, rfl, trivial⟩ fun _ => ?_ | simp only [go_sem, tree745, dD, dX, dF, hmx, n1, n2, hb, h3', G1, str_eta, form_eta, model_eta, Tryd.f7, B27, B26, B25, B24, B23, B22, A21, A20, A19, A18, A17, A16, A15, A14, A13, A12, A11, A10, A9, A8, A7, A6, A5, A4, A3, A2, A1, Q20, Q19, Q18, Q17, Q16, Q15, Q14, Q13, Q12, Q11, Q10, Q9, Q8, Q7, Q6, Q5, Q4, Q3, Q2, Q1, Tbl0])
  have n3 : mostP m name f f = (decide (cntM (valsM m name f) < 2 * bothM (valsM m name f) (valsM m name f)), ⟨0, 0⟩) := by
    unfold mostP
    rw [if_neg (by rw [hn]; simp [h1])]
    by_cases h4 : (qfM m name f (-4)).code = 0
    · rw [if_neg (by simp [h4])]
    · exfalso
      unfold mostP at hb
      rw [if_neg (by rw [hn]; simp [h1]), if_pos h4] at hb
      have := (Prod.mk.inj hb).2
      rw [this] at h4
      exact h4 h3
  rw [vals_not2] at n2
  rw [both_self] at n3
  obtain ⟨K, hK⟩ : ∃ K, cntM (valsM m name f) = K := ⟨_, rfl⟩
  rw [hK] at n1 n2 n3
  have hle : (0 : Int) ≤ (K : Int) := by omega
  rcases Nat.eq_zero_or_pos K with h0 | h0
  · subst h0
    repeat' (first | refine WK_drawV hm hT 7000 (lst [1000005]) tree745 (by kernel_rfl) (by kernel_rfl) ?_ | refine And.intro ?_ ?_ | exact True.intro | refine ReqK.i (by omega) fun _ => ?_ | refine ReqK.i (by unfold maxL; omega) fun _ => ?_ | refine ReqK.i rfl fun _ => ?_ | refine ReqK.i ⟨rfl, rfl⟩ fun _ => ?_ | refine ReqK.i ⟨rfl, rfl, rfl⟩ fun _ => ?_ | refine ReqK.i ⟨rfl, rfl, rfl, rfl⟩ fun _ => ?_ | refine ReqK.i ⟨rfl, rfl, rfl, trivial⟩ fun _ => ?_ | refine ReqK.i ⟨rfl, rfl, rfl, rfl, trivial⟩ fun _ => ?_ | simp only [go_sem, tree745, dD, dX, dF, hmx, n1, n2, n3, G1, str_eta, form_eta, model_eta, Tryd.f7, B27, B26, B25, B24, B23, B22, A21, A20, A19, A18, A17, A16, A15, A14, A13, A12, A11, A10, A9, A8, A7, A6, A5, A4, A3, A2, A1, Q20, Q19, Q18, Q17, Q16, Q15, Q14, Q13, Q12, Q11, Q10, Q9, Q8, Q7, Q6, Q5, Q4, Q3, Q2, Q1, Tbl0])
  · have e5 : decide (K < 2 * K) = true := decide_eq_true (by omega)
    have e6 : ((0 : Int) < (K : Int)) = True := eq_true (by omega)
    rw [e5] at n3
    repeat' (first | refine WK_drawV hm hT 7000 (lst [1000005]) tree745 (by kernel_rfl) (by kernel_rfl) ?_ | refine And.intro ?_ ?_ | exact True.intro | refine ReqK.i (by omega) fun _ => ?_ | refine ReqK.i (by unfold maxL; omega) fun _ => ?_ | refine ReqK.i rfl fun _ => ?_ | refine ReqK.i ⟨rfl, rfl⟩ fun _ => ?_ | refine ReqK.i ⟨rfl, rfl, rfl⟩ fun _ => ?_ | refine ReqK.i ⟨rfl, rfl, rfl, rfl⟩ fun _ => ?_ | refine ReqK.i ⟨rfl, rfl, rfl, trivial⟩ fun _ => ?_ | refine ReqK.i ⟨rfl, rfl, rfl, rfl, trivial⟩ fun _ => ?_ | simp only [go_sem, tree745, dD, dX, dF, hmx, n1, n2, n3, e6, G1, str_eta, form_eta, model_eta, Tryd.f7, B27, B26, B25, B24, B23, B22, A21, A20, A19, A18, A17, A16, A15, A14, A13, A12, A11, A10, A9, A8, A7, A6, A5, A4, A3, A2, A1, Q20, Q19, Q18, Q17, Q16, Q15, Q14, Q13, Q12, Q11, Q10, Q9, Q8, Q7, Q6, Q5, Q4, Q3, Q2, Q1, Tbl0])
end Go.Proofs.YtoicheicnbjfeaaDoor
