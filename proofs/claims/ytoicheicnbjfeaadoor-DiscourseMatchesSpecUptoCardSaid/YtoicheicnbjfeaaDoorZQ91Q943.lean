/- several texts of this proof in one; no conditions -/
import Derived.Test.YtoicheicnbjfeaaDoorAT
import Derived.Test.YtoicheicnbjfeaaDoorQ40E
import Derived.Test.YtoicheicnbjfeaaDoorZQ9Q134
import Derived.Test.YtoicheicnbjfeaaDoorDS
import Derived.Test.YtoicheicnbjfeaaDoorAbs46
set_option linter.unusedSimpArgs false
namespace Go.Abs
open Go
section
variable {P : Program} {G : Nat → List FD} {T : Tbl}
/-- a recursive function of three arguments, measured at the second -/
theorem sp3_recB {α β γ ρ : Type} [Enc α] [Enc β] [Enc γ] [Enc ρ] {f : FuncId} {g : α → β → γ → ρ} {pre : α → β → γ → Prop} (m : β → Nat) (hc : CallOk P f) (hT : TblOk P G T)
    (h : ∀ n, TblOk P G (T.add f (sp3 g fun a b c => m b < n ∧ pre a b c)) → ∀ a b c, m b = n → pre a b c → (enc a).Wf → (enc b).Wf → (enc c).Wf → Wcall P G f [.fz (enc a), .fz (enc b), .fz (enc c)] (hpL []) 0 (fun d _ _ => D.val d = some (.fz (enc (g a b c))))) : TblOk P G (T.add f (sp3 g pre)) := by
  have key : ∀ n, TblOk P G (T.add f (sp3 g fun a b c => m b < n ∧ pre a b c)) := by
    intro n
    induction n with
    | zero => exact sp3_ok hc hT fun a b c ha => by omega
    | succ n ih =>
      refine sp3_ok hc hT fun a b c ha hw hw2 hw3 => ?_
      rcases Nat.lt_or_ge (m b) n with h1 | h1
      · have h2 := ih f (sp3 g fun a b c => m b < n ∧ pre a b c) [enc a, enc b, enc c] _ _ (by simp [Tbl.add]) (k_sp3) ⟨by rw [dec_enc], by rw [dec_enc], by rw [dec_enc], by rw [dec_enc, dec_enc, dec_enc]; exact ⟨h1, ha.2⟩⟩
        rw [dec_enc, dec_enc, dec_enc, H0_eq] at h2
        exact h2
      · exact h n ih a b c (by omega) ha.2 hw hw2 hw3
  exact sp3_ok hc hT fun a b c ha hw hw2 hw3 => h (m b) (key _) a b c rfl ha hw hw2 hw3
theorem sp1_rec2 {α : Type} {ρ σ : Type} [Enc α] [Enc ρ] [Enc σ] {f1 f2 : FuncId} (hne : f1 ≠ f2) {g1 : α → ρ} {g2 : α → σ} {pre : α → Prop} (m1 m2 : α → Nat) (hc1 : CallOk P f1) (hc2 : CallOk P f2) (hT : TblOk P G T)
    (h1 : ∀ n, TblOk P G ((T.add f1 (sp1 g1 fun a => m1 a < n ∧ pre a)).add f2 (sp1 g2 fun a => m2 a < n ∧ pre a)) → ∀ a, m1 a = n → pre a → (enc a).Wf → Wcall P G f1 [.fz (enc a)] (hpL []) 0 (fun d _ _ => D.val d = some (.fz (enc (g1 a)))))
    (h2 : ∀ n, TblOk P G ((T.add f1 (sp1 g1 fun a => m1 a < n ∧ pre a)).add f2 (sp1 g2 fun a => m2 a < n ∧ pre a)) → ∀ a, m2 a = n → pre a → (enc a).Wf → Wcall P G f2 [.fz (enc a)] (hpL []) 0 (fun d _ _ => D.val d = some (.fz (enc (g2 a))))) :
    TblOk P G ((T.add f1 (sp1 g1 pre)).add f2 (sp1 g2 pre)) := by
  have key : ∀ n, TblOk P G ((T.add f1 (sp1 g1 fun a => m1 a < n ∧ pre a)).add f2 (sp1 g2 fun a => m2 a < n ∧ pre a)) := by
    intro n
    induction n with
    | zero => exact sp1_ok hc2 (sp1_ok hc1 hT fun a ha => by omega) fun a ha => by omega
    | succ n ih =>
      refine sp1_ok hc2 (sp1_ok hc1 hT fun a ha hw => ?_) fun a ha hw => ?_
      · rcases Nat.lt_or_ge (m1 a) n with h3 | h3
        · have h4 := ih f1 (sp1 g1 fun a => m1 a < n ∧ pre a) [enc a] _ _ (by simp [Tbl.add, hne]) (k_sp1) ⟨by rw [dec_enc], by rw [dec_enc]; exact ⟨h3, ha.2⟩⟩
          rw [dec_enc, H0_eq] at h4
          exact h4
        · exact h1 n ih a (by omega) ha.2 hw
      · rcases Nat.lt_or_ge (m2 a) n with h3 | h3
        · have h4 := ih f2 (sp1 g2 fun a => m2 a < n ∧ pre a) [enc a] _ _ (by simp [Tbl.add]) (k_sp1) ⟨by rw [dec_enc], by rw [dec_enc]; exact ⟨h3, ha.2⟩⟩
          rw [dec_enc, H0_eq] at h4
          exact h4
        · exact h2 n ih a (by omega) ha.2 hw
  exact sp1_ok hc2 (sp1_ok hc1 hT fun a ha hw => h1 (m1 a) (key _) a rfl ha hw) fun a ha hw => h2 (m2 a) (key _) a rfl ha hw
theorem sp1p_rec2 {α : Type} {ρ σ : Type} [Enc α] [Enc ρ] [Enc σ] {f1 f2 : FuncId} (hne : f1 ≠ f2) {g1 : α → ρ × σ} {g2 : α → ρ × σ} {pre : α → Prop} (m1 m2 : α → Nat) (hc1 : CallOk P f1) (hc2 : CallOk P f2) (hT : TblOk P G T)
    (h1 : ∀ n, TblOk P G ((T.add f1 (sp1p g1 fun a => m1 a < n ∧ pre a)).add f2 (sp1p g2 fun a => m2 a < n ∧ pre a)) → ∀ a, m1 a = n → pre a → (enc a).Wf → Wcall P G f1 [.fz (enc a)] (hpL []) 0 (fun d _ _ => D.val d = some (.tup [.fz (enc (g1 a).1), .fz (enc (g1 a).2)])))
    (h2 : ∀ n, TblOk P G ((T.add f1 (sp1p g1 fun a => m1 a < n ∧ pre a)).add f2 (sp1p g2 fun a => m2 a < n ∧ pre a)) → ∀ a, m2 a = n → pre a → (enc a).Wf → Wcall P G f2 [.fz (enc a)] (hpL []) 0 (fun d _ _ => D.val d = some (.tup [.fz (enc (g2 a).1), .fz (enc (g2 a).2)]))) :
    TblOk P G ((T.add f1 (sp1p g1 pre)).add f2 (sp1p g2 pre)) := by
  have key : ∀ n, TblOk P G ((T.add f1 (sp1p g1 fun a => m1 a < n ∧ pre a)).add f2 (sp1p g2 fun a => m2 a < n ∧ pre a)) := by
    intro n
    induction n with
    | zero => exact sp1p_ok hc2 (sp1p_ok hc1 hT fun a ha => by omega) fun a ha => by omega
    | succ n ih =>
      refine sp1p_ok hc2 (sp1p_ok hc1 hT fun a ha hw => ?_) fun a ha hw => ?_
      · rcases Nat.lt_or_ge (m1 a) n with h3 | h3
        · have h4 := ih f1 (sp1p g1 fun a => m1 a < n ∧ pre a) [enc a] _ _ (by simp [Tbl.add, hne]) (k_sp1p) ⟨by rw [dec_enc], by rw [dec_enc]; exact ⟨h3, ha.2⟩⟩
          rw [dec_enc, H0_eq] at h4
          exact h4
        · exact h1 n ih a (by omega) ha.2 hw
      · rcases Nat.lt_or_ge (m2 a) n with h3 | h3
        · have h4 := ih f2 (sp1p g2 fun a => m2 a < n ∧ pre a) [enc a] _ _ (by simp [Tbl.add]) (k_sp1p) ⟨by rw [dec_enc], by rw [dec_enc]; exact ⟨h3, ha.2⟩⟩
          rw [dec_enc, H0_eq] at h4
          exact h4
        · exact h2 n ih a (by omega) ha.2 hw
  exact sp1p_ok hc2 (sp1p_ok hc1 hT fun a ha hw => h1 (m1 a) (key _) a rfl ha hw) fun a ha hw => h2 (m2 a) (key _) a rfl ha hw
end
end Go.Abs
namespace Go.Proofs.YtoicheicnbjfeaaDoor
open Go Go.Abs Go.Proofs

/-! ## the package discourse: what a box says -/
def J1 : Tbl := Tbl.or R28 Q23
theorem hJ1 : TblOk Tryd.prog GA J1 := TblOk_or hR28 (TblOk_glob hQ23)
def J2 : Tbl := J1.add 214 (sp3 dTwo fun _ _ _ => True)
set_option maxRecDepth 100000 in
set_option maxHeartbeats 1000000 in
theorem hJ2 : TblOk Tryd.prog GA J2 := by
  refine sp3_ok ok214 hJ1 fun k f g _ _ _ _ => ?_
  simp only [dTwo]
  refine Wcall_K (N := 12) hm hJ1 214000 (lst []) ok214 Tryd.func214 rfl rfl (by simp) (by kernel_rfl) ?_
  repeat' (first | refine ReqK.i (by omega) fun _ => ?_ | refine ReqK.i (by unfold maxL; omega) fun _ => ?_ | refine ReqK.i rfl fun _ => ?_ | refine ReqK.i ⟨rfl, rfl⟩ fun _ => ?_ | refine ReqK.i ⟨rfl, rfl, rfl⟩ fun _ => ?_ | simp only [go_sem, form_eta, Tryd.f214, J1, R28, R27, R22, R21, R20, R19, R18, R17, R16, R15, R14, R13, R12, R11, R10, R9, R8, R7, R6, R5, R4, R3, R2, R1, Q20, Q19, Q18, Q17, Q16, Q15, Q14, Q13, Q12, Q11, Q10, Q9, Q8, Q7, Q6, Q5, Q4, Q3, Q2, Q1, Tbl0, Q23, Q22, Q21])
def J3 : Tbl := J2.add 182 (sp3 withinM fun _ l _ => l.length ≤ 1000000)
set_option maxRecDepth 100000 in
set_option maxHeartbeats 1000000 in
theorem hJ3 : TblOk Tryd.prog GA J3 := by
  refine sp3_ok ok182 hJ2 fun k l f hl _ _ _ => ?_
  obtain ⟨W, hW⟩ : ∃ W : Nat → Abs.Form, W = fun j => withinM k (l.drop (l.length - j)) f := ⟨_, rfl⟩
  have hW0 : W 0 = f := by rw [hW]; simp [withinM]
  have hWs : ∀ j (_ : j < l.length) (h2 : l.length - 1 - j < l.length), W (j + 1) = .mk k l[l.length - 1 - j] [] [W j] := fun j h h2 => by
    rw [hW]
    simp only
    rw [show l.length - (j + 1) = l.length - 1 - j by omega, List.drop_eq_getElem_cons h2, withinM, show l.length - 1 - j + 1 = l.length - j by omega]
  have hWe : W l.length = withinM k l f := by rw [hW]; simp
  obtain ⟨I, hI⟩ : ∃ I : Nat → Int, I = fun j : Nat => (l.length : Int) - 1 - (j : Int) := ⟨_, rfl⟩
  have hI0 : I 0 = (l.length : Int) - 1 := by rw [hI]; simp
  have hIs : ∀ j, I (j + 1) = I j - 1 := fun j => by rw [hI]; simp only; omega
  have hIe : I l.length = -1 := by rw [hI]; simp only; omega
  have hIj : ∀ j (_ : j < l.length), I j = ((l.length - 1 - j : Nat) : Int) := fun j h => by rw [hI]; simp only; omega
  have kW := Kp.mk hWs
  have kI := Kp.mk hIj
  have kS := Kp.mk hIs
  have kWe := Kp.mk hWe
  clear hW hI hWs hIj hIs hWe
  refine Wcall_K (N := 24) hm hJ2 182000 (lst []) ok182 Tryd.func182 rfl rfl (by simp) (by kernel_rfl) ?_
  repeat' (first | refine ReqK.i (by omega) fun _ => ?_ | refine ReqK.i (by unfold maxL; omega) fun _ => ?_ | refine ReqK.i rfl fun _ => ?_ | refine ReqK.i ⟨rfl, rfl⟩ fun _ => ?_ | refine ReqK.i ⟨rfl, rfl, rfl⟩ fun _ => ?_ | simp only [go_sem, Tryd.f182, J2, J1, R28, R27, R22, R21, R20, R19, R18, R17, R16, R15, R14, R13, R12, R11, R10, R9, R8, R7, R6, R5, R4, R3, R2, R1, Q20, Q19, Q18, Q17, Q16, Q15, Q14, Q13, Q12, Q11, Q10, Q9, Q8, Q7, Q6, Q5, Q4, Q3, Q2, Q1, Tbl0, Q23, Q22, Q21])
  refine WK_loop hm hJ2 182000 (lst []) (ι := LoopM l.length 2 fun _ => True)
    ⟨fun q => ⟨frL [(0, .fz (.i .i64 k)), (1, .fz (.sl (l.map enc))), (5, .ptr (182005, 0) 0), (6, .ptr (182006, 1) 0), (7, .fz (.i .i64 (I q.i)))],
      hpL [((182005, 0), some ⟨[.fz (.i .i64 (W q.i).kind), .fz (.s (W q.i).name.l), .fz (.sl ((W q.i).words.map enc)), .fz (.sl ((W q.i).subs.map enc))], true, false⟩), ((182006, 1), some ⟨[.fz (.i .i64 0), .fz (.s []), .full [], .full []], true, false⟩)], q.m⟩, fun q => l.length - q.i⟩
    ⟨0, 2, by omega, by omega, trivial⟩ (by kernel_rfl) ?_ ?_
  · refine Weak_to ?_ ?_ ?_ <;> simp only [go_sem, hW0, hI0]
    all_goals first | done | rfl | omega | trace_state
  rintro ⟨j, m, hj, hm2, _⟩
  try simp only at hj hm2
  rcases Nat.lt_or_ge j l.length with h1 | h1
  · have hs := kW.out j h1 (by omega)
    have e1 := kI.out j h1
    have e4 := kS.out j
    obtain ⟨i, hi⟩ : ∃ i, l.length - 1 - j = i := ⟨_, rfl⟩
    have hil : i < l.length := by omega
    simp only [hi] at hs e1
    obtain ⟨x, hx⟩ : ∃ x, l[i] = x := ⟨_, rfl⟩
    rw [hx] at hs
    rw [e1] at e4
    have e2 : ((0 : Int) ≤ (i : Int)) = True := eq_true (by omega)
    have hgd : ((l.map enc).getD i FD.nilf) = FD.s x.l := by rw [getD_map_lt hil, hx]; rfl
    obtain ⟨w, hw⟩ : ∃ w, W j = w := ⟨_, rfl⟩
    rw [hw] at hs
    repeat' (first | refine ReqK.i (by rw [hgd]; rfl) fun _ => ?_ | refine ReqK.i (by omega) fun _ => ?_ | refine ReqK.i (by unfold maxL; omega) fun _ => ?_ | refine ReqK.i rfl fun _ => ?_ | refine ReqK.i ⟨rfl, rfl⟩ fun _ => ?_ | refine ReqK.i ⟨rfl, rfl, rfl⟩ fun _ => ?_ | simp only [go_sem, e1, e2, hil, hgd, hw, form_eta, str_eta, Tryd.f182, J2, J1, R28, R27, R22, R21, R20, R19, R18, R17, R16, R15, R14, R13, R12, R11, R10, R9, R8, R7, R6, R5, R4, R3, R2, R1, Q20, Q19, Q18, Q17, Q16, Q15, Q14, Q13, Q12, Q11, Q10, Q9, Q8, Q7, Q6, Q5, Q4, Q3, Q2, Q1, Tbl0, Q23, Q22, Q21])
    all_goals
      refine ⟨⟨j + 1, m + 9, by omega, by omega, trivial⟩, by simp only; omega, ?_⟩
      refine Weak_g [] [] [] ?_ ?_ ?_ ?_ ?_ <;> (try simp only [go_sem, hs, e4, hw])
      all_goals first | done | rfl | omega | trace_state
  obtain rfl : j = l.length := by omega
  have hWe := kWe.out
  repeat' (first | refine ReqK.i (by omega) fun _ => ?_ | refine ReqK.i (by unfold maxL; omega) fun _ => ?_ | refine ReqK.i rfl fun _ => ?_ | refine ReqK.i ⟨rfl, rfl⟩ fun _ => ?_ | refine ReqK.i ⟨rfl, rfl, rfl⟩ fun _ => ?_ | simp only [go_sem, hIe, hWe, form_eta, Tryd.f182, J2, J1, R28, R27, R22, R21, R20, R19, R18, R17, R16, R15, R14, R13, R12, R11, R10, R9, R8, R7, R6, R5, R4, R3, R2, R1, Q20, Q19, Q18, Q17, Q16, Q15, Q14, Q13, Q12, Q11, Q10, Q9, Q8, Q7, Q6, Q5, Q4, Q3, Q2, Q1, Tbl0, Q23, Q22, Q21])
def J4 : Tbl := J3.add 123 (sp3 withinM fun _ l _ => l.length ≤ 1000000)
set_option maxRecDepth 100000 in
set_option maxHeartbeats 1000000 in
theorem hJ4 : TblOk Tryd.prog GA J4 := by
  refine sp3_recB List.length ok123 hJ3 fun n hT k l f hn hl _ _ _ => ?_
  cases l with
  | nil =>
    refine Wcall_K (N := 22) hm hT 123000 (lst []) ok123 Tryd.func123 rfl rfl (by simp) (by kernel_rfl) ?_
    repeat' (first | refine ReqK.i (by omega) fun _ => ?_ | refine ReqK.i (by unfold maxL; omega) fun _ => ?_ | refine ReqK.i rfl fun _ => ?_ | refine ReqK.i ⟨rfl, rfl⟩ fun _ => ?_ | refine ReqK.i ⟨rfl, rfl, rfl⟩ fun _ => ?_ | simp only [go_sem, withinM, form_eta, Tryd.f123, J3, J2, J1, R28, R27, R22, R21, R20, R19, R18, R17, R16, R15, R14, R13, R12, R11, R10, R9, R8, R7, R6, R5, R4, R3, R2, R1, Q20, Q19, Q18, Q17, Q16, Q15, Q14, Q13, Q12, Q11, Q10, Q9, Q8, Q7, Q6, Q5, Q4, Q3, Q2, Q1, Tbl0, Q23, Q22, Q21])
  | cons r rs =>
    rw [List.length_cons] at hn hl
    have hrs : rs.length < n ∧ rs.length ≤ 1000000 := ⟨by omega, by omega⟩
    have hcut : cutFD (FD.s r.l :: rs.map enc) 1 ((rs.length : Int) + 1) = rs.map enc := by
      unfold cutFD
      rw [show ((rs.length : Int) + 1).toNat = rs.length + 1 by omega]
      simp only [List.take_succ_cons, Int.toNat_one, List.drop_succ_cons, List.drop_zero]
      exact List.take_of_length_le (by simp)
    have e0 : ((rs.length : Int) + 1 = 0) = False := eq_false (by omega)
    have hq : (1 : Int) = (rs.length : Int) + 1 ∨ ((rs.map enc).getD 0 FD.nilf).cells.length = 1 := by
      cases rs with
      | nil => exact .inl rfl
      | cons a t => exact .inr rfl
    have kT := Kp.mk hT
    clear hT hn
    rw [withinM]
    refine Wcall_K (N := 22) hm kT.out 123000 (lst []) ok123 Tryd.func123 rfl rfl (by simp) (by kernel_rfl) ?_
    repeat' (first | refine ReqK.i hrs fun _ => ?_ | refine ReqK.i ⟨by omega, by omega, hq⟩ fun _ => ?_ | refine ReqK.i (by omega) fun _ => ?_ | refine ReqK.i (by unfold maxL; omega) fun _ => ?_ | refine ReqK.i rfl fun _ => ?_ | refine ReqK.i ⟨rfl, rfl⟩ fun _ => ?_ | refine ReqK.i ⟨rfl, rfl, rfl⟩ fun _ => ?_ | simp only [go_sem, e0, hcut, form_eta, str_eta, List.length_cons, List.map_cons, Tryd.f123, J3, J2, J1, R28, R27, R22, R21, R20, R19, R18, R17, R16, R15, R14, R13, R12, R11, R10, R9, R8, R7, R6, R5, R4, R3, R2, R1, Q20, Q19, Q18, Q17, Q16, Q15, Q14, Q13, Q12, Q11, Q10, Q9, Q8, Q7, Q6, Q5, Q4, Q3, Q2, Q1, Tbl0, Q23, Q22, Q21])
def J5 : Tbl := J4.add 21 (sp1 unsB okT)
set_option maxRecDepth 100000 in
set_option maxHeartbeats 1000000 in
theorem hJ5 : TblOk Tryd.prog GA J5 := by
  refine sp1_rec Box.size ok21 hJ4 fun n hT b hn hpre _ => ?_
  obtain ⟨Q, hQ⟩ : ∃ Q : D → Heap → Nat → Prop, Q = (fun d _ _ => D.val d = some (.fz (enc (unsB b)))) := ⟨_, rfl⟩
  rw [← hQ]
  have hf : unsB b = false → ∀ {H' n'}, Q (.fz (.b false)) H' n' := fun h H' n' => by rw [hQ]; show _ = some (D.fz (.b (unsB b))); rw [h]; rfl
  have ht : unsB b = true → ∀ {H' n'}, Q (.fz (.b true)) H' n' := fun h H' n' => by rw [hQ]; show _ = some (D.fz (.b (unsB b))); rw [h]; rfl
  have hcl := (okT_len hpre).1
  have hsub : ∀ c ∈ b.conds, ∀ d ∈ c.boxes, d.size < n ∧ okT d := fun c hc d hd => by have := okT_sub hpre hc hd; exact ⟨by omega, this.1⟩
  have hbl : ∀ c ∈ b.conds, c.boxes.length ≤ 2 := fun c hc => by
    rcases okT_kind hpre hc with ⟨_, e⟩ | ⟨_, _, e⟩ | ⟨_, _, _, e⟩ | ⟨_, _, _, e⟩ | ⟨_, e⟩ | ⟨_, _, e⟩ <;> rw [e] <;> simp
  have kf := Kp.mk @hf
  have kt := Kp.mk @ht
  have kT := Kp.mk hT
  have ks := Kp.mk hsub
  have kb := Kp.mk hbl
  clear hf ht hQ hT hsub hbl hpre hn
  refine Wcall_K (N := 34) hm kT.out 21000 (lst []) ok21 Tryd.func21 rfl rfl (by simp) (by kernel_rfl) ?_
  repeat' (first | refine ReqK.i (by omega) fun _ => ?_ | refine ReqK.i (by unfold maxL; omega) fun _ => ?_ | refine ReqK.i rfl fun _ => ?_ | refine ReqK.i ⟨rfl, rfl⟩ fun _ => ?_ | refine ReqK.i ⟨rfl, rfl, rfl⟩ fun _ => ?_ | simp only [go_sem, Tryd.f21, J4, J3, J2, J1, R28, R27, R22, R21, R20, R19, R18, R17, R16, R15, R14, R13, R12, R11, R10, R9, R8, R7, R6, R5, R4, R3, R2, R1, Q20, Q19, Q18, Q17, Q16, Q15, Q14, Q13, Q12, Q11, Q10, Q9, Q8, Q7, Q6, Q5, Q4, Q3, Q2, Q1, Tbl0, Q23, Q22, Q21])
  refine WK_loop hm kT.out 21000 (lst []) (ι := LoopM b.conds.length 1 fun i => (b.conds.take i).any unsC = false)
    ⟨fun q => ⟨frL [(1, .ptr (21001, 0) 0), (8, .fz (.i .i64 b.conds.length)), (9, .fz (.i .i64 q.i))], hpL [((21001, 0), some ⟨[.fz (.sl (b.refs.map enc)), .fz (.sl (b.conds.map enc))], true, false⟩)], q.m⟩, fun q => b.conds.length - q.i⟩
    ⟨0, 1, by omega, by omega, rfl⟩ (by kernel_rfl) ?_ ?_
  · refine Weak_to ?_ ?_ ?_ <;> simp only [go_sem, List.take_zero]
    all_goals first | done | rfl | omega | trace_state
  rintro ⟨i, m, hi, hm2, hp⟩
  try simp only at hi hm2 hp
  rcases Nat.lt_or_ge i b.conds.length with h1 | h1
  · obtain ⟨x, hx⟩ : ∃ x, b.conds[i] = x := ⟨_, rfl⟩
    have hxm : x ∈ b.conds := hx ▸ List.getElem_mem h1
    have htx : unsC x = true → unsB b = true := fun h => by rw [unsB_eq, List.any_eq_true]; exact ⟨x, hxm, h⟩
    have hfx : unsC x = false → (b.conds.take (i + 1)).any unsC = false := fun h => by rw [any_take_succ h1, hp, hx, h]; rfl
    have hxl := kb.out x hxm
    have hxs := ks.out x hxm
    have kfx := Kp.mk hfx
    have ktx := Kp.mk htx
    have kxs := Kp.mk hxs
    clear hfx htx hxs
    by_cases h4 : 4 < x.kind
    · have hqq := ktx.out (by rw [unsC_eq, decide_eq_true h4]; rfl)
      have h4' : (4 < x.kind) = True := eq_true h4
      repeat' (first | refine ReqK.i (by omega) fun _ => ?_ | refine ReqK.i (by unfold maxL; omega) fun _ => ?_ | refine ReqK.i rfl fun _ => ?_ | refine ReqK.i ⟨rfl, rfl⟩ fun _ => ?_ | refine ReqK.i ⟨rfl, rfl, rfl⟩ fun _ => ?_ | simp only [go_sem, h1, hx, h4', getD_map_lt, Tryd.f21, J4, J3, J2, J1, R28, R27, R22, R21, R20, R19, R18, R17, R16, R15, R14, R13, R12, R11, R10, R9, R8, R7, R6, R5, R4, R3, R2, R1, Q20, Q19, Q18, Q17, Q16, Q15, Q14, Q13, Q12, Q11, Q10, Q9, Q8, Q7, Q6, Q5, Q4, Q3, Q2, Q1, Tbl0, Q23, Q22, Q21])
      all_goals exact kt.out hqq
    have h4' : (4 < x.kind) = False := eq_false h4
    repeat' (first | refine ReqK.i (by omega) fun _ => ?_ | refine ReqK.i (by unfold maxL; omega) fun _ => ?_ | refine ReqK.i rfl fun _ => ?_ | refine ReqK.i ⟨rfl, rfl⟩ fun _ => ?_ | refine ReqK.i ⟨rfl, rfl, rfl⟩ fun _ => ?_ | simp only [go_sem, h1, hx, h4', getD_map_lt, Tryd.f21, J4, J3, J2, J1, R28, R27, R22, R21, R20, R19, R18, R17, R16, R15, R14, R13, R12, R11, R10, R9, R8, R7, R6, R5, R4, R3, R2, R1, Q20, Q19, Q18, Q17, Q16, Q15, Q14, Q13, Q12, Q11, Q10, Q9, Q8, Q7, Q6, Q5, Q4, Q3, Q2, Q1, Tbl0, Q23, Q22, Q21])
    refine WK_loop hm kT.out 21000 (lst []) (ι := LoopM x.boxes.length (m + 1) fun k => (x.boxes.take k).any unsB = false)
      ⟨fun q => ⟨frL [(1, .ptr (21001, 0) 0), (8, .fz (.i .i64 b.conds.length)), (9, .fz (.i .i64 i)), (4, .ptr (21004, m) 0), (22, .fz (.i .i64 x.boxes.length)), (23, .fz (.i .i64 q.i))], hpL [((21001, 0), some ⟨[.fz (.sl (b.refs.map enc)), .fz (.sl (b.conds.map enc))], true, false⟩), ((21004, m), some ⟨[.fz (.i .i64 x.kind), .fz (.s x.name.l), .fz (.i .i64 x.form.kind), .fz (.s x.form.name.l), .fz (.sl (x.form.words.map enc)), .fz (.sl (x.form.subs.map enc)), .fz (.sl (x.boxes.map enc))], true, false⟩)], q.m⟩, fun q => x.boxes.length - q.i⟩
      ⟨0, m + 1, by omega, by omega, rfl⟩ (by kernel_rfl) ?_ ?_
    · refine Weak_to ?_ ?_ ?_ <;> simp only [go_sem, List.take_zero]
      all_goals first | done | rfl | omega | trace_state
    rintro ⟨k, m2, hk, hm3, hp2⟩
    try simp only at hk hm3 hp2
    rcases Nat.lt_or_ge k x.boxes.length with h2 | h2
    · obtain ⟨y, hy⟩ : ∃ y, x.boxes[k] = y := ⟨_, rfl⟩
      have hym : y ∈ x.boxes := hy ▸ List.getElem_mem h2
      have hys := kxs.out y hym
      obtain ⟨u, hu⟩ : ∃ u, unsB y = u := ⟨_, rfl⟩
      cases u
      · have hp3 : (x.boxes.take (k + 1)).any unsB = false := by rw [any_take_succ h2, hp2, hy, hu]; rfl
        repeat' (first | refine ReqK.i hys fun _ => ?_ | refine ReqK.i (by omega) fun _ => ?_ | refine ReqK.i (by unfold maxL; omega) fun _ => ?_ | refine ReqK.i rfl fun _ => ?_ | refine ReqK.i ⟨rfl, rfl⟩ fun _ => ?_ | refine ReqK.i ⟨rfl, rfl, rfl⟩ fun _ => ?_ | simp only [go_sem, h2, hy, hu, box_eta, getD_map_lt, Tryd.f21, J4, J3, J2, J1, R28, R27, R22, R21, R20, R19, R18, R17, R16, R15, R14, R13, R12, R11, R10, R9, R8, R7, R6, R5, R4, R3, R2, R1, Q20, Q19, Q18, Q17, Q16, Q15, Q14, Q13, Q12, Q11, Q10, Q9, Q8, Q7, Q6, Q5, Q4, Q3, Q2, Q1, Tbl0, Q23, Q22, Q21])
        refine ⟨⟨k + 1, m2, by omega, by omega, hp3⟩, by simp only; omega, ?_⟩
        refine Weak_to ?_ ?_ ?_ <;> simp only [go_sem]
        all_goals first | done | rfl | omega | trace_state
      · have hqq := ktx.out (by rw [unsC_eq, List.any_eq_true.2 ⟨y, hym, hu⟩, Bool.or_true])
        repeat' (first | refine ReqK.i hys fun _ => ?_ | refine ReqK.i (by omega) fun _ => ?_ | refine ReqK.i (by unfold maxL; omega) fun _ => ?_ | refine ReqK.i rfl fun _ => ?_ | refine ReqK.i ⟨rfl, rfl⟩ fun _ => ?_ | refine ReqK.i ⟨rfl, rfl, rfl⟩ fun _ => ?_ | simp only [go_sem, h2, hy, hu, box_eta, getD_map_lt, Tryd.f21, J4, J3, J2, J1, R28, R27, R22, R21, R20, R19, R18, R17, R16, R15, R14, R13, R12, R11, R10, R9, R8, R7, R6, R5, R4, R3, R2, R1, Q20, Q19, Q18, Q17, Q16, Q15, Q14, Q13, Q12, Q11, Q10, Q9, Q8, Q7, Q6, Q5, Q4, Q3, Q2, Q1, Tbl0, Q23, Q22, Q21])
        all_goals exact kt.out hqq
    obtain rfl : k = x.boxes.length := by omega
    have hun : unsC x = false := by rw [unsC_eq]; rw [List.take_length] at hp2; rw [hp2, decide_eq_false h4]; rfl
    have hp3 := kfx.out hun
    repeat' (first | refine ReqK.i (by omega) fun _ => ?_ | refine ReqK.i (by unfold maxL; omega) fun _ => ?_ | refine ReqK.i rfl fun _ => ?_ | refine ReqK.i ⟨rfl, rfl⟩ fun _ => ?_ | refine ReqK.i ⟨rfl, rfl, rfl⟩ fun _ => ?_ | simp only [go_sem, Nat.lt_irrefl, Tryd.f21, J4, J3, J2, J1, R28, R27, R22, R21, R20, R19, R18, R17, R16, R15, R14, R13, R12, R11, R10, R9, R8, R7, R6, R5, R4, R3, R2, R1, Q20, Q19, Q18, Q17, Q16, Q15, Q14, Q13, Q12, Q11, Q10, Q9, Q8, Q7, Q6, Q5, Q4, Q3, Q2, Q1, Tbl0, Q23, Q22, Q21])
    refine ⟨⟨i + 1, m2, by omega, by omega, hp3⟩, by simp only; omega, ?_⟩
    refine Weak_to ?_ ?_ ?_ <;> simp only [go_sem]
    all_goals first | done | rfl | omega | trace_state
  · obtain rfl : i = b.conds.length := by omega
    rw [List.take_length] at hp
    have hqq : unsB b = false := by rw [unsB_eq]; exact hp
    repeat' (first | refine ReqK.i (by omega) fun _ => ?_ | refine ReqK.i (by unfold maxL; omega) fun _ => ?_ | refine ReqK.i rfl fun _ => ?_ | refine ReqK.i ⟨rfl, rfl⟩ fun _ => ?_ | refine ReqK.i ⟨rfl, rfl, rfl⟩ fun _ => ?_ | simp only [go_sem, Nat.lt_irrefl, Tryd.f21, J4, J3, J2, J1, R28, R27, R22, R21, R20, R19, R18, R17, R16, R15, R14, R13, R12, R11, R10, R9, R8, R7, R6, R5, R4, R3, R2, R1, Q20, Q19, Q18, Q17, Q16, Q15, Q14, Q13, Q12, Q11, Q10, Q9, Q8, Q7, Q6, Q5, Q4, Q3, Q2, Q1, Tbl0, Q23, Q22, Q21])
    all_goals exact kf.out hqq
end Go.Proofs.YtoicheicnbjfeaaDoor

namespace Go.Proofs.YtoicheicnbjfeaaDoor
open Go Go.Abs Go.Proofs

/-! ## what a box says: the program's walk -/
def tree181a : Tv := (.q 0 (.q 1 (.q 2 (.q 3 (.q 4 (.q 5 (.q 6 (.q 7 (.q 8 (.q 9 (.q 10 (.q 11 (.q 12 (.br [(13, (.q 14 .leaf))]))))))))))))))
def J6 : Tbl := (J5.add 181 (sp1p bodyP okT)).add 121 (sp1p wholeP okT)
set_option maxRecDepth 100000 in
set_option maxHeartbeats 1000000 in
set_option maxHeartbeats 4000000 in
theorem hJ6 : TblOk Tryd.prog GA J6 := by
  refine sp1p_rec2 (by decide) (fun b => 2 * b.size) (fun b => 2 * b.size + 1) ok181 ok121 hJ5 (fun n hT b hn hpre _ => ?_) (fun n hT b hn hpre _ => ?_)
  rotate_left
  · have hr := (okT_len hpre).2
    have hb : 2 * b.size < n ∧ okT b := ⟨by omega, hpre⟩
    obtain ⟨f, k, hfk⟩ : ∃ f k, bodyP b = (f, k) := ⟨_, _, rfl⟩
    have e1 : wholeP b = (withinM 9 b.refs f, k) := by unfold wholeP; rw [hfk]
    rw [e1]
    obtain ⟨w, hw⟩ : ∃ w, withinM 9 b.refs f = w := ⟨_, rfl⟩
    rw [hw]
    have kT := Kp.mk hT
    clear hT
    refine Wcall_K (N := 16) hm kT.out 121000 (lst []) ok121 Tryd.func121 rfl rfl (by simp) (by kernel_rfl) ?_
    repeat' (first | refine ReqK.i hb fun _ => ?_ | refine ReqK.i (by omega) fun _ => ?_ | refine ReqK.i (by unfold maxL; omega) fun _ => ?_ | refine ReqK.i rfl fun _ => ?_ | refine ReqK.i ⟨rfl, rfl⟩ fun _ => ?_ | refine ReqK.i ⟨rfl, rfl, rfl⟩ fun _ => ?_ | simp only [go_sem, hfk, hw, form_eta, str_eta, box_eta, getD_map_lt, Tryd.f121, J5, J4, J3, J2, J1, R28, R27, R22, R21, R20, R19, R18, R17, R16, R15, R14, R13, R12, R11, R10, R9, R8, R7, R6, R5, R4, R3, R2, R1, Q20, Q19, Q18, Q17, Q16, Q15, Q14, Q13, Q12, Q11, Q10, Q9, Q8, Q7, Q6, Q5, Q4, Q3, Q2, Q1, Tbl0, Q23, Q22, Q21])
    all_goals trace_state
  obtain ⟨Q, hQ⟩ : ∃ Q : D → Heap → Nat → Prop, Q = (fun d _ _ => D.val d = some (.tup [.fz (enc (bodyP b).1), .fz (enc (bodyP b).2)])) := ⟨_, rfl⟩
  rw [← hQ]
  have hcl := (okT_len hpre).1
  have hsub : ∀ c ∈ b.conds, ∀ d ∈ c.boxes, (2 * d.size < n ∧ okT d) ∧ (2 * d.size + 1 < n ∧ okT d) ∧ d.refs.length ≤ 400 := fun c hc d hd => by
    have h := okT_sub hpre hc hd
    have h2 := okT_len h.1
    exact ⟨⟨by omega, h.1⟩, ⟨by omega, h.1⟩, h2.2⟩
  have kind : ∀ c ∈ b.conds, _ := fun c hc => okT_kind hpre hc
  have kT := Kp.mk hT
  have ks := Kp.mk hsub
  have kk := Kp.mk kind
  clear hT hsub kind hn
  have dT : Abs.Form.mk 1 ⟨[]⟩ [] [] = dTru := rfl
  refine Wcall_K (N := 113) hm kT.out 181000 (lst [1000014]) ok181 Tryd.func181 rfl rfl (by simp) (by kernel_rfl) ?_
  repeat' (first | refine ReqK.i (by omega) fun _ => ?_ | refine ReqK.i (by unfold maxL; omega) fun _ => ?_ | refine ReqK.i rfl fun _ => ?_ | refine ReqK.i ⟨rfl, rfl⟩ fun _ => ?_ | refine ReqK.i ⟨rfl, rfl, rfl⟩ fun _ => ?_ | simp only [go_sem, Tryd.f181, J5, J4, J3, J2, J1, R28, R27, R22, R21, R20, R19, R18, R17, R16, R15, R14, R13, R12, R11, R10, R9, R8, R7, R6, R5, R4, R3, R2, R1, Q20, Q19, Q18, Q17, Q16, Q15, Q14, Q13, Q12, Q11, Q10, Q9, Q8, Q7, Q6, Q5, Q4, Q3, Q2, Q1, Tbl0, Q23, Q22, Q21])
  refine WK_loop hm kT.out 181000 (lst [1000014]) (ι := LoopM b.conds.length 3 fun i => accOk b i)
    ⟨fun q => ⟨frL [(2, .ptr (181002, 1) 0), (4, .ptr (181004, 2) 0), (19, .fz (.sl (b.conds.map enc))), (20, .fz (.i .i64 b.conds.length)), (21, .fz (.i .i64 q.i))], hpL [((181002, 1), some ⟨[.fz (.i .i64 0), .fz (.s []), .full [], .full []], true, false⟩), ((181004, 2), some ⟨[.fz (.i .i64 (accF b q.i).kind), .fz (.s (accF b q.i).name.l), .fz (.sl ((accF b q.i).words.map enc)), .fz (.sl ((accF b q.i).subs.map enc))], true, false⟩)], q.m⟩, fun q => b.conds.length - q.i⟩
    ⟨0, 3, by omega, by omega, accOk_zero b⟩ (by kernel_rfl) ?_ ?_
  · refine Weak_g [] [] [] ?_ ?_ ?_ ?_ ?_ <;> (try simp only [go_sem, accF_zero, dTru])
    all_goals first | done | rfl | omega | trace_state
  rintro ⟨i, m, hi, hm2, hp⟩
  try simp only at hi hm2 hp
  obtain ⟨f0, hF⟩ : ∃ f, accF b i = f := ⟨_, rfl⟩
  rcases Nat.lt_or_ge i b.conds.length with h1 | h1
  rotate_left
  · obtain rfl : i = b.conds.length := by omega
    have hst : bodyP b = (f0, true) := by rw [body_end hp, hF]
    repeat' (first | refine ReqK.i (by omega) fun _ => ?_ | refine ReqK.i (by unfold maxL; omega) fun _ => ?_ | refine ReqK.i rfl fun _ => ?_ | refine ReqK.i ⟨rfl, rfl⟩ fun _ => ?_ | refine ReqK.i ⟨rfl, rfl, rfl⟩ fun _ => ?_ | simp only [go_sem, Nat.lt_irrefl, hF, form_eta, str_eta, box_eta, getD_map_lt, Tryd.f181, J5, J4, J3, J2, J1, R28, R27, R22, R21, R20, R19, R18, R17, R16, R15, R14, R13, R12, R11, R10, R9, R8, R7, R6, R5, R4, R3, R2, R1, Q20, Q19, Q18, Q17, Q16, Q15, Q14, Q13, Q12, Q11, Q10, Q9, Q8, Q7, Q6, Q5, Q4, Q3, Q2, Q1, Tbl0, Q23, Q22, Q21])
    all_goals
      rw [hQ]
      show D.val _ = some (D.tup [.fz (enc (bodyP b).1), .fz (enc (bodyP b).2)])
      rw [hst]
      simp only [go_sem, form_eta]
      all_goals first | done | rfl | trace_state
  obtain ⟨x, hx⟩ : ∃ x, b.conds[i] = x := ⟨_, rfl⟩
  have hxm : x ∈ b.conds := hx ▸ List.getElem_mem h1
  have hxs := ks.out x hxm
  rcases kk.out x hxm with ⟨hk, hb⟩ | ⟨hk, a, hb⟩ | ⟨hk, a, d, hb⟩ | ⟨hk, a, d, hb⟩ | ⟨hk, hb⟩ | ⟨hk, a, hb⟩
  · obtain ⟨g, hg⟩ : ∃ g, x.form = g := ⟨_, rfl⟩
    have hcp : condP x = (g, true) := by rw [condP1 hk, hg]
    rcases Nat.eq_zero_or_pos i with h0 | h0
    · subst h0
      have hs : accF b 1 = g := by rw [accF_succ h1 hp (by rw [hx]; exact hcp), if_pos rfl]
      have hp3 := accOk_succ h1 hp (by rw [hx]; exact hcp)
      have e0 : ((0 : Int) < (b.conds.length : Int)) = True := eq_true (by omega)
      repeat' (first | refine ReqK.i (by omega) fun _ => ?_ | refine ReqK.i (by unfold maxL; omega) fun _ => ?_ | refine ReqK.i rfl fun _ => ?_ | refine ReqK.i ⟨rfl, rfl⟩ fun _ => ?_ | refine ReqK.i ⟨rfl, rfl, rfl⟩ fun _ => ?_ | simp only [go_sem, hk, hb, hg, h1, hx, hF, e0, form_eta, str_eta, box_eta, getD_map_lt, Tryd.f181, J5, J4, J3, J2, J1, R28, R27, R22, R21, R20, R19, R18, R17, R16, R15, R14, R13, R12, R11, R10, R9, R8, R7, R6, R5, R4, R3, R2, R1, Q20, Q19, Q18, Q17, Q16, Q15, Q14, Q13, Q12, Q11, Q10, Q9, Q8, Q7, Q6, Q5, Q4, Q3, Q2, Q1, Tbl0, Q23, Q22, Q21])
      all_goals
        refine ⟨⟨1, m + 30, by omega, by omega, hp3⟩, by simp only; omega, ?_⟩
        refine Weak_g [] [] [] ?_ ?_ ?_ ?_ ?_ <;> (try simp only [go_sem, hs])
        all_goals first | done | rfl | omega | trace_state
    · have hs : accF b (i + 1) = dTwo 5 f0 g := by rw [accF_succ h1 hp (by rw [hx]; exact hcp), if_neg (by omega), hF]
      have hp3 := accOk_succ h1 hp (by rw [hx]; exact hcp)
      have e0 : ((i : Int) = 0) = False := eq_false (by omega)
      obtain ⟨t5, ht5⟩ : ∃ t, dTwo 5 f0 g = t := ⟨_, rfl⟩
      rw [ht5] at hs
      repeat' (first | refine ReqK.i (by omega) fun _ => ?_ | refine ReqK.i (by unfold maxL; omega) fun _ => ?_ | refine ReqK.i rfl fun _ => ?_ | refine ReqK.i ⟨rfl, rfl⟩ fun _ => ?_ | refine ReqK.i ⟨rfl, rfl, rfl⟩ fun _ => ?_ | simp only [go_sem, hk, hb, hg, h1, hx, hF, e0, ht5, form_eta, str_eta, box_eta, getD_map_lt, Tryd.f181, J5, J4, J3, J2, J1, R28, R27, R22, R21, R20, R19, R18, R17, R16, R15, R14, R13, R12, R11, R10, R9, R8, R7, R6, R5, R4, R3, R2, R1, Q20, Q19, Q18, Q17, Q16, Q15, Q14, Q13, Q12, Q11, Q10, Q9, Q8, Q7, Q6, Q5, Q4, Q3, Q2, Q1, Tbl0, Q23, Q22, Q21])
      all_goals
        refine ⟨⟨i + 1, m + 30, by omega, by omega, hp3⟩, by simp only; omega, ?_⟩
        refine Weak_g [] [] [] ?_ ?_ ?_ ?_ ?_ <;> (try simp only [go_sem, hs])
        all_goals first | done | rfl | omega | trace_state
  · obtain ⟨ha1, ha2, ha3⟩ := hxs a (by rw [hb]; simp)
    obtain ⟨w, o, hw⟩ : ∃ w o, wholeP a = (w, o) := ⟨_, _, rfl⟩
    have hcp : condP x = (dNot w, o) := by rw [condP2 hk hb, hw]
    cases o
    · have hst : bodyP b = (f0, false) := by rw [body_stop h1 hp (by rw [hx]; exact hcp), hF]
      repeat' (first | refine ReqK.i ha2 fun _ => ?_ | refine ReqK.i (by omega) fun _ => ?_ | refine ReqK.i (by unfold maxL; omega) fun _ => ?_ | refine ReqK.i rfl fun _ => ?_ | refine ReqK.i ⟨rfl, rfl⟩ fun _ => ?_ | refine ReqK.i ⟨rfl, rfl, rfl⟩ fun _ => ?_ | simp only [go_sem, hk, hb, hw, h1, hx, hF, form_eta, str_eta, box_eta, getD_map_lt, Tryd.f181, J5, J4, J3, J2, J1, R28, R27, R22, R21, R20, R19, R18, R17, R16, R15, R14, R13, R12, R11, R10, R9, R8, R7, R6, R5, R4, R3, R2, R1, Q20, Q19, Q18, Q17, Q16, Q15, Q14, Q13, Q12, Q11, Q10, Q9, Q8, Q7, Q6, Q5, Q4, Q3, Q2, Q1, Tbl0, Q23, Q22, Q21])
      all_goals
        rw [hQ]
        show D.val _ = some (D.tup [.fz (enc (bodyP b).1), .fz (enc (bodyP b).2)])
        rw [hst]
        simp only [go_sem, form_eta]
        all_goals first | done | rfl | trace_state
    · rw [show dNot w = Abs.Form.mk 4 ⟨[]⟩ [] [w] from rfl] at hcp
      rcases Nat.eq_zero_or_pos i with h0 | h0
      · subst h0
        have hs : accF b 1 = (Abs.Form.mk 4 ⟨[]⟩ [] [w]) := by rw [accF_succ h1 hp (by rw [hx]; exact hcp), if_pos rfl]
        have hp3 := accOk_succ h1 hp (by rw [hx]; exact hcp)
        have e0 : ((0 : Int) < (b.conds.length : Int)) = True := eq_true (by omega)
        repeat' (first | refine ReqK.i ha2 fun _ => ?_ | refine ReqK.i (by omega) fun _ => ?_ | refine ReqK.i (by unfold maxL; omega) fun _ => ?_ | refine ReqK.i rfl fun _ => ?_ | refine ReqK.i ⟨rfl, rfl⟩ fun _ => ?_ | refine ReqK.i ⟨rfl, rfl, rfl⟩ fun _ => ?_ | simp only [go_sem, hk, hb, hw, h1, hx, hF, e0, form_eta, str_eta, box_eta, getD_map_lt, Tryd.f181, J5, J4, J3, J2, J1, R28, R27, R22, R21, R20, R19, R18, R17, R16, R15, R14, R13, R12, R11, R10, R9, R8, R7, R6, R5, R4, R3, R2, R1, Q20, Q19, Q18, Q17, Q16, Q15, Q14, Q13, Q12, Q11, Q10, Q9, Q8, Q7, Q6, Q5, Q4, Q3, Q2, Q1, Tbl0, Q23, Q22, Q21])
        all_goals
          refine ⟨⟨1, m + 30, by omega, by omega, hp3⟩, by simp only; omega, ?_⟩
          refine Weak_g [] [] [] ?_ ?_ ?_ ?_ ?_ <;> (try simp only [go_sem, hs])
          all_goals first | done | rfl | omega | trace_state
      · have hs : accF b (i + 1) = dTwo 5 f0 (Abs.Form.mk 4 ⟨[]⟩ [] [w]) := by rw [accF_succ h1 hp (by rw [hx]; exact hcp), if_neg (by omega), hF]
        have hp3 := accOk_succ h1 hp (by rw [hx]; exact hcp)
        have e0 : ((i : Int) = 0) = False := eq_false (by omega)
        obtain ⟨t5, ht5⟩ : ∃ t, dTwo 5 f0 (Abs.Form.mk 4 ⟨[]⟩ [] [w]) = t := ⟨_, rfl⟩
        rw [ht5] at hs
        repeat' (first | refine ReqK.i ha2 fun _ => ?_ | refine ReqK.i (by omega) fun _ => ?_ | refine ReqK.i (by unfold maxL; omega) fun _ => ?_ | refine ReqK.i rfl fun _ => ?_ | refine ReqK.i ⟨rfl, rfl⟩ fun _ => ?_ | refine ReqK.i ⟨rfl, rfl, rfl⟩ fun _ => ?_ | simp only [go_sem, hk, hb, hw, h1, hx, hF, e0, ht5, form_eta, str_eta, box_eta, getD_map_lt, Tryd.f181, J5, J4, J3, J2, J1, R28, R27, R22, R21, R20, R19, R18, R17, R16, R15, R14, R13, R12, R11, R10, R9, R8, R7, R6, R5, R4, R3, R2, R1, Q20, Q19, Q18, Q17, Q16, Q15, Q14, Q13, Q12, Q11, Q10, Q9, Q8, Q7, Q6, Q5, Q4, Q3, Q2, Q1, Tbl0, Q23, Q22, Q21])
        all_goals
          refine ⟨⟨i + 1, m + 30, by omega, by omega, hp3⟩, by simp only; omega, ?_⟩
          refine Weak_g [] [] [] ?_ ?_ ?_ ?_ ?_ <;> (try simp only [go_sem, hs])
          all_goals first | done | rfl | omega | trace_state
  · obtain ⟨ha1, ha2, ha3⟩ := hxs a (by rw [hb]; simp)
    obtain ⟨hd1, hd2, hd3⟩ := hxs d (by rw [hb]; simp)
    obtain ⟨p, o, hw⟩ : ∃ w o, bodyP a = (w, o) := ⟨_, _, rfl⟩
    obtain ⟨q, o2, hw2⟩ : ∃ w o, wholeP d = (w, o) := ⟨_, _, rfl⟩
    obtain ⟨t7, ht7⟩ : ∃ t, dTwo 7 p q = t := ⟨_, rfl⟩
    obtain ⟨g, hg⟩ : ∃ t, withinM 8 a.refs t7 = t := ⟨_, rfl⟩
    have hcp : condP x = (g, o && o2) := by rw [condP3 hk hb, hw, hw2, ht7, hg]
    cases o <;> cases o2
    all_goals try
      have hcp : condP x = (g, false) := hcp
      have hst : bodyP b = (f0, false) := by rw [body_stop h1 hp (by rw [hx]; exact hcp), hF]
      repeat' (first | refine WK_drawV hm kT.out 181000 (lst [1000014]) tree181a (by kernel_rfl) (by kernel_rfl) ?_ | refine And.intro ?_ ?_ | exact True.intro | refine ReqK.i ha1 fun _ => ?_ | refine ReqK.i hd2 fun _ => ?_ | refine ReqK.i (by omega) fun _ => ?_ | refine ReqK.i (by unfold maxL; omega) fun _ => ?_ | refine ReqK.i rfl fun _ => ?_ | refine ReqK.i ⟨rfl, rfl⟩ fun _ => ?_ | refine ReqK.i ⟨rfl, rfl, rfl⟩ fun _ => ?_ | simp only [go_sem, hk, hb, hw, hw2, ht7, hg, tree181a, h1, hx, hF, form_eta, str_eta, box_eta, getD_map_lt, Tryd.f181, J5, J4, J3, J2, J1, R28, R27, R22, R21, R20, R19, R18, R17, R16, R15, R14, R13, R12, R11, R10, R9, R8, R7, R6, R5, R4, R3, R2, R1, Q20, Q19, Q18, Q17, Q16, Q15, Q14, Q13, Q12, Q11, Q10, Q9, Q8, Q7, Q6, Q5, Q4, Q3, Q2, Q1, Tbl0, Q23, Q22, Q21])
      all_goals
        rw [hQ]
        show D.val _ = some (D.tup [.fz (enc (bodyP b).1), .fz (enc (bodyP b).2)])
        rw [hst]
        simp only [go_sem, form_eta]
        all_goals first | done | rfl | trace_state
      done
    have hcp : condP x = (g, true) := hcp
    rcases Nat.eq_zero_or_pos i with h0 | h0
    · subst h0
      have hs : accF b 1 = g := by rw [accF_succ h1 hp (by rw [hx]; exact hcp), if_pos rfl]
      have hp3 := accOk_succ h1 hp (by rw [hx]; exact hcp)
      have e0 : ((0 : Int) < (b.conds.length : Int)) = True := eq_true (by omega)
      repeat' (first | refine WK_drawV hm kT.out 181000 (lst [1000014]) tree181a (by kernel_rfl) (by kernel_rfl) ?_ | refine And.intro ?_ ?_ | exact True.intro | refine ReqK.i ha1 fun _ => ?_ | refine ReqK.i hd2 fun _ => ?_ | refine ReqK.i (by omega) fun _ => ?_ | refine ReqK.i (by unfold maxL; omega) fun _ => ?_ | refine ReqK.i rfl fun _ => ?_ | refine ReqK.i ⟨rfl, rfl⟩ fun _ => ?_ | refine ReqK.i ⟨rfl, rfl, rfl⟩ fun _ => ?_ | simp only [go_sem, hk, hb, hw, hw2, ht7, hg, tree181a, h1, hx, hF, e0, form_eta, str_eta, box_eta, getD_map_lt, Tryd.f181, J5, J4, J3, J2, J1, R28, R27, R22, R21, R20, R19, R18, R17, R16, R15, R14, R13, R12, R11, R10, R9, R8, R7, R6, R5, R4, R3, R2, R1, Q20, Q19, Q18, Q17, Q16, Q15, Q14, Q13, Q12, Q11, Q10, Q9, Q8, Q7, Q6, Q5, Q4, Q3, Q2, Q1, Tbl0, Q23, Q22, Q21])
      all_goals
        refine ⟨⟨1, m + 30, by omega, by omega, hp3⟩, by simp only; omega, ?_⟩
        refine Weak_g [] [] [] ?_ ?_ ?_ ?_ ?_ <;> (try simp only [go_sem, hs])
        all_goals first | done | rfl | omega | trace_state
    · have hs : accF b (i + 1) = dTwo 5 f0 g := by rw [accF_succ h1 hp (by rw [hx]; exact hcp), if_neg (by omega), hF]
      have hp3 := accOk_succ h1 hp (by rw [hx]; exact hcp)
      have e0 : ((i : Int) = 0) = False := eq_false (by omega)
      obtain ⟨t5, ht5⟩ : ∃ t, dTwo 5 f0 g = t := ⟨_, rfl⟩
      rw [ht5] at hs
      repeat' (first | refine WK_drawV hm kT.out 181000 (lst [1000014]) tree181a (by kernel_rfl) (by kernel_rfl) ?_ | refine And.intro ?_ ?_ | exact True.intro | refine ReqK.i ha1 fun _ => ?_ | refine ReqK.i hd2 fun _ => ?_ | refine ReqK.i (by omega) fun _ => ?_ | refine ReqK.i (by unfold maxL; omega) fun _ => ?_ | refine ReqK.i rfl fun _ => ?_ | refine ReqK.i ⟨rfl, rfl⟩ fun _ => ?_ | refine ReqK.i ⟨rfl, rfl, rfl⟩ fun _ => ?_ | simp only [go_sem, hk, hb, hw, hw2, ht7, hg, tree181a, h1, hx, hF, e0, ht5, form_eta, str_eta, box_eta, getD_map_lt, Tryd.f181, J5, J4, J3, J2, J1, R28, R27, R22, R21, R20, R19, R18, R17, R16, R15, R14, R13, R12, R11, R10, R9, R8, R7, R6, R5, R4, R3, R2, R1, Q20, Q19, Q18, Q17, Q16, Q15, Q14, Q13, Q12, Q11, Q10, Q9, Q8, Q7, Q6, Q5, Q4, Q3, Q2, Q1, Tbl0, Q23, Q22, Q21])
      all_goals
        refine ⟨⟨i + 1, m + 30, by omega, by omega, hp3⟩, by simp only; omega, ?_⟩
        refine Weak_g [] [] [] ?_ ?_ ?_ ?_ ?_ <;> (try simp only [go_sem, hs])
        all_goals first | done | rfl | omega | trace_state
  · obtain ⟨ha1, ha2, ha3⟩ := hxs a (by rw [hb]; simp)
    obtain ⟨hd1, hd2, hd3⟩ := hxs d (by rw [hb]; simp)
    obtain ⟨p, o, hw⟩ : ∃ w o, wholeP a = (w, o) := ⟨_, _, rfl⟩
    obtain ⟨q, o2, hw2⟩ : ∃ w o, wholeP d = (w, o) := ⟨_, _, rfl⟩
    obtain ⟨g, hg⟩ : ∃ t, dTwo 6 p q = t := ⟨_, rfl⟩
    have hcp : condP x = (g, o && o2) := by rw [condP4 hk hb, hw, hw2, hg]
    cases o <;> cases o2
    all_goals try
      have hcp : condP x = (g, false) := hcp
      have hst : bodyP b = (f0, false) := by rw [body_stop h1 hp (by rw [hx]; exact hcp), hF]
      repeat' (first | refine ReqK.i ha2 fun _ => ?_ | refine ReqK.i hd2 fun _ => ?_ | refine ReqK.i (by omega) fun _ => ?_ | refine ReqK.i (by unfold maxL; omega) fun _ => ?_ | refine ReqK.i rfl fun _ => ?_ | refine ReqK.i ⟨rfl, rfl⟩ fun _ => ?_ | refine ReqK.i ⟨rfl, rfl, rfl⟩ fun _ => ?_ | simp only [go_sem, hk, hb, hw, hw2, hg, h1, hx, hF, form_eta, str_eta, box_eta, getD_map_lt, Tryd.f181, J5, J4, J3, J2, J1, R28, R27, R22, R21, R20, R19, R18, R17, R16, R15, R14, R13, R12, R11, R10, R9, R8, R7, R6, R5, R4, R3, R2, R1, Q20, Q19, Q18, Q17, Q16, Q15, Q14, Q13, Q12, Q11, Q10, Q9, Q8, Q7, Q6, Q5, Q4, Q3, Q2, Q1, Tbl0, Q23, Q22, Q21])
      all_goals
        rw [hQ]
        show D.val _ = some (D.tup [.fz (enc (bodyP b).1), .fz (enc (bodyP b).2)])
        rw [hst]
        simp only [go_sem, form_eta]
        all_goals first | done | rfl | trace_state
      done
    have hcp : condP x = (g, true) := hcp
    rcases Nat.eq_zero_or_pos i with h0 | h0
    · subst h0
      have hs : accF b 1 = g := by rw [accF_succ h1 hp (by rw [hx]; exact hcp), if_pos rfl]
      have hp3 := accOk_succ h1 hp (by rw [hx]; exact hcp)
      have e0 : ((0 : Int) < (b.conds.length : Int)) = True := eq_true (by omega)
      repeat' (first | refine ReqK.i ha2 fun _ => ?_ | refine ReqK.i hd2 fun _ => ?_ | refine ReqK.i (by omega) fun _ => ?_ | refine ReqK.i (by unfold maxL; omega) fun _ => ?_ | refine ReqK.i rfl fun _ => ?_ | refine ReqK.i ⟨rfl, rfl⟩ fun _ => ?_ | refine ReqK.i ⟨rfl, rfl, rfl⟩ fun _ => ?_ | simp only [go_sem, hk, hb, hw, hw2, hg, h1, hx, hF, e0, form_eta, str_eta, box_eta, getD_map_lt, Tryd.f181, J5, J4, J3, J2, J1, R28, R27, R22, R21, R20, R19, R18, R17, R16, R15, R14, R13, R12, R11, R10, R9, R8, R7, R6, R5, R4, R3, R2, R1, Q20, Q19, Q18, Q17, Q16, Q15, Q14, Q13, Q12, Q11, Q10, Q9, Q8, Q7, Q6, Q5, Q4, Q3, Q2, Q1, Tbl0, Q23, Q22, Q21])
      all_goals
        refine ⟨⟨1, m + 30, by omega, by omega, hp3⟩, by simp only; omega, ?_⟩
        refine Weak_g [] [] [] ?_ ?_ ?_ ?_ ?_ <;> (try simp only [go_sem, hs])
        all_goals first | done | rfl | omega | trace_state
    · have hs : accF b (i + 1) = dTwo 5 f0 g := by rw [accF_succ h1 hp (by rw [hx]; exact hcp), if_neg (by omega), hF]
      have hp3 := accOk_succ h1 hp (by rw [hx]; exact hcp)
      have e0 : ((i : Int) = 0) = False := eq_false (by omega)
      obtain ⟨t5, ht5⟩ : ∃ t, dTwo 5 f0 g = t := ⟨_, rfl⟩
      rw [ht5] at hs
      repeat' (first | refine ReqK.i ha2 fun _ => ?_ | refine ReqK.i hd2 fun _ => ?_ | refine ReqK.i (by omega) fun _ => ?_ | refine ReqK.i (by unfold maxL; omega) fun _ => ?_ | refine ReqK.i rfl fun _ => ?_ | refine ReqK.i ⟨rfl, rfl⟩ fun _ => ?_ | refine ReqK.i ⟨rfl, rfl, rfl⟩ fun _ => ?_ | simp only [go_sem, hk, hb, hw, hw2, hg, h1, hx, hF, e0, ht5, form_eta, str_eta, box_eta, getD_map_lt, Tryd.f181, J5, J4, J3, J2, J1, R28, R27, R22, R21, R20, R19, R18, R17, R16, R15, R14, R13, R12, R11, R10, R9, R8, R7, R6, R5, R4, R3, R2, R1, Q20, Q19, Q18, Q17, Q16, Q15, Q14, Q13, Q12, Q11, Q10, Q9, Q8, Q7, Q6, Q5, Q4, Q3, Q2, Q1, Tbl0, Q23, Q22, Q21])
      all_goals
        refine ⟨⟨i + 1, m + 30, by omega, by omega, hp3⟩, by simp only; omega, ?_⟩
        refine Weak_g [] [] [] ?_ ?_ ?_ ?_ ?_ <;> (try simp only [go_sem, hs])
        all_goals first | done | rfl | omega | trace_state
  · have hcp := condP5 (c := x) (.inl hk)
    have hst : bodyP b = (f0, false) := by rw [body_stop h1 hp (by rw [hx]; exact hcp), hF]
    repeat' (first | refine ReqK.i (by omega) fun _ => ?_ | refine ReqK.i (by unfold maxL; omega) fun _ => ?_ | refine ReqK.i rfl fun _ => ?_ | refine ReqK.i ⟨rfl, rfl⟩ fun _ => ?_ | refine ReqK.i ⟨rfl, rfl, rfl⟩ fun _ => ?_ | simp only [go_sem, hk, hb, h1, hx, hF, form_eta, str_eta, box_eta, getD_map_lt, Tryd.f181, J5, J4, J3, J2, J1, R28, R27, R22, R21, R20, R19, R18, R17, R16, R15, R14, R13, R12, R11, R10, R9, R8, R7, R6, R5, R4, R3, R2, R1, Q20, Q19, Q18, Q17, Q16, Q15, Q14, Q13, Q12, Q11, Q10, Q9, Q8, Q7, Q6, Q5, Q4, Q3, Q2, Q1, Tbl0, Q23, Q22, Q21])
    all_goals
      rw [hQ]
      show D.val _ = some (D.tup [.fz (enc (bodyP b).1), .fz (enc (bodyP b).2)])
      rw [hst]
      simp only [go_sem, form_eta]
      all_goals first | done | rfl | trace_state
  · have hcp := condP5 (c := x) (.inr hk)
    have hst : bodyP b = (f0, false) := by rw [body_stop h1 hp (by rw [hx]; exact hcp), hF]
    repeat' (first | refine ReqK.i (by omega) fun _ => ?_ | refine ReqK.i (by unfold maxL; omega) fun _ => ?_ | refine ReqK.i rfl fun _ => ?_ | refine ReqK.i ⟨rfl, rfl⟩ fun _ => ?_ | refine ReqK.i ⟨rfl, rfl, rfl⟩ fun _ => ?_ | simp only [go_sem, hk, hb, h1, hx, hF, form_eta, str_eta, box_eta, getD_map_lt, Tryd.f181, J5, J4, J3, J2, J1, R28, R27, R22, R21, R20, R19, R18, R17, R16, R15, R14, R13, R12, R11, R10, R9, R8, R7, R6, R5, R4, R3, R2, R1, Q20, Q19, Q18, Q17, Q16, Q15, Q14, Q13, Q12, Q11, Q10, Q9, Q8, Q7, Q6, Q5, Q4, Q3, Q2, Q1, Tbl0, Q23, Q22, Q21])
    all_goals
      rw [hQ]
      show D.val _ = some (D.tup [.fz (enc (bodyP b).1), .fz (enc (bodyP b).2)])
      rw [hst]
      simp only [go_sem, form_eta]
      all_goals first | done | rfl | trace_state
end Go.Proofs.YtoicheicnbjfeaaDoor

namespace Go.Proofs.YtoicheicnbjfeaaDoor
open Go Go.Abs Go.Proofs

/-! ## what a box says: the document's -/
def treeSd : Tv := (.q 0 (.q 1 (.q 2 (.q 3 (.q 4 (.br [(5, .leaf)]))))))
def tree124a : Tv := (.q 0 (.q 1 (.q 2 (.q 3 (.q 4 (.q 5 (.q 6 (.q 7 (.q 8 (.q 9 (.q 10 (.q 11 (.br [(12, (.br [(13, .leaf)]))])))))))))))))
def tree124b : Tv := (.q 0 (.q 1 (.q 2 (.q 3 (.q 4 (.q 5 (.q 6 (.q 7 (.q 8 (.br [(9, (.q 10 .leaf))]))))))))))
def tree124c : Tv := (.q 0 (.q 1 (.q 2 (.q 3 (.q 4 (.q 5 (.q 6 (.q 7 (.q 8 (.q 9 (.q 10 (.q 11 (.q 12 (.q 13 (.br [(14, (.q 15 .leaf))])))))))))))))))
def J7 : Tbl := (J6.add 124 (sp1 bodyM okT)).add 52 (sp1 sayM okT)
set_option maxRecDepth 100000 in
set_option maxHeartbeats 1000000 in
set_option maxHeartbeats 4000000 in
theorem hJ7 : TblOk Tryd.prog GA J7 := by
  refine sp1_rec2 (by decide) (fun b => 2 * b.size) (fun b => 2 * b.size + 1) ok124 ok52 hJ6 (fun n hT b hn hpre _ => ?_) (fun n hT b hn hpre _ => ?_)
  rotate_left
  · have hr := (okT_len hpre).2
    have hb : 2 * b.size < n ∧ okT b := ⟨by omega, hpre⟩
    obtain ⟨f, hf⟩ : ∃ f, bodyM b = f := ⟨_, rfl⟩
    have e1 : sayM b = withinM 9 b.refs f := by unfold sayM; rw [hf]
    rw [e1]
    obtain ⟨w, hw⟩ : ∃ w, withinM 9 b.refs f = w := ⟨_, rfl⟩
    rw [hw]
    have kT := Kp.mk hT
    clear hT
    refine Wcall_K (N := 8) hm kT.out 52000 (lst [1000001]) ok52 Tryd.func52 rfl rfl (by simp) (by kernel_rfl) ?_
    repeat' (first | refine ReqK.i hb fun _ => ?_ | refine WK_drawV hm kT.out 52000 (lst [1000001]) treeSd (by kernel_rfl) (by kernel_rfl) ?_ | refine And.intro ?_ ?_ | exact True.intro | refine ReqK.i (by omega) fun _ => ?_ | refine ReqK.i (by unfold maxL; omega) fun _ => ?_ | refine ReqK.i rfl fun _ => ?_ | refine ReqK.i ⟨rfl, rfl⟩ fun _ => ?_ | refine ReqK.i ⟨rfl, rfl, rfl⟩ fun _ => ?_ | simp only [go_sem, hf, hw, treeSd, form_eta, str_eta, box_eta, getD_map_lt, Tryd.f52, J6, J5, J4, J3, J2, J1, R28, R27, R22, R21, R20, R19, R18, R17, R16, R15, R14, R13, R12, R11, R10, R9, R8, R7, R6, R5, R4, R3, R2, R1, Q20, Q19, Q18, Q17, Q16, Q15, Q14, Q13, Q12, Q11, Q10, Q9, Q8, Q7, Q6, Q5, Q4, Q3, Q2, Q1, Tbl0, Q23, Q22, Q21])
    all_goals trace_state
  have hcl := (okT_len hpre).1
  have hsub : ∀ c ∈ b.conds, ∀ d ∈ c.boxes, (2 * d.size < n ∧ okT d) ∧ (2 * d.size + 1 < n ∧ okT d) ∧ d.refs.length ≤ 400 := fun c hc d hd => by
    have h := okT_sub hpre hc hd
    have h2 := okT_len h.1
    exact ⟨⟨by omega, h.1⟩, ⟨by omega, h.1⟩, h2.2⟩
  have kind : ∀ c ∈ b.conds, _ := fun c hc => okT_kind hpre hc
  obtain ⟨S, hS⟩ : ∃ S : Nat → List Abs.Form, S = fun i => condsL (b.conds.take i) := ⟨_, rfl⟩
  have hS0 : S 0 = [] := by rw [hS]; rfl
  have hSs : ∀ i (h : i < b.conds.length), S (i + 1) = S i ++ condL b.conds[i] := fun i h => by rw [hS]; exact condsL_take h
  have hSl : ∀ i, (S i).length ≤ 400 := fun i => by
    rw [hS]; simp only
    have h := condsL_len (b.conds.take i)
    rw [List.length_take] at h
    omega
  obtain ⟨Z, hZ⟩ : ∃ Z, bodyM b = Z := ⟨_, rfl⟩
  have hSe : joinE (S b.conds.length) = Z := by rw [hS]; simp only [List.take_length]; rw [← hZ, bodyM_eq]
  rw [hZ]
  have kT := Kp.mk hT
  have ks := Kp.mk hsub
  have kk := Kp.mk kind
  have kS := Kp.mk hSs
  have kl := Kp.mk hSl
  have ke := Kp.mk hSe
  clear hT hsub kind hn hS hSs hSl hZ hSe
  refine Wcall_K (N := 87) hm kT.out 124000 (lsw [26, 38, 62, 79] [1000012, 1000013, 1000015]) ok124 Tryd.func124 rfl rfl (by simp) (by kernel_rfl) ?_
  repeat' (first | refine ReqK.i (by omega) fun _ => ?_ | refine ReqK.i (by unfold maxL; omega) fun _ => ?_ | refine ReqK.i rfl fun _ => ?_ | refine ReqK.i ⟨rfl, rfl⟩ fun _ => ?_ | refine ReqK.i ⟨rfl, rfl, rfl⟩ fun _ => ?_ | simp only [go_sem, Tryd.f124, J6, J5, J4, J3, J2, J1, R28, R27, R22, R21, R20, R19, R18, R17, R16, R15, R14, R13, R12, R11, R10, R9, R8, R7, R6, R5, R4, R3, R2, R1, Q20, Q19, Q18, Q17, Q16, Q15, Q14, Q13, Q12, Q11, Q10, Q9, Q8, Q7, Q6, Q5, Q4, Q3, Q2, Q1, Tbl0, Q23, Q22, Q21])
  refine WK_loop hm kT.out 124000 (lsw [26, 38, 62, 79] [1000012, 1000013, 1000015]) (ι := LoopG b.conds.length 3 fun _ => True)
    ⟨fun q => ⟨frL [(1, .ptr (124001, 0) 0), (2, .ptr (124002, 1) 0), (3, .ow (124026, q.g) 4 ((S q.i).map enc)), (9, .fz (.i .i64 b.conds.length)), (10, .fz (.i .i64 q.i))], hpL [((124001, 0), some ⟨[.fz (.sl (b.refs.map enc)), .fz (.sl (b.conds.map enc))], true, false⟩), ((124002, 1), some ⟨[.fz (.i .i64 0), .fz (.s []), .full [], .full []], true, false⟩), ((124026, q.g), some tok)], q.m⟩, fun q => b.conds.length - q.i⟩
    ⟨0, 2, 3, by omega, by omega, by omega, trivial⟩ (by kernel_rfl) ?_ ?_
  · refine Weak_g [] [(124026, 2)] [] ?_ ?_ ?_ ?_ ?_ <;> (try simp only [go_sem, hS0, List.map_nil])
    all_goals first | done | rfl | omega | trace_state
  rintro ⟨i, g, m, hi, hg, hm2, _⟩
  try simp only at hi hg hm2
  have hsl := kl.out i
  rcases Nat.lt_or_ge i b.conds.length with h1 | h1
  rotate_left
  · obtain rfl : i = b.conds.length := by omega
    have he := ke.out
    obtain ⟨l, hl⟩ : ∃ l, S b.conds.length = l := ⟨_, rfl⟩
    rw [hl] at he hsl
    by_cases h0 : l = []
    · subst h0
      have he : Z = Abs.Form.mk 1 ⟨[]⟩ [] [] := he.symm
      repeat' (first | refine ReqK.i (by omega) fun _ => ?_ | refine ReqK.i (by unfold maxL; omega) fun _ => ?_ | refine ReqK.i rfl fun _ => ?_ | refine ReqK.i ⟨rfl, rfl⟩ fun _ => ?_ | refine ReqK.i ⟨rfl, rfl, rfl⟩ fun _ => ?_ | simp only [go_sem, Nat.lt_irrefl, hl, List.map_nil, List.length_nil, form_eta, str_eta, box_eta, getD_map_lt, Tryd.f124, J6, J5, J4, J3, J2, J1, R28, R27, R22, R21, R20, R19, R18, R17, R16, R15, R14, R13, R12, R11, R10, R9, R8, R7, R6, R5, R4, R3, R2, R1, Q20, Q19, Q18, Q17, Q16, Q15, Q14, Q13, Q12, Q11, Q10, Q9, Q8, Q7, Q6, Q5, Q4, Q3, Q2, Q1, Tbl0, Q23, Q22, Q21])
      all_goals
        rw [he]
        first | done | rfl | trace_state
    · have he : joinM 5 l = Z := by
        cases l with
        | nil => exact absurd rfl h0
        | cons a t => exact he
      have hp : joinPre 5 l := ⟨h0, by omega⟩
      have e0 : ((l.length : Int) = 0) = False := eq_false (by have := List.length_pos_iff.2 h0; omega)
      repeat' (first | refine ReqK.i hp fun _ => ?_ | refine ReqK.i (by omega) fun _ => ?_ | refine ReqK.i (by unfold maxL; omega) fun _ => ?_ | refine ReqK.i rfl fun _ => ?_ | refine ReqK.i ⟨rfl, rfl⟩ fun _ => ?_ | refine ReqK.i ⟨rfl, rfl, rfl⟩ fun _ => ?_ | simp only [go_sem, Nat.lt_irrefl, hl, he, e0, form_eta, str_eta, box_eta, getD_map_lt, Tryd.f124, J6, J5, J4, J3, J2, J1, R28, R27, R22, R21, R20, R19, R18, R17, R16, R15, R14, R13, R12, R11, R10, R9, R8, R7, R6, R5, R4, R3, R2, R1, Q20, Q19, Q18, Q17, Q16, Q15, Q14, Q13, Q12, Q11, Q10, Q9, Q8, Q7, Q6, Q5, Q4, Q3, Q2, Q1, Tbl0, Q23, Q22, Q21])
      all_goals trace_state
  obtain ⟨x, hx⟩ : ∃ x, b.conds[i] = x := ⟨_, rfl⟩
  have hxm : x ∈ b.conds := hx ▸ List.getElem_mem h1
  have hxs := ks.out x hxm
  have hss := kS.out i h1
  rw [hx] at hss
  rcases kk.out x hxm with ⟨hk, hb⟩ | ⟨hk, a, hb⟩ | ⟨hk, a, d, hb⟩ | ⟨hk, a, d, hb⟩ | ⟨hk, hb⟩ | ⟨hk, a, hb⟩
  · rw [condL1 hk] at hss
    repeat' (first | refine ReqK.i (fits_of2 (by omega) (by decide)) fun _ => ?_ | refine ReqK.i (by omega) fun _ => ?_ | refine ReqK.i (by unfold maxL; omega) fun _ => ?_ | refine ReqK.i rfl fun _ => ?_ | refine ReqK.i ⟨rfl, rfl⟩ fun _ => ?_ | refine ReqK.i ⟨rfl, rfl, rfl⟩ fun _ => ?_ | simp only [go_sem, hk, hb, hx, h1, form_eta, str_eta, box_eta, getD_map_lt, Tryd.f124, J6, J5, J4, J3, J2, J1, R28, R27, R22, R21, R20, R19, R18, R17, R16, R15, R14, R13, R12, R11, R10, R9, R8, R7, R6, R5, R4, R3, R2, R1, Q20, Q19, Q18, Q17, Q16, Q15, Q14, Q13, Q12, Q11, Q10, Q9, Q8, Q7, Q6, Q5, Q4, Q3, Q2, Q1, Tbl0, Q23, Q22, Q21])
    all_goals
      refine ⟨⟨i + 1, m + 1, m + 1 + 1, by omega, by omega, by omega, trivial⟩, by simp only; omega, ?_⟩
      refine Weak_g [] [] [] ?_ ?_ ?_ ?_ ?_ <;> (try simp only [go_sem, hss, r_ren, preL, vL, List.map_append, List.map_cons, List.map_nil, List.append_nil])
      all_goals first | done | rfl | omega | trace_state
  · obtain ⟨ha1, ha2, ha3⟩ := hxs a (by rw [hb]; simp)
    obtain ⟨w, hw⟩ : ∃ w, sayM a = w := ⟨_, rfl⟩
    rw [condL2 hk hb, hw, show dNot w = Abs.Form.mk 4 ⟨[]⟩ [] [w] from rfl] at hss
    repeat' (first | refine ReqK.i (fits_of2 (by omega) (by decide)) fun _ => ?_ | refine ReqK.i ha2 fun _ => ?_ | refine ReqK.i (by omega) fun _ => ?_ | refine ReqK.i (by unfold maxL; omega) fun _ => ?_ | refine ReqK.i rfl fun _ => ?_ | refine ReqK.i ⟨rfl, rfl⟩ fun _ => ?_ | refine ReqK.i ⟨rfl, rfl, rfl⟩ fun _ => ?_ | simp only [go_sem, hw, hk, hb, hx, h1, form_eta, str_eta, box_eta, getD_map_lt, Tryd.f124, J6, J5, J4, J3, J2, J1, R28, R27, R22, R21, R20, R19, R18, R17, R16, R15, R14, R13, R12, R11, R10, R9, R8, R7, R6, R5, R4, R3, R2, R1, Q20, Q19, Q18, Q17, Q16, Q15, Q14, Q13, Q12, Q11, Q10, Q9, Q8, Q7, Q6, Q5, Q4, Q3, Q2, Q1, Tbl0, Q23, Q22, Q21])
    all_goals
      refine ⟨⟨i + 1, m + 1 + 1, m + 1 + 1 + 1, by omega, by omega, by omega, trivial⟩, by simp only; omega, ?_⟩
      refine Weak_g [((124026, m + 1 + 1), (124038, m + 1))] [] [] ?_ ?_ ?_ ?_ ?_ <;> (try simp only [go_sem, hss, r_ren, preL, vL, List.map_append, List.map_cons, List.map_nil, List.append_nil])
      all_goals first | done | rfl | omega | trace_state
  · obtain ⟨ha1, ha2, ha3⟩ := hxs a (by rw [hb]; simp)
    obtain ⟨hd1, hd2, hd3⟩ := hxs d (by rw [hb]; simp)
    obtain ⟨p, hp⟩ : ∃ w, bodyM a = w := ⟨_, rfl⟩
    obtain ⟨q, hq⟩ : ∃ w, sayM d = w := ⟨_, rfl⟩
    obtain ⟨g, hg⟩ : ∃ w, withinM 8 a.refs (Abs.Form.mk 7 ⟨[]⟩ [] [p, q]) = w := ⟨_, rfl⟩
    rw [condL3 hk hb, hp, hq, show dTwo 7 p q = Abs.Form.mk 7 ⟨[]⟩ [] [p, q] from rfl, hg] at hss
    repeat' (first | refine ReqK.i (fits_of2 (by omega) (by decide)) fun _ => ?_ | refine ReqK.i ha1 fun _ => ?_ | refine ReqK.i hd2 fun _ => ?_ | refine ReqK.i (by omega) fun _ => ?_ | refine ReqK.i (by unfold maxL; omega) fun _ => ?_ | refine ReqK.i rfl fun _ => ?_ | refine ReqK.i ⟨rfl, rfl⟩ fun _ => ?_ | refine ReqK.i ⟨rfl, rfl, rfl⟩ fun _ => ?_ | simp only [go_sem, hp, hq, hg, hk, hb, hx, h1, form_eta, str_eta, box_eta, getD_map_lt, Tryd.f124, J6, J5, J4, J3, J2, J1, R28, R27, R22, R21, R20, R19, R18, R17, R16, R15, R14, R13, R12, R11, R10, R9, R8, R7, R6, R5, R4, R3, R2, R1, Q20, Q19, Q18, Q17, Q16, Q15, Q14, Q13, Q12, Q11, Q10, Q9, Q8, Q7, Q6, Q5, Q4, Q3, Q2, Q1, Tbl0, Q23, Q22, Q21])
    refine WK_drawV hm kT.out 124000 (lsw [26, 38, 62, 79] [1000012, 1000013, 1000015]) tree124a (by kernel_rfl) (by kernel_rfl) ?_
    repeat' (first | refine ReqK.i (fits_of2 (by omega) (by decide)) fun _ => ?_ | refine ReqK.i ha1 fun _ => ?_ | refine ReqK.i hd2 fun _ => ?_ | refine And.intro ?_ ?_ | exact True.intro | refine ReqK.i (by omega) fun _ => ?_ | refine ReqK.i (by unfold maxL; omega) fun _ => ?_ | refine ReqK.i rfl fun _ => ?_ | refine ReqK.i ⟨rfl, rfl⟩ fun _ => ?_ | refine ReqK.i ⟨rfl, rfl, rfl⟩ fun _ => ?_ | simp only [go_sem, hp, hq, hg, hk, hb, hx, h1, tree124a, form_eta, str_eta, box_eta, getD_map_lt, Tryd.f124, J6, J5, J4, J3, J2, J1, R28, R27, R22, R21, R20, R19, R18, R17, R16, R15, R14, R13, R12, R11, R10, R9, R8, R7, R6, R5, R4, R3, R2, R1, Q20, Q19, Q18, Q17, Q16, Q15, Q14, Q13, Q12, Q11, Q10, Q9, Q8, Q7, Q6, Q5, Q4, Q3, Q2, Q1, Tbl0, Q23, Q22, Q21])
    refine WK_drawV hm kT.out 124000 (lsw [26, 38, 62, 79] [1000012, 1000013, 1000015]) tree124b (by kernel_rfl) (by kernel_rfl) ?_
    repeat' (first | refine ReqK.i (fits_of2 (by omega) (by decide)) fun _ => ?_ | refine ReqK.i ha1 fun _ => ?_ | refine ReqK.i hd2 fun _ => ?_ | refine And.intro ?_ ?_ | exact True.intro | refine ReqK.i (by omega) fun _ => ?_ | refine ReqK.i (by unfold maxL; omega) fun _ => ?_ | refine ReqK.i rfl fun _ => ?_ | refine ReqK.i ⟨rfl, rfl⟩ fun _ => ?_ | refine ReqK.i ⟨rfl, rfl, rfl⟩ fun _ => ?_ | simp only [go_sem, hp, hq, hg, hk, hb, hx, h1, tree124b, form_eta, str_eta, box_eta, getD_map_lt, Tryd.f124, J6, J5, J4, J3, J2, J1, R28, R27, R22, R21, R20, R19, R18, R17, R16, R15, R14, R13, R12, R11, R10, R9, R8, R7, R6, R5, R4, R3, R2, R1, Q20, Q19, Q18, Q17, Q16, Q15, Q14, Q13, Q12, Q11, Q10, Q9, Q8, Q7, Q6, Q5, Q4, Q3, Q2, Q1, Tbl0, Q23, Q22, Q21])
    all_goals
      refine ⟨⟨i + 1, m + 1 + 1 + 1, m + 1 + 1 + 1 + 1, by omega, by omega, by omega, trivial⟩, by simp only; omega, ?_⟩
      refine Weak_g [((124026, m + 1 + 1 + 1), (124062, m + 1 + 1))] [] [] ?_ ?_ ?_ ?_ ?_ <;> (try simp only [go_sem, hss, r_ren, preL, vL, List.map_append, List.map_cons, List.map_nil, List.append_nil])
      all_goals first | done | rfl | omega | trace_state
  · obtain ⟨ha1, ha2, ha3⟩ := hxs a (by rw [hb]; simp)
    obtain ⟨hd1, hd2, hd3⟩ := hxs d (by rw [hb]; simp)
    obtain ⟨p, hp⟩ : ∃ w, sayM a = w := ⟨_, rfl⟩
    obtain ⟨q, hq⟩ : ∃ w, sayM d = w := ⟨_, rfl⟩
    rw [condL4 hk hb, hp, hq, show dTwo 6 p q = Abs.Form.mk 6 ⟨[]⟩ [] [p, q] from rfl] at hss
    repeat' (first | refine ReqK.i (fits_of2 (by omega) (by decide)) fun _ => ?_ | refine ReqK.i ha2 fun _ => ?_ | refine ReqK.i hd2 fun _ => ?_ | refine ReqK.i (by omega) fun _ => ?_ | refine ReqK.i (by unfold maxL; omega) fun _ => ?_ | refine ReqK.i rfl fun _ => ?_ | refine ReqK.i ⟨rfl, rfl⟩ fun _ => ?_ | refine ReqK.i ⟨rfl, rfl, rfl⟩ fun _ => ?_ | simp only [go_sem, hp, hq, hk, hb, hx, h1, form_eta, str_eta, box_eta, getD_map_lt, Tryd.f124, J6, J5, J4, J3, J2, J1, R28, R27, R22, R21, R20, R19, R18, R17, R16, R15, R14, R13, R12, R11, R10, R9, R8, R7, R6, R5, R4, R3, R2, R1, Q20, Q19, Q18, Q17, Q16, Q15, Q14, Q13, Q12, Q11, Q10, Q9, Q8, Q7, Q6, Q5, Q4, Q3, Q2, Q1, Tbl0, Q23, Q22, Q21])
    refine WK_drawV hm kT.out 124000 (lsw [26, 38, 62, 79] [1000012, 1000013, 1000015]) tree124c (by kernel_rfl) (by kernel_rfl) ?_
    repeat' (first | refine ReqK.i (fits_of2 (by omega) (by decide)) fun _ => ?_ | refine ReqK.i ha2 fun _ => ?_ | refine ReqK.i hd2 fun _ => ?_ | refine And.intro ?_ ?_ | exact True.intro | refine ReqK.i (by omega) fun _ => ?_ | refine ReqK.i (by unfold maxL; omega) fun _ => ?_ | refine ReqK.i rfl fun _ => ?_ | refine ReqK.i ⟨rfl, rfl⟩ fun _ => ?_ | refine ReqK.i ⟨rfl, rfl, rfl⟩ fun _ => ?_ | simp only [go_sem, hp, hq, hk, hb, hx, h1, tree124c, form_eta, str_eta, box_eta, getD_map_lt, Tryd.f124, J6, J5, J4, J3, J2, J1, R28, R27, R22, R21, R20, R19, R18, R17, R16, R15, R14, R13, R12, R11, R10, R9, R8, R7, R6, R5, R4, R3, R2, R1, Q20, Q19, Q18, Q17, Q16, Q15, Q14, Q13, Q12, Q11, Q10, Q9, Q8, Q7, Q6, Q5, Q4, Q3, Q2, Q1, Tbl0, Q23, Q22, Q21])
    all_goals
      refine ⟨⟨i + 1, m + 1 + 1, m + 1 + 1 + 1, by omega, by omega, by omega, trivial⟩, by simp only; omega, ?_⟩
      refine Weak_g [((124026, m + 1 + 1), (124079, m + 1))] [] [] ?_ ?_ ?_ ?_ ?_ <;> (try simp only [go_sem, hss, r_ren, preL, vL, List.map_append, List.map_cons, List.map_nil, List.append_nil])
      all_goals first | done | rfl | omega | trace_state
  · rw [condL5 (.inl hk), List.append_nil] at hss
    repeat' (first | refine ReqK.i (fits_of2 (by omega) (by decide)) fun _ => ?_ | refine ReqK.i (by omega) fun _ => ?_ | refine ReqK.i (by unfold maxL; omega) fun _ => ?_ | refine ReqK.i rfl fun _ => ?_ | refine ReqK.i ⟨rfl, rfl⟩ fun _ => ?_ | refine ReqK.i ⟨rfl, rfl, rfl⟩ fun _ => ?_ | simp only [go_sem, hk, hb, hx, h1, form_eta, str_eta, box_eta, getD_map_lt, Tryd.f124, J6, J5, J4, J3, J2, J1, R28, R27, R22, R21, R20, R19, R18, R17, R16, R15, R14, R13, R12, R11, R10, R9, R8, R7, R6, R5, R4, R3, R2, R1, Q20, Q19, Q18, Q17, Q16, Q15, Q14, Q13, Q12, Q11, Q10, Q9, Q8, Q7, Q6, Q5, Q4, Q3, Q2, Q1, Tbl0, Q23, Q22, Q21])
    all_goals
      refine ⟨⟨i + 1, g, m + 1, by omega, by omega, by omega, trivial⟩, by simp only; omega, ?_⟩
      refine Weak_g [] [] [] ?_ ?_ ?_ ?_ ?_ <;> (try simp only [go_sem, hss, r_ren, preL, vL, List.map_append, List.map_cons, List.map_nil, List.append_nil])
      all_goals first | done | rfl | omega | trace_state
  · rw [condL5 (.inr hk), List.append_nil] at hss
    repeat' (first | refine ReqK.i (fits_of2 (by omega) (by decide)) fun _ => ?_ | refine ReqK.i (by omega) fun _ => ?_ | refine ReqK.i (by unfold maxL; omega) fun _ => ?_ | refine ReqK.i rfl fun _ => ?_ | refine ReqK.i ⟨rfl, rfl⟩ fun _ => ?_ | refine ReqK.i ⟨rfl, rfl, rfl⟩ fun _ => ?_ | simp only [go_sem, hk, hb, hx, h1, form_eta, str_eta, box_eta, getD_map_lt, Tryd.f124, J6, J5, J4, J3, J2, J1, R28, R27, R22, R21, R20, R19, R18, R17, R16, R15, R14, R13, R12, R11, R10, R9, R8, R7, R6, R5, R4, R3, R2, R1, Q20, Q19, Q18, Q17, Q16, Q15, Q14, Q13, Q12, Q11, Q10, Q9, Q8, Q7, Q6, Q5, Q4, Q3, Q2, Q1, Tbl0, Q23, Q22, Q21])
    all_goals
      refine ⟨⟨i + 1, g, m + 1, by omega, by omega, by omega, trivial⟩, by simp only; omega, ?_⟩
      refine Weak_g [] [] [] ?_ ?_ ?_ ?_ ?_ <;> (try simp only [go_sem, hss, r_ren, preL, vL, List.map_append, List.map_cons, List.map_nil, List.append_nil])
      all_goals first | done | rfl | omega | trace_state
end Go.Proofs.YtoicheicnbjfeaaDoor

namespace Go.Proofs.YtoicheicnbjfeaaDoor
open Go Go.Abs Go.Proofs

/-! ## discourse.Form -/
def tree51 : Tv := (.q 0 (.br [(1, (.br [(2, (.br [(3, .leaf)]))])), (2, (.q 1 (.br [(3, .leaf)])))]))
def formP (b : Abs.Box) : Abs.Form × Fault := if (boxM b).code ≠ 0 then (zeroF, boxM b) else if unsB b = true then (zeroF, ⟨8, -1⟩) else (doneF (sayM b), doneE (sayM b))
def J8 : Tbl := J7.add 51 (sp1p formP fun _ => True)
set_option maxRecDepth 100000 in
set_option maxHeartbeats 1000000 in
set_option maxHeartbeats 4000000 in
theorem hJ8 : TblOk Tryd.prog GA J8 := by
  refine sp1p_ok ok51 hJ7 fun b _ _ => ?_
  by_cases h1 : (boxM b).code = 0
  rotate_left
  · have e : formP b = (zeroF, boxM b) := by unfold formP; rw [if_pos h1]
    obtain ⟨x, hx⟩ : ∃ x, boxM b = x := ⟨_, rfl⟩
    rw [hx] at h1 e
    rw [e]
    refine Wcall_K (N := 31) hm hJ7 51000 (lst [1000003]) ok51 Tryd.func51 rfl rfl (by simp) (by kernel_rfl) ?_
    repeat' (first | refine WK_drawV hm hJ7 51000 (lst [1000003]) tree51 (by kernel_rfl) (by kernel_rfl) ?_ | refine And.intro ?_ ?_ | exact True.intro | refine ReqK.i (by omega) fun _ => ?_ | refine ReqK.i (by unfold maxL; omega) fun _ => ?_ | refine ReqK.i rfl fun _ => ?_ | refine ReqK.i ⟨rfl, rfl⟩ fun _ => ?_ | refine ReqK.i ⟨rfl, rfl, rfl⟩ fun _ => ?_ | refine ReqK.i ⟨rfl, rfl, rfl, trivial⟩ fun _ => ?_ | refine ReqK.i ⟨rfl, rfl, rfl, rfl, trivial⟩ fun _ => ?_ | refine ReqK.i trivial fun _ => ?_ | simp only [go_sem, h1, hx, tree51, zeroF, form_eta, str_eta, box_eta, Tryd.f51, J7, J6, J5, J4, J3, J2, J1, R28, R27, R22, R21, R20, R19, R18, R17, R16, R15, R14, R13, R12, R11, R10, R9, R8, R7, R6, R5, R4, R3, R2, R1, Q20, Q19, Q18, Q17, Q16, Q15, Q14, Q13, Q12, Q11, Q10, Q9, Q8, Q7, Q6, Q5, Q4, Q3, Q2, Q1, Tbl0, Q23, Q22, Q21])
    all_goals trace_state
  have hok := boxM_okT h1
  have hmz := (boxM_ok h1).1
  obtain ⟨s1, s2⟩ := whole_said hok.1
  have hsm := sayM_sm hok.1
  have htot := hok.2
  cases hu : unsB b with
  | true =>
    have e : formP b = (zeroF, ⟨8, -1⟩) := by unfold formP; rw [if_neg (by simp [h1]), if_pos hu]
    obtain ⟨w, k, hw⟩ : ∃ w k, wholeP b = (w, k) := ⟨_, _, rfl⟩
    have hk := s2 hu
    rw [hw] at hk
    have hk : k = false := hk
    subst hk
    rw [e]
    refine Wcall_K (N := 31) hm hJ7 51000 (lst [1000003]) ok51 Tryd.func51 rfl rfl (by simp) (by kernel_rfl) ?_
    repeat' (first | refine ReqK.i hok fun _ => ?_ | refine WK_drawV hm hJ7 51000 (lst [1000003]) tree51 (by kernel_rfl) (by kernel_rfl) ?_ | refine And.intro ?_ ?_ | exact True.intro | refine ReqK.i (by omega) fun _ => ?_ | refine ReqK.i (by unfold maxL; omega) fun _ => ?_ | refine ReqK.i rfl fun _ => ?_ | refine ReqK.i ⟨rfl, rfl⟩ fun _ => ?_ | refine ReqK.i ⟨rfl, rfl, rfl⟩ fun _ => ?_ | refine ReqK.i ⟨rfl, rfl, rfl, trivial⟩ fun _ => ?_ | refine ReqK.i ⟨rfl, rfl, rfl, rfl, trivial⟩ fun _ => ?_ | refine ReqK.i trivial fun _ => ?_ | simp only [go_sem, hmz, hw, zeroF, form_eta, str_eta, box_eta, Tryd.f51, J7, J6, J5, J4, J3, J2, J1, R28, R27, R22, R21, R20, R19, R18, R17, R16, R15, R14, R13, R12, R11, R10, R9, R8, R7, R6, R5, R4, R3, R2, R1, Q20, Q19, Q18, Q17, Q16, Q15, Q14, Q13, Q12, Q11, Q10, Q9, Q8, Q7, Q6, Q5, Q4, Q3, Q2, Q1, Tbl0, Q23, Q22, Q21])
    all_goals trace_state
  | false =>
    have e : formP b = (doneF (sayM b), doneE (sayM b)) := by unfold formP; rw [if_neg (by simp [h1]), if_neg (by simp [hu])]
    have hw := s1 hu
    obtain ⟨w, hws⟩ : ∃ w, sayM b = w := ⟨_, rfl⟩
    rw [hws] at e hw hsm
    have hz : szPre w := ⟨hsm.fit, by have := hsm.size; omega⟩
    rw [e]
    cases hf : fitsM w with
    | true =>
      have e1 : doneF w = canonM w [] := by unfold doneF; rw [if_pos hf]
      have e2 : doneE w = ⟨0, 0⟩ := by unfold doneE; rw [if_pos hf]
      have hcp : w.fit = true ∧ w.size ≤ 1000 := ⟨hsm.fit, by have := (of_decide_eq_true (show decide (w.size ≤ 200 ∧ w.depth ≤ 40) = true from hf)).1; omega⟩
      obtain ⟨c, hc⟩ : ∃ c, canonM w [] = c := ⟨_, rfl⟩
      rw [hc] at e1
      rw [e1, e2]
      refine Wcall_K (N := 31) hm hJ7 51000 (lst [1000003]) ok51 Tryd.func51 rfl rfl (by simp) (by kernel_rfl) ?_
      repeat' (first | refine ReqK.i hok fun _ => ?_ | refine ReqK.i hz fun _ => ?_ | refine ReqK.i hcp fun _ => ?_ | refine WK_drawV hm hJ7 51000 (lst [1000003]) tree51 (by kernel_rfl) (by kernel_rfl) ?_ | refine And.intro ?_ ?_ | exact True.intro | refine ReqK.i (by omega) fun _ => ?_ | refine ReqK.i (by unfold maxL; omega) fun _ => ?_ | refine ReqK.i rfl fun _ => ?_ | refine ReqK.i ⟨rfl, rfl⟩ fun _ => ?_ | refine ReqK.i ⟨rfl, rfl, rfl⟩ fun _ => ?_ | refine ReqK.i ⟨rfl, rfl, rfl, trivial⟩ fun _ => ?_ | refine ReqK.i ⟨rfl, rfl, rfl, rfl, trivial⟩ fun _ => ?_ | refine ReqK.i trivial fun _ => ?_ | simp only [go_sem, hmz, hw, hf, hc, form_eta, str_eta, box_eta, Tryd.f51, J7, J6, J5, J4, J3, J2, J1, R28, R27, R22, R21, R20, R19, R18, R17, R16, R15, R14, R13, R12, R11, R10, R9, R8, R7, R6, R5, R4, R3, R2, R1, Q20, Q19, Q18, Q17, Q16, Q15, Q14, Q13, Q12, Q11, Q10, Q9, Q8, Q7, Q6, Q5, Q4, Q3, Q2, Q1, Tbl0, Q23, Q22, Q21])
      all_goals trace_state
    | false =>
      have e1 : doneF w = zeroF := by unfold doneF; rw [if_neg (by simp [hf])]
      have e2 : doneE w = ⟨1, -1⟩ := by unfold doneE; rw [if_neg (by simp [hf])]
      rw [e1, e2]
      refine Wcall_K (N := 31) hm hJ7 51000 (lst [1000003]) ok51 Tryd.func51 rfl rfl (by simp) (by kernel_rfl) ?_
      repeat' (first | refine ReqK.i hok fun _ => ?_ | refine ReqK.i hz fun _ => ?_ | refine WK_drawV hm hJ7 51000 (lst [1000003]) tree51 (by kernel_rfl) (by kernel_rfl) ?_ | refine And.intro ?_ ?_ | exact True.intro | refine ReqK.i (by omega) fun _ => ?_ | refine ReqK.i (by unfold maxL; omega) fun _ => ?_ | refine ReqK.i rfl fun _ => ?_ | refine ReqK.i ⟨rfl, rfl⟩ fun _ => ?_ | refine ReqK.i ⟨rfl, rfl, rfl⟩ fun _ => ?_ | refine ReqK.i ⟨rfl, rfl, rfl, trivial⟩ fun _ => ?_ | refine ReqK.i ⟨rfl, rfl, rfl, rfl, trivial⟩ fun _ => ?_ | refine ReqK.i trivial fun _ => ?_ | simp only [go_sem, hmz, hw, hf, zeroF, form_eta, str_eta, box_eta, Tryd.f51, J7, J6, J5, J4, J3, J2, J1, R28, R27, R22, R21, R20, R19, R18, R17, R16, R15, R14, R13, R12, R11, R10, R9, R8, R7, R6, R5, R4, R3, R2, R1, Q20, Q19, Q18, Q17, Q16, Q15, Q14, Q13, Q12, Q11, Q10, Q9, Q8, Q7, Q6, Q5, Q4, Q3, Q2, Q1, Tbl0, Q23, Q22, Q21])
      all_goals trace_state
def noBx : Abs.Box := .mk [] []
theorem form_x : ∃ g : Abs.Form, formP (Abs.Box.mk [] []) = (g, ⟨0, 0⟩) ∧ g.kind = 1 := by
  have h1 : (boxM (Abs.Box.mk [] [])).code = 0 := by decide
  have h2 : unsB (Abs.Box.mk [] []) = false := by rw [unsB, unsCs]
  have h3 : sayM (Abs.Box.mk [] []) = dTru := by unfold sayM; rw [bodyM, condsL]; rfl
  have h4 : fitsM dTru = true := by kernel_rfl
  refine ⟨canonM dTru [], ?_, ?_⟩
  · unfold formP
    rw [if_neg (by simp [h1]), if_neg (by simp [h2]), h3]
    unfold doneF doneE
    rw [if_pos h4, if_pos h4]
  · unfold canonM dTru
    rw [ren, if_neg (by decide)]
    rfl
/-! ## the law DiscourseMatchesSpec -/
set_option maxRecDepth 100000 in
set_option maxHeartbeats 1000000 in
set_option maxHeartbeats 8000000 in
theorem lawDisc (hT : TblOk Tryd.prog GA J8) (b : Abs.Box) (_ : (enc b).Wf) : Wcall Tryd.prog GA 12 [.fz (enc b)] (hpL []) 0 (fun d _ _ => d = .fz (.b true)) := by
  obtain ⟨gx, hgx, hgk⟩ := form_x
  have zk : zeroF.kind = 0 := rfl
  by_cases h1 : (boxM b).code = 0
  rotate_left
  · have e : formP b = (zeroF, boxM b) := by unfold formP; rw [if_pos h1]
    obtain ⟨x, hx⟩ : ∃ x, boxM b = x := ⟨_, rfl⟩
    rw [hx] at h1 e
    have h1' : (x.code = 0) = False := eq_false h1
    refine Wcall_K (N := 69) hm hT 12000 (lst []) ok12 Tryd.func12 rfl rfl (by simp) (by kernel_rfl) ?_
    repeat' (first | refine ReqK.i (by omega) fun _ => ?_ | refine ReqK.i (by unfold maxL; omega) fun _ => ?_ | refine ReqK.i rfl fun _ => ?_ | refine ReqK.i ⟨rfl, rfl⟩ fun _ => ?_ | refine ReqK.i ⟨rfl, rfl, rfl⟩ fun _ => ?_ | refine ReqK.i ⟨rfl, rfl, rfl, trivial⟩ fun _ => ?_ | refine ReqK.i ⟨rfl, rfl, rfl, rfl, trivial⟩ fun _ => ?_ | refine ReqK.i trivial fun _ => ?_ | simp only [go_sem, hgx, hgk, GA, zk, form_eta, str_eta, box_eta, h1', hx, e, Tryd.f12, J8, J7, J6, J5, J4, J3, J2, J1, R28, R27, R22, R21, R20, R19, R18, R17, R16, R15, R14, R13, R12, R11, R10, R9, R8, R7, R6, R5, R4, R3, R2, R1, Q20, Q19, Q18, Q17, Q16, Q15, Q14, Q13, Q12, Q11, Q10, Q9, Q8, Q7, Q6, Q5, Q4, Q3, Q2, Q1, Tbl0, Q23, Q22, Q21])
    all_goals trace_state
  have hok := boxM_okT h1
  have hmz := (boxM_ok h1).1
  have hsm := sayM_sm hok.1
  have htot := hok.2
  cases hu : unsB b with
  | true =>
    have e : formP b = (zeroF, ⟨8, -1⟩) := by unfold formP; rw [if_neg (by simp [h1]), if_pos hu]
    refine Wcall_K (N := 69) hm hT 12000 (lst []) ok12 Tryd.func12 rfl rfl (by simp) (by kernel_rfl) ?_
    repeat' (first | refine ReqK.i hok fun _ => ?_ | refine ReqK.i (by omega) fun _ => ?_ | refine ReqK.i (by unfold maxL; omega) fun _ => ?_ | refine ReqK.i rfl fun _ => ?_ | refine ReqK.i ⟨rfl, rfl⟩ fun _ => ?_ | refine ReqK.i ⟨rfl, rfl, rfl⟩ fun _ => ?_ | refine ReqK.i ⟨rfl, rfl, rfl, trivial⟩ fun _ => ?_ | refine ReqK.i ⟨rfl, rfl, rfl, rfl, trivial⟩ fun _ => ?_ | refine ReqK.i trivial fun _ => ?_ | simp only [go_sem, hgx, hgk, GA, zk, form_eta, str_eta, box_eta, hmz, e, hu, Tryd.f12, J8, J7, J6, J5, J4, J3, J2, J1, R28, R27, R22, R21, R20, R19, R18, R17, R16, R15, R14, R13, R12, R11, R10, R9, R8, R7, R6, R5, R4, R3, R2, R1, Q20, Q19, Q18, Q17, Q16, Q15, Q14, Q13, Q12, Q11, Q10, Q9, Q8, Q7, Q6, Q5, Q4, Q3, Q2, Q1, Tbl0, Q23, Q22, Q21])
    all_goals trace_state
  | false =>
    have e : formP b = (doneF (sayM b), doneE (sayM b)) := by unfold formP; rw [if_neg (by simp [h1]), if_neg (by simp [hu])]
    obtain ⟨w, hw⟩ : ∃ w, sayM b = w := ⟨_, rfl⟩
    rw [hw] at e hsm
    have hz : szPre w := ⟨hsm.fit, by have := hsm.size; omega⟩
    have r := doneR_eq hsm.clean
    obtain ⟨x, hx⟩ : ∃ x, doneF w = x := ⟨_, rfl⟩
    obtain ⟨y, hy⟩ : ∃ y, doneE w = y := ⟨_, rfl⟩
    rw [hx] at r e
    rw [hy] at e
    refine Wcall_K (N := 69) hm hT 12000 (lst []) ok12 Tryd.func12 rfl rfl (by simp) (by kernel_rfl) ?_
    repeat' (first | refine ReqK.i hok fun _ => ?_ | refine ReqK.i hz fun _ => ?_ | refine ReqK.i (by omega) fun _ => ?_ | refine ReqK.i (by unfold maxL; omega) fun _ => ?_ | refine ReqK.i rfl fun _ => ?_ | refine ReqK.i ⟨rfl, rfl⟩ fun _ => ?_ | refine ReqK.i ⟨rfl, rfl, rfl⟩ fun _ => ?_ | refine ReqK.i ⟨rfl, rfl, rfl, trivial⟩ fun _ => ?_ | refine ReqK.i ⟨rfl, rfl, rfl, rfl, trivial⟩ fun _ => ?_ | refine ReqK.i trivial fun _ => ?_ | simp only [go_sem, hgx, hgk, GA, zk, form_eta, str_eta, box_eta, hmz, e, hu, hw, r, hy, Tryd.f12, J8, J7, J6, J5, J4, J3, J2, J1, R28, R27, R22, R21, R20, R19, R18, R17, R16, R15, R14, R13, R12, R11, R10, R9, R8, R7, R6, R5, R4, R3, R2, R1, Q20, Q19, Q18, Q17, Q16, Q15, Q14, Q13, Q12, Q11, Q10, Q9, Q8, Q7, Q6, Q5, Q4, Q3, Q2, Q1, Tbl0, Q23, Q22, Q21])
    all_goals trace_state
end Go.Proofs.YtoicheicnbjfeaaDoor
