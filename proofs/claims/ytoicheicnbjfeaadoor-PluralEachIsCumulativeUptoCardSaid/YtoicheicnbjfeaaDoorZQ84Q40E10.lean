/- several texts of this proof in one; no conditions -/
import Derived.Test.YtoicheicnbjfeaaDoorAT
import Derived.Test.YtoicheicnbjfeaaDoorZQ72Q706
import Derived.Test.YtoicheicnbjfeaaDoorVS
import Derived.Test.YtoicheicnbjfeaaDoorQ31
import Derived.Test.YtoicheicnbjfeaaDoorAbs45
import Derived.Test.YtoicheicnbjfeaaDoorLW
set_option linter.unusedSimpArgs false
namespace Go.Abs
open Go
theorem below_succ2 {p : Nat → Prop} {i : Nat} (h : ∀ j, j < i → p j) (hi : p i) : ∀ j, j < i + 1 → p j := fun j h2 => by
  rcases Nat.lt_or_ge j i with h3 | h3
  · exact h j h3
  · obtain rfl : j = i := by omega
    exact hi
theorem hasRs_none {m : Model} {l : List Form} (h : ∀ j (hj : j < l.length), hasR m l[j] = true) : hasRs m l = true := by rw [hasRs_all]; exact all_holds h
theorem hasRs_bad {m : Model} {l : List Form} {j : Nat} (hj : j < l.length) (h : hasR m l[j] = false) : hasRs m l = false := by rw [hasRs_all]; exact all_falls hj h
end Go.Abs
namespace Go.Proofs.YtoicheicnbjfeaaDoor
open Go Go.Abs Go.Proofs
section
variable {G : Nat → List FD}
/-! ## truth.Fault -/
theorem relP_snd {m : Model} {w : Str} {n : Int} : (relP m w n).2 = (findR m w n).isSome := by
  unfold relP
  cases findR m w n <;> rfl
set_option maxRecDepth 100000 in
set_option maxHeartbeats 1000000 in
set_option maxHeartbeats 8000000 in
theorem f185 {m : Model} (hok : okR m.rels) : ∀ (s : Nat) (f : Abs.Form), f.size ≤ s → szP f → ∀ (H : Heap) (n : Nat) (R : D → Heap → Nat → Prop), 3 < n →
    H (129002, 0) = some ⟨[.fz (.i .i64 m.size), .fz (.sl (m.consts.map enc)), .fz (.sl (m.rels.map enc))], true, false⟩ → H (129009, 3) = some ⟨[.fn 185 [.ptr (129002, 0) 0, .ptr (129009, 3) 0]], true, false⟩ → (∀ n', n ≤ n' → R (.fz (.b (hasR m f))) H n') →
    Wcall Tryd.prog G 185 [.fz (enc f), .ptr (129002, 0) 0, .ptr (129009, 3) 0] H n R := by
  intro s
  induction s with
  | zero => intro f hs; have := f.size_pos; omega
  | succ s ih =>
    intro f hs hsz H n R hn ho1 ho2 hR
    have hsb : ∀ g ∈ f.subs, g.size ≤ s ∧ szP g := fun g hg => by have := szP_sub hsz hg; exact ⟨by omega, this.2⟩
    have hsl := (Form.fit_eq hsz.1).2.1
    have hwl := (Form.fit_eq hsz.1).1
    refine Wcall_keep ok185 (fun hfr => ?_) hR
    clear hR
    obtain ⟨Q, hQ⟩ : ∃ Q : D → Heap → Nat → Prop, Q = (fun d' H' n' => d' = .fz (.b (hasR m f)) ∧ n ≤ n' ∧ ∀ id, id.2 < n → H' id = H id) := ⟨_, rfl⟩
    rw [← hQ]
    have hX : ∀ id o, H id = some o → id.2 < n := fun id o h => by
      rcases Nat.lt_or_ge id.2 n with h1 | h1
      · exact h1
      · rw [hfr id h1] at h; cases h
    have hX' : ∀ {l : List (Abs.Id × Option O)} (id o), H id = some o → (id.2 < n → apartL id l) → hpX l H id = some o := fun id o h1 h2 => (hpX_pass (h2 (hX id o h1))).trans h1
    have hfin : ∀ {b : Bool} {l : List (Abs.Id × Option O)} {n' : Nat}, hasR m f = b → n ≤ n' → (∀ p ∈ l, n ≤ p.1.2) → Q (.fz (.b b)) (hpX l H) n' := fun {b l n'} h1 h2 h3 => by
      rw [hQ]; exact ⟨by rw [h1], h2, hpX_old h3⟩
    have hR := hasR_eq (m := m) (f := f)
    have kf := Kp.mk @hfin
    have kx := Kp.mk @hX'
    have kz := Kp.mk hsb
    have kI := Kp.mk ih
    clear hfin hX hX' hQ hsb ih hfr
    rw [show H = hpX [] H from rfl]
    by_cases hb : f.kind = 2 ∧ (findR m f.name f.words.length).isSome = false
    · have e : hasR m f = false := by rw [hR, decide_eq_true hb.1, hb.2]; rfl
      have c1 := hb.1
      have e2 : (relP m f.name f.words.length).2 = false := by rw [relP_snd]; exact hb.2
      obtain ⟨r, b, hrb⟩ : ∃ r b, relP m f.name f.words.length = (r, b) := ⟨_, _, rfl⟩
      rw [hrb] at e2
      simp only at e2
      subst e2
      refine Wcall_K (N := 36) hm (G := G) hA19 185000 (lst []) ok185 Tryd.func185 rfl rfl (by simp) (by kernel_rfl) ?_
      repeat' (first | refine ReqK.i hok fun _ => ?_ | refine ReqK.i (by omega) fun _ => ?_ | refine ReqK.i (by unfold maxL; omega) fun _ => ?_ | simp only [go_sem, ho1, ho2, c1, hrb, model_eta, str_eta, Tryd.f185, A19, A18, A17, A16, A15, A14, A13, A12, A11, A10, A9, A8, A7, A6, A5, A4, A3, A2, A1, Q20, Q19, Q18, Q17, Q16, Q15, Q14, Q13, Q12, Q11, Q10, Q9, Q8, Q7, Q6, Q5, Q4, Q3, Q2, Q1, Tbl0])
      exact kf.out e (by omega) (by intro p hp; simp at hp; rcases hp with rfl | rfl | rfl | rfl <;> simp only <;> omega)
    have hR2 : hasR m f = hasRs m f.subs := by
      rw [hR]
      by_cases h2 : f.kind = 2
      · have h3 : (findR m f.name f.words.length).isSome = true := by
          cases h4 : (findR m f.name f.words.length).isSome with
          | true => rfl
          | false => exact absurd ⟨h2, h4⟩ hb
        rw [h3]; simp
      · simp [h2]
    have hk : f.kind = 2 ∨ ¬ f.kind = 2 := by omega
    refine Wcall_K (N := 36) hm (G := G) hA19 185000 (lst []) ok185 Tryd.func185 rfl rfl (by simp) (by kernel_rfl) ?_
    rcases hk with hk | hk
    case' inl =>
      have e2 : (relP m f.name f.words.length).2 = true := by
        rw [relP_snd]
        cases h4 : (findR m f.name f.words.length).isSome with
        | true => rfl
        | false => exact absurd ⟨hk, h4⟩ hb
      obtain ⟨r, b, hrb⟩ : ∃ r b, relP m f.name f.words.length = (r, b) := ⟨_, _, rfl⟩
      rw [hrb] at e2
      simp only at e2
      subst e2
      repeat' (first | refine ReqK.i hok fun _ => ?_ | refine ReqK.i (by omega) fun _ => ?_ | refine ReqK.i (by unfold maxL; omega) fun _ => ?_ | simp only [go_sem, ho1, ho2, hk, hrb, model_eta, str_eta, Tryd.f185, A19, A18, A17, A16, A15, A14, A13, A12, A11, A10, A9, A8, A7, A6, A5, A4, A3, A2, A1, Q20, Q19, Q18, Q17, Q16, Q15, Q14, Q13, Q12, Q11, Q10, Q9, Q8, Q7, Q6, Q5, Q4, Q3, Q2, Q1, Tbl0])
    case' inr =>
      have hk' : (f.kind = 2) = False := eq_false hk
      repeat' (first | refine ReqK.i (by omega) fun _ => ?_ | refine ReqK.i (by unfold maxL; omega) fun _ => ?_ | simp only [go_sem, ho1, ho2, hk', model_eta, str_eta, Tryd.f185, A19, A18, A17, A16, A15, A14, A13, A12, A11, A10, A9, A8, A7, A6, A5, A4, A3, A2, A1, Q20, Q19, Q18, Q17, Q16, Q15, Q14, Q13, Q12, Q11, Q10, Q9, Q8, Q7, Q6, Q5, Q4, Q3, Q2, Q1, Tbl0])
    all_goals
      refine WK_loop hm (G := G) hA19 185000 (lst []) (ι := LoopM f.subs.length n fun i => ∀ j (h : j < f.subs.length), j < i → hasR m f.subs[j] = true)
        ⟨fun q => ⟨frL [(1, .ptr (129002, 0) 0), (2, .ptr (129009, 3) 0), (25, .fz (.sl (f.subs.map enc))), (26, .fz (.i .i64 f.subs.length)), (27, .fz (.i .i64 q.i))], hpX [] H, q.m⟩, fun q => f.subs.length - q.i⟩
        ⟨0, n + 9, by omega, by omega, fun j h h2 => by omega⟩ (by kernel_rfl) ?_ ?_
      · refine Weak_toX ?_ ?_ (fun id o ho => ?_) ?_
        · simp only [go_sem]
        · simp only [go_sem]
        · refine kx.out id o ho fun h1 => ?_
          ((repeat' (first | exact trivial | apply And.intro)) <;> (rintro rfl; simp only at h1; omega))
        · simp only [go_sem]; omega
      rintro ⟨i, q, hi, hq, hp⟩
      try simp only at hi hq
      rcases Nat.lt_or_ge i f.subs.length with h1 | h1
      · have hz := kz.out _ (List.getElem_mem h1)
        have hbad := hasRs_bad (m := m) h1
        obtain ⟨x, hx⟩ : ∃ x, f.subs[i] = x := ⟨_, rfl⟩
        rw [hx] at hz hbad
        have hgood : hasR m x = true → ∀ j (h : j < f.subs.length), j < i + 1 → hasR m f.subs[j] = true := fun h j hj h2 => by
          rcases Nat.lt_or_ge j i with h3 | h3
          · exact hp j hj h3
          · obtain rfl : j = i := by omega
            rw [hx]; exact h
        have kb := Kp.mk hbad
        have kg := Kp.mk hgood
        clear hbad hgood
        have ihx := kI.out x hz.1 hz.2
        rw [enc_form (f := x)] at ihx
        have kih := Kp.mk ihx
        clear ihx
        cases hv : hasR m x with
        | false =>
          repeat' (first | refine ReqK.i (by omega) fun _ => ?_ | refine ReqK.i (by unfold maxL; omega) fun _ => ?_ | simp only [go_sem, h1, hx, ho1, ho2, getD_map_lt, Tryd.f185, A19, A18, A17, A16, A15, A14, A13, A12, A11, A10, A9, A8, A7, A6, A5, A4, A3, A2, A1, Q20, Q19, Q18, Q17, Q16, Q15, Q14, Q13, Q12, Q11, Q10, Q9, Q8, Q7, Q6, Q5, Q4, Q3, Q2, Q1, Tbl0])
          refine WcallK.i (Wcall_hd rfl (kih.out _ _ _ (by omega) (by simp only [go_sem, ho1]) (by simp only [go_sem, ho2]) fun n' hn' => ?_))
          repeat' (first | refine ReqK.i (by omega) fun _ => ?_ | refine ReqK.i (by unfold maxL; omega) fun _ => ?_ | simp only [go_sem, hv, ho1, ho2, Tryd.f185, A19, A18, A17, A16, A15, A14, A13, A12, A11, A10, A9, A8, A7, A6, A5, A4, A3, A2, A1, Q20, Q19, Q18, Q17, Q16, Q15, Q14, Q13, Q12, Q11, Q10, Q9, Q8, Q7, Q6, Q5, Q4, Q3, Q2, Q1, Tbl0])
          exact kf.out (hR2.trans (kb.out hv)) (by omega) (by intro p hp; simp at hp; rcases hp with rfl | rfl <;> simp only <;> omega)
        | true =>
          repeat' (first | refine ReqK.i (by omega) fun _ => ?_ | refine ReqK.i (by unfold maxL; omega) fun _ => ?_ | simp only [go_sem, h1, hx, ho1, ho2, getD_map_lt, Tryd.f185, A19, A18, A17, A16, A15, A14, A13, A12, A11, A10, A9, A8, A7, A6, A5, A4, A3, A2, A1, Q20, Q19, Q18, Q17, Q16, Q15, Q14, Q13, Q12, Q11, Q10, Q9, Q8, Q7, Q6, Q5, Q4, Q3, Q2, Q1, Tbl0])
          refine WcallK.i (Wcall_hd rfl (kih.out _ _ _ (by omega) (by simp only [go_sem, ho1]) (by simp only [go_sem, ho2]) fun n' hn' => ?_))
          repeat' (first | refine ReqK.i (by omega) fun _ => ?_ | refine ReqK.i (by unfold maxL; omega) fun _ => ?_ | simp only [go_sem, hv, ho1, ho2, Tryd.f185, A19, A18, A17, A16, A15, A14, A13, A12, A11, A10, A9, A8, A7, A6, A5, A4, A3, A2, A1, Q20, Q19, Q18, Q17, Q16, Q15, Q14, Q13, Q12, Q11, Q10, Q9, Q8, Q7, Q6, Q5, Q4, Q3, Q2, Q1, Tbl0])
          refine ⟨⟨i + 1, n' + 1, by omega, by omega, kg.out hv⟩, by simp only; omega, ?_⟩
          refine Weak_toX ?_ ?_ (fun id o ho => ?_) ?_
          · simp only [go_sem]
          · simp only [go_sem]
          · refine kx.out id o ho fun h1 => ?_
            ((repeat' (first | exact trivial | apply And.intro)) <;> (rintro rfl; simp only at h1; omega))
          · simp only [go_sem]; omega
      obtain rfl : i = f.subs.length := by omega
      repeat' (first | refine ReqK.i (by omega) fun _ => ?_ | refine ReqK.i (by unfold maxL; omega) fun _ => ?_ | simp only [go_sem, Nat.lt_irrefl, Tryd.f185, A19, A18, A17, A16, A15, A14, A13, A12, A11, A10, A9, A8, A7, A6, A5, A4, A3, A2, A1, Q20, Q19, Q18, Q17, Q16, Q15, Q14, Q13, Q12, Q11, Q10, Q9, Q8, Q7, Q6, Q5, Q4, Q3, Q2, Q1, Tbl0])
      exact kf.out (hR2.trans (hasRs_none fun j h => hp j h h)) (by omega) (by intro p hp; simp at hp)
theorem constP_snd {m : Model} {w : Str} : (constP m w).2 = (findC m w).isSome := by
  unfold constP
  cases findC m w <;> rfl
theorem used_all {m : Model} {f : Abs.Form} (h : ∀ j (hj : j < (usedM f).length), (findC m (usedM f)[j]).isSome = true) : (cst f []).all (fun c => (findC m c).isSome) = true := by
  rw [List.all_eq_true]
  intro c hc
  obtain ⟨j, hj, rfl⟩ := List.getElem_of_mem ((mem_usedM f c).2 hc)
  exact h j hj
theorem used_bad {m : Model} {f : Abs.Form} {j : Nat} (hj : j < (usedM f).length) (h : (findC m (usedM f)[j]).isSome = false) : (cst f []).all (fun c => (findC m c).isSome) = false :=  by
  cases ha : (cst f []).all (fun c => (findC m c).isSome) with
  | false => rfl
  | true => rw [List.all_eq_true.1 ha _ ((mem_usedM f _).1 (List.getElem_mem hj))] at h; cases h
def flP (m : Model) (f : Abs.Form) : Prop := okC m.consts ∧ okR m.rels ∧ szP f ∧ (cst f []).length ≤ 1000000
def A20 : Tbl := A19.add 129 (sp2 truthE flP)
set_option maxRecDepth 100000 in
set_option maxHeartbeats 1000000 in
set_option maxHeartbeats 8000000 in
theorem hA20 : TblOk Tryd.prog G A20 := by
  refine sp2_ok ok129 hA19 fun m f hpre _ _ => ?_
  obtain ⟨hoc, hor, hsz, hcl⟩ := hpre
  have hul := usedM_len f
  have hsp : (cst f []).length ≤ 1000000 ∧ f.size ≤ 1000000 := ⟨hcl, hsz.2⟩
  by_cases h1 : 5 < nestM f
  · have e : truthE m f = ⟨17, -2⟩ := by unfold truthE; rw [if_pos h1]
    have h1' : (5 < (nestM f : Int)) = True := eq_true (by omega)
    rw [e]
    refine Wcall_K (N := 38) hm (G := G) hA19 129000 (lst []) ok129 Tryd.func129 rfl rfl (by simp) (by kernel_rfl) ?_
    repeat' (first | refine ReqK.i hsz fun _ => ?_ | refine ReqK.i (by omega) fun _ => ?_ | refine ReqK.i (by unfold maxL; omega) fun _ => ?_ | simp only [go_sem, h1', model_eta, form_eta, Tryd.f129, A19, A18, A17, A16, A15, A14, A13, A12, A11, A10, A9, A8, A7, A6, A5, A4, A3, A2, A1, Q20, Q19, Q18, Q17, Q16, Q15, Q14, Q13, Q12, Q11, Q10, Q9, Q8, Q7, Q6, Q5, Q4, Q3, Q2, Q1, Tbl0])
  have h1' : (5 < (nestM f : Int)) = False := eq_false (by omega)
  have hlb : ∀ b, lacksM m f = b → truthE m f = if b = true then ⟨6, -2⟩ else ⟨0, 0⟩ := fun b h => by unfold truthE; rw [if_neg h1, h]
  obtain ⟨U, hU⟩ : ∃ U, usedM f = U := ⟨_, rfl⟩
  have hbad : ∀ j (h : j < U.length), (findC m U[j]).isSome = false → truthE m f = ⟨6, -2⟩ := fun j h h2 => by
    subst hU
    rw [hlb true (by unfold lacksM; rw [used_bad h h2]; rfl), if_pos rfl]
  have hend : (∀ j (h : j < U.length), (findC m U[j]).isSome = true) → truthE m f = if hasR m f = false then ⟨6, -2⟩ else ⟨0, 0⟩ := fun h => by
    subst hU
    rw [hlb (!hasR m f) (by unfold lacksM; rw [used_all h]; rfl)]
    cases hasR m f <;> rfl
  rw [hU] at hul
  have kb := Kp.mk hbad
  have ke := Kp.mk hend
  have h185 := f185 (G := G) (m := m) hor f.size f (Nat.le_refl _) hsz
  rw [enc_form (f := f)] at h185
  have k185 := Kp.mk h185
  clear hbad hend hlb h185
  refine Wcall_K (N := 38) hm (G := G) hA19 129000 (lst []) ok129 Tryd.func129 rfl rfl (by simp) (by kernel_rfl) ?_
  repeat' (first | refine ReqK.i hsz fun _ => ?_ | refine ReqK.i hsp fun _ => ?_ | refine ReqK.i (by omega) fun _ => ?_ | refine ReqK.i (by unfold maxL; omega) fun _ => ?_ | simp only [go_sem, h1', hU, model_eta, form_eta, Tryd.f129, A19, A18, A17, A16, A15, A14, A13, A12, A11, A10, A9, A8, A7, A6, A5, A4, A3, A2, A1, Q20, Q19, Q18, Q17, Q16, Q15, Q14, Q13, Q12, Q11, Q10, Q9, Q8, Q7, Q6, Q5, Q4, Q3, Q2, Q1, Tbl0])
  refine WK_loop hm (G := G) hA19 129000 (lst []) (ι := LoopI U.length fun i => ∀ j (h : j < U.length), j < i → (findC m U[j]).isSome = true)
    ⟨fun q => ⟨frL [(2, .ptr (129002, 0) 0), (3, .ptr (129003, 1) 0), (4, .ptr (129004, 2) 0), (15, .fz (.sl (U.map enc))), (16, .fz (.i .i64 U.length)), (17, .fz (.i .i64 q.i))],
      hpL [((129002, 0), some ⟨[.fz (.i .i64 m.size), .fz (.sl (m.consts.map enc)), .fz (.sl (m.rels.map enc))], true, false⟩), ((129003, 1), some ⟨[.fz (.i .i64 f.kind), .fz (.s f.name.l), .fz (.sl (f.words.map enc)), .fz (.sl (f.subs.map enc))], true, false⟩), ((129004, 2), some ⟨[.fz (.i .i64 0), .fz (.i .i64 0)], true, false⟩)], 3⟩, fun q => U.length - q.i⟩
    ⟨0, by omega, fun j h h2 => by omega⟩ (by kernel_rfl) ?_ ?_
  · refine Weak_to ?_ ?_ ?_ <;> simp only [go_sem]
  rintro ⟨i, hi, hp⟩
  try simp only at hi hp
  rcases Nat.lt_or_ge i U.length with h2 | h2
  · have hb := kb.out i h2
    have hg := fun h => below_succ2 (p := fun j => ∀ h : j < U.length, (findC m U[j]).isSome = true) (i := i) (fun j h1 h3 => hp j h3 h1) h
    obtain ⟨v, b, hvb⟩ : ∃ v b, constP m U[i] = (v, b) := ⟨_, _, rfl⟩
    have hs : b = (findC m U[i]).isSome := by rw [← constP_snd, hvb]
    cases hbb : b with
    | false =>
      rw [hbb] at hs hvb
      rw [hb hs.symm]
      repeat' (first | refine ReqK.i hoc fun _ => ?_ | refine ReqK.i (by omega) fun _ => ?_ | refine ReqK.i (by unfold maxL; omega) fun _ => ?_ | simp only [go_sem, h2, hvb, model_eta, str_eta, getD_map_lt, Tryd.f129, A19, A18, A17, A16, A15, A14, A13, A12, A11, A10, A9, A8, A7, A6, A5, A4, A3, A2, A1, Q20, Q19, Q18, Q17, Q16, Q15, Q14, Q13, Q12, Q11, Q10, Q9, Q8, Q7, Q6, Q5, Q4, Q3, Q2, Q1, Tbl0])
    | true =>
      rw [hbb] at hs hvb
      have kg := Kp.mk (hg fun _ => hs.symm)
      repeat' (first | refine ReqK.i hoc fun _ => ?_ | refine ReqK.i (by omega) fun _ => ?_ | refine ReqK.i (by unfold maxL; omega) fun _ => ?_ | simp only [go_sem, h2, hvb, model_eta, str_eta, getD_map_lt, Tryd.f129, A19, A18, A17, A16, A15, A14, A13, A12, A11, A10, A9, A8, A7, A6, A5, A4, A3, A2, A1, Q20, Q19, Q18, Q17, Q16, Q15, Q14, Q13, Q12, Q11, Q10, Q9, Q8, Q7, Q6, Q5, Q4, Q3, Q2, Q1, Tbl0])
      refine ⟨⟨i + 1, by omega, fun j h h3 => kg.out j h3 h⟩, by simp only; omega, ?_⟩
      refine Weak_to ?_ ?_ ?_ <;> simp only [go_sem]
  obtain rfl : i = U.length := by omega
  rw [ke.out fun j h => hp j h h]
  repeat' (first | refine ReqK.i (by omega) fun _ => ?_ | refine ReqK.i (by unfold maxL; omega) fun _ => ?_ | simp only [go_sem, Nat.lt_irrefl, model_eta, Tryd.f129, A19, A18, A17, A16, A15, A14, A13, A12, A11, A10, A9, A8, A7, A6, A5, A4, A3, A2, A1, Q20, Q19, Q18, Q17, Q16, Q15, Q14, Q13, Q12, Q11, Q10, Q9, Q8, Q7, Q6, Q5, Q4, Q3, Q2, Q1, Tbl0])
  refine WcallK.i (Wcall_hd rfl (k185.out _ _ _ (by omega) (by simp only [go_sem]) (by simp only [go_sem]) fun n' hn' => ?_))
  cases hasR m f
  · repeat' (first | refine ReqK.i (by omega) fun _ => ?_ | refine ReqK.i (by unfold maxL; omega) fun _ => ?_ | simp only [go_sem, Bool.false_eq_true, Tryd.f129, A19, A18, A17, A16, A15, A14, A13, A12, A11, A10, A9, A8, A7, A6, A5, A4, A3, A2, A1, Q20, Q19, Q18, Q17, Q16, Q15, Q14, Q13, Q12, Q11, Q10, Q9, Q8, Q7, Q6, Q5, Q4, Q3, Q2, Q1, Tbl0])
  · repeat' (first | refine ReqK.i (by omega) fun _ => ?_ | refine ReqK.i (by unfold maxL; omega) fun _ => ?_ | simp only [go_sem, Bool.false_eq_true, Tryd.f129, A19, A18, A17, A16, A15, A14, A13, A12, A11, A10, A9, A8, A7, A6, A5, A4, A3, A2, A1, Q20, Q19, Q18, Q17, Q16, Q15, Q14, Q13, Q12, Q11, Q10, Q9, Q8, Q7, Q6, Q5, Q4, Q3, Q2, Q1, Tbl0])
end
end Go.Proofs.YtoicheicnbjfeaaDoor

namespace Go.Abs
open Go
/-- what stands ahead of a place of a row -/
def pvA {α : Type} (l : List α) : Nat → Option α
  | 0 => none
  | i + 1 => l[i]?
theorem pvA_succ {α : Type} {l : List α} {i : Nat} (h : i < l.length) : pvA l (i + 1) = some l[i] := List.getElem?_eq_getElem h
def ccM (m : Model) (i : Nat) : Fault := restC m.size (pvA m.consts i) (m.consts.drop i) i
def rrM (m : Model) (i : Nat) : Fault := restR m.size (pvA m.rels i) (m.rels.drop i) i
def ttM (size arity : Int) (l : List (List Int)) (k : Nat) : Int := restT size arity (pvA l k) (l.drop k)
theorem ccM_step {m : Model} {i : Nat} (h : i < m.consts.length) : ccM m i = if constC m.size (pvA m.consts i) m.consts[i] ≠ 0 then ⟨constC m.size (pvA m.consts i) m.consts[i], i⟩ else ccM m (i + 1) := by
  unfold ccM
  rw [List.drop_eq_getElem_cons h, restC, pvA_succ h]
theorem rrM_step {m : Model} {i : Nat} (h : i < m.rels.length) : rrM m i = if relC m.size (pvA m.rels i) m.rels[i] ≠ 0 then ⟨relC m.size (pvA m.rels i) m.rels[i], i⟩ else rrM m (i + 1) := by
  unfold rrM
  rw [List.drop_eq_getElem_cons h, restR, pvA_succ h]
theorem ttM_step {size arity : Int} {l : List (List Int)} {k : Nat} (h : k < l.length) : ttM size arity l k = if tupC size arity (pvA l k) l[k] ≠ 0 then tupC size arity (pvA l k) l[k] else ttM size arity l (k + 1) := by
  unfold ttM
  rw [List.drop_eq_getElem_cons h, restT, pvA_succ h]
theorem ccM_end (m : Model) : ccM m m.consts.length = ⟨0, 0⟩ := by unfold ccM; rw [List.drop_length, restC]
theorem rrM_end (m : Model) : rrM m m.rels.length = ⟨0, 0⟩ := by unfold rrM; rw [List.drop_length, restR]
theorem ttM_end (size arity : Int) (l : List (List Int)) : ttM size arity l l.length = 0 := by unfold ttM; rw [List.drop_length, restT]
theorem modelM_cc {m : Model} (h1 : ¬ (m.size < 1 ∨ 6 < m.size)) (h2 : ¬ (300 < m.consts.length ∨ 300 < m.rels.length)) : ((ccM m 0).code ≠ 0 → modelM m = ccM m 0) ∧ ((ccM m 0).code = 0 → modelM m = rrM m 0) := by
  unfold modelM
  rw [if_neg h1, if_neg h2]
  exact ⟨fun h => if_pos h, fun h => if_neg fun h2 => h2 h⟩
def badV (size v : Int) : Bool := decide (v < 0 ∨ size ≤ v)
end Go.Abs
namespace Go.Proofs.YtoicheicnbjfeaaDoor
open Go Go.Abs Go.Proofs
section
variable {G : Nat → List FD}
/-! ## truth.Validate -/

set_option maxRecDepth 100000 in
set_option maxHeartbeats 1000000 in
theorem f170 {c a : Int} {id : Abs.Id} {H : Heap} {n : Nat} {R : D → Heap → Nat → Prop} (hid : id.2 < n) (ho : H id = some ⟨[.fz (.i .i64 a)], true, false⟩) (hR : ∀ n', n ≤ n' → R (.agg [.fz (.i .i64 c), .fz (.i .i64 a)]) H n') :
    Wcall Tryd.prog G 170 [.fz (.i .i64 c), .ptr id 0] H n R := by
  refine Wcall_keep ok170 (fun hfr => ?_) hR
  have hne : id ≠ (170003, n) := by rintro rfl; simp at hid
  obtain ⟨Q, hQ⟩ : ∃ Q : D → Heap → Nat → Prop, Q = (fun d' H' n' => d' = .agg [.fz (.i .i64 c), .fz (.i .i64 a)] ∧ n ≤ n' ∧ ∀ id, id.2 < n → H' id = H id) := ⟨_, rfl⟩
  rw [← hQ]
  have e : H = hpX [] H := rfl
  rw [e]
  refine Wcall_K (N := 7) hm (G := G) hA20 170000 (lst []) ok170 Tryd.func170 rfl rfl (by simp) (by kernel_rfl) ?_
  simp only [go_sem]
  rw [if_neg hne, ho]
  simp only [go_sem, Tryd.f170]
  rw [hQ]
  refine ⟨?_, by omega, fun id hid => hpX_old (n := n) (by intro p hp; simp at hp; rcases hp with rfl | rfl <;> simp) id hid⟩
  simp only [go_sem]

set_option maxRecDepth 100000 in
set_option maxHeartbeats 1000000 in
theorem f171 {c a : Int} {id : Abs.Id} {H : Heap} {n : Nat} {R : D → Heap → Nat → Prop} (hid : id.2 < n) (ho : H id = some ⟨[.fz (.i .i64 a)], true, false⟩) (hR : ∀ n', n ≤ n' → R (.agg [.fz (.i .i64 c), .fz (.i .i64 a)]) H n') :
    Wcall Tryd.prog G 171 [.fz (.i .i64 c), .ptr id 0] H n R := by
  refine Wcall_keep ok171 (fun hfr => ?_) hR
  have hne : id ≠ (171003, n) := by rintro rfl; simp at hid
  obtain ⟨Q, hQ⟩ : ∃ Q : D → Heap → Nat → Prop, Q = (fun d' H' n' => d' = .agg [.fz (.i .i64 c), .fz (.i .i64 a)] ∧ n ≤ n' ∧ ∀ id, id.2 < n → H' id = H id) := ⟨_, rfl⟩
  rw [← hQ]
  have e : H = hpX [] H := rfl
  rw [e]
  refine Wcall_K (N := 7) hm (G := G) hA20 171000 (lst []) ok171 Tryd.func171 rfl rfl (by simp) (by kernel_rfl) ?_
  simp only [go_sem]
  rw [if_neg hne, ho]
  simp only [go_sem, Tryd.f171]
  rw [hQ]
  refine ⟨?_, by omega, fun id hid => hpX_old (n := n) (by intro p hp; simp at hp; rcases hp with rfl | rfl <;> simp) id hid⟩
  simp only [go_sem]
def A21 : Tbl := A20.add 93 (sp1 modelM fun _ => True)
set_option maxRecDepth 100000 in
set_option maxHeartbeats 1000000 in
set_option maxHeartbeats 20000000 in
theorem hA21 : TblOk Tryd.prog G A21 := by
  refine sp1_ok ok93 hA20 fun m _ hw => ?_
  have hcl := Wf_sl (Wf_agg (by have h := hw; rw [enc_model] at h; exact h) (FD.sl (m.consts.map enc)) (by simp))
  have hrl := Wf_sl (Wf_agg (by have h := hw; rw [enc_model] at h; exact h) (FD.sl (m.rels.map enc)) (by simp))
  simp only [List.length_map, maxL] at hcl hrl
  have htl : ∀ i (h : i < m.rels.length), m.rels[i].tuples.length ≤ 281474976710656 ∧ ∀ k (h2 : k < m.rels[i].tuples.length), m.rels[i].tuples[k].length ≤ 281474976710656 := fun i h => by
    have h3 : (enc m.rels[i]).Wf := Wf_mem (Wf_agg (by have h := hw; rw [enc_model] at h; exact h) (FD.sl (m.rels.map enc)) (by simp)) _ (List.mem_map_of_mem (List.getElem_mem h))
    rw [enc_rel] at h3
    have h4 := Wf_agg h3 (FD.sl (m.rels[i].tuples.map enc)) (by simp)
    have h5 := Wf_sl h4
    simp only [List.length_map, maxL] at h5
    refine ⟨h5, fun k hk => ?_⟩
    have h6 : (enc m.rels[i].tuples[k]).Wf := Wf_mem h4 _ (List.mem_map_of_mem (List.getElem_mem hk))
    have h7 := Wf_sl h6
    simpa [maxL] using h7
  have ktl := Kp.mk htl
  clear htl hw
  by_cases c1 : m.size < 1
  · have e : modelM m = ⟨3, 0⟩ := by unfold modelM; rw [if_pos (.inl c1)]
    rw [e]
    refine Wcall_K (N := 167) hm (G := G) hA20 93000 (lst []) ok93 Tryd.func93 rfl rfl (by simp) (by kernel_rfl) ?_
    repeat' (first | refine ReqK.i (by omega) fun _ => ?_ | refine ReqK.i (by unfold maxL; omega) fun _ => ?_ | simp only [go_sem, c1, Tryd.f93, A20, A19, A18, A17, A16, A15, A14, A13, A12, A11, A10, A9, A8, A7, A6, A5, A4, A3, A2, A1, Q20, Q19, Q18, Q17, Q16, Q15, Q14, Q13, Q12, Q11, Q10, Q9, Q8, Q7, Q6, Q5, Q4, Q3, Q2, Q1, Tbl0])
  by_cases c2 : 6 < m.size
  · have e : modelM m = ⟨3, 0⟩ := by unfold modelM; rw [if_pos (.inr c2)]
    rw [e]
    refine Wcall_K (N := 167) hm (G := G) hA20 93000 (lst []) ok93 Tryd.func93 rfl rfl (by simp) (by kernel_rfl) ?_
    repeat' (first | refine ReqK.i (by omega) fun _ => ?_ | refine ReqK.i (by unfold maxL; omega) fun _ => ?_ | simp only [go_sem, c1, c2, Tryd.f93, A20, A19, A18, A17, A16, A15, A14, A13, A12, A11, A10, A9, A8, A7, A6, A5, A4, A3, A2, A1, Q20, Q19, Q18, Q17, Q16, Q15, Q14, Q13, Q12, Q11, Q10, Q9, Q8, Q7, Q6, Q5, Q4, Q3, Q2, Q1, Tbl0])
  by_cases c3 : 300 < m.consts.length
  · have e : modelM m = ⟨2, 0⟩ := by unfold modelM; rw [if_neg (by omega), if_pos (.inl c3)]
    have c3' : (300 < (m.consts.length : Int)) = True := eq_true (by omega)
    rw [e]
    refine Wcall_K (N := 167) hm (G := G) hA20 93000 (lst []) ok93 Tryd.func93 rfl rfl (by simp) (by kernel_rfl) ?_
    repeat' (first | refine ReqK.i (by omega) fun _ => ?_ | refine ReqK.i (by unfold maxL; omega) fun _ => ?_ | simp only [go_sem, c1, c2, c3', Tryd.f93, A20, A19, A18, A17, A16, A15, A14, A13, A12, A11, A10, A9, A8, A7, A6, A5, A4, A3, A2, A1, Q20, Q19, Q18, Q17, Q16, Q15, Q14, Q13, Q12, Q11, Q10, Q9, Q8, Q7, Q6, Q5, Q4, Q3, Q2, Q1, Tbl0])
  have c3' : (300 < (m.consts.length : Int)) = False := eq_false (by omega)
  by_cases c4 : 300 < m.rels.length
  · have e : modelM m = ⟨2, 0⟩ := by unfold modelM; rw [if_neg (by omega), if_pos (.inr c4)]
    have c4' : (300 < (m.rels.length : Int)) = True := eq_true (by omega)
    rw [e]
    refine Wcall_K (N := 167) hm (G := G) hA20 93000 (lst []) ok93 Tryd.func93 rfl rfl (by simp) (by kernel_rfl) ?_
    repeat' (first | refine ReqK.i (by omega) fun _ => ?_ | refine ReqK.i (by unfold maxL; omega) fun _ => ?_ | simp only [go_sem, c1, c2, c3', c4', Tryd.f93, A20, A19, A18, A17, A16, A15, A14, A13, A12, A11, A10, A9, A8, A7, A6, A5, A4, A3, A2, A1, Q20, Q19, Q18, Q17, Q16, Q15, Q14, Q13, Q12, Q11, Q10, Q9, Q8, Q7, Q6, Q5, Q4, Q3, Q2, Q1, Tbl0])
  have c4' : (300 < (m.rels.length : Int)) = False := eq_false (by omega)
  obtain ⟨hX1, hX2⟩ := modelM_cc (m := m) (by omega) (by omega)
  obtain ⟨X, hX⟩ : ∃ X, modelM m = X := ⟨_, rfl⟩
  rw [hX] at hX1 hX2 ⊢
  have kX1 := Kp.mk hX1
  have kX2 := Kp.mk hX2
  clear hX1 hX2 hX
  refine Wcall_K (N := 167) hm (G := G) hA20 93000 (lst []) ok93 Tryd.func93 rfl rfl (by simp) (by kernel_rfl) ?_
  repeat' (first | refine ReqK.i (by omega) fun _ => ?_ | refine ReqK.i (by unfold maxL; omega) fun _ => ?_ | simp only [go_sem, c1, c2, c3', c4', Tryd.f93, A20, A19, A18, A17, A16, A15, A14, A13, A12, A11, A10, A9, A8, A7, A6, A5, A4, A3, A2, A1, Q20, Q19, Q18, Q17, Q16, Q15, Q14, Q13, Q12, Q11, Q10, Q9, Q8, Q7, Q6, Q5, Q4, Q3, Q2, Q1, Tbl0])
  refine WK_loop hm (G := G) hA20 93000 (lst []) (ι := LoopM m.consts.length 2 fun i => ccM m 0 = ccM m i)
    ⟨fun q => ⟨frL [(1, .ptr (93001, 0) 0), (2, .ptr (93002, 1) 0), (34, .fz (.sl (m.consts.map enc))), (35, .fz (.i .i64 m.consts.length)), (36, .fz (.i .i64 q.i))], hpL [((93001, 0), some ⟨[.fz (.i .i64 m.size), .fz (.sl (m.consts.map enc)), .fz (.sl (m.rels.map enc))], true, false⟩), ((93002, 1), some ⟨[.fz (.i .i64 0), .fz (.i .i64 0)], true, false⟩)], q.m⟩, fun q => m.consts.length - q.i⟩
    ⟨0, 2, by omega, by omega, rfl⟩ (by kernel_rfl) ?_ ?_
  · refine Weak_to ?_ ?_ ?_ <;> simp only [go_sem]
  rintro ⟨i, q, hi, hq, hp⟩
  try simp only at hi hq hp
  rcases Nat.lt_or_ge i m.consts.length with h1 | h1
  · have hstep := ccM_step h1
    have hbad : ∀ k : Int, constC m.size (pvA m.consts i) m.consts[i] = k → k ≠ 0 → X = ⟨k, i⟩ := fun k h h2 => by
      rw [h, if_pos h2] at hstep
      rw [kX1.out (by rw [hp, hstep]; exact h2), hp, hstep]
    have hgood : constC m.size (pvA m.consts i) m.consts[i] = 0 → ccM m 0 = ccM m (i + 1) := fun h => by
      rw [h, if_neg (by simp)] at hstep
      rw [hp, hstep]
    obtain ⟨c, hc⟩ : ∃ c, m.consts[i] = c := ⟨_, rfl⟩
    rw [hc] at hbad hgood
    clear hstep
    rcases i with _ | i
    · rw [show pvA m.consts 0 = none from rfl] at hbad hgood
      have h1' : (0 : Int) < (m.consts.length : Int) := by omega
      cases hn : isName c.name with
      | false =>
        rw [hbad 10 (by unfold constC; rw [if_pos hn]) (by decide)]
        repeat' (first | refine ReqK.i (by omega) fun _ => ?_ | refine ReqK.i (by unfold maxL; omega) fun _ => ?_ | simp only [go_sem, h1, h1', hc, const_eta, str_eta, getD_map_lt, hn, Tryd.f93, A20, A19, A18, A17, A16, A15, A14, A13, A12, A11, A10, A9, A8, A7, A6, A5, A4, A3, A2, A1, Q20, Q19, Q18, Q17, Q16, Q15, Q14, Q13, Q12, Q11, Q10, Q9, Q8, Q7, Q6, Q5, Q4, Q3, Q2, Q1, Tbl0])
        refine WcallK.i (f170 (a := 0) (by simp only; omega) (by simp only [go_sem]) fun n' hn' => ?_)
        repeat' (first | refine ReqK.i (by omega) fun _ => ?_ | refine ReqK.i (by unfold maxL; omega) fun _ => ?_ | simp only [go_sem, Tryd.f93, A20, A19, A18, A17, A16, A15, A14, A13, A12, A11, A10, A9, A8, A7, A6, A5, A4, A3, A2, A1, Q20, Q19, Q18, Q17, Q16, Q15, Q14, Q13, Q12, Q11, Q10, Q9, Q8, Q7, Q6, Q5, Q4, Q3, Q2, Q1, Tbl0])
      | true =>
        have s1 : ∀ x y z : Int, (if isName c.name = false then x else y) = y := fun x y z => if_neg (by simp [hn])
        by_cases hv0 : c.value < 0
        · rw [hbad 3 (by unfold constC; rw [if_neg (by simp [hn]), if_neg (by simp), if_pos (.inl hv0)]) (by decide)]
          repeat' (first | refine ReqK.i (by omega) fun _ => ?_ | refine ReqK.i (by unfold maxL; omega) fun _ => ?_ | simp only [go_sem, h1, h1', hc, const_eta, str_eta, getD_map_lt, hn, hv0, Tryd.f93, A20, A19, A18, A17, A16, A15, A14, A13, A12, A11, A10, A9, A8, A7, A6, A5, A4, A3, A2, A1, Q20, Q19, Q18, Q17, Q16, Q15, Q14, Q13, Q12, Q11, Q10, Q9, Q8, Q7, Q6, Q5, Q4, Q3, Q2, Q1, Tbl0])
          refine WcallK.i (f170 (a := 0) (by simp only; omega) (by simp only [go_sem]) fun n' hn' => ?_)
          repeat' (first | refine ReqK.i (by omega) fun _ => ?_ | refine ReqK.i (by unfold maxL; omega) fun _ => ?_ | simp only [go_sem, Tryd.f93, A20, A19, A18, A17, A16, A15, A14, A13, A12, A11, A10, A9, A8, A7, A6, A5, A4, A3, A2, A1, Q20, Q19, Q18, Q17, Q16, Q15, Q14, Q13, Q12, Q11, Q10, Q9, Q8, Q7, Q6, Q5, Q4, Q3, Q2, Q1, Tbl0])
        by_cases hv1 : m.size ≤ c.value
        · rw [hbad 3 (by unfold constC; rw [if_neg (by simp [hn]), if_neg (by simp), if_pos (.inr hv1)]) (by decide)]
          repeat' (first | refine ReqK.i (by omega) fun _ => ?_ | refine ReqK.i (by unfold maxL; omega) fun _ => ?_ | simp only [go_sem, h1, h1', hc, const_eta, str_eta, getD_map_lt, hn, hv0, hv1, Tryd.f93, A20, A19, A18, A17, A16, A15, A14, A13, A12, A11, A10, A9, A8, A7, A6, A5, A4, A3, A2, A1, Q20, Q19, Q18, Q17, Q16, Q15, Q14, Q13, Q12, Q11, Q10, Q9, Q8, Q7, Q6, Q5, Q4, Q3, Q2, Q1, Tbl0])
          refine WcallK.i (f170 (a := 0) (by simp only; omega) (by simp only [go_sem]) fun n' hn' => ?_)
          repeat' (first | refine ReqK.i (by omega) fun _ => ?_ | refine ReqK.i (by unfold maxL; omega) fun _ => ?_ | simp only [go_sem, Tryd.f93, A20, A19, A18, A17, A16, A15, A14, A13, A12, A11, A10, A9, A8, A7, A6, A5, A4, A3, A2, A1, Q20, Q19, Q18, Q17, Q16, Q15, Q14, Q13, Q12, Q11, Q10, Q9, Q8, Q7, Q6, Q5, Q4, Q3, Q2, Q1, Tbl0])
        have hnx := hgood (by unfold constC; rw [if_neg (by simp [hn]), if_neg (by simp), if_neg (by omega)])
        repeat' (first | refine ReqK.i (by omega) fun _ => ?_ | refine ReqK.i (by unfold maxL; omega) fun _ => ?_ | simp only [go_sem, h1, h1', hc, const_eta, str_eta, getD_map_lt, hn, hv0, hv1, Tryd.f93, A20, A19, A18, A17, A16, A15, A14, A13, A12, A11, A10, A9, A8, A7, A6, A5, A4, A3, A2, A1, Q20, Q19, Q18, Q17, Q16, Q15, Q14, Q13, Q12, Q11, Q10, Q9, Q8, Q7, Q6, Q5, Q4, Q3, Q2, Q1, Tbl0])
        refine ⟨⟨0 + 1, q + 2, by omega, by omega, hnx⟩, by simp only; omega, ?_⟩
        refine Weak_to ?_ ?_ ?_ <;> simp only [go_sem]
        all_goals first | done | omega | rfl | trace_state
      
    · have h0 : i < m.consts.length := by omega
      rw [pvA_succ h0] at hbad hgood
      obtain ⟨p, hpv⟩ : ∃ p, m.consts[i] = p := ⟨_, rfl⟩
      rw [hpv] at hbad hgood
      have h1' : (i : Int) + 1 < (m.consts.length : Int) := by omega
      have hi0 : (0 : Int) < (i : Int) + 1 := by omega
      have hi1 : (i : Int) + 1 - 1 = (i : Int) := by omega
      have hi2 : ((i : Int) + 1).toNat = i + 1 := by omega
      cases hn : isName c.name with
      | false =>
        rw [hbad 10 (by unfold constC; rw [if_pos hn]) (by decide)]
        repeat' (first | refine ReqK.i (by omega) fun _ => ?_ | refine ReqK.i (by unfold maxL; omega) fun _ => ?_ | simp only [go_sem, h1, h1', hi0, hi1, hi2, hc, const_eta, str_eta, getD_map_lt, hn, Tryd.f93, A20, A19, A18, A17, A16, A15, A14, A13, A12, A11, A10, A9, A8, A7, A6, A5, A4, A3, A2, A1, Q20, Q19, Q18, Q17, Q16, Q15, Q14, Q13, Q12, Q11, Q10, Q9, Q8, Q7, Q6, Q5, Q4, Q3, Q2, Q1, Tbl0])
        refine WcallK.i (f170 (a := (i : Int) + 1) (by simp only; omega) (by simp only [go_sem]) fun n' hn' => ?_)
        repeat' (first | refine ReqK.i (by omega) fun _ => ?_ | refine ReqK.i (by unfold maxL; omega) fun _ => ?_ | simp only [go_sem, Tryd.f93, A20, A19, A18, A17, A16, A15, A14, A13, A12, A11, A10, A9, A8, A7, A6, A5, A4, A3, A2, A1, Q20, Q19, Q18, Q17, Q16, Q15, Q14, Q13, Q12, Q11, Q10, Q9, Q8, Q7, Q6, Q5, Q4, Q3, Q2, Q1, Tbl0])
      | true =>
        have s1 : ∀ x y z : Int, (if isName c.name = false then x else y) = y := fun x y z => if_neg (by simp [hn])
        by_cases hlt : p.name.l < c.name.l
        rotate_left
        · have hlt' : Op.bytesLess p.name.l c.name.l = false := by rw [bytesLess_lt']; exact decide_eq_false hlt
          rw [hbad 13 (by unfold constC; rw [if_neg (by simp [hn]), if_pos (by simp only; rw [decide_eq_false hlt]; rfl)]) (by decide)]
          repeat' (first | refine ReqK.i (by omega) fun _ => ?_ | refine ReqK.i (by unfold maxL; omega) fun _ => ?_ | simp only [go_sem, h1, h1', hi0, hi1, hi2, hc, const_eta, str_eta, getD_map_lt, hn, hlt', hpv, h0, Tryd.f93, A20, A19, A18, A17, A16, A15, A14, A13, A12, A11, A10, A9, A8, A7, A6, A5, A4, A3, A2, A1, Q20, Q19, Q18, Q17, Q16, Q15, Q14, Q13, Q12, Q11, Q10, Q9, Q8, Q7, Q6, Q5, Q4, Q3, Q2, Q1, Tbl0])
          refine WcallK.i (f170 (a := (i : Int) + 1) (by simp only; omega) (by simp only [go_sem]) fun n' hn' => ?_)
          repeat' (first | refine ReqK.i (by omega) fun _ => ?_ | refine ReqK.i (by unfold maxL; omega) fun _ => ?_ | simp only [go_sem, Tryd.f93, A20, A19, A18, A17, A16, A15, A14, A13, A12, A11, A10, A9, A8, A7, A6, A5, A4, A3, A2, A1, Q20, Q19, Q18, Q17, Q16, Q15, Q14, Q13, Q12, Q11, Q10, Q9, Q8, Q7, Q6, Q5, Q4, Q3, Q2, Q1, Tbl0])
        have hlt' : Op.bytesLess p.name.l c.name.l = true := by rw [bytesLess_lt']; exact decide_eq_true hlt
        by_cases hv0 : c.value < 0
        · rw [hbad 3 (by unfold constC; rw [if_neg (by simp [hn]), if_neg (by simp [hlt]), if_pos (.inl hv0)]) (by decide)]
          repeat' (first | refine ReqK.i (by omega) fun _ => ?_ | refine ReqK.i (by unfold maxL; omega) fun _ => ?_ | simp only [go_sem, h1, h1', hi0, hi1, hi2, hc, const_eta, str_eta, getD_map_lt, hn, hlt', hpv, h0, hv0, Tryd.f93, A20, A19, A18, A17, A16, A15, A14, A13, A12, A11, A10, A9, A8, A7, A6, A5, A4, A3, A2, A1, Q20, Q19, Q18, Q17, Q16, Q15, Q14, Q13, Q12, Q11, Q10, Q9, Q8, Q7, Q6, Q5, Q4, Q3, Q2, Q1, Tbl0])
          refine WcallK.i (f170 (a := (i : Int) + 1) (by simp only; omega) (by simp only [go_sem]) fun n' hn' => ?_)
          repeat' (first | refine ReqK.i (by omega) fun _ => ?_ | refine ReqK.i (by unfold maxL; omega) fun _ => ?_ | simp only [go_sem, Tryd.f93, A20, A19, A18, A17, A16, A15, A14, A13, A12, A11, A10, A9, A8, A7, A6, A5, A4, A3, A2, A1, Q20, Q19, Q18, Q17, Q16, Q15, Q14, Q13, Q12, Q11, Q10, Q9, Q8, Q7, Q6, Q5, Q4, Q3, Q2, Q1, Tbl0])
        by_cases hv1 : m.size ≤ c.value
        · rw [hbad 3 (by unfold constC; rw [if_neg (by simp [hn]), if_neg (by simp [hlt]), if_pos (.inr hv1)]) (by decide)]
          repeat' (first | refine ReqK.i (by omega) fun _ => ?_ | refine ReqK.i (by unfold maxL; omega) fun _ => ?_ | simp only [go_sem, h1, h1', hi0, hi1, hi2, hc, const_eta, str_eta, getD_map_lt, hn, hlt', hpv, h0, hv0, hv1, Tryd.f93, A20, A19, A18, A17, A16, A15, A14, A13, A12, A11, A10, A9, A8, A7, A6, A5, A4, A3, A2, A1, Q20, Q19, Q18, Q17, Q16, Q15, Q14, Q13, Q12, Q11, Q10, Q9, Q8, Q7, Q6, Q5, Q4, Q3, Q2, Q1, Tbl0])
          refine WcallK.i (f170 (a := (i : Int) + 1) (by simp only; omega) (by simp only [go_sem]) fun n' hn' => ?_)
          repeat' (first | refine ReqK.i (by omega) fun _ => ?_ | refine ReqK.i (by unfold maxL; omega) fun _ => ?_ | simp only [go_sem, Tryd.f93, A20, A19, A18, A17, A16, A15, A14, A13, A12, A11, A10, A9, A8, A7, A6, A5, A4, A3, A2, A1, Q20, Q19, Q18, Q17, Q16, Q15, Q14, Q13, Q12, Q11, Q10, Q9, Q8, Q7, Q6, Q5, Q4, Q3, Q2, Q1, Tbl0])
        have hnx := hgood (by unfold constC; rw [if_neg (by simp [hn]), if_neg (by simp [hlt]), if_neg (by omega)])
        repeat' (first | refine ReqK.i (by omega) fun _ => ?_ | refine ReqK.i (by unfold maxL; omega) fun _ => ?_ | simp only [go_sem, h1, h1', hi0, hi1, hi2, hc, const_eta, str_eta, getD_map_lt, hn, hlt', hpv, h0, hv0, hv1, Tryd.f93, A20, A19, A18, A17, A16, A15, A14, A13, A12, A11, A10, A9, A8, A7, A6, A5, A4, A3, A2, A1, Q20, Q19, Q18, Q17, Q16, Q15, Q14, Q13, Q12, Q11, Q10, Q9, Q8, Q7, Q6, Q5, Q4, Q3, Q2, Q1, Tbl0])
        refine ⟨⟨(i + 1) + 1, q + 2, by omega, by omega, hnx⟩, by simp only; omega, ?_⟩
        refine Weak_to ?_ ?_ ?_ <;> simp only [go_sem]
        all_goals first | done | omega | rfl | trace_state
      
  obtain rfl : i = m.consts.length := by omega
  have hrr : X = rrM m 0 := kX2.out (by rw [hp, ccM_end])
  repeat' (first | refine ReqK.i (by omega) fun _ => ?_ | refine ReqK.i (by unfold maxL; omega) fun _ => ?_ | simp only [go_sem, Nat.lt_irrefl, Tryd.f93, A20, A19, A18, A17, A16, A15, A14, A13, A12, A11, A10, A9, A8, A7, A6, A5, A4, A3, A2, A1, Q20, Q19, Q18, Q17, Q16, Q15, Q14, Q13, Q12, Q11, Q10, Q9, Q8, Q7, Q6, Q5, Q4, Q3, Q2, Q1, Tbl0])
  refine WK_loop hm (G := G) hA20 93000 (lst []) (ι := LoopM m.rels.length 2 fun i => rrM m 0 = rrM m i)
    ⟨fun q => ⟨frL [(1, .ptr (93001, 0) 0), (2, .ptr (93002, 1) 0), (78, .fz (.sl (m.rels.map enc))), (79, .fz (.i .i64 m.rels.length)), (80, .fz (.i .i64 q.i))], hpL [((93001, 0), some ⟨[.fz (.i .i64 m.size), .fz (.sl (m.consts.map enc)), .fz (.sl (m.rels.map enc))], true, false⟩), ((93002, 1), some ⟨[.fz (.i .i64 0), .fz (.i .i64 0)], true, false⟩)], q.m⟩, fun q => m.rels.length - q.i⟩
    ⟨0, q, by omega, by omega, rfl⟩ (by kernel_rfl) ?_ ?_
  · refine Weak_to ?_ ?_ ?_ <;> simp only [go_sem]
    all_goals first | done | omega | rfl | trace_state
  clear hp
  rintro ⟨i, q, hi, hq, hp⟩
  try simp only at hi hq hp
  rcases Nat.lt_or_ge i m.rels.length with h1 | h1
  · have hstep := rrM_step h1
    have hbad : ∀ k : Int, relC m.size (pvA m.rels i) m.rels[i] = k → k ≠ 0 → X = ⟨k, i⟩ := fun k h h2 => by
      rw [h, if_pos h2] at hstep
      rw [hrr, hp, hstep]
    have hgood : relC m.size (pvA m.rels i) m.rels[i] = 0 → rrM m 0 = rrM m (i + 1) := fun h => by
      rw [h, if_neg (by simp)] at hstep
      rw [hp, hstep]
    have htx := ktl.out i h1
    obtain ⟨x, hx⟩ : ∃ x, m.rels[i] = x := ⟨_, rfl⟩
    rw [hx] at hbad hgood
    simp only [hx] at htx
    clear hstep
    rcases i with _ | i
    · rw [show pvA m.rels 0 = none from rfl] at hbad hgood
      have h1' : (0 : Int) < (m.rels.length : Int) := by omega
      cases hn : isName x.name with
      | false =>
        rw [hbad 10 (by unfold relC; rw [if_pos hn]) (by decide)]
        repeat' (first | refine ReqK.i (by omega) fun _ => ?_ | refine ReqK.i (by unfold maxL; omega) fun _ => ?_ | simp only [go_sem, h1, h1', hx, rel_eta, str_eta, getD_map_lt, hn, Tryd.f93, A20, A19, A18, A17, A16, A15, A14, A13, A12, A11, A10, A9, A8, A7, A6, A5, A4, A3, A2, A1, Q20, Q19, Q18, Q17, Q16, Q15, Q14, Q13, Q12, Q11, Q10, Q9, Q8, Q7, Q6, Q5, Q4, Q3, Q2, Q1, Tbl0])
        refine WcallK.i (f171 (a := 0) (by simp only; omega) (by simp only [go_sem]) fun n' hn' => ?_)
        repeat' (first | refine ReqK.i (by omega) fun _ => ?_ | refine ReqK.i (by unfold maxL; omega) fun _ => ?_ | simp only [go_sem, Tryd.f93, A20, A19, A18, A17, A16, A15, A14, A13, A12, A11, A10, A9, A8, A7, A6, A5, A4, A3, A2, A1, Q20, Q19, Q18, Q17, Q16, Q15, Q14, Q13, Q12, Q11, Q10, Q9, Q8, Q7, Q6, Q5, Q4, Q3, Q2, Q1, Tbl0])
      | true =>
        by_cases a0 : x.arity < 0
        · rw [hbad 3 (by unfold relC; rw [if_neg (by simp [hn]), if_pos (.inl a0)]) (by decide)]
          repeat' (first | refine ReqK.i (by omega) fun _ => ?_ | refine ReqK.i (by unfold maxL; omega) fun _ => ?_ | simp only [go_sem, h1, h1', hx, rel_eta, str_eta, getD_map_lt, hn, a0, Tryd.f93, A20, A19, A18, A17, A16, A15, A14, A13, A12, A11, A10, A9, A8, A7, A6, A5, A4, A3, A2, A1, Q20, Q19, Q18, Q17, Q16, Q15, Q14, Q13, Q12, Q11, Q10, Q9, Q8, Q7, Q6, Q5, Q4, Q3, Q2, Q1, Tbl0])
          refine WcallK.i (f171 (a := 0) (by simp only; omega) (by simp only [go_sem]) fun n' hn' => ?_)
          repeat' (first | refine ReqK.i (by omega) fun _ => ?_ | refine ReqK.i (by unfold maxL; omega) fun _ => ?_ | simp only [go_sem, Tryd.f93, A20, A19, A18, A17, A16, A15, A14, A13, A12, A11, A10, A9, A8, A7, A6, A5, A4, A3, A2, A1, Q20, Q19, Q18, Q17, Q16, Q15, Q14, Q13, Q12, Q11, Q10, Q9, Q8, Q7, Q6, Q5, Q4, Q3, Q2, Q1, Tbl0])
        by_cases a1 : 3 < x.arity
        · rw [hbad 3 (by unfold relC; rw [if_neg (by simp [hn]), if_pos (.inr a1)]) (by decide)]
          repeat' (first | refine ReqK.i (by omega) fun _ => ?_ | refine ReqK.i (by unfold maxL; omega) fun _ => ?_ | simp only [go_sem, h1, h1', hx, rel_eta, str_eta, getD_map_lt, hn, a0, a1, Tryd.f93, A20, A19, A18, A17, A16, A15, A14, A13, A12, A11, A10, A9, A8, A7, A6, A5, A4, A3, A2, A1, Q20, Q19, Q18, Q17, Q16, Q15, Q14, Q13, Q12, Q11, Q10, Q9, Q8, Q7, Q6, Q5, Q4, Q3, Q2, Q1, Tbl0])
          refine WcallK.i (f171 (a := 0) (by simp only; omega) (by simp only [go_sem]) fun n' hn' => ?_)
          repeat' (first | refine ReqK.i (by omega) fun _ => ?_ | refine ReqK.i (by unfold maxL; omega) fun _ => ?_ | simp only [go_sem, Tryd.f93, A20, A19, A18, A17, A16, A15, A14, A13, A12, A11, A10, A9, A8, A7, A6, A5, A4, A3, A2, A1, Q20, Q19, Q18, Q17, Q16, Q15, Q14, Q13, Q12, Q11, Q10, Q9, Q8, Q7, Q6, Q5, Q4, Q3, Q2, Q1, Tbl0])
        have hrel : relC m.size none x = ttM m.size x.arity x.tuples 0 := by unfold relC; rw [if_neg (by simp [hn]), if_neg (by omega), if_neg (by simp)]; rfl
        rw [hrel] at hbad hgood
        have hT := htx.1
        repeat' (first | refine ReqK.i (by omega) fun _ => ?_ | refine ReqK.i (by unfold maxL; omega) fun _ => ?_ | simp only [go_sem, h1, h1', hx, rel_eta, str_eta, getD_map_lt, hn, a0, a1, Tryd.f93, A20, A19, A18, A17, A16, A15, A14, A13, A12, A11, A10, A9, A8, A7, A6, A5, A4, A3, A2, A1, Q20, Q19, Q18, Q17, Q16, Q15, Q14, Q13, Q12, Q11, Q10, Q9, Q8, Q7, Q6, Q5, Q4, Q3, Q2, Q1, Tbl0])
        refine WK_loop hm (G := G) hA20 93000 (lst []) (ι := LoopM x.tuples.length (q + 2) fun k => ttM m.size x.arity x.tuples 0 = ttM m.size x.arity x.tuples k)
          ⟨fun q2 => ⟨frL [(1, .ptr (93001, 0) 0), (2, .ptr (93002, 1) 0), (78, .fz (.sl (m.rels.map enc))), (79, .fz (.i .i64 m.rels.length)), (80, .fz (.i .i64 (0))), (6, .ptr (93006, q) 0), (7, .ptr (93007, q + 1) 0), (8, .fn 171 [.ptr (93006, q) 0]), (118, .fz (.sl (x.tuples.map enc))), (119, .fz (.i .i64 x.tuples.length)), (120, .fz (.i .i64 q2.i))], hpL [((93001, 0), some ⟨[.fz (.i .i64 m.size), .fz (.sl (m.consts.map enc)), .fz (.sl (m.rels.map enc))], true, false⟩), ((93002, 1), some ⟨[.fz (.i .i64 0), .fz (.i .i64 0)], true, false⟩), ((93006, q), some ⟨[.fz (.i .i64 (0))], true, false⟩), ((93007, q + 1), some ⟨[.fz (.s x.name.l), .fz (.i .i64 x.arity), .fz (.sl (x.tuples.map enc))], true, false⟩)], q2.m⟩, fun q2 => x.tuples.length - q2.i⟩
          ⟨0, q + 2, by omega, by omega, rfl⟩ (by kernel_rfl) ?_ ?_
        · refine Weak_to ?_ ?_ ?_ <;> simp only [go_sem]
          all_goals first | done | omega | rfl | trace_state
        rintro ⟨k, mm, hk, hmm, hpk2⟩
        try simp only at hk hmm hpk2
        rcases Nat.lt_or_ge k x.tuples.length with h2 | h2
        · have hst := ttM_step (size := m.size) (arity := x.arity) h2
          have kTb : ∀ c : Int, tupC m.size x.arity (pvA x.tuples k) x.tuples[k] = c → c ≠ 0 → X = ⟨c, (0 : Int)⟩ := fun c h h4 => by
            rw [h, if_pos h4] at hst
            exact hbad c (hpk2.trans hst) h4
          have kTg : tupC m.size x.arity (pvA x.tuples k) x.tuples[k] = 0 → ttM m.size x.arity x.tuples 0 = ttM m.size x.arity x.tuples (k + 1) := fun h => by
            rw [h, if_neg (by simp)] at hst
            exact hpk2.trans hst
          have htlk := htx.2 k h2
          obtain ⟨t, hkx⟩ : ∃ t, x.tuples[k] = t := ⟨_, rfl⟩
          rw [hkx] at kTb kTg htlk
          clear hst
          have hk := h2
          rcases k with _ | k
          · rw [show pvA x.tuples 0 = none from rfl] at kTb kTg
            have hk1 : (0 : Int) < (x.tuples.length : Int) := by omega
            by_cases ha : (t.length : Int) = x.arity
            rotate_left
            · have ha' : ((t.length : Int) = x.arity) = False := eq_false ha
              rw [kTb 9 (by unfold tupC; rw [if_pos ha]) (by decide)]
              repeat' (first | refine ReqK.i (by omega) fun _ => ?_ | refine ReqK.i (by unfold maxL; omega) fun _ => ?_ | simp only [go_sem, hk, hk1, hkx, h1, h1', hx, rel_eta, str_eta, getD_map_lt, hn, a0, a1, ha', Tryd.f93, A20, A19, A18, A17, A16, A15, A14, A13, A12, A11, A10, A9, A8, A7, A6, A5, A4, A3, A2, A1, Q20, Q19, Q18, Q17, Q16, Q15, Q14, Q13, Q12, Q11, Q10, Q9, Q8, Q7, Q6, Q5, Q4, Q3, Q2, Q1, Tbl0])
              refine WcallK.i (f171 (a := 0) (by simp only; omega) (by simp only [go_sem]) fun n' hn' => ?_)
              repeat' (first | refine ReqK.i (by omega) fun _ => ?_ | refine ReqK.i (by unfold maxL; omega) fun _ => ?_ | simp only [go_sem, Tryd.f93, A20, A19, A18, A17, A16, A15, A14, A13, A12, A11, A10, A9, A8, A7, A6, A5, A4, A3, A2, A1, Q20, Q19, Q18, Q17, Q16, Q15, Q14, Q13, Q12, Q11, Q10, Q9, Q8, Q7, Q6, Q5, Q4, Q3, Q2, Q1, Tbl0])
            have ha' : ((t.length : Int) = x.arity) = True := eq_true ha
            repeat' (first | refine ReqK.i (by omega) fun _ => ?_ | refine ReqK.i (by unfold maxL; omega) fun _ => ?_ | simp only [go_sem, hk, hk1, hkx, h1, h1', hx, rel_eta, str_eta, getD_map_lt, hn, a0, a1, ha', Tryd.f93, A20, A19, A18, A17, A16, A15, A14, A13, A12, A11, A10, A9, A8, A7, A6, A5, A4, A3, A2, A1, Q20, Q19, Q18, Q17, Q16, Q15, Q14, Q13, Q12, Q11, Q10, Q9, Q8, Q7, Q6, Q5, Q4, Q3, Q2, Q1, Tbl0])
            refine WK_loop hm (G := G) hA20 93000 (lst []) (ι := LoopI t.length fun j => (t.take j).any (fun v => decide (v < 0 ∨ m.size ≤ v)) = false)
              ⟨fun q2 => ⟨frL [(1, .ptr (93001, 0) 0), (2, .ptr (93002, 1) 0), (78, .fz (.sl (m.rels.map enc))), (79, .fz (.i .i64 m.rels.length)), (80, .fz (.i .i64 (0))), (6, .ptr (93006, q) 0), (7, .ptr (93007, q + 1) 0), (8, .fn 171 [.ptr (93006, q) 0]), (118, .fz (.sl (x.tuples.map enc))), (119, .fz (.i .i64 x.tuples.length)), (120, .fz (.i .i64 (0))), (9, .fz (.i .i64 (0))), (10, .fz (.sl (t.map enc))), (132, .fz (.sl (t.map enc))), (133, .fz (.i .i64 t.length)), (134, .fz (.i .i64 q2.i))], hpL [((93001, 0), some ⟨[.fz (.i .i64 m.size), .fz (.sl (m.consts.map enc)), .fz (.sl (m.rels.map enc))], true, false⟩), ((93002, 1), some ⟨[.fz (.i .i64 0), .fz (.i .i64 0)], true, false⟩), ((93006, q), some ⟨[.fz (.i .i64 (0))], true, false⟩), ((93007, q + 1), some ⟨[.fz (.s x.name.l), .fz (.i .i64 x.arity), .fz (.sl (x.tuples.map enc))], true, false⟩)], mm⟩, fun q2 => t.length - q2.i⟩
              ⟨0, by omega, rfl⟩ (by kernel_rfl) ?_ ?_
            · refine Weak_to ?_ ?_ ?_ <;> simp only [go_sem]
              all_goals first | done | omega | rfl | trace_state
            rintro ⟨j, hj, hpj⟩
            try simp only at hj hpj
            rcases Nat.lt_or_ge j t.length with h3 | h3
            · have hts := any_take_succ (f := fun v => decide (v < 0 ∨ m.size ≤ v)) h3
              rw [hpj, Bool.false_or] at hts
              have hany : decide (t[j] < 0 ∨ m.size ≤ t[j]) = true → t.any (fun v => decide (v < 0 ∨ m.size ≤ v)) = true := fun h => List.any_eq_true.2 ⟨t[j], List.getElem_mem h3, h⟩
              obtain ⟨v, hv⟩ : ∃ v, t[j] = v := ⟨_, rfl⟩
              rw [hv] at hts hany
              by_cases v0 : v < 0
              · rw [kTb 3 (by unfold tupC; rw [if_neg (by simp [ha]), if_pos (hany (decide_eq_true (.inl v0)))]) (by decide)]
                repeat' (first | refine ReqK.i (by omega) fun _ => ?_ | refine ReqK.i (by unfold maxL; omega) fun _ => ?_ | simp only [go_sem, hk, hk1, hkx, h1, h1', hx, rel_eta, str_eta, getD_map_lt, hn, a0, a1, h3, hv, v0, Tryd.f93, A20, A19, A18, A17, A16, A15, A14, A13, A12, A11, A10, A9, A8, A7, A6, A5, A4, A3, A2, A1, Q20, Q19, Q18, Q17, Q16, Q15, Q14, Q13, Q12, Q11, Q10, Q9, Q8, Q7, Q6, Q5, Q4, Q3, Q2, Q1, Tbl0])
                refine WcallK.i (f171 (a := 0) (by simp only; omega) (by simp only [go_sem]) fun n' hn' => ?_)
                repeat' (first | refine ReqK.i (by omega) fun _ => ?_ | refine ReqK.i (by unfold maxL; omega) fun _ => ?_ | simp only [go_sem, Tryd.f93, A20, A19, A18, A17, A16, A15, A14, A13, A12, A11, A10, A9, A8, A7, A6, A5, A4, A3, A2, A1, Q20, Q19, Q18, Q17, Q16, Q15, Q14, Q13, Q12, Q11, Q10, Q9, Q8, Q7, Q6, Q5, Q4, Q3, Q2, Q1, Tbl0])
              by_cases v1 : m.size ≤ v
              · rw [kTb 3 (by unfold tupC; rw [if_neg (by simp [ha]), if_pos (hany (decide_eq_true (.inr v1)))]) (by decide)]
                repeat' (first | refine ReqK.i (by omega) fun _ => ?_ | refine ReqK.i (by unfold maxL; omega) fun _ => ?_ | simp only [go_sem, hk, hk1, hkx, h1, h1', hx, rel_eta, str_eta, getD_map_lt, hn, a0, a1, h3, hv, v0, v1, Tryd.f93, A20, A19, A18, A17, A16, A15, A14, A13, A12, A11, A10, A9, A8, A7, A6, A5, A4, A3, A2, A1, Q20, Q19, Q18, Q17, Q16, Q15, Q14, Q13, Q12, Q11, Q10, Q9, Q8, Q7, Q6, Q5, Q4, Q3, Q2, Q1, Tbl0])
                refine WcallK.i (f171 (a := 0) (by simp only; omega) (by simp only [go_sem]) fun n' hn' => ?_)
                repeat' (first | refine ReqK.i (by omega) fun _ => ?_ | refine ReqK.i (by unfold maxL; omega) fun _ => ?_ | simp only [go_sem, Tryd.f93, A20, A19, A18, A17, A16, A15, A14, A13, A12, A11, A10, A9, A8, A7, A6, A5, A4, A3, A2, A1, Q20, Q19, Q18, Q17, Q16, Q15, Q14, Q13, Q12, Q11, Q10, Q9, Q8, Q7, Q6, Q5, Q4, Q3, Q2, Q1, Tbl0])
              have hnj : (t.take (j + 1)).any (fun v => decide (v < 0 ∨ m.size ≤ v)) = false := by rw [hts]; exact decide_eq_false (by omega)
              repeat' (first | refine ReqK.i (by omega) fun _ => ?_ | refine ReqK.i (by unfold maxL; omega) fun _ => ?_ | simp only [go_sem, hk, hk1, hkx, h1, h1', hx, rel_eta, str_eta, getD_map_lt, hn, a0, a1, h3, hv, v0, v1, Tryd.f93, A20, A19, A18, A17, A16, A15, A14, A13, A12, A11, A10, A9, A8, A7, A6, A5, A4, A3, A2, A1, Q20, Q19, Q18, Q17, Q16, Q15, Q14, Q13, Q12, Q11, Q10, Q9, Q8, Q7, Q6, Q5, Q4, Q3, Q2, Q1, Tbl0])
              refine ⟨⟨j + 1, by omega, hnj⟩, by simp only; omega, ?_⟩
              refine Weak_to ?_ ?_ ?_ <;> simp only [go_sem]
              all_goals first | done | omega | rfl | trace_state
            obtain rfl : j = t.length := by omega
            rw [List.take_length] at hpj
            have hnx := kTg (by unfold tupC; rw [if_neg (by simp [ha]), if_neg (by rw [hpj]; decide), if_neg (by simp)])
            repeat' (first | refine ReqK.i (by omega) fun _ => ?_ | refine ReqK.i (by unfold maxL; omega) fun _ => ?_ | simp only [go_sem, hk, hk1, hkx, h1, h1', hx, rel_eta, str_eta, getD_map_lt, hn, a0, a1, Nat.lt_irrefl, Tryd.f93, A20, A19, A18, A17, A16, A15, A14, A13, A12, A11, A10, A9, A8, A7, A6, A5, A4, A3, A2, A1, Q20, Q19, Q18, Q17, Q16, Q15, Q14, Q13, Q12, Q11, Q10, Q9, Q8, Q7, Q6, Q5, Q4, Q3, Q2, Q1, Tbl0])
            refine ⟨⟨0 + 1, mm, by omega, by omega, hnx⟩, by simp only; omega, ?_⟩
            refine Weak_to ?_ ?_ ?_ <;> simp only [go_sem]
            all_goals first | done | omega | rfl | trace_state
          · have hk0 : k < x.tuples.length := by omega
            rw [pvA_succ hk0] at kTb kTg
            obtain ⟨y, hpk⟩ : ∃ y, x.tuples[k] = y := ⟨_, rfl⟩
            rw [hpk] at kTb kTg
            have hk1 : (k : Int) + 1 < (x.tuples.length : Int) := by omega
            have hk3 : (0 : Int) < (k : Int) + 1 := by omega
            have hk4 : (k : Int) + 1 - 1 = (k : Int) := by omega
            have hk5 : ((k : Int) + 1).toNat = k + 1 := by omega
            by_cases ha : (t.length : Int) = x.arity
            rotate_left
            · have ha' : ((t.length : Int) = x.arity) = False := eq_false ha
              rw [kTb 9 (by unfold tupC; rw [if_pos ha]) (by decide)]
              repeat' (first | refine ReqK.i (by omega) fun _ => ?_ | refine ReqK.i (by unfold maxL; omega) fun _ => ?_ | simp only [go_sem, hk, hk1, hkx, hk0, hpk, hk3, hk4, hk5, h1, h1', hx, rel_eta, str_eta, getD_map_lt, hn, a0, a1, ha', Tryd.f93, A20, A19, A18, A17, A16, A15, A14, A13, A12, A11, A10, A9, A8, A7, A6, A5, A4, A3, A2, A1, Q20, Q19, Q18, Q17, Q16, Q15, Q14, Q13, Q12, Q11, Q10, Q9, Q8, Q7, Q6, Q5, Q4, Q3, Q2, Q1, Tbl0])
              refine WcallK.i (f171 (a := 0) (by simp only; omega) (by simp only [go_sem]) fun n' hn' => ?_)
              repeat' (first | refine ReqK.i (by omega) fun _ => ?_ | refine ReqK.i (by unfold maxL; omega) fun _ => ?_ | simp only [go_sem, Tryd.f93, A20, A19, A18, A17, A16, A15, A14, A13, A12, A11, A10, A9, A8, A7, A6, A5, A4, A3, A2, A1, Q20, Q19, Q18, Q17, Q16, Q15, Q14, Q13, Q12, Q11, Q10, Q9, Q8, Q7, Q6, Q5, Q4, Q3, Q2, Q1, Tbl0])
            have ha' : ((t.length : Int) = x.arity) = True := eq_true ha
            repeat' (first | refine ReqK.i (by omega) fun _ => ?_ | refine ReqK.i (by unfold maxL; omega) fun _ => ?_ | simp only [go_sem, hk, hk1, hkx, hk0, hpk, hk3, hk4, hk5, h1, h1', hx, rel_eta, str_eta, getD_map_lt, hn, a0, a1, ha', Tryd.f93, A20, A19, A18, A17, A16, A15, A14, A13, A12, A11, A10, A9, A8, A7, A6, A5, A4, A3, A2, A1, Q20, Q19, Q18, Q17, Q16, Q15, Q14, Q13, Q12, Q11, Q10, Q9, Q8, Q7, Q6, Q5, Q4, Q3, Q2, Q1, Tbl0])
            refine WK_loop hm (G := G) hA20 93000 (lst []) (ι := LoopI t.length fun j => (t.take j).any (fun v => decide (v < 0 ∨ m.size ≤ v)) = false)
              ⟨fun q2 => ⟨frL [(1, .ptr (93001, 0) 0), (2, .ptr (93002, 1) 0), (78, .fz (.sl (m.rels.map enc))), (79, .fz (.i .i64 m.rels.length)), (80, .fz (.i .i64 (0))), (6, .ptr (93006, q) 0), (7, .ptr (93007, q + 1) 0), (8, .fn 171 [.ptr (93006, q) 0]), (118, .fz (.sl (x.tuples.map enc))), (119, .fz (.i .i64 x.tuples.length)), (120, .fz (.i .i64 ((k : Int) + 1))), (9, .fz (.i .i64 ((k : Int) + 1))), (10, .fz (.sl (t.map enc))), (132, .fz (.sl (t.map enc))), (133, .fz (.i .i64 t.length)), (134, .fz (.i .i64 q2.i))], hpL [((93001, 0), some ⟨[.fz (.i .i64 m.size), .fz (.sl (m.consts.map enc)), .fz (.sl (m.rels.map enc))], true, false⟩), ((93002, 1), some ⟨[.fz (.i .i64 0), .fz (.i .i64 0)], true, false⟩), ((93006, q), some ⟨[.fz (.i .i64 (0))], true, false⟩), ((93007, q + 1), some ⟨[.fz (.s x.name.l), .fz (.i .i64 x.arity), .fz (.sl (x.tuples.map enc))], true, false⟩)], mm⟩, fun q2 => t.length - q2.i⟩
              ⟨0, by omega, rfl⟩ (by kernel_rfl) ?_ ?_
            · refine Weak_to ?_ ?_ ?_ <;> simp only [go_sem]
              all_goals first | done | omega | rfl | trace_state
            rintro ⟨j, hj, hpj⟩
            try simp only at hj hpj
            rcases Nat.lt_or_ge j t.length with h3 | h3
            · have hts := any_take_succ (f := fun v => decide (v < 0 ∨ m.size ≤ v)) h3
              rw [hpj, Bool.false_or] at hts
              have hany : decide (t[j] < 0 ∨ m.size ≤ t[j]) = true → t.any (fun v => decide (v < 0 ∨ m.size ≤ v)) = true := fun h => List.any_eq_true.2 ⟨t[j], List.getElem_mem h3, h⟩
              obtain ⟨v, hv⟩ : ∃ v, t[j] = v := ⟨_, rfl⟩
              rw [hv] at hts hany
              by_cases v0 : v < 0
              · rw [kTb 3 (by unfold tupC; rw [if_neg (by simp [ha]), if_pos (hany (decide_eq_true (.inl v0)))]) (by decide)]
                repeat' (first | refine ReqK.i (by omega) fun _ => ?_ | refine ReqK.i (by unfold maxL; omega) fun _ => ?_ | simp only [go_sem, hk, hk1, hkx, hk0, hpk, hk3, hk4, hk5, h1, h1', hx, rel_eta, str_eta, getD_map_lt, hn, a0, a1, h3, hv, v0, Tryd.f93, A20, A19, A18, A17, A16, A15, A14, A13, A12, A11, A10, A9, A8, A7, A6, A5, A4, A3, A2, A1, Q20, Q19, Q18, Q17, Q16, Q15, Q14, Q13, Q12, Q11, Q10, Q9, Q8, Q7, Q6, Q5, Q4, Q3, Q2, Q1, Tbl0])
                refine WcallK.i (f171 (a := 0) (by simp only; omega) (by simp only [go_sem]) fun n' hn' => ?_)
                repeat' (first | refine ReqK.i (by omega) fun _ => ?_ | refine ReqK.i (by unfold maxL; omega) fun _ => ?_ | simp only [go_sem, Tryd.f93, A20, A19, A18, A17, A16, A15, A14, A13, A12, A11, A10, A9, A8, A7, A6, A5, A4, A3, A2, A1, Q20, Q19, Q18, Q17, Q16, Q15, Q14, Q13, Q12, Q11, Q10, Q9, Q8, Q7, Q6, Q5, Q4, Q3, Q2, Q1, Tbl0])
              by_cases v1 : m.size ≤ v
              · rw [kTb 3 (by unfold tupC; rw [if_neg (by simp [ha]), if_pos (hany (decide_eq_true (.inr v1)))]) (by decide)]
                repeat' (first | refine ReqK.i (by omega) fun _ => ?_ | refine ReqK.i (by unfold maxL; omega) fun _ => ?_ | simp only [go_sem, hk, hk1, hkx, hk0, hpk, hk3, hk4, hk5, h1, h1', hx, rel_eta, str_eta, getD_map_lt, hn, a0, a1, h3, hv, v0, v1, Tryd.f93, A20, A19, A18, A17, A16, A15, A14, A13, A12, A11, A10, A9, A8, A7, A6, A5, A4, A3, A2, A1, Q20, Q19, Q18, Q17, Q16, Q15, Q14, Q13, Q12, Q11, Q10, Q9, Q8, Q7, Q6, Q5, Q4, Q3, Q2, Q1, Tbl0])
                refine WcallK.i (f171 (a := 0) (by simp only; omega) (by simp only [go_sem]) fun n' hn' => ?_)
                repeat' (first | refine ReqK.i (by omega) fun _ => ?_ | refine ReqK.i (by unfold maxL; omega) fun _ => ?_ | simp only [go_sem, Tryd.f93, A20, A19, A18, A17, A16, A15, A14, A13, A12, A11, A10, A9, A8, A7, A6, A5, A4, A3, A2, A1, Q20, Q19, Q18, Q17, Q16, Q15, Q14, Q13, Q12, Q11, Q10, Q9, Q8, Q7, Q6, Q5, Q4, Q3, Q2, Q1, Tbl0])
              have hnj : (t.take (j + 1)).any (fun v => decide (v < 0 ∨ m.size ≤ v)) = false := by rw [hts]; exact decide_eq_false (by omega)
              repeat' (first | refine ReqK.i (by omega) fun _ => ?_ | refine ReqK.i (by unfold maxL; omega) fun _ => ?_ | simp only [go_sem, hk, hk1, hkx, hk0, hpk, hk3, hk4, hk5, h1, h1', hx, rel_eta, str_eta, getD_map_lt, hn, a0, a1, h3, hv, v0, v1, Tryd.f93, A20, A19, A18, A17, A16, A15, A14, A13, A12, A11, A10, A9, A8, A7, A6, A5, A4, A3, A2, A1, Q20, Q19, Q18, Q17, Q16, Q15, Q14, Q13, Q12, Q11, Q10, Q9, Q8, Q7, Q6, Q5, Q4, Q3, Q2, Q1, Tbl0])
              refine ⟨⟨j + 1, by omega, hnj⟩, by simp only; omega, ?_⟩
              refine Weak_to ?_ ?_ ?_ <;> simp only [go_sem]
              all_goals first | done | omega | rfl | trace_state
            obtain rfl : j = t.length := by omega
            rw [List.take_length] at hpj
            by_cases hcl2 : 0 ≤ cmpL y t
            · rw [kTb 13 (by unfold tupC; rw [if_neg (by simp [ha]), if_neg (by rw [hpj]; decide), if_pos (by simp [hcl2])]) (by decide)]
              repeat' (first | refine ReqK.i (by omega) fun _ => ?_ | refine ReqK.i (by unfold maxL; omega) fun _ => ?_ | simp only [go_sem, hk, hk1, hkx, hk0, hpk, hk3, hk4, hk5, h1, h1', hx, rel_eta, str_eta, getD_map_lt, hn, a0, a1, Nat.lt_irrefl, hcl2, Tryd.f93, A20, A19, A18, A17, A16, A15, A14, A13, A12, A11, A10, A9, A8, A7, A6, A5, A4, A3, A2, A1, Q20, Q19, Q18, Q17, Q16, Q15, Q14, Q13, Q12, Q11, Q10, Q9, Q8, Q7, Q6, Q5, Q4, Q3, Q2, Q1, Tbl0])
              refine WcallK.i (f171 (a := 0) (by simp only; omega) (by simp only [go_sem]) fun n' hn' => ?_)
              repeat' (first | refine ReqK.i (by omega) fun _ => ?_ | refine ReqK.i (by unfold maxL; omega) fun _ => ?_ | simp only [go_sem, Tryd.f93, A20, A19, A18, A17, A16, A15, A14, A13, A12, A11, A10, A9, A8, A7, A6, A5, A4, A3, A2, A1, Q20, Q19, Q18, Q17, Q16, Q15, Q14, Q13, Q12, Q11, Q10, Q9, Q8, Q7, Q6, Q5, Q4, Q3, Q2, Q1, Tbl0])
            have hnx := kTg (by unfold tupC; rw [if_neg (by simp [ha]), if_neg (by rw [hpj]; decide), if_neg (by simp [hcl2])])
            repeat' (first | refine ReqK.i (by omega) fun _ => ?_ | refine ReqK.i (by unfold maxL; omega) fun _ => ?_ | simp only [go_sem, hk, hk1, hkx, hk0, hpk, hk3, hk4, hk5, h1, h1', hx, rel_eta, str_eta, getD_map_lt, hn, a0, a1, Nat.lt_irrefl, hcl2, Tryd.f93, A20, A19, A18, A17, A16, A15, A14, A13, A12, A11, A10, A9, A8, A7, A6, A5, A4, A3, A2, A1, Q20, Q19, Q18, Q17, Q16, Q15, Q14, Q13, Q12, Q11, Q10, Q9, Q8, Q7, Q6, Q5, Q4, Q3, Q2, Q1, Tbl0])
            refine ⟨⟨(k + 1) + 1, mm, by omega, by omega, hnx⟩, by simp only; omega, ?_⟩
            refine Weak_to ?_ ?_ ?_ <;> simp only [go_sem]
            all_goals first | done | omega | rfl | trace_state
        obtain rfl : k = x.tuples.length := by omega
        have hnx := hgood (by rw [hpk2, ttM_end])
        repeat' (first | refine ReqK.i (by omega) fun _ => ?_ | refine ReqK.i (by unfold maxL; omega) fun _ => ?_ | simp only [go_sem, h1, h1', hx, rel_eta, str_eta, getD_map_lt, hn, a0, a1, Nat.lt_irrefl, Tryd.f93, A20, A19, A18, A17, A16, A15, A14, A13, A12, A11, A10, A9, A8, A7, A6, A5, A4, A3, A2, A1, Q20, Q19, Q18, Q17, Q16, Q15, Q14, Q13, Q12, Q11, Q10, Q9, Q8, Q7, Q6, Q5, Q4, Q3, Q2, Q1, Tbl0])
        refine ⟨⟨0 + 1, mm, by omega, by omega, hnx⟩, by simp only; omega, ?_⟩
        refine Weak_to ?_ ?_ ?_ <;> simp only [go_sem]
        all_goals first | done | omega | rfl | trace_state
    · have h0 : i < m.rels.length := by omega
      rw [pvA_succ h0] at hbad hgood
      obtain ⟨p, hpv⟩ : ∃ p, m.rels[i] = p := ⟨_, rfl⟩
      rw [hpv] at hbad hgood
      have h1' : (i : Int) + 1 < (m.rels.length : Int) := by omega
      have hi0 : (0 : Int) < (i : Int) + 1 := by omega
      have hi1 : (i : Int) + 1 - 1 = (i : Int) := by omega
      have hi2 : ((i : Int) + 1).toNat = i + 1 := by omega
      cases hn : isName x.name with
      | false =>
        rw [hbad 10 (by unfold relC; rw [if_pos hn]) (by decide)]
        repeat' (first | refine ReqK.i (by omega) fun _ => ?_ | refine ReqK.i (by unfold maxL; omega) fun _ => ?_ | simp only [go_sem, h1, h1', hx, rel_eta, str_eta, getD_map_lt, hpv, h0, hi0, hi1, hi2, hn, Tryd.f93, A20, A19, A18, A17, A16, A15, A14, A13, A12, A11, A10, A9, A8, A7, A6, A5, A4, A3, A2, A1, Q20, Q19, Q18, Q17, Q16, Q15, Q14, Q13, Q12, Q11, Q10, Q9, Q8, Q7, Q6, Q5, Q4, Q3, Q2, Q1, Tbl0])
        refine WcallK.i (f171 (a := (i : Int) + 1) (by simp only; omega) (by simp only [go_sem]) fun n' hn' => ?_)
        repeat' (first | refine ReqK.i (by omega) fun _ => ?_ | refine ReqK.i (by unfold maxL; omega) fun _ => ?_ | simp only [go_sem, Tryd.f93, A20, A19, A18, A17, A16, A15, A14, A13, A12, A11, A10, A9, A8, A7, A6, A5, A4, A3, A2, A1, Q20, Q19, Q18, Q17, Q16, Q15, Q14, Q13, Q12, Q11, Q10, Q9, Q8, Q7, Q6, Q5, Q4, Q3, Q2, Q1, Tbl0])
      | true =>
        by_cases a0 : x.arity < 0
        · rw [hbad 3 (by unfold relC; rw [if_neg (by simp [hn]), if_pos (.inl a0)]) (by decide)]
          repeat' (first | refine ReqK.i (by omega) fun _ => ?_ | refine ReqK.i (by unfold maxL; omega) fun _ => ?_ | simp only [go_sem, h1, h1', hx, rel_eta, str_eta, getD_map_lt, hpv, h0, hi0, hi1, hi2, hn, a0, Tryd.f93, A20, A19, A18, A17, A16, A15, A14, A13, A12, A11, A10, A9, A8, A7, A6, A5, A4, A3, A2, A1, Q20, Q19, Q18, Q17, Q16, Q15, Q14, Q13, Q12, Q11, Q10, Q9, Q8, Q7, Q6, Q5, Q4, Q3, Q2, Q1, Tbl0])
          refine WcallK.i (f171 (a := (i : Int) + 1) (by simp only; omega) (by simp only [go_sem]) fun n' hn' => ?_)
          repeat' (first | refine ReqK.i (by omega) fun _ => ?_ | refine ReqK.i (by unfold maxL; omega) fun _ => ?_ | simp only [go_sem, Tryd.f93, A20, A19, A18, A17, A16, A15, A14, A13, A12, A11, A10, A9, A8, A7, A6, A5, A4, A3, A2, A1, Q20, Q19, Q18, Q17, Q16, Q15, Q14, Q13, Q12, Q11, Q10, Q9, Q8, Q7, Q6, Q5, Q4, Q3, Q2, Q1, Tbl0])
        by_cases a1 : 3 < x.arity
        · rw [hbad 3 (by unfold relC; rw [if_neg (by simp [hn]), if_pos (.inr a1)]) (by decide)]
          repeat' (first | refine ReqK.i (by omega) fun _ => ?_ | refine ReqK.i (by unfold maxL; omega) fun _ => ?_ | simp only [go_sem, h1, h1', hx, rel_eta, str_eta, getD_map_lt, hpv, h0, hi0, hi1, hi2, hn, a0, a1, Tryd.f93, A20, A19, A18, A17, A16, A15, A14, A13, A12, A11, A10, A9, A8, A7, A6, A5, A4, A3, A2, A1, Q20, Q19, Q18, Q17, Q16, Q15, Q14, Q13, Q12, Q11, Q10, Q9, Q8, Q7, Q6, Q5, Q4, Q3, Q2, Q1, Tbl0])
          refine WcallK.i (f171 (a := (i : Int) + 1) (by simp only; omega) (by simp only [go_sem]) fun n' hn' => ?_)
          repeat' (first | refine ReqK.i (by omega) fun _ => ?_ | refine ReqK.i (by unfold maxL; omega) fun _ => ?_ | simp only [go_sem, Tryd.f93, A20, A19, A18, A17, A16, A15, A14, A13, A12, A11, A10, A9, A8, A7, A6, A5, A4, A3, A2, A1, Q20, Q19, Q18, Q17, Q16, Q15, Q14, Q13, Q12, Q11, Q10, Q9, Q8, Q7, Q6, Q5, Q4, Q3, Q2, Q1, Tbl0])
        by_cases hcp : 0 ≤ cmpR p x
        · rw [hbad 13 (by unfold relC; rw [if_neg (by simp [hn]), if_neg (by omega), if_pos (by simp [hcp])]) (by decide)]
          repeat' (first | refine ReqK.i (by omega) fun _ => ?_ | refine ReqK.i (by unfold maxL; omega) fun _ => ?_ | simp only [go_sem, h1, h1', hx, rel_eta, str_eta, getD_map_lt, hpv, h0, hi0, hi1, hi2, hn, a0, a1, hcp, Tryd.f93, A20, A19, A18, A17, A16, A15, A14, A13, A12, A11, A10, A9, A8, A7, A6, A5, A4, A3, A2, A1, Q20, Q19, Q18, Q17, Q16, Q15, Q14, Q13, Q12, Q11, Q10, Q9, Q8, Q7, Q6, Q5, Q4, Q3, Q2, Q1, Tbl0])
          refine WcallK.i (f171 (a := (i : Int) + 1) (by simp only; omega) (by simp only [go_sem]) fun n' hn' => ?_)
          repeat' (first | refine ReqK.i (by omega) fun _ => ?_ | refine ReqK.i (by unfold maxL; omega) fun _ => ?_ | simp only [go_sem, Tryd.f93, A20, A19, A18, A17, A16, A15, A14, A13, A12, A11, A10, A9, A8, A7, A6, A5, A4, A3, A2, A1, Q20, Q19, Q18, Q17, Q16, Q15, Q14, Q13, Q12, Q11, Q10, Q9, Q8, Q7, Q6, Q5, Q4, Q3, Q2, Q1, Tbl0])
        have hrel : relC m.size (some p) x = ttM m.size x.arity x.tuples 0 := by unfold relC; rw [if_neg (by simp [hn]), if_neg (by omega), if_neg (by simp [hcp])]; rfl
        rw [hrel] at hbad hgood
        have hT := htx.1
        repeat' (first | refine ReqK.i (by omega) fun _ => ?_ | refine ReqK.i (by unfold maxL; omega) fun _ => ?_ | simp only [go_sem, h1, h1', hx, rel_eta, str_eta, getD_map_lt, hpv, h0, hi0, hi1, hi2, hn, a0, a1, hcp, Tryd.f93, A20, A19, A18, A17, A16, A15, A14, A13, A12, A11, A10, A9, A8, A7, A6, A5, A4, A3, A2, A1, Q20, Q19, Q18, Q17, Q16, Q15, Q14, Q13, Q12, Q11, Q10, Q9, Q8, Q7, Q6, Q5, Q4, Q3, Q2, Q1, Tbl0])
        refine WK_loop hm (G := G) hA20 93000 (lst []) (ι := LoopM x.tuples.length (q + 2) fun k => ttM m.size x.arity x.tuples 0 = ttM m.size x.arity x.tuples k)
          ⟨fun q2 => ⟨frL [(1, .ptr (93001, 0) 0), (2, .ptr (93002, 1) 0), (78, .fz (.sl (m.rels.map enc))), (79, .fz (.i .i64 m.rels.length)), (80, .fz (.i .i64 ((i : Int) + 1))), (6, .ptr (93006, q) 0), (7, .ptr (93007, q + 1) 0), (8, .fn 171 [.ptr (93006, q) 0]), (118, .fz (.sl (x.tuples.map enc))), (119, .fz (.i .i64 x.tuples.length)), (120, .fz (.i .i64 q2.i))], hpL [((93001, 0), some ⟨[.fz (.i .i64 m.size), .fz (.sl (m.consts.map enc)), .fz (.sl (m.rels.map enc))], true, false⟩), ((93002, 1), some ⟨[.fz (.i .i64 0), .fz (.i .i64 0)], true, false⟩), ((93006, q), some ⟨[.fz (.i .i64 ((i : Int) + 1))], true, false⟩), ((93007, q + 1), some ⟨[.fz (.s x.name.l), .fz (.i .i64 x.arity), .fz (.sl (x.tuples.map enc))], true, false⟩)], q2.m⟩, fun q2 => x.tuples.length - q2.i⟩
          ⟨0, q + 2, by omega, by omega, rfl⟩ (by kernel_rfl) ?_ ?_
        · refine Weak_to ?_ ?_ ?_ <;> simp only [go_sem]
          all_goals first | done | omega | rfl | trace_state
        rintro ⟨k, mm, hk, hmm, hpk2⟩
        try simp only at hk hmm hpk2
        rcases Nat.lt_or_ge k x.tuples.length with h2 | h2
        · have hst := ttM_step (size := m.size) (arity := x.arity) h2
          have kTb : ∀ c : Int, tupC m.size x.arity (pvA x.tuples k) x.tuples[k] = c → c ≠ 0 → X = ⟨c, ((i : Int) + 1 : Int)⟩ := fun c h h4 => by
            rw [h, if_pos h4] at hst
            exact hbad c (hpk2.trans hst) h4
          have kTg : tupC m.size x.arity (pvA x.tuples k) x.tuples[k] = 0 → ttM m.size x.arity x.tuples 0 = ttM m.size x.arity x.tuples (k + 1) := fun h => by
            rw [h, if_neg (by simp)] at hst
            exact hpk2.trans hst
          have htlk := htx.2 k h2
          obtain ⟨t, hkx⟩ : ∃ t, x.tuples[k] = t := ⟨_, rfl⟩
          rw [hkx] at kTb kTg htlk
          clear hst
          have hk := h2
          rcases k with _ | k
          · rw [show pvA x.tuples 0 = none from rfl] at kTb kTg
            have hk1 : (0 : Int) < (x.tuples.length : Int) := by omega
            by_cases ha : (t.length : Int) = x.arity
            rotate_left
            · have ha' : ((t.length : Int) = x.arity) = False := eq_false ha
              rw [kTb 9 (by unfold tupC; rw [if_pos ha]) (by decide)]
              repeat' (first | refine ReqK.i (by omega) fun _ => ?_ | refine ReqK.i (by unfold maxL; omega) fun _ => ?_ | simp only [go_sem, hk, hk1, hkx, h1, h1', hx, rel_eta, str_eta, getD_map_lt, hpv, h0, hi0, hi1, hi2, hn, a0, a1, hcp, ha', Tryd.f93, A20, A19, A18, A17, A16, A15, A14, A13, A12, A11, A10, A9, A8, A7, A6, A5, A4, A3, A2, A1, Q20, Q19, Q18, Q17, Q16, Q15, Q14, Q13, Q12, Q11, Q10, Q9, Q8, Q7, Q6, Q5, Q4, Q3, Q2, Q1, Tbl0])
              refine WcallK.i (f171 (a := (i : Int) + 1) (by simp only; omega) (by simp only [go_sem]) fun n' hn' => ?_)
              repeat' (first | refine ReqK.i (by omega) fun _ => ?_ | refine ReqK.i (by unfold maxL; omega) fun _ => ?_ | simp only [go_sem, Tryd.f93, A20, A19, A18, A17, A16, A15, A14, A13, A12, A11, A10, A9, A8, A7, A6, A5, A4, A3, A2, A1, Q20, Q19, Q18, Q17, Q16, Q15, Q14, Q13, Q12, Q11, Q10, Q9, Q8, Q7, Q6, Q5, Q4, Q3, Q2, Q1, Tbl0])
            have ha' : ((t.length : Int) = x.arity) = True := eq_true ha
            repeat' (first | refine ReqK.i (by omega) fun _ => ?_ | refine ReqK.i (by unfold maxL; omega) fun _ => ?_ | simp only [go_sem, hk, hk1, hkx, h1, h1', hx, rel_eta, str_eta, getD_map_lt, hpv, h0, hi0, hi1, hi2, hn, a0, a1, hcp, ha', Tryd.f93, A20, A19, A18, A17, A16, A15, A14, A13, A12, A11, A10, A9, A8, A7, A6, A5, A4, A3, A2, A1, Q20, Q19, Q18, Q17, Q16, Q15, Q14, Q13, Q12, Q11, Q10, Q9, Q8, Q7, Q6, Q5, Q4, Q3, Q2, Q1, Tbl0])
            refine WK_loop hm (G := G) hA20 93000 (lst []) (ι := LoopI t.length fun j => (t.take j).any (fun v => decide (v < 0 ∨ m.size ≤ v)) = false)
              ⟨fun q2 => ⟨frL [(1, .ptr (93001, 0) 0), (2, .ptr (93002, 1) 0), (78, .fz (.sl (m.rels.map enc))), (79, .fz (.i .i64 m.rels.length)), (80, .fz (.i .i64 ((i : Int) + 1))), (6, .ptr (93006, q) 0), (7, .ptr (93007, q + 1) 0), (8, .fn 171 [.ptr (93006, q) 0]), (118, .fz (.sl (x.tuples.map enc))), (119, .fz (.i .i64 x.tuples.length)), (120, .fz (.i .i64 (0))), (9, .fz (.i .i64 (0))), (10, .fz (.sl (t.map enc))), (132, .fz (.sl (t.map enc))), (133, .fz (.i .i64 t.length)), (134, .fz (.i .i64 q2.i))], hpL [((93001, 0), some ⟨[.fz (.i .i64 m.size), .fz (.sl (m.consts.map enc)), .fz (.sl (m.rels.map enc))], true, false⟩), ((93002, 1), some ⟨[.fz (.i .i64 0), .fz (.i .i64 0)], true, false⟩), ((93006, q), some ⟨[.fz (.i .i64 ((i : Int) + 1))], true, false⟩), ((93007, q + 1), some ⟨[.fz (.s x.name.l), .fz (.i .i64 x.arity), .fz (.sl (x.tuples.map enc))], true, false⟩)], mm⟩, fun q2 => t.length - q2.i⟩
              ⟨0, by omega, rfl⟩ (by kernel_rfl) ?_ ?_
            · refine Weak_to ?_ ?_ ?_ <;> simp only [go_sem]
              all_goals first | done | omega | rfl | trace_state
            rintro ⟨j, hj, hpj⟩
            try simp only at hj hpj
            rcases Nat.lt_or_ge j t.length with h3 | h3
            · have hts := any_take_succ (f := fun v => decide (v < 0 ∨ m.size ≤ v)) h3
              rw [hpj, Bool.false_or] at hts
              have hany : decide (t[j] < 0 ∨ m.size ≤ t[j]) = true → t.any (fun v => decide (v < 0 ∨ m.size ≤ v)) = true := fun h => List.any_eq_true.2 ⟨t[j], List.getElem_mem h3, h⟩
              obtain ⟨v, hv⟩ : ∃ v, t[j] = v := ⟨_, rfl⟩
              rw [hv] at hts hany
              by_cases v0 : v < 0
              · rw [kTb 3 (by unfold tupC; rw [if_neg (by simp [ha]), if_pos (hany (decide_eq_true (.inl v0)))]) (by decide)]
                repeat' (first | refine ReqK.i (by omega) fun _ => ?_ | refine ReqK.i (by unfold maxL; omega) fun _ => ?_ | simp only [go_sem, hk, hk1, hkx, h1, h1', hx, rel_eta, str_eta, getD_map_lt, hpv, h0, hi0, hi1, hi2, hn, a0, a1, hcp, h3, hv, v0, Tryd.f93, A20, A19, A18, A17, A16, A15, A14, A13, A12, A11, A10, A9, A8, A7, A6, A5, A4, A3, A2, A1, Q20, Q19, Q18, Q17, Q16, Q15, Q14, Q13, Q12, Q11, Q10, Q9, Q8, Q7, Q6, Q5, Q4, Q3, Q2, Q1, Tbl0])
                refine WcallK.i (f171 (a := (i : Int) + 1) (by simp only; omega) (by simp only [go_sem]) fun n' hn' => ?_)
                repeat' (first | refine ReqK.i (by omega) fun _ => ?_ | refine ReqK.i (by unfold maxL; omega) fun _ => ?_ | simp only [go_sem, Tryd.f93, A20, A19, A18, A17, A16, A15, A14, A13, A12, A11, A10, A9, A8, A7, A6, A5, A4, A3, A2, A1, Q20, Q19, Q18, Q17, Q16, Q15, Q14, Q13, Q12, Q11, Q10, Q9, Q8, Q7, Q6, Q5, Q4, Q3, Q2, Q1, Tbl0])
              by_cases v1 : m.size ≤ v
              · rw [kTb 3 (by unfold tupC; rw [if_neg (by simp [ha]), if_pos (hany (decide_eq_true (.inr v1)))]) (by decide)]
                repeat' (first | refine ReqK.i (by omega) fun _ => ?_ | refine ReqK.i (by unfold maxL; omega) fun _ => ?_ | simp only [go_sem, hk, hk1, hkx, h1, h1', hx, rel_eta, str_eta, getD_map_lt, hpv, h0, hi0, hi1, hi2, hn, a0, a1, hcp, h3, hv, v0, v1, Tryd.f93, A20, A19, A18, A17, A16, A15, A14, A13, A12, A11, A10, A9, A8, A7, A6, A5, A4, A3, A2, A1, Q20, Q19, Q18, Q17, Q16, Q15, Q14, Q13, Q12, Q11, Q10, Q9, Q8, Q7, Q6, Q5, Q4, Q3, Q2, Q1, Tbl0])
                refine WcallK.i (f171 (a := (i : Int) + 1) (by simp only; omega) (by simp only [go_sem]) fun n' hn' => ?_)
                repeat' (first | refine ReqK.i (by omega) fun _ => ?_ | refine ReqK.i (by unfold maxL; omega) fun _ => ?_ | simp only [go_sem, Tryd.f93, A20, A19, A18, A17, A16, A15, A14, A13, A12, A11, A10, A9, A8, A7, A6, A5, A4, A3, A2, A1, Q20, Q19, Q18, Q17, Q16, Q15, Q14, Q13, Q12, Q11, Q10, Q9, Q8, Q7, Q6, Q5, Q4, Q3, Q2, Q1, Tbl0])
              have hnj : (t.take (j + 1)).any (fun v => decide (v < 0 ∨ m.size ≤ v)) = false := by rw [hts]; exact decide_eq_false (by omega)
              repeat' (first | refine ReqK.i (by omega) fun _ => ?_ | refine ReqK.i (by unfold maxL; omega) fun _ => ?_ | simp only [go_sem, hk, hk1, hkx, h1, h1', hx, rel_eta, str_eta, getD_map_lt, hpv, h0, hi0, hi1, hi2, hn, a0, a1, hcp, h3, hv, v0, v1, Tryd.f93, A20, A19, A18, A17, A16, A15, A14, A13, A12, A11, A10, A9, A8, A7, A6, A5, A4, A3, A2, A1, Q20, Q19, Q18, Q17, Q16, Q15, Q14, Q13, Q12, Q11, Q10, Q9, Q8, Q7, Q6, Q5, Q4, Q3, Q2, Q1, Tbl0])
              refine ⟨⟨j + 1, by omega, hnj⟩, by simp only; omega, ?_⟩
              refine Weak_to ?_ ?_ ?_ <;> simp only [go_sem]
              all_goals first | done | omega | rfl | trace_state
            obtain rfl : j = t.length := by omega
            rw [List.take_length] at hpj
            have hnx := kTg (by unfold tupC; rw [if_neg (by simp [ha]), if_neg (by rw [hpj]; decide), if_neg (by simp)])
            repeat' (first | refine ReqK.i (by omega) fun _ => ?_ | refine ReqK.i (by unfold maxL; omega) fun _ => ?_ | simp only [go_sem, hk, hk1, hkx, h1, h1', hx, rel_eta, str_eta, getD_map_lt, hpv, h0, hi0, hi1, hi2, hn, a0, a1, hcp, Nat.lt_irrefl, Tryd.f93, A20, A19, A18, A17, A16, A15, A14, A13, A12, A11, A10, A9, A8, A7, A6, A5, A4, A3, A2, A1, Q20, Q19, Q18, Q17, Q16, Q15, Q14, Q13, Q12, Q11, Q10, Q9, Q8, Q7, Q6, Q5, Q4, Q3, Q2, Q1, Tbl0])
            refine ⟨⟨0 + 1, mm, by omega, by omega, hnx⟩, by simp only; omega, ?_⟩
            refine Weak_to ?_ ?_ ?_ <;> simp only [go_sem]
            all_goals first | done | omega | rfl | trace_state
          · have hk0 : k < x.tuples.length := by omega
            rw [pvA_succ hk0] at kTb kTg
            obtain ⟨y, hpk⟩ : ∃ y, x.tuples[k] = y := ⟨_, rfl⟩
            rw [hpk] at kTb kTg
            have hk1 : (k : Int) + 1 < (x.tuples.length : Int) := by omega
            have hk3 : (0 : Int) < (k : Int) + 1 := by omega
            have hk4 : (k : Int) + 1 - 1 = (k : Int) := by omega
            have hk5 : ((k : Int) + 1).toNat = k + 1 := by omega
            by_cases ha : (t.length : Int) = x.arity
            rotate_left
            · have ha' : ((t.length : Int) = x.arity) = False := eq_false ha
              rw [kTb 9 (by unfold tupC; rw [if_pos ha]) (by decide)]
              repeat' (first | refine ReqK.i (by omega) fun _ => ?_ | refine ReqK.i (by unfold maxL; omega) fun _ => ?_ | simp only [go_sem, hk, hk1, hkx, hk0, hpk, hk3, hk4, hk5, h1, h1', hx, rel_eta, str_eta, getD_map_lt, hpv, h0, hi0, hi1, hi2, hn, a0, a1, hcp, ha', Tryd.f93, A20, A19, A18, A17, A16, A15, A14, A13, A12, A11, A10, A9, A8, A7, A6, A5, A4, A3, A2, A1, Q20, Q19, Q18, Q17, Q16, Q15, Q14, Q13, Q12, Q11, Q10, Q9, Q8, Q7, Q6, Q5, Q4, Q3, Q2, Q1, Tbl0])
              refine WcallK.i (f171 (a := (i : Int) + 1) (by simp only; omega) (by simp only [go_sem]) fun n' hn' => ?_)
              repeat' (first | refine ReqK.i (by omega) fun _ => ?_ | refine ReqK.i (by unfold maxL; omega) fun _ => ?_ | simp only [go_sem, Tryd.f93, A20, A19, A18, A17, A16, A15, A14, A13, A12, A11, A10, A9, A8, A7, A6, A5, A4, A3, A2, A1, Q20, Q19, Q18, Q17, Q16, Q15, Q14, Q13, Q12, Q11, Q10, Q9, Q8, Q7, Q6, Q5, Q4, Q3, Q2, Q1, Tbl0])
            have ha' : ((t.length : Int) = x.arity) = True := eq_true ha
            repeat' (first | refine ReqK.i (by omega) fun _ => ?_ | refine ReqK.i (by unfold maxL; omega) fun _ => ?_ | simp only [go_sem, hk, hk1, hkx, hk0, hpk, hk3, hk4, hk5, h1, h1', hx, rel_eta, str_eta, getD_map_lt, hpv, h0, hi0, hi1, hi2, hn, a0, a1, hcp, ha', Tryd.f93, A20, A19, A18, A17, A16, A15, A14, A13, A12, A11, A10, A9, A8, A7, A6, A5, A4, A3, A2, A1, Q20, Q19, Q18, Q17, Q16, Q15, Q14, Q13, Q12, Q11, Q10, Q9, Q8, Q7, Q6, Q5, Q4, Q3, Q2, Q1, Tbl0])
            refine WK_loop hm (G := G) hA20 93000 (lst []) (ι := LoopI t.length fun j => (t.take j).any (fun v => decide (v < 0 ∨ m.size ≤ v)) = false)
              ⟨fun q2 => ⟨frL [(1, .ptr (93001, 0) 0), (2, .ptr (93002, 1) 0), (78, .fz (.sl (m.rels.map enc))), (79, .fz (.i .i64 m.rels.length)), (80, .fz (.i .i64 ((i : Int) + 1))), (6, .ptr (93006, q) 0), (7, .ptr (93007, q + 1) 0), (8, .fn 171 [.ptr (93006, q) 0]), (118, .fz (.sl (x.tuples.map enc))), (119, .fz (.i .i64 x.tuples.length)), (120, .fz (.i .i64 ((k : Int) + 1))), (9, .fz (.i .i64 ((k : Int) + 1))), (10, .fz (.sl (t.map enc))), (132, .fz (.sl (t.map enc))), (133, .fz (.i .i64 t.length)), (134, .fz (.i .i64 q2.i))], hpL [((93001, 0), some ⟨[.fz (.i .i64 m.size), .fz (.sl (m.consts.map enc)), .fz (.sl (m.rels.map enc))], true, false⟩), ((93002, 1), some ⟨[.fz (.i .i64 0), .fz (.i .i64 0)], true, false⟩), ((93006, q), some ⟨[.fz (.i .i64 ((i : Int) + 1))], true, false⟩), ((93007, q + 1), some ⟨[.fz (.s x.name.l), .fz (.i .i64 x.arity), .fz (.sl (x.tuples.map enc))], true, false⟩)], mm⟩, fun q2 => t.length - q2.i⟩
              ⟨0, by omega, rfl⟩ (by kernel_rfl) ?_ ?_
            · refine Weak_to ?_ ?_ ?_ <;> simp only [go_sem]
              all_goals first | done | omega | rfl | trace_state
            rintro ⟨j, hj, hpj⟩
            try simp only at hj hpj
            rcases Nat.lt_or_ge j t.length with h3 | h3
            · have hts := any_take_succ (f := fun v => decide (v < 0 ∨ m.size ≤ v)) h3
              rw [hpj, Bool.false_or] at hts
              have hany : decide (t[j] < 0 ∨ m.size ≤ t[j]) = true → t.any (fun v => decide (v < 0 ∨ m.size ≤ v)) = true := fun h => List.any_eq_true.2 ⟨t[j], List.getElem_mem h3, h⟩
              obtain ⟨v, hv⟩ : ∃ v, t[j] = v := ⟨_, rfl⟩
              rw [hv] at hts hany
              by_cases v0 : v < 0
              · rw [kTb 3 (by unfold tupC; rw [if_neg (by simp [ha]), if_pos (hany (decide_eq_true (.inl v0)))]) (by decide)]
                repeat' (first | refine ReqK.i (by omega) fun _ => ?_ | refine ReqK.i (by unfold maxL; omega) fun _ => ?_ | simp only [go_sem, hk, hk1, hkx, hk0, hpk, hk3, hk4, hk5, h1, h1', hx, rel_eta, str_eta, getD_map_lt, hpv, h0, hi0, hi1, hi2, hn, a0, a1, hcp, h3, hv, v0, Tryd.f93, A20, A19, A18, A17, A16, A15, A14, A13, A12, A11, A10, A9, A8, A7, A6, A5, A4, A3, A2, A1, Q20, Q19, Q18, Q17, Q16, Q15, Q14, Q13, Q12, Q11, Q10, Q9, Q8, Q7, Q6, Q5, Q4, Q3, Q2, Q1, Tbl0])
                refine WcallK.i (f171 (a := (i : Int) + 1) (by simp only; omega) (by simp only [go_sem]) fun n' hn' => ?_)
                repeat' (first | refine ReqK.i (by omega) fun _ => ?_ | refine ReqK.i (by unfold maxL; omega) fun _ => ?_ | simp only [go_sem, Tryd.f93, A20, A19, A18, A17, A16, A15, A14, A13, A12, A11, A10, A9, A8, A7, A6, A5, A4, A3, A2, A1, Q20, Q19, Q18, Q17, Q16, Q15, Q14, Q13, Q12, Q11, Q10, Q9, Q8, Q7, Q6, Q5, Q4, Q3, Q2, Q1, Tbl0])
              by_cases v1 : m.size ≤ v
              · rw [kTb 3 (by unfold tupC; rw [if_neg (by simp [ha]), if_pos (hany (decide_eq_true (.inr v1)))]) (by decide)]
                repeat' (first | refine ReqK.i (by omega) fun _ => ?_ | refine ReqK.i (by unfold maxL; omega) fun _ => ?_ | simp only [go_sem, hk, hk1, hkx, hk0, hpk, hk3, hk4, hk5, h1, h1', hx, rel_eta, str_eta, getD_map_lt, hpv, h0, hi0, hi1, hi2, hn, a0, a1, hcp, h3, hv, v0, v1, Tryd.f93, A20, A19, A18, A17, A16, A15, A14, A13, A12, A11, A10, A9, A8, A7, A6, A5, A4, A3, A2, A1, Q20, Q19, Q18, Q17, Q16, Q15, Q14, Q13, Q12, Q11, Q10, Q9, Q8, Q7, Q6, Q5, Q4, Q3, Q2, Q1, Tbl0])
                refine WcallK.i (f171 (a := (i : Int) + 1) (by simp only; omega) (by simp only [go_sem]) fun n' hn' => ?_)
                repeat' (first | refine ReqK.i (by omega) fun _ => ?_ | refine ReqK.i (by unfold maxL; omega) fun _ => ?_ | simp only [go_sem, Tryd.f93, A20, A19, A18, A17, A16, A15, A14, A13, A12, A11, A10, A9, A8, A7, A6, A5, A4, A3, A2, A1, Q20, Q19, Q18, Q17, Q16, Q15, Q14, Q13, Q12, Q11, Q10, Q9, Q8, Q7, Q6, Q5, Q4, Q3, Q2, Q1, Tbl0])
              have hnj : (t.take (j + 1)).any (fun v => decide (v < 0 ∨ m.size ≤ v)) = false := by rw [hts]; exact decide_eq_false (by omega)
              repeat' (first | refine ReqK.i (by omega) fun _ => ?_ | refine ReqK.i (by unfold maxL; omega) fun _ => ?_ | simp only [go_sem, hk, hk1, hkx, hk0, hpk, hk3, hk4, hk5, h1, h1', hx, rel_eta, str_eta, getD_map_lt, hpv, h0, hi0, hi1, hi2, hn, a0, a1, hcp, h3, hv, v0, v1, Tryd.f93, A20, A19, A18, A17, A16, A15, A14, A13, A12, A11, A10, A9, A8, A7, A6, A5, A4, A3, A2, A1, Q20, Q19, Q18, Q17, Q16, Q15, Q14, Q13, Q12, Q11, Q10, Q9, Q8, Q7, Q6, Q5, Q4, Q3, Q2, Q1, Tbl0])
              refine ⟨⟨j + 1, by omega, hnj⟩, by simp only; omega, ?_⟩
              refine Weak_to ?_ ?_ ?_ <;> simp only [go_sem]
              all_goals first | done | omega | rfl | trace_state
            obtain rfl : j = t.length := by omega
            rw [List.take_length] at hpj
            by_cases hcl2 : 0 ≤ cmpL y t
            · rw [kTb 13 (by unfold tupC; rw [if_neg (by simp [ha]), if_neg (by rw [hpj]; decide), if_pos (by simp [hcl2])]) (by decide)]
              repeat' (first | refine ReqK.i (by omega) fun _ => ?_ | refine ReqK.i (by unfold maxL; omega) fun _ => ?_ | simp only [go_sem, hk, hk1, hkx, hk0, hpk, hk3, hk4, hk5, h1, h1', hx, rel_eta, str_eta, getD_map_lt, hpv, h0, hi0, hi1, hi2, hn, a0, a1, hcp, Nat.lt_irrefl, hcl2, Tryd.f93, A20, A19, A18, A17, A16, A15, A14, A13, A12, A11, A10, A9, A8, A7, A6, A5, A4, A3, A2, A1, Q20, Q19, Q18, Q17, Q16, Q15, Q14, Q13, Q12, Q11, Q10, Q9, Q8, Q7, Q6, Q5, Q4, Q3, Q2, Q1, Tbl0])
              refine WcallK.i (f171 (a := (i : Int) + 1) (by simp only; omega) (by simp only [go_sem]) fun n' hn' => ?_)
              repeat' (first | refine ReqK.i (by omega) fun _ => ?_ | refine ReqK.i (by unfold maxL; omega) fun _ => ?_ | simp only [go_sem, Tryd.f93, A20, A19, A18, A17, A16, A15, A14, A13, A12, A11, A10, A9, A8, A7, A6, A5, A4, A3, A2, A1, Q20, Q19, Q18, Q17, Q16, Q15, Q14, Q13, Q12, Q11, Q10, Q9, Q8, Q7, Q6, Q5, Q4, Q3, Q2, Q1, Tbl0])
            have hnx := kTg (by unfold tupC; rw [if_neg (by simp [ha]), if_neg (by rw [hpj]; decide), if_neg (by simp [hcl2])])
            repeat' (first | refine ReqK.i (by omega) fun _ => ?_ | refine ReqK.i (by unfold maxL; omega) fun _ => ?_ | simp only [go_sem, hk, hk1, hkx, hk0, hpk, hk3, hk4, hk5, h1, h1', hx, rel_eta, str_eta, getD_map_lt, hpv, h0, hi0, hi1, hi2, hn, a0, a1, hcp, Nat.lt_irrefl, hcl2, Tryd.f93, A20, A19, A18, A17, A16, A15, A14, A13, A12, A11, A10, A9, A8, A7, A6, A5, A4, A3, A2, A1, Q20, Q19, Q18, Q17, Q16, Q15, Q14, Q13, Q12, Q11, Q10, Q9, Q8, Q7, Q6, Q5, Q4, Q3, Q2, Q1, Tbl0])
            refine ⟨⟨(k + 1) + 1, mm, by omega, by omega, hnx⟩, by simp only; omega, ?_⟩
            refine Weak_to ?_ ?_ ?_ <;> simp only [go_sem]
            all_goals first | done | omega | rfl | trace_state
        obtain rfl : k = x.tuples.length := by omega
        have hnx := hgood (by rw [hpk2, ttM_end])
        repeat' (first | refine ReqK.i (by omega) fun _ => ?_ | refine ReqK.i (by unfold maxL; omega) fun _ => ?_ | simp only [go_sem, h1, h1', hx, rel_eta, str_eta, getD_map_lt, hpv, h0, hi0, hi1, hi2, hn, a0, a1, hcp, Nat.lt_irrefl, Tryd.f93, A20, A19, A18, A17, A16, A15, A14, A13, A12, A11, A10, A9, A8, A7, A6, A5, A4, A3, A2, A1, Q20, Q19, Q18, Q17, Q16, Q15, Q14, Q13, Q12, Q11, Q10, Q9, Q8, Q7, Q6, Q5, Q4, Q3, Q2, Q1, Tbl0])
        refine ⟨⟨(i + 1) + 1, mm, by omega, by omega, hnx⟩, by simp only; omega, ?_⟩
        refine Weak_to ?_ ?_ ?_ <;> simp only [go_sem]
        all_goals first | done | omega | rfl | trace_state
  obtain rfl : i = m.rels.length := by omega
  have hX0 : X = ⟨0, 0⟩ := by rw [hrr, hp, rrM_end]
  rw [hX0]
  repeat' (first | refine ReqK.i (by omega) fun _ => ?_ | refine ReqK.i (by unfold maxL; omega) fun _ => ?_ | simp only [go_sem, Nat.lt_irrefl, Tryd.f93, A20, A19, A18, A17, A16, A15, A14, A13, A12, A11, A10, A9, A8, A7, A6, A5, A4, A3, A2, A1, Q20, Q19, Q18, Q17, Q16, Q15, Q14, Q13, Q12, Q11, Q10, Q9, Q8, Q7, Q6, Q5, Q4, Q3, Q2, Q1, Tbl0])
end
end Go.Proofs.YtoicheicnbjfeaaDoor

namespace Go.Abs
open Go
theorem sorted_of_step {α : Type} {lt : α → α → Prop} (tr : ∀ a b c, lt a b → lt b c → lt a c) {l : List α} (h : ∀ i (h : i + 1 < l.length), lt l[i] l[i + 1]) : ∀ j i (hj : j < l.length) (hi : i < l.length), i < j → lt l[i] l[j] := by
  intro j
  induction j with
  | zero => intro i _ _ h; omega
  | succ j ih =>
    intro i hj hi hij
    rcases Nat.lt_or_ge i j with h1 | h1
    · exact tr _ _ _ (ih i (by omega) hi h1) (h j hj)
    · obtain rfl : i = j := by omega
      exact h i hj
theorem ccM_all {m : Model} (h : (ccM m 0).code = 0) : ∀ i (hi : i < m.consts.length), constC m.size (pvA m.consts i) m.consts[i] = 0 := by
  have key : ∀ i, i ≤ m.consts.length → (ccM m i).code = 0 := by
    intro i
    induction i with
    | zero => intro _; exact h
    | succ i ih =>
      intro hi
      have h1 := ih (by omega)
      rw [ccM_step (by omega)] at h1
      split at h1
      · rename_i h2; exact absurd h1 h2
      · exact h1
  intro i hi
  have h1 := key i (by omega)
  rw [ccM_step hi] at h1
  split at h1
  · rename_i h2; exact absurd h1 h2
  · rename_i h2; exact Decidable.not_not.1 h2
theorem rrM_all {m : Model} (h : (rrM m 0).code = 0) : ∀ i (hi : i < m.rels.length), relC m.size (pvA m.rels i) m.rels[i] = 0 := by
  have key : ∀ i, i ≤ m.rels.length → (rrM m i).code = 0 := by
    intro i
    induction i with
    | zero => intro _; exact h
    | succ i ih =>
      intro hi
      have h1 := ih (by omega)
      rw [rrM_step (by omega)] at h1
      split at h1
      · rename_i h2; exact absurd h1 h2
      · exact h1
  intro i hi
  have h1 := key i (by omega)
  rw [rrM_step hi] at h1
  split at h1
  · rename_i h2; exact absurd h1 h2
  · rename_i h2; exact Decidable.not_not.1 h2
theorem ttM_all {size arity : Int} {l : List (List Int)} (h : ttM size arity l 0 = 0) : ∀ k (hk : k < l.length), tupC size arity (pvA l k) l[k] = 0 := by
  have key : ∀ k, k ≤ l.length → ttM size arity l k = 0 := by
    intro k
    induction k with
    | zero => intro _; exact h
    | succ k ih =>
      intro hk
      have h1 := ih (by omega)
      rw [ttM_step (by omega)] at h1
      split at h1
      · rename_i h2; exact absurd h1 h2
      · exact h1
  intro k hk
  have h1 := key k (by omega)
  rw [ttM_step hk] at h1
  split at h1
  · rename_i h2; exact absurd h1 h2
  · rename_i h2; exact Decidable.not_not.1 h2
/-- what is known of a valid model -/
structure mgood (m : Model) : Prop where
  v : mval m
  cv : ∀ c ∈ m.consts, 0 ≤ c.value ∧ c.value < m.size
  ar : ∀ r ∈ m.rels, 0 ≤ r.arity ∧ r.arity ≤ 3
  tv : ∀ r ∈ m.rels, ∀ t ∈ r.tuples, (t.length : Int) = r.arity ∧ ∀ v ∈ t, 0 ≤ v ∧ v < m.size
theorem constC_ok {size : Int} {p : Option Const} {c : Const} (h : constC size p c = 0) : (∀ q, p = some q → q.name.l < c.name.l) ∧ 0 ≤ c.value ∧ c.value < size := by
  unfold constC at h
  by_cases hn : isName c.name = false
  · rw [if_pos hn] at h; exact absurd h (by decide)
  rw [if_neg hn] at h
  have fin : (if c.value < 0 ∨ size ≤ c.value then (3 : Int) else 0) = 0 → 0 ≤ c.value ∧ c.value < size := fun h => by
    split at h
    · exact absurd h (by decide)
    · omega
  cases p with
  | none =>
    rw [if_neg (by simp)] at h
    exact ⟨fun q hq => (by cases hq), fin h⟩
  | some q =>
    by_cases hq : q.name.l < c.name.l
    · rw [if_neg (by simp [hq])] at h
      exact ⟨fun q' hq' => (by cases hq'; exact hq), fin h⟩
    · rw [if_pos (by simp [hq])] at h; exact absurd h (by decide)
theorem relC_ok {size : Int} {p : Option MRel} {r : MRel} (h : relC size p r = 0) : (∀ q, p = some q → ltR q r) ∧ 0 ≤ r.arity ∧ r.arity ≤ 3 ∧ ttM size r.arity r.tuples 0 = 0 := by
  unfold relC at h
  by_cases hn : isName r.name = false
  · rw [if_pos hn] at h; exact absurd h (by decide)
  rw [if_neg hn] at h
  by_cases ha : r.arity < 0 ∨ 3 < r.arity
  · rw [if_pos ha] at h; exact absurd h (by decide)
  rw [if_neg ha] at h
  cases p with
  | none =>
    rw [if_neg (by simp)] at h
    exact ⟨fun q hq => (by cases hq), by omega, by omega, h⟩
  | some q =>
    by_cases hq : 0 ≤ cmpR q r
    · rw [if_pos (by simp [hq])] at h; exact absurd h (by decide)
    · rw [if_neg (by simp [hq])] at h
      exact ⟨fun q' hq' => (by cases hq'; rw [← cmpR_neg]; omega), by omega, by omega, h⟩
theorem tupC_ok {size arity : Int} {p : Option (List Int)} {t : List Int} (h : tupC size arity p t = 0) : (∀ q, p = some q → cmpL q t < 0) ∧ (t.length : Int) = arity ∧ ∀ v ∈ t, 0 ≤ v ∧ v < size := by
  unfold tupC at h
  by_cases ha : (t.length : Int) ≠ arity
  · rw [if_pos ha] at h; exact absurd h (by decide)
  rw [if_neg ha] at h
  have ha := Decidable.not_not.1 ha
  by_cases hb : (t.any fun v => decide (v < 0 ∨ size ≤ v)) = true
  · rw [if_pos hb] at h; exact absurd h (by decide)
  rw [if_neg hb] at h
  have hv : ∀ v ∈ t, 0 ≤ v ∧ v < size := fun v hv => by
    by_cases h9 : v < 0 ∨ size ≤ v
    · exact absurd (List.any_eq_true.2 ⟨v, hv, decide_eq_true h9⟩) hb
    · omega
  cases p with
  | none => exact ⟨fun q hq => (by cases hq), ha, hv⟩
  | some q =>
    by_cases hq : 0 ≤ cmpL q t
    · rw [if_pos (by simp [hq])] at h; exact absurd h (by decide)
    · exact ⟨fun q' hq' => (by cases hq'; omega), ha, hv⟩
theorem modelM_good {m : Model} (h : (modelM m).code = 0) : mgood m := by
  have h1 : ¬ (m.size < 1 ∨ 6 < m.size) := fun h2 => by unfold modelM at h; rw [if_pos h2] at h; exact absurd h (by decide)
  have h2 : ¬ (300 < m.consts.length ∨ 300 < m.rels.length) := fun h2 => by unfold modelM at h; rw [if_neg h1, if_pos h2] at h; exact absurd h (by decide)
  obtain ⟨g1, g2⟩ := modelM_cc h1 h2
  have hc : (ccM m 0).code = 0 := Decidable.byContradiction fun h3 => by rw [g1 h3] at h; exact h3 h
  have hr : (rrM m 0).code = 0 := by rw [g2 hc] at h; exact h
  have ac := ccM_all hc
  have ar := rrM_all hr
  have cs : ∀ i (h : i + 1 < m.consts.length), m.consts[i].name.l < m.consts[i + 1].name.l := fun i h => (constC_ok (ac (i + 1) h)).1 _ (by rw [pvA_succ (by omega)])
  have rs : ∀ i (h : i + 1 < m.rels.length), ltR m.rels[i] m.rels[i + 1] := fun i h => (relC_ok (ar (i + 1) h)).1 _ (by rw [pvA_succ (by omega)])
  have tt : ∀ r ∈ m.rels, ∀ k (hk : k < r.tuples.length), tupC m.size r.arity (pvA r.tuples k) r.tuples[k] = 0 := fun r hr => by
    obtain ⟨i, hi, rfl⟩ := List.getElem_of_mem hr
    exact ttM_all (relC_ok (ar i hi)).2.2.2
  have ts : ∀ r ∈ m.rels, ∀ k (h : k + 1 < r.tuples.length), cmpL r.tuples[k] r.tuples[k + 1] < 0 := fun r hr k h => (tupC_ok (tt r hr (k + 1) h)).1 _ (by rw [pvA_succ (by omega)])
  refine ⟨⟨fun i j hi hj hij => ?_, fun i j hi hj hij => ?_, fun r hr i j hi hj hij => ?_, by omega, by omega, by omega, by omega⟩, fun c hcm => ?_, fun r hrm => ?_, fun r hrm t ht => ?_⟩
  · exact sorted_of_step (lt := fun a b : Const => a.name.l < b.name.l) (fun a b c h1 h2 => str_lt_trans h1 h2) cs j i hj hi hij
  · exact sorted_of_step (lt := ltR) (fun a b c h1 h2 => ltR_trans h1 h2) rs j i hj hi hij
  · exact sorted_of_step (lt := fun a b : List Int => cmpL a b < 0) (fun a b c h1 h2 => cmpL_trans h1 (by omega)) (ts r hr) j i hj hi hij
  · obtain ⟨i, hi, rfl⟩ := List.getElem_of_mem hcm
    exact (constC_ok (ac i hi)).2
  · obtain ⟨i, hi, rfl⟩ := List.getElem_of_mem hrm
    exact ⟨(relC_ok (ar i hi)).2.1, (relC_ok (ar i hi)).2.2.1⟩
  · obtain ⟨k, hk, rfl⟩ := List.getElem_of_mem ht
    exact (tupC_ok (tt r hrm k hk)).2
theorem modelM_zero {m : Model} (h : (modelM m).code = 0) : modelM m = ⟨0, 0⟩ := by
  have h1 : ¬ (m.size < 1 ∨ 6 < m.size) := fun h2 => by unfold modelM at h; rw [if_pos h2] at h; exact absurd h (by decide)
  have h2 : ¬ (300 < m.consts.length ∨ 300 < m.rels.length) := fun h2 => by unfold modelM at h; rw [if_neg h1, if_pos h2] at h; exact absurd h (by decide)
  obtain ⟨g1, g2⟩ := modelM_cc h1 h2
  have hc : (ccM m 0).code = 0 := Decidable.byContradiction fun h3 => by rw [g1 h3] at h; exact h3 h
  have hr : (rrM m 0).code = 0 := by rw [g2 hc] at h; exact h
  rw [g2 hc]
  have ar := rrM_all hr
  have key : ∀ k i, i + k = m.rels.length → rrM m i = ⟨0, 0⟩ := by
    intro k
    induction k with
    | zero => intro i hi; obtain rfl : i = m.rels.length := by omega
              exact rrM_end m
    | succ k ih => intro i hi; rw [rrM_step (by omega), ar i (by omega), if_neg (by simp)]; exact ih (i + 1) (by omega)
  exact key m.rels.length 0 (by omega)
/-- for each individual whether a formula is true of it -/
def valsM (m : Model) (name : Str) (f : Form) : List Bool := (indiv m).map fun v => valM m f [⟨name, v⟩]
def cntM (l : List Bool) : Nat := (l.filter id).length
def bothM (x y : List Bool) : Nat := ((List.range x.length).filter fun i => x.getD i false && y.getD i false).length
structure vsP (m : Model) (f : Form) : Prop where
  m : mval m
  v : vok f
  s : szP f
  e : nestM f ≤ 800
theorem vsP_val {m : Model} {f : Form} (h : vsP m f) (env : List Const) (he : env.length ≤ 100) : valP m f env := ⟨h.m, h.v, h.s, by have := h.e; omega⟩
theorem vsP_ok {m : Model} {f : Form} (hm : mval m) (h : (checkM false f).code = 0) : vsP m f :=
  ⟨hm, checkM_vok h, ⟨checkM_fit h, by have := checkM_size h; omega⟩, by have := nest_depth f; have := Form.depth_size f; have := checkM_size h; omega⟩
def qfM (m : Model) (name : Str) (f : Form) (at' : Int) : Fault := if (checkM false f).code ≠ 0 then ⟨(checkM false f).code, at'⟩ else if (truthE m (.mk 9 name [] [f])).code ≠ 0 then ⟨(truthE m (.mk 9 name [] [f])).code, at'⟩ else ⟨0, 0⟩
def numP (m : Model) (name : Str) (f : Form) : Int × Fault := if (modelM m).code ≠ 0 then (0, modelM m) else if isName name = false then (0, ⟨10, -2⟩) else if (qfM m name f (-3)).code ≠ 0 then (0, qfM m name f (-3)) else ((cntM (valsM m name f) : Nat), ⟨0, 0⟩)
def mostP (m : Model) (name : Str) (a b : Form) : Bool × Fault := if (numP m name a).2.code ≠ 0 then (false, (numP m name a).2) else if (qfM m name b (-4)).code ≠ 0 then (false, qfM m name b (-4)) else (decide (cntM (valsM m name a) < 2 * bothM (valsM m name a) (valsM m name b)), ⟨0, 0⟩)
theorem cntM_take {l : List Bool} {i : Nat} (h : i < l.length) : cntM (l.take (i + 1)) = cntM (l.take i) + if l[i] then 1 else 0 := by
  unfold cntM
  rw [List.take_succ_eq_append_getElem h, List.filter_append, List.length_append]
  cases l[i] <;> rfl
theorem cntM_le (l : List Bool) : cntM l ≤ l.length := List.length_filter_le _ _
theorem bothM_take {x y : List Bool} {i : Nat} (h : i < x.length) : bothM (x.take (i + 1)) y = bothM (x.take i) y + if x[i] && y.getD i false then 1 else 0 := by
  unfold bothM
  rw [List.length_take, List.length_take, Nat.min_eq_left (by omega), Nat.min_eq_left (by omega), List.range_succ, List.filter_append, List.length_append]
  have e1 : (List.range i).filter (fun j => (x.take (i + 1)).getD j false && y.getD j false) = (List.range i).filter (fun j => (x.take i).getD j false && y.getD j false) := by
    refine List.filter_congr fun j hj => ?_
    have hj := List.mem_range.1 hj
    rw [List.getD_eq_getElem?_getD, List.getElem?_take, if_pos (by omega), List.getD_eq_getElem?_getD (l := x.take i), List.getElem?_take, if_pos hj]
  rw [e1]
  congr 1
  have e2 : (x.take (i + 1)).getD i false = x[i] := by rw [List.getD_eq_getElem?_getD, List.getElem?_take, if_pos (by omega), List.getElem?_eq_getElem h]; rfl
  rw [List.filter_cons, e2]
  cases hb : (x[i] && y.getD i false) <;> simp
theorem bothM_le (x y : List Bool) : bothM x y ≤ x.length := by
  unfold bothM
  refine Nat.le_trans (List.length_filter_le _ _) (by simp)
theorem indiv_get {m : Model} {i : Nat} (h : i < (indiv m).length) : (indiv m)[i] = (i : Int) := by
  simp only [indiv, List.getElem_map, List.getElem_range]; rfl
theorem valsM_len (m : Model) (name : Str) (f : Form) : (valsM m name f).length = m.size.toNat := by unfold valsM; rw [List.length_map, indiv_len]
theorem qf_flP {m : Model} {name : Str} {f : Form} (hm : mval m) (h : (checkM false f).code = 0) : okC m.consts ∧ okR m.rels ∧ szP (.mk 9 name [] [f]) ∧ (cst (.mk 9 name [] [f]) []).length ≤ 1000000 := by
  have h1 := checkM_fit h
  have h2 := checkM_size h
  have hf : (Form.mk 9 name [] [f]).fit = true := by rw [Form.fit, Form.fits, Form.fits, h1]; rfl
  have hs : (Form.mk 9 name [] [f]).size = f.size + 1 := by rw [Form.size, Form.sizes, Form.sizes]
  refine ⟨hm.c, hm.r, ⟨hf, by omega⟩, ?_⟩
  have := cst_len (.mk 9 name [] [f]) [] hf
  omega
section
variable {P : Program} {G : Nat → List FD} {T : Tbl}
def sp4p {α β γ δ ρ σ : Type} [Enc α] [Enc β] [Enc γ] [Enc δ] [Enc ρ] [Enc σ] (f : α → β → γ → δ → ρ × σ) (pre : α → β → γ → δ → Prop) : List FD → Option (D × Prop)
  | [x, y, z, w] => some (.tup [.fz (enc (f (dec x) (dec y) (dec z) (dec w)).1), .fz (enc (f (dec x) (dec y) (dec z) (dec w)).2)], x = enc (dec (α := α) x) ∧ y = enc (dec (α := β) y) ∧ z = enc (dec (α := γ) z) ∧ w = enc (dec (α := δ) w) ∧ pre (dec x) (dec y) (dec z) (dec w))
  | _ => none
@[go_sem] theorem k_sp4p {α β γ δ ρ σ : Type} [Enc α] [Enc β] [Enc γ] [Enc δ] [Enc ρ] [Enc σ] {f : α → β → γ → δ → ρ × σ} {pre : α → β → γ → δ → Prop} {x y z w : FD} : sp4p f pre [x, y, z, w] = some (.tup [.fz (enc (f (dec x) (dec y) (dec z) (dec w)).1), .fz (enc (f (dec x) (dec y) (dec z) (dec w)).2)], x = enc (dec (α := α) x) ∧ y = enc (dec (α := β) y) ∧ z = enc (dec (α := γ) z) ∧ w = enc (dec (α := δ) w) ∧ pre (dec x) (dec y) (dec z) (dec w)) := rfl
theorem sp4p_ok {α β γ δ ρ σ : Type} [Enc α] [Enc β] [Enc γ] [Enc δ] [Enc ρ] [Enc σ] {f : FuncId} {g : α → β → γ → δ → ρ × σ} {pre : α → β → γ → δ → Prop} (hc : CallOk P f) (hT : TblOk P G T)
    (h : ∀ a b c d, pre a b c d → (enc a).Wf → (enc b).Wf → (enc c).Wf → (enc d).Wf → Wcall P G f [.fz (enc a), .fz (enc b), .fz (enc c), .fz (enc d)] (hpL []) 0 (fun r _ _ => D.val r = some (.tup [.fz (enc (g a b c d).1), .fz (enc (g a b c d).2)]))) : TblOk P G (T.add f (sp4p g pre)) := by
  refine TblOk_add hT fun xs r c hx hcc => ?_
  unfold sp4p at hx
  split at hx
  · rename_i x y z w
    simp only [Option.some.injEq, Prod.mk.injEq] at hx
    obtain ⟨rfl, rfl⟩ := hx
    obtain ⟨e, e2, e3, e4, hp⟩ := hcc
    refine Wcall_wf hc fun hw => ?_
    rw [H0_eq]
    have := h (dec x) (dec y) (dec z) (dec w) hp (by rw [← e]; exact hw x (by simp)) (by rw [← e2]; exact hw y (by simp)) (by rw [← e3]; exact hw z (by simp)) (by rw [← e4]; exact hw w (by simp))
    rw [← e, ← e2, ← e3, ← e4] at this
    exact this
  · cases hx
end
end Go.Abs
namespace Go.Proofs.YtoicheicnbjfeaaDoor
open Go Go.Abs Go.Proofs
section
variable {G : Nat → List FD}
/-! ## quantity.values -/
def B22 : Tbl := A21.add 95 (sp3 valsM fun m _ f => vsP m f)
set_option maxRecDepth 100000 in
set_option maxHeartbeats 1000000 in
theorem hB22 : TblOk Tryd.prog G B22 := by
  refine sp3_ok ok95 hA21 fun m name f hpre _ _ _ => ?_
  have s1 := hpre.m.s1
  have s6 := hpre.m.s6
  have hv : ∀ v : Int, valP m f [⟨name, v⟩] := fun v => vsP_val hpre _ (by simp)
  obtain ⟨A, hA⟩ : ∃ A : Nat → List Bool, A = fun i => ((indiv m).take i).map fun v => valM m f [⟨name, v⟩] := ⟨_, rfl⟩
  have hA0 : A 0 = [] := by rw [hA]; rfl
  have hAs : ∀ i (h : i < m.size.toNat), A (i + 1) = A i ++ [valM m f [⟨name, (i : Int)⟩]] := fun i h => by
    rw [hA]
    have h2 : i < (indiv m).length := by rw [indiv_len]; exact h
    simp only [List.take_succ_eq_append_getElem h2, List.map_append, List.map_cons, List.map_nil]
    rw [indiv_get h2]
  have hAe : valsM m name f = A m.size.toNat := by rw [hA]; unfold valsM; simp only; rw [← indiv_len, List.take_length]
  have hAl : ∀ i, (A i).length ≤ 6 := fun i => by
    rw [hA]
    simp only [List.length_map, List.length_take, indiv_len]; omega
  rw [hAe]
  have kA := Kp.mk hAs
  have kL := Kp.mk hAl
  have kv := Kp.mk hv
  clear hA hAs hAl hAe hv
  refine Wcall_K (N := 26) hm (G := G) hA21 95000 (lsw [23] []) ok95 Tryd.func95 rfl rfl (by simp) (by kernel_rfl) ?_
  repeat' (first | refine ReqK.i (by omega) fun _ => ?_ | refine ReqK.i ⟨rfl, fits_of2 (by first | omega | (simp only [List.length_map, List.length_take, List.length_append, List.length_cons, List.length_nil]; omega)) (by decide)⟩ fun _ => ?_ | refine ReqK.i (by unfold maxL; omega) fun _ => ?_ | refine ReqK.i (fits_of2 (by first | omega | (simp only [List.length_map, List.length_take, List.length_append, List.length_cons, List.length_nil]; omega)) (by decide)) fun _ => ?_ | simp only [go_sem, Tryd.f95, A21, A20, A19, A18, A17, A16, A15, A14, A13, A12, A11, A10, A9, A8, A7, A6, A5, A4, A3, A2, A1, Q20, Q19, Q18, Q17, Q16, Q15, Q14, Q13, Q12, Q11, Q10, Q9, Q8, Q7, Q6, Q5, Q4, Q3, Q2, Q1, Tbl0])
  refine WK_loop hm (G := G) hA21 95000 (lsw [23] []) (ι := LoopG m.size.toNat 3 fun _ => True)
    ⟨fun q => ⟨frL [(1, .fz (.s name.l)), (3, .ptr (95003, 0) 0), (5, .ptr (95005, 1) 0), (7, .ow (95023, q.g) 1 ((A q.i).map enc)), (10, .fz (.i .i64 m.size)), (11, .fz (.i .i64 q.i))],
      hpL [((95003, 0), some ⟨[.fz (.i .i64 m.size), .fz (.sl (m.consts.map enc)), .fz (.sl (m.rels.map enc))], true, false⟩), ((95005, 1), some ⟨[.fz (.i .i64 f.kind), .fz (.s f.name.l), .fz (.sl (f.words.map enc)), .fz (.sl (f.subs.map enc))], true, false⟩), ((95023, q.g), some tok)], q.m⟩, fun q => m.size.toNat - q.i⟩
    ⟨0, 2, 3, by omega, by omega, by omega, trivial⟩ (by kernel_rfl) ?_ ?_
  · refine Weak_g [] [(95023, 2)] [] ?_ ?_ ?_ ?_ ?_ <;> simp only [go_sem, hA0]
    all_goals first | done | rfl | omega | trace_state
  rintro ⟨i, g, q, hi, hg, hq, _⟩
  try simp only at hi hg hq
  rcases Nat.lt_or_ge i m.size.toNat with h1 | h1
  · have hs := kA.out i h1
    have hl := kL.out i
    have hp := kv.out (i : Int)
    have h1' : ((i : Int) < m.size) = True := eq_true (by omega)
    obtain ⟨b, hb⟩ : ∃ b, valM m f [⟨name, (i : Int)⟩] = b := ⟨_, rfl⟩
    rw [hb] at hs
    repeat' (first | refine ReqK.i hp fun _ => ?_ | refine ReqK.i (by omega) fun _ => ?_ | refine ReqK.i ⟨rfl, fits_of2 (by first | omega | (simp only [List.length_map, List.length_take, List.length_append, List.length_cons, List.length_nil]; omega)) (by decide)⟩ fun _ => ?_ | refine ReqK.i (by unfold maxL; omega) fun _ => ?_ | refine ReqK.i (fits_of2 (by first | omega | (simp only [List.length_map, List.length_take, List.length_append, List.length_cons, List.length_nil]; omega)) (by decide)) fun _ => ?_ | simp only [go_sem, h1', hb, str_eta, form_eta, model_eta, dec_sl_cons, dec_sl_nil, dec_const, Tryd.f95, A21, A20, A19, A18, A17, A16, A15, A14, A13, A12, A11, A10, A9, A8, A7, A6, A5, A4, A3, A2, A1, Q20, Q19, Q18, Q17, Q16, Q15, Q14, Q13, Q12, Q11, Q10, Q9, Q8, Q7, Q6, Q5, Q4, Q3, Q2, Q1, Tbl0])
    refine ⟨⟨i + 1, q, q + 5, by omega, by omega, by omega, trivial⟩, by simp only; omega, ?_⟩
    refine Weak_to ?_ ?_ ?_ <;> (try simp only [go_sem, hs, List.map_append])
    all_goals first | done | omega | rfl | trace_state
  obtain rfl : i = m.size.toNat := by omega
  have h1' : ((m.size.toNat : Int) < m.size) = False := eq_false (by omega)
  repeat' (first | refine ReqK.i (by omega) fun _ => ?_ | refine ReqK.i ⟨rfl, fits_of2 (by first | omega | (simp only [List.length_map, List.length_take, List.length_append, List.length_cons, List.length_nil]; omega)) (by decide)⟩ fun _ => ?_ | refine ReqK.i (by unfold maxL; omega) fun _ => ?_ | refine ReqK.i (fits_of2 (by first | omega | (simp only [List.length_map, List.length_take, List.length_append, List.length_cons, List.length_nil]; omega)) (by decide)) fun _ => ?_ | simp only [go_sem, h1', Tryd.f95, A21, A20, A19, A18, A17, A16, A15, A14, A13, A12, A11, A10, A9, A8, A7, A6, A5, A4, A3, A2, A1, Q20, Q19, Q18, Q17, Q16, Q15, Q14, Q13, Q12, Q11, Q10, Q9, Q8, Q7, Q6, Q5, Q4, Q3, Q2, Q1, Tbl0])
/-! ## quantity.fault -/
def B23 : Tbl := B22.add 94 (sp4 qfM fun m _ _ _ => mval m)
set_option maxRecDepth 100000 in
set_option maxHeartbeats 1000000 in
theorem hB23 : TblOk Tryd.prog G B23 := by
  refine sp4_ok ok94 hB22 fun m name f at' hpre _ _ _ _ => ?_
  by_cases h1 : (checkM false f).code = 0
  rotate_left
  · have e : qfM m name f at' = ⟨(checkM false f).code, at'⟩ := by unfold qfM; rw [if_pos h1]
    rw [e]
    refine Wcall_K (N := 34) hm (G := G) hB22 94000 (lst []) ok94 Tryd.func94 rfl rfl (by simp) (by kernel_rfl) ?_
    repeat' (first | refine ReqK.i (by omega) fun _ => ?_ | refine ReqK.i ⟨rfl, fits_of2 (by first | omega | (simp only [List.length_map, List.length_take, List.length_append, List.length_cons, List.length_nil]; omega)) (by decide)⟩ fun _ => ?_ | refine ReqK.i (by unfold maxL; omega) fun _ => ?_ | refine ReqK.i (fits_of2 (by first | omega | (simp only [List.length_map, List.length_take, List.length_append, List.length_cons, List.length_nil]; omega)) (by decide)) fun _ => ?_ | simp only [go_sem, h1, form_eta, Tryd.f94, B22, A21, A20, A19, A18, A17, A16, A15, A14, A13, A12, A11, A10, A9, A8, A7, A6, A5, A4, A3, A2, A1, Q20, Q19, Q18, Q17, Q16, Q15, Q14, Q13, Q12, Q11, Q10, Q9, Q8, Q7, Q6, Q5, Q4, Q3, Q2, Q1, Tbl0])
  have hfl := qf_flP (name := name) hpre h1
  have hq : qfM m name f at' = if (truthE m (.mk 9 name [] [f])).code ≠ 0 then ⟨(truthE m (.mk 9 name [] [f])).code, at'⟩ else ⟨0, 0⟩ := by unfold qfM; rw [if_neg (by simp [h1])]
  obtain ⟨e, he⟩ : ∃ e, truthE m (.mk 9 name [] [f]) = e := ⟨_, rfl⟩
  rw [he] at hq
  have hfl2 : flP m (.mk 9 name [] [f]) := hfl
  by_cases h2 : e.code = 0
  · rw [if_neg (by simp [h2])] at hq
    rw [hq]
    refine Wcall_K (N := 34) hm (G := G) hB22 94000 (lst []) ok94 Tryd.func94 rfl rfl (by simp) (by kernel_rfl) ?_
    repeat' (first | refine ReqK.i hfl2 fun _ => ?_ | refine ReqK.i (by omega) fun _ => ?_ | refine ReqK.i ⟨rfl, fits_of2 (by first | omega | (simp only [List.length_map, List.length_take, List.length_append, List.length_cons, List.length_nil]; omega)) (by decide)⟩ fun _ => ?_ | refine ReqK.i (by unfold maxL; omega) fun _ => ?_ | refine ReqK.i (fits_of2 (by first | omega | (simp only [List.length_map, List.length_take, List.length_append, List.length_cons, List.length_nil]; omega)) (by decide)) fun _ => ?_ | simp only [go_sem, h1, h2, he, form_eta, str_eta, model_eta, Tryd.f94, B22, A21, A20, A19, A18, A17, A16, A15, A14, A13, A12, A11, A10, A9, A8, A7, A6, A5, A4, A3, A2, A1, Q20, Q19, Q18, Q17, Q16, Q15, Q14, Q13, Q12, Q11, Q10, Q9, Q8, Q7, Q6, Q5, Q4, Q3, Q2, Q1, Tbl0])
  · rw [if_pos h2] at hq
    rw [hq]
    refine Wcall_K (N := 34) hm (G := G) hB22 94000 (lst []) ok94 Tryd.func94 rfl rfl (by simp) (by kernel_rfl) ?_
    repeat' (first | refine ReqK.i hfl2 fun _ => ?_ | refine ReqK.i (by omega) fun _ => ?_ | refine ReqK.i ⟨rfl, fits_of2 (by first | omega | (simp only [List.length_map, List.length_take, List.length_append, List.length_cons, List.length_nil]; omega)) (by decide)⟩ fun _ => ?_ | refine ReqK.i (by unfold maxL; omega) fun _ => ?_ | refine ReqK.i (fits_of2 (by first | omega | (simp only [List.length_map, List.length_take, List.length_append, List.length_cons, List.length_nil]; omega)) (by decide)) fun _ => ?_ | simp only [go_sem, h1, h2, he, form_eta, str_eta, model_eta, Tryd.f94, B22, A21, A20, A19, A18, A17, A16, A15, A14, A13, A12, A11, A10, A9, A8, A7, A6, A5, A4, A3, A2, A1, Q20, Q19, Q18, Q17, Q16, Q15, Q14, Q13, Q12, Q11, Q10, Q9, Q8, Q7, Q6, Q5, Q4, Q3, Q2, Q1, Tbl0])
/-! ## quantity.Number -/
def B24 : Tbl := B23.add 28 (sp3p numP fun _ _ _ => True)
set_option maxRecDepth 100000 in
set_option maxHeartbeats 1000000 in
theorem hB24 : TblOk Tryd.prog G B24 := by
  refine sp3p_ok ok28 hB23 fun m name f _ _ _ _ => ?_
  by_cases h1 : (modelM m).code = 0
  rotate_left
  · have e : numP m name f = (0, modelM m) := by unfold numP; rw [if_pos h1]
    obtain ⟨X, hX⟩ : ∃ X, modelM m = X := ⟨_, rfl⟩
    rw [hX] at e h1
    rw [e]
    refine Wcall_K (N := 46) hm (G := G) hB23 28000 (lst []) ok28 Tryd.func28 rfl rfl (by simp) (by kernel_rfl) ?_
    repeat' (first | refine ReqK.i (by omega) fun _ => ?_ | refine ReqK.i ⟨rfl, fits_of2 (by first | omega | (simp only [List.length_map, List.length_take, List.length_append, List.length_cons, List.length_nil]; omega)) (by decide)⟩ fun _ => ?_ | refine ReqK.i (by unfold maxL; omega) fun _ => ?_ | refine ReqK.i (fits_of2 (by first | omega | (simp only [List.length_map, List.length_take, List.length_append, List.length_cons, List.length_nil]; omega)) (by decide)) fun _ => ?_ | simp only [go_sem, h1, hX, model_eta, Tryd.f28, B23, B22, A21, A20, A19, A18, A17, A16, A15, A14, A13, A12, A11, A10, A9, A8, A7, A6, A5, A4, A3, A2, A1, Q20, Q19, Q18, Q17, Q16, Q15, Q14, Q13, Q12, Q11, Q10, Q9, Q8, Q7, Q6, Q5, Q4, Q3, Q2, Q1, Tbl0])
  have hmg := modelM_good h1
  have hmz := modelM_zero h1
  have hmv := hmg.v
  have s1 := hmv.s1
  have s6 := hmv.s6
  cases h2 : isName name with
  | false =>
    have e : numP m name f = (0, ⟨10, -2⟩) := by unfold numP; rw [if_neg (by simp [h1]), if_pos h2]
    rw [e]
    refine Wcall_K (N := 46) hm (G := G) hB23 28000 (lst []) ok28 Tryd.func28 rfl rfl (by simp) (by kernel_rfl) ?_
    repeat' (first | refine ReqK.i (by omega) fun _ => ?_ | refine ReqK.i ⟨rfl, fits_of2 (by first | omega | (simp only [List.length_map, List.length_take, List.length_append, List.length_cons, List.length_nil]; omega)) (by decide)⟩ fun _ => ?_ | refine ReqK.i (by unfold maxL; omega) fun _ => ?_ | refine ReqK.i (fits_of2 (by first | omega | (simp only [List.length_map, List.length_take, List.length_append, List.length_cons, List.length_nil]; omega)) (by decide)) fun _ => ?_ | simp only [go_sem, hmz, h2, str_eta, model_eta, Tryd.f28, B23, B22, A21, A20, A19, A18, A17, A16, A15, A14, A13, A12, A11, A10, A9, A8, A7, A6, A5, A4, A3, A2, A1, Q20, Q19, Q18, Q17, Q16, Q15, Q14, Q13, Q12, Q11, Q10, Q9, Q8, Q7, Q6, Q5, Q4, Q3, Q2, Q1, Tbl0])
  | true =>
    by_cases h3 : (qfM m name f (-3)).code = 0
    rotate_left
    · have e : numP m name f = (0, qfM m name f (-3)) := by unfold numP; rw [if_neg (by simp [h1]), if_neg (by simp [h2]), if_pos h3]
      obtain ⟨X, hX⟩ : ∃ X, qfM m name f (-3) = X := ⟨_, rfl⟩
      rw [hX] at e h3
      rw [e]
      refine Wcall_K (N := 46) hm (G := G) hB23 28000 (lst []) ok28 Tryd.func28 rfl rfl (by simp) (by kernel_rfl) ?_
      repeat' (first | refine ReqK.i hmv fun _ => ?_ | refine ReqK.i (by omega) fun _ => ?_ | refine ReqK.i ⟨rfl, fits_of2 (by first | omega | (simp only [List.length_map, List.length_take, List.length_append, List.length_cons, List.length_nil]; omega)) (by decide)⟩ fun _ => ?_ | refine ReqK.i (by unfold maxL; omega) fun _ => ?_ | refine ReqK.i (fits_of2 (by first | omega | (simp only [List.length_map, List.length_take, List.length_append, List.length_cons, List.length_nil]; omega)) (by decide)) fun _ => ?_ | simp only [go_sem, hmz, h2, h3, hX, str_eta, form_eta, model_eta, Tryd.f28, B23, B22, A21, A20, A19, A18, A17, A16, A15, A14, A13, A12, A11, A10, A9, A8, A7, A6, A5, A4, A3, A2, A1, Q20, Q19, Q18, Q17, Q16, Q15, Q14, Q13, Q12, Q11, Q10, Q9, Q8, Q7, Q6, Q5, Q4, Q3, Q2, Q1, Tbl0])
    have e : numP m name f = (((cntM (valsM m name f) : Nat) : Int), ⟨0, 0⟩) := by unfold numP; rw [if_neg (by simp [h1]), if_neg (by simp [h2]), if_neg (by simp [h3])]
    have hck : (checkM false f).code = 0 := by
      unfold qfM at h3
      split at h3
      · rename_i h4; exact absurd h3 h4
      · rename_i h4; exact Decidable.not_not.1 h4
    have hvs := vsP_ok hmv hck
    have hvl := valsM_len m name f
    obtain ⟨V, hV⟩ : ∃ V, valsM m name f = V := ⟨_, rfl⟩
    rw [hV] at e hvl
    rw [e]
    have hct := fun i h => cntM_take (l := V) (i := i) h
    have hcl : ∀ i, cntM (V.take i) ≤ 6 := fun i => by have := cntM_le (V.take i); rw [List.length_take] at this; omega
    have kc := Kp.mk hct
    have kl := Kp.mk hcl
    clear hct hcl
    refine Wcall_K (N := 46) hm (G := G) hB23 28000 (lst []) ok28 Tryd.func28 rfl rfl (by simp) (by kernel_rfl) ?_
    repeat' (first | refine ReqK.i hmv fun _ => ?_ | refine ReqK.i hvs fun _ => ?_ | refine ReqK.i (by omega) fun _ => ?_ | refine ReqK.i ⟨rfl, fits_of2 (by first | omega | (simp only [List.length_map, List.length_take, List.length_append, List.length_cons, List.length_nil]; omega)) (by decide)⟩ fun _ => ?_ | refine ReqK.i (by unfold maxL; omega) fun _ => ?_ | refine ReqK.i (fits_of2 (by first | omega | (simp only [List.length_map, List.length_take, List.length_append, List.length_cons, List.length_nil]; omega)) (by decide)) fun _ => ?_ | simp only [go_sem, hmz, h2, h3, hV, str_eta, form_eta, model_eta, Tryd.f28, B23, B22, A21, A20, A19, A18, A17, A16, A15, A14, A13, A12, A11, A10, A9, A8, A7, A6, A5, A4, A3, A2, A1, Q20, Q19, Q18, Q17, Q16, Q15, Q14, Q13, Q12, Q11, Q10, Q9, Q8, Q7, Q6, Q5, Q4, Q3, Q2, Q1, Tbl0])
    refine WK_loop hm (G := G) hB23 28000 (lst []) (ι := LoopI V.length fun _ => True)
      ⟨fun q => ⟨frL [(7, .ptr (28007, 2) 0), (10, .fz (.i .i64 (cntM (V.take q.i) : Nat))), (34, .fz (.sl (V.map enc))), (35, .fz (.i .i64 V.length)), (36, .fz (.i .i64 q.i))],
        hpL [((28007, 2), some ⟨[.fz (.i .i64 0), .fz (.i .i64 0)], true, false⟩)], 9⟩, fun q => V.length - q.i⟩
      ⟨0, by omega, trivial⟩ (by kernel_rfl) ?_ ?_
    · refine Weak_to ?_ ?_ ?_ <;> simp only [go_sem]
      all_goals first | done | rfl | omega | trace_state
    rintro ⟨i, hi, _⟩
    try simp only at hi
    rcases Nat.lt_or_ge i V.length with h4 | h4
    · have hc := kc.out i h4
      have hl := kl.out i
      obtain ⟨b, hb⟩ : ∃ b, V[i] = b := ⟨_, rfl⟩
      rw [hb] at hc
      obtain ⟨K, hK⟩ : ∃ K, cntM (V.take i) = K := ⟨_, rfl⟩
      rw [hK] at hc hl
      cases b with
      | true =>
        have hc' : cntM (V.take (i + 1)) = K + 1 := hc
        repeat' (first | refine ReqK.i (by omega) fun _ => ?_ | refine ReqK.i ⟨rfl, fits_of2 (by first | omega | (simp only [List.length_map, List.length_take, List.length_append, List.length_cons, List.length_nil]; omega)) (by decide)⟩ fun _ => ?_ | refine ReqK.i (by unfold maxL; omega) fun _ => ?_ | refine ReqK.i (fits_of2 (by first | omega | (simp only [List.length_map, List.length_take, List.length_append, List.length_cons, List.length_nil]; omega)) (by decide)) fun _ => ?_ | simp only [go_sem, h4, hb, hK, getD_map_lt, Tryd.f28, B23, B22, A21, A20, A19, A18, A17, A16, A15, A14, A13, A12, A11, A10, A9, A8, A7, A6, A5, A4, A3, A2, A1, Q20, Q19, Q18, Q17, Q16, Q15, Q14, Q13, Q12, Q11, Q10, Q9, Q8, Q7, Q6, Q5, Q4, Q3, Q2, Q1, Tbl0])
        refine ⟨⟨i + 1, by omega, trivial⟩, by simp only; omega, ?_⟩
        refine Weak_to ?_ ?_ ?_ <;> simp only [go_sem, hc']
        all_goals first | done | rfl | omega | trace_state
      | false =>
        have hc' : cntM (V.take (i + 1)) = K := hc
        repeat' (first | refine ReqK.i (by omega) fun _ => ?_ | refine ReqK.i ⟨rfl, fits_of2 (by first | omega | (simp only [List.length_map, List.length_take, List.length_append, List.length_cons, List.length_nil]; omega)) (by decide)⟩ fun _ => ?_ | refine ReqK.i (by unfold maxL; omega) fun _ => ?_ | refine ReqK.i (fits_of2 (by first | omega | (simp only [List.length_map, List.length_take, List.length_append, List.length_cons, List.length_nil]; omega)) (by decide)) fun _ => ?_ | simp only [go_sem, h4, hb, hK, getD_map_lt, Tryd.f28, B23, B22, A21, A20, A19, A18, A17, A16, A15, A14, A13, A12, A11, A10, A9, A8, A7, A6, A5, A4, A3, A2, A1, Q20, Q19, Q18, Q17, Q16, Q15, Q14, Q13, Q12, Q11, Q10, Q9, Q8, Q7, Q6, Q5, Q4, Q3, Q2, Q1, Tbl0])
        refine ⟨⟨i + 1, by omega, trivial⟩, by simp only; omega, ?_⟩
        refine Weak_to ?_ ?_ ?_ <;> simp only [go_sem, hc', hK]
        all_goals first | done | rfl | omega | trace_state
    obtain rfl : i = V.length := by omega
    repeat' (first | refine ReqK.i (by omega) fun _ => ?_ | refine ReqK.i ⟨rfl, fits_of2 (by first | omega | (simp only [List.length_map, List.length_take, List.length_append, List.length_cons, List.length_nil]; omega)) (by decide)⟩ fun _ => ?_ | refine ReqK.i (by unfold maxL; omega) fun _ => ?_ | refine ReqK.i (fits_of2 (by first | omega | (simp only [List.length_map, List.length_take, List.length_append, List.length_cons, List.length_nil]; omega)) (by decide)) fun _ => ?_ | simp only [go_sem, Nat.lt_irrefl, List.take_length, Tryd.f28, B23, B22, A21, A20, A19, A18, A17, A16, A15, A14, A13, A12, A11, A10, A9, A8, A7, A6, A5, A4, A3, A2, A1, Q20, Q19, Q18, Q17, Q16, Q15, Q14, Q13, Q12, Q11, Q10, Q9, Q8, Q7, Q6, Q5, Q4, Q3, Q2, Q1, Tbl0])
end
end Go.Proofs.YtoicheicnbjfeaaDoor

namespace Go.Proofs.YtoicheicnbjfeaaDoor
open Go Go.Abs Go.Proofs

/-! ## marked: the document's numbering of variables -/
theorem Weak_rpX {G : Nat → List FD} {N : Nat} {l : List (Nat × D)} {hl : List (Abs.Id × Option O)} {X : Heap} {n : Nat} {id : Abs.Id} {t : Nat} {ys : List FD} {b : Bool} (ho : hpX hl X id = some ⟨ys.map .fz, b, false⟩) (hs : frL l t = .ptr id 0) :
    Weak G N ⟨frL l, hpX hl X, n⟩ ⟨frL ((t, .rp ys) :: l), hpX ((id, none) :: hl) X, n⟩ := by
  have := Weak_rpL (G := G) (N := N) (n := n) ho hs
  rw [x_upd] at this
  exact this
def HM (k ga : Nat) : List (Abs.Id × Option O) := [((180007, ga), some ⟨[.fz (.i .i64 k)], true, false⟩)]
theorem bnum_l (k : Nat) : (bnum k).l = 33 :: digits k := rfl
theorem digS_l (k : Nat) : (digS (k : Int)).l = digits k := rfl
def tree15 : Tv := (.q 0 (.q 1 (.q 3 (.q 7 (.q 8 (.q 10 (.r 4 (.q 5 (.br [(2, (.br [(6, (.br [(9, (.q 11 (.q 12 (.br [(13, (.q 14 (.q 15 .leaf)))])))), (11, (.q 12 (.br [(9, (.br [(13, (.q 14 (.q 15 .leaf)))]))])))])), (11, (.q 12 (.br [(6, (.br [(9, (.br [(13, (.q 14 (.q 15 .leaf)))]))]))])))])), (11, (.q 12 (.br [(2, (.br [(6, (.br [(9, (.br [(13, (.q 14 (.q 15 .leaf)))]))]))]))])))])))))))))
def tree19 : Tv := (.q 0 (.q 2 (.q 3 (.q 4 (.q 5 (.q 6 (.q 7 (.q 8 (.q 9 (.br [(1, (.br [(10, (.q 11 (.br [(12, (.q 13 (.br [(14, .leaf)])))])))])), (10, (.q 1 (.q 11 (.br [(12, (.q 13 (.br [(14, .leaf)])))]))))]))))))))))

set_option maxRecDepth 100000 in
set_option maxHeartbeats 1000000 in
set_option maxHeartbeats 8000000 in
theorem f212 {ga : Nat} : ∀ (s : Nat) (f : Abs.Form) (env : List Bind) (k n : Nat) (X : Heap), f.size ≤ s → (enc f).Wf → f.fit = true → ga < n → k + f.size ≤ 1000000 → env.length + f.size ≤ 1000000 →
    (∀ id o, X id = some o → id.2 < n ∧ id.1 ≠ 180007) →
    Wcall Tryd.prog GA 212 [.fz (enc f), .fz (enc (env.map (·.fr))), .fz (enc (env.map (·.to))), .ptr (180007, ga) 0] (hpX (HM k ga) X) n
      (fun d' H' n' => d' = .fz (enc (ren bg f env k).1) ∧ n ≤ n' ∧ HpOk H' (HM (ren bg f env k).2 ga) ∧ ∀ id o, X id = some o → H' id = some o) := by
  intro s
  induction s with
  | zero => intro f env k n X hs; have := f.size_pos; omega
  | succ s ih =>
    intro f env k n X hs hw hfit hga hk hel hX
    obtain ⟨Q, hQ⟩ : ∃ Q : D → Heap → Nat → Prop, Q = (fun d' H' n' => d' = .fz (enc (ren bg f env k).1) ∧ n ≤ n' ∧ HpOk H' (HM (ren bg f env k).2 ga) ∧ ∀ id o, X id = some o → H' id = some o) := ⟨_, rfl⟩
    obtain ⟨QQ, hQQ⟩ : ∃ QQ : D → Heap → Nat → Prop, QQ = (fun d' H' n' => D.val d' = some (.fz (enc (ren bg f env k).1)) ∧ n ≤ n' ∧ HpOk H' (HM (ren bg f env k).2 ga) ∧ ∀ id o, X id = some o → H' id = some o) := ⟨_, rfl⟩
    have hfin : ∀ d H m, QQ d H m → ∃ d' H' n', Weak GA 1 ⟨frL [(0, d)], H, m⟩ ⟨frL [(0, d')], H', n'⟩ ∧ Q d' H' n' := by
      rw [hQQ, hQ]
      rintro d H m ⟨h1, h2, h3, h4⟩
      exact ⟨_, H, m, Weak_val h1, rfl, h2, h3, h4⟩
    rw [← hQ]
    refine Wcall_post (Q := QQ) ?_ hfin
    clear hfin hQ
    have hX' : ∀ {l : List (Abs.Id × Option O)} (id o), X id = some o → (id.2 < n ∧ id.1 ≠ 180007 → apartL id l) → hpX l X id = some o := fun id o h1 h2 => (hpX_pass (h2 (hX id o h1))).trans h1
    obtain ⟨hwl, hsl, hfs⟩ := Form.fit_eq hfit
    have hsw : ∀ g ∈ f.subs, (enc g).Wf := fun g hg => Wf_mem (Wf_agg (by have h := hw; rw [enc_form] at h; exact h) (FD.sl (f.subs.map enc)) (by simp)) _ (List.mem_map_of_mem hg)
    have hss : ∀ g ∈ f.subs, g.size ≤ s ∧ g.fit = true := fun g hg => ⟨by have := Form.size_sub hg; omega, Form.fits_mem hfs hg⟩
    have hszs : f.size = Form.sizes f.subs + 1 := by cases f; rw [Form.size]; rfl
    have hreq := @ren_eq bg f env k
    obtain ⟨olds, holds⟩ : ∃ olds, env.map (·.fr) = olds := ⟨_, rfl⟩
    obtain ⟨news, hnews⟩ : ∃ news, env.map (·.to) = news := ⟨_, rfl⟩
    have hol : olds.length = env.length := by rw [← holds, List.length_map]
    have hnl : news.length = env.length := by rw [← hnews, List.length_map]
    have hog : ∀ p (h : p < env.length) (h2 : p < olds.length) (h3 : p < news.length), olds[p] = env[p].fr ∧ news[p] = env[p].to := fun p h h2 h3 => by subst holds hnews; simp
    rw [holds, hnews]
    have kX := Kp.mk @hX'
    have kQ := Kp.mk hQQ
    have kI := Kp.mk ih
    have kS := Kp.mk hsw
    have kZ := Kp.mk hss
    have kx := Kp.mk hX
    have kR := Kp.mk hreq
    have kO := Kp.mk holds
    have kN := Kp.mk hnews
    have kG := Kp.mk hog
    clear hX' hQQ ih hsw hss hX hfs hreq hw hfit holds hnews hog
    refine Wcall_K (N := 105) hm hR8 212000 (lsw [47, 71, 75, 78, 82, 101] [1000015, 1000019]) ok212 Tryd.func212 rfl rfl (by simp) (by kernel_rfl) ?_
    repeat' (first | refine ReqK.i (by omega) fun _ => ?_ | refine ReqK.i (fits_of2 (by first | omega | (simp only [List.length_map, List.length_append, List.length_cons, List.length_nil]; omega)) (by decide)) fun _ => ?_ | refine ReqK.i (by unfold maxL; omega) fun _ => ?_ | refine ReqK.i ⟨by omega, by omega⟩ fun _ => ?_ | simp only [go_sem, HM, Tryd.f212, R8, R7, R6, R5, R4, R3, R2, R1, Q20, Q19, Q18, Q17, Q16, Q15, Q14, Q13, Q12, Q11, Q10, Q9, Q8, Q7, Q6, Q5, Q4, Q3, Q2, Q1, Tbl0])
    refine WK_loop hm hR8 212000 (lsw [47, 71, 75, 78, 82, 101] [1000015, 1000019]) (ι := LoopX f.words.length (n + 5) n)
      ⟨fun q => ⟨frL [(1, .fz (.sl (olds.map enc))), (2, .fz (.sl (news.map enc))), (3, .ptr (180007, ga) 0), (4, .rp [.i .i64 f.kind, .s f.name.l, .sl (f.words.map enc), .sl (f.subs.map enc)]), (8, .ptr (212008, n + 1) 0), (9, .ptr (212009, n + 1 + 1) 0),
          (20, .fz (.sl (f.words.map enc))), (21, .fz (.i .i64 f.words.length)), (22, .fz (.i .i64 q.i))],
        hpX ([((212008, n + 1), some ⟨[.fz (.i .i64 0), .fz (.s []), .full [], .full []], true, false⟩),
          ((212009, n + 1 + 1), some ⟨[.fz (.i .i64 f.kind), .fz (.s f.name.l), .ow (212047, q.g) 1 (((f.words.take q.i).map (lkp env)).map enc), .ow (212101, n + 1 + 1 + 1) 4 ([])], true, false⟩),
          ((212047, q.g), some tok), ((212101, n + 1 + 1 + 1), some tok)] ++ HM k ga) X, q.m⟩, fun q => f.words.length - q.i⟩
      ⟨0, n + 1 + 1 + 1 + 1, n + 1 + 1 + 1 + 1 + 1, by omega, by omega, by omega, by omega⟩ (by kernel_rfl) ?_ ?_
    · refine Weak_then (Weak_rpX (id := (212004, n)) (t := 4) (b := true) (ys := [.i .i64 f.kind, .s f.name.l, .sl (f.words.map enc), .sl (f.subs.map enc)]) (by simp only [go_sem]; try rfl) (by simp only [go_sem])) ?_
      refine Weak_then (Weak_newvX 212101) (Weak_then (Weak_newvX 212047) (Weak_then (Weak_cellX (id := (212009, n + 1 + 1)) (id2 := (212047, n + 1 + 1 + 1 + 1)) (es := 1) (k := 2) (xs := []) (b := true) (by simp only [go_sem]; rfl) (by simp) (by rfl) (by simp only; omega))
        (Weak_then (Weak_cellX (id := (212009, n + 1 + 1)) (id2 := (212101, n + 1 + 1 + 1)) (es := 4) (k := 3) (xs := []) (b := true) (by simp only [go_sem]; rfl) (by simp) (by rfl) (by simp only; omega)) ?_)))
      refine Weak_toX ?_ ?_ (fun id o ho => ?_) ?_
      · simp only [go_sem]
      · simp only [go_sem, HM]
      · refine kX.out id o ho fun h1 => ?_
        ((repeat' (first | exact trivial | apply And.intro)) <;> (rintro rfl; simp only at h1; omega))
      · simp only [go_sem]
    rintro ⟨i, g1, m1, hi, hg1, hm1, hgl⟩
    try simp only at hi hg1 hm1 hgl
    rcases Nat.lt_or_ge i f.words.length with h1 | h1
    · obtain ⟨w, hwi⟩ : ∃ w, f.words[i] = w := ⟨_, rfl⟩
      have e3 := List.take_succ_eq_append_getElem h1
      rw [hwi] at e3
      have e4 : ((f.words.take (i + 1)).map (lkp env)) = ((f.words.take i).map (lkp env)) ++ [lkp env w] := by rw [e3, List.map_append]; rfl
      have e5 : ((f.words.take i).map (lkp env)).length = i := by rw [List.length_map, List.length_take]; omega
      obtain ⟨ws, hws⟩ : ∃ ws, (f.words.take i).map (lkp env) = ws := ⟨_, rfl⟩
      rw [hws] at e4 e5
      obtain ⟨v, hv⟩ : ∃ v, lkp env w = v := ⟨_, rfl⟩
      rw [hv] at e4
      have k4 := Kp.mk e4
      clear e4 e3
      repeat' (first | refine ReqK.i (by omega) fun _ => ?_ | refine ReqK.i (fits_of2 (by first | omega | (simp only [List.length_map, List.length_append, List.length_cons, List.length_nil]; omega)) (by decide)) fun _ => ?_ | refine ReqK.i (by unfold maxL; omega) fun _ => ?_ | refine ReqK.i ⟨by omega, by omega⟩ fun _ => ?_ | simp only [go_sem, HM, h1, hwi, hws, str_eta, getD_map_lt, Tryd.f212, R8, R7, R6, R5, R4, R3, R2, R1, Q20, Q19, Q18, Q17, Q16, Q15, Q14, Q13, Q12, Q11, Q10, Q9, Q8, Q7, Q6, Q5, Q4, Q3, Q2, Q1, Tbl0])
      refine WK_loop hm hR8 212000 (lsw [47, 71, 75, 78, 82, 101] [1000015, 1000019]) (ι := LookI env w)
        ⟨fun q => ⟨frL [(1, .fz (.sl (olds.map enc))), (2, .fz (.sl (news.map enc))), (3, .ptr (180007, ga) 0), (4, .rp [.i .i64 f.kind, .s f.name.l, .sl (f.words.map enc), .sl (f.subs.map enc)]), (8, .ptr (212008, n + 1) 0), (9, .ptr (212009, n + 1 + 1) 0),
            (11, .fz (.s w.l)), (12, .fz (.i .i64 (idxV q.p))), (20, .fz (.sl (f.words.map enc))), (21, .fz (.i .i64 f.words.length)), (22, .fz (.i .i64 i))],
          hpX ([((212008, n + 1), some ⟨[.fz (.i .i64 0), .fz (.s []), .full [], .full []], true, false⟩),
            ((212009, n + 1 + 1), some ⟨[.fz (.i .i64 f.kind), .fz (.s f.name.l), .ow (212047, g1) 1 (ws.map enc), .ow (212101, n + 1 + 1 + 1) 4 ([])], true, false⟩),
            ((212047, g1), some tok), ((212101, n + 1 + 1 + 1), some tok)] ++ HM k ga) X, m1⟩, fun q => q.p⟩
        ⟨env.length, Nat.le_refl _, rfl⟩ (by kernel_rfl) ?_ ?_
      · refine Weak_toX ?_ ?_ (fun id o ho => ?_) ?_
        · simp only [go_sem, idxV, hol]
        · simp only [go_sem, HM]
        · refine kX.out id o ho fun h1 => ?_
          ((repeat' (first | exact trivial | apply And.intro)) <;> (rintro rfl; simp only at h1; omega))
        · simp only [go_sem]
      rintro ⟨p, hp, hl⟩
      try simp only at hp hl
      cases p with
      | zero =>
        have hvw : v = w := by rw [← hv, hl, lkpN]
        repeat' (first | refine ReqK.i (by omega) fun _ => ?_ | refine ReqK.i (fits_of2 (by first | omega | (simp only [List.length_map, List.length_append, List.length_cons, List.length_nil]; omega)) (by decide)) fun _ => ?_ | refine ReqK.i (by unfold maxL; omega) fun _ => ?_ | refine ReqK.i ⟨by omega, by omega⟩ fun _ => ?_ | simp only [go_sem, HM, h1, hwi, idxV_zero, Tryd.f212, R8, R7, R6, R5, R4, R3, R2, R1, Q20, Q19, Q18, Q17, Q16, Q15, Q14, Q13, Q12, Q11, Q10, Q9, Q8, Q7, Q6, Q5, Q4, Q3, Q2, Q1, Tbl0])
        refine ⟨⟨i + 1, m1, m1 + 1, by omega, by omega, by omega, by omega⟩, by simp only; omega, ?_⟩
        refine Weak_toX ?_ ?_ (fun id o ho => ?_) ?_
        · simp only [go_sem]
        · simp only [go_sem, HM, k4.out, List.map_append, hvw]
        · refine kX.out id o ho fun h1 => ?_
          ((repeat' (first | exact trivial | apply And.intro)) <;> (rintro rfl; simp only at h1; omega))
        · simp only [go_sem]
      | succ p =>
        rw [lkpN] at hl
        have hpg : env.getD p default = env[p] := by rw [List.getD_eq_getElem?_getD, List.getElem?_eq_getElem (by omega), Option.getD_some]
        rw [hpg] at hl
        have hpo : p < olds.length := by omega
        have hpn : p < news.length := by omega
        obtain ⟨hg1', hg2'⟩ := kG.out p (by omega) hpo hpn
        rw [← hg1', ← hg2'] at hl
        obtain ⟨a, ha⟩ : ∃ a, olds[p] = a := ⟨_, rfl⟩
        obtain ⟨b, hb⟩ : ∃ b, news[p] = b := ⟨_, rfl⟩
        rw [ha, hb] at hl
        clear hg1' hg2' hpg
        by_cases he : a = w
        · rw [if_pos he, hv] at hl
          have he' : a.l = w.l := by rw [he]
          repeat' (first | refine ReqK.i (by omega) fun _ => ?_ | refine ReqK.i (fits_of2 (by first | omega | (simp only [List.length_map, List.length_append, List.length_cons, List.length_nil]; omega)) (by decide)) fun _ => ?_ | refine ReqK.i (by unfold maxL; omega) fun _ => ?_ | refine ReqK.i ⟨by omega, by omega⟩ fun _ => ?_ | simp only [go_sem, HM, h1, hpo, hpn, ha, hb, he', hwi, idxV_succ, getD_map_lt, Tryd.f212, R8, R7, R6, R5, R4, R3, R2, R1, Q20, Q19, Q18, Q17, Q16, Q15, Q14, Q13, Q12, Q11, Q10, Q9, Q8, Q7, Q6, Q5, Q4, Q3, Q2, Q1, Tbl0])
          refine ⟨⟨i + 1, m1, m1 + 1, by omega, by omega, by omega, by omega⟩, by simp only; omega, ?_⟩
          refine Weak_toX ?_ ?_ (fun id o ho => ?_) ?_
          · simp only [go_sem]
          · simp only [go_sem, HM, k4.out, List.map_append, hl]
          · refine kX.out id o ho fun h1 => ?_
            ((repeat' (first | exact trivial | apply And.intro)) <;> (rintro rfl; simp only at h1; omega))
          · simp only [go_sem]
        · rw [if_neg he] at hl
          have he' : ¬ a.l = w.l := fun e => he (by cases a; cases w; simp only at e; rw [e])
          repeat' (first | refine ReqK.i (by omega) fun _ => ?_ | refine ReqK.i (fits_of2 (by first | omega | (simp only [List.length_map, List.length_append, List.length_cons, List.length_nil]; omega)) (by decide)) fun _ => ?_ | refine ReqK.i (by unfold maxL; omega) fun _ => ?_ | refine ReqK.i ⟨by omega, by omega⟩ fun _ => ?_ | simp only [go_sem, HM, h1, hpo, hpn, ha, hb, he', hwi, idxV_succ, getD_map_lt, Tryd.f212, R8, R7, R6, R5, R4, R3, R2, R1, Q20, Q19, Q18, Q17, Q16, Q15, Q14, Q13, Q12, Q11, Q10, Q9, Q8, Q7, Q6, Q5, Q4, Q3, Q2, Q1, Tbl0])
          refine ⟨⟨p, by omega, hl⟩, by simp only; omega, ?_⟩
          refine Weak_toX ?_ ?_ (fun id o ho => ?_) ?_
          · simp only [go_sem, idxV]
          · simp only [go_sem, HM]
          · refine kX.out id o ho fun h1 => ?_
            ((repeat' (first | exact trivial | apply And.intro)) <;> (rintro rfl; simp only at h1; omega))
          · simp only [go_sem]
    · obtain rfl : i = f.words.length := by omega
      obtain ⟨wl, hwl2⟩ : ∃ wl, f.words.map (lkp env) = wl := ⟨_, rfl⟩
      have hres : ∃ (env2 : List Bind) (nm2 : Str) (k2 : Nat), ren bg f env k = (.mk f.kind nm2 wl (rens bg f.subs env2 k2).1, (rens bg f.subs env2 k2).2) ∧ k2 ≤ k + 1 ∧ env2.length ≤ env.length + 1 ∧
          (isQ f.kind → env2 = env ++ [⟨f.name, bnum k⟩] ∧ nm2 = bnum k ∧ k2 = k + 1) ∧ (¬ isQ f.kind → env2 = env ∧ nm2 = f.name ∧ k2 = k) := by
        rw [kR.out]
        by_cases hq : isQ f.kind
        · exact ⟨_, _, _, by rw [if_pos hq, hwl2]; rfl, by omega, by simp, fun _ => ⟨rfl, rfl, rfl⟩, fun h => absurd hq h⟩
        · exact ⟨_, _, _, by rw [if_neg hq, hwl2], by omega, by simp, fun h => absurd h hq, fun _ => ⟨rfl, rfl, rfl⟩⟩
      obtain ⟨env2, nm2, k2, hres, hk2, hel2, hq1, hq2⟩ := hres
      have kW := Kp.mk hres
      have kq1 := Kp.mk hq1
      have kq2 := Kp.mk hq2
      clear hres hq1 hq2
      obtain ⟨A, hA⟩ : ∃ A : Nat → List Abs.Form, A = fun j => (rens bg (f.subs.take j) env2 k2).1 := ⟨_, rfl⟩
      obtain ⟨K, hK⟩ : ∃ K : Nat → Nat, K = fun j => (rens bg (f.subs.take j) env2 k2).2 := ⟨_, rfl⟩
      have hA0 : A 0 = [] := by rw [hA]; simp [rens]
      have hK0 : K 0 = k2 := by rw [hK]; simp [rens]
      have hAs : ∀ j (h : j < f.subs.length), A (j + 1) = A j ++ [(ren bg f.subs[j] env2 (K j)).1] ∧ K (j + 1) = (ren bg f.subs[j] env2 (K j)).2 := fun j h => by
        rw [hA, hK]; simp only [List.take_succ_eq_append_getElem h, rens_app, rens]; constructor <;> first | rfl | trivial
      have hAl : ∀ j, (A j).length ≤ j := fun j => by rw [hA]; simp only [rens_len, List.length_take]; omega
      have hKb : ∀ j (h : j < f.subs.length), K j + f.subs[j].size ≤ 1000000 := fun j h => by
        have h6 := ((ren_le bg_le).2 (f.subs.take j) env2 k2).2
        have h7 := sizes_take h
        rw [hK]; simp only; omega
      have hAe : A f.subs.length = (rens bg f.subs env2 k2).1 ∧ K f.subs.length = (rens bg f.subs env2 k2).2 := by rw [hA, hK]; simp only [List.take_length]; first | trivial | (constructor <;> first | rfl | trivial)
      obtain ⟨olds2, ho2⟩ : ∃ olds2, env2.map (·.fr) = olds2 := ⟨_, rfl⟩
      obtain ⟨news2, hn2⟩ : ∃ news2, env2.map (·.to) = news2 := ⟨_, rfl⟩
      have kA := Kp.mk hAs
      have kB := Kp.mk hAl
      have kC := Kp.mk hKb
      have kE := Kp.mk hAe
      have ko2 := Kp.mk ho2
      have kn2 := Kp.mk hn2
      clear hAs hAl hKb hAe hA hK ho2 hn2
      by_cases hq : isQ f.kind
      case' pos =>
        obtain ⟨q1, q2, q3⟩ := kq1.out hq
        have hdl := digits_len k
        unfold isQ at hq
        have o2 : olds2 = olds ++ [f.name] := by rw [← ko2.out, q1, List.map_append, kO.out]; rfl
        have n2 : news2 = news ++ [bnum k] := by rw [← kn2.out, q1, List.map_append, kN.out]; rfl
        have hq8 : ((f.kind = 8) = True ∧ (f.kind = 8) = True) ∨ ((f.kind = 8) = False ∧ (f.kind = 9) = True) := by
          rcases hq with h | h
          · exact .inl ⟨eq_true h, eq_true h⟩
          · exact .inr ⟨eq_false (by omega), eq_true h⟩
        rcases hq8 with ⟨h8, h9⟩ | ⟨h8, h9⟩
        all_goals
          repeat' (first | refine ReqK.i (by omega) fun _ => ?_ | refine ReqK.i (fits_of2 (by first | omega | (simp only [List.length_map, List.length_append, List.length_cons, List.length_nil]; omega)) (by decide)) fun _ => ?_ | refine ReqK.i (by unfold maxL; omega) fun _ => ?_ | refine ReqK.i ⟨by omega, by omega⟩ fun _ => ?_ | simp only [go_sem, HM, h8, h9, Nat.lt_irrefl, List.take_length, hwl2, str_eta, digS_l, Tryd.f212, R8, R7, R6, R5, R4, R3, R2, R1, Q20, Q19, Q18, Q17, Q16, Q15, Q14, Q13, Q12, Q11, Q10, Q9, Q8, Q7, Q6, Q5, Q4, Q3, Q2, Q1, Tbl0])
          refine WK_join (ι := Unit) (fun _ => ⟨frL [(1, .fz (.sl (olds2.map enc))), (2, .fz (.sl (news2.map enc))), (3, .ptr (180007, ga) 0), (4, .rp [.i .i64 f.kind, .s f.name.l, .sl (f.words.map enc), .sl (f.subs.map enc)]), (8, .ptr (212008, n + 1) 0), (9, .ptr (212009, n + 1 + 1) 0)],
              hpX ([((212008, n + 1), some ⟨[.fz (.i .i64 0), .fz (.s []), .full [], .full []], true, false⟩),
                ((212009, n + 1 + 1), some ⟨[.fz (.i .i64 f.kind), .fz (.s nm2.l), .ow (212047, g1) 1 (wl.map enc), .ow (212101, n + 1 + 1 + 1) 4 ([])], true, false⟩),
                ((212101, n + 1 + 1 + 1), some tok)] ++ HM k2 ga) X, m1 + 100⟩) (fun _ => ?_) ?_
          rotate_left
          · refine WK_drawV hm hR8 212000 (lsw [47, 71, 75, 78, 82, 101] [1000015, 1000019]) tree15 (by kernel_rfl) (by kernel_rfl) ?_
            repeat' (first | refine And.intro ?_ ?_ | exact True.intro | refine ReqK.i (by omega) fun _ => ?_ | refine ReqK.i (fits_of2 (by first | omega | (simp only [List.length_map, List.length_append, List.length_cons, List.length_nil]; omega)) (by decide)) fun _ => ?_ | refine ReqK.i (by unfold maxL; omega) fun _ => ?_ | refine ReqK.i ⟨by omega, by omega⟩ fun _ => ?_ | simp only [go_sem, HM, tree15, digS_l, Tryd.f212, R8, R7, R6, R5, R4, R3, R2, R1, Q20, Q19, Q18, Q17, Q16, Q15, Q14, Q13, Q12, Q11, Q10, Q9, Q8, Q7, Q6, Q5, Q4, Q3, Q2, Q1, Tbl0])
            all_goals
              refine ⟨(), ?_⟩
              refine Weak_then (Weak_toV (l := [(1, .fz (.sl (olds2.map enc))), (2, .fz (.sl (news2.map enc))), (3, .ptr (180007, ga) 0), (4, .rp [.i .i64 f.kind, .s f.name.l, .sl (f.words.map enc), .sl (f.subs.map enc)]), (8, .ptr (212008, n + 1) 0), (9, .ptr (212009, n + 1 + 1) 0)]) (by simp only [go_sem, o2, n2, bnum_l, List.map_append])) ?_
              refine Weak_toX ?_ ?_ (fun id o ho => ?_) ?_
              · simp only [go_sem]
              · simp only [go_sem, HM, q2, q3, bnum_l]
              · refine kX.out id o ho fun h1 => ?_
                ((repeat' (first | exact trivial | apply And.intro)) <;> (rintro rfl; simp only at h1; omega))
              · (try simp only [go_sem]); omega
          repeat' (first | refine ReqK.i (by omega) fun _ => ?_ | refine ReqK.i (fits_of2 (by first | omega | (simp only [List.length_map, List.length_append, List.length_cons, List.length_nil]; omega)) (by decide)) fun _ => ?_ | refine ReqK.i (by unfold maxL; omega) fun _ => ?_ | refine ReqK.i ⟨by omega, by omega⟩ fun _ => ?_ | simp only [go_sem, HM, str_eta, Tryd.f212, R8, R7, R6, R5, R4, R3, R2, R1, Q20, Q19, Q18, Q17, Q16, Q15, Q14, Q13, Q12, Q11, Q10, Q9, Q8, Q7, Q6, Q5, Q4, Q3, Q2, Q1, Tbl0])
      case' neg =>
        obtain ⟨q1, q2, q3⟩ := kq2.out hq
        unfold isQ at hq
        have o2 : olds2 = olds := by rw [← ko2.out, q1, kO.out]
        have n2 : news2 = news := by rw [← kn2.out, q1, kN.out]
        have h8 : (f.kind = 8) = False := eq_false fun h => hq (.inl h)
        have h9 : (f.kind = 9) = False := eq_false fun h => hq (.inr h)
        repeat' (first | refine ReqK.i (by omega) fun _ => ?_ | refine ReqK.i (fits_of2 (by first | omega | (simp only [List.length_map, List.length_append, List.length_cons, List.length_nil]; omega)) (by decide)) fun _ => ?_ | refine ReqK.i (by unfold maxL; omega) fun _ => ?_ | refine ReqK.i ⟨by omega, by omega⟩ fun _ => ?_ | simp only [go_sem, HM, h8, h9, Nat.lt_irrefl, List.take_length, hwl2, str_eta, Tryd.f212, R8, R7, R6, R5, R4, R3, R2, R1, Q20, Q19, Q18, Q17, Q16, Q15, Q14, Q13, Q12, Q11, Q10, Q9, Q8, Q7, Q6, Q5, Q4, Q3, Q2, Q1, Tbl0])
      all_goals
        refine WK_loop hm hR8 212000 (lsw [47, 71, 75, 78, 82, 101] [1000015, 1000019]) (ι := LoopX f.subs.length (n + 5) n)
          ⟨fun q => ⟨frL [(1, .fz (.sl (olds2.map enc))), (2, .fz (.sl (news2.map enc))), (3, .ptr (180007, ga) 0), (4, .rp [.i .i64 f.kind, .s f.name.l, .sl (f.words.map enc), .sl (f.subs.map enc)]), (8, .ptr (212008, n + 1) 0), (9, .ptr (212009, n + 1 + 1) 0), (85, .fz (.i .i64 f.subs.length)), (86, .fz (.i .i64 q.i))],
            hpX ([((212008, n + 1), some ⟨[.fz (.i .i64 0), .fz (.s []), .full [], .full []], true, false⟩),
              ((212009, n + 1 + 1), some ⟨[.fz (.i .i64 f.kind), .fz (.s nm2.l), .ow (212047, g1) 1 (wl.map enc), .ow (212101, q.g) 4 ((A q.i).map enc)], true, false⟩),
              ((212101, q.g), some tok)] ++ HM (K q.i) ga) X, q.m⟩, fun q => f.subs.length - q.i⟩
          ⟨0, n + 1 + 1 + 1, m1 + 100, by omega, by omega, by omega, by omega⟩ (by kernel_rfl) ?_ ?_
        · refine Weak_toX ?_ ?_ (fun id o ho => ?_) ?_
          · simp only [go_sem, o2, n2]
          · simp only [go_sem, HM, hA0, hK0, q2, q3]
          · refine kX.out id o ho fun h1 => ?_
            ((repeat' (first | exact trivial | apply And.intro)) <;> (rintro rfl; simp only at h1; omega))
          · (try simp only [go_sem]); (try omega)
        rintro ⟨j, g2, m2, hj, hg2, hm2, hgl2⟩
        try simp only at hj hg2 hm2 hgl2
        rcases Nat.lt_or_ge j f.subs.length with h2 | h2
        · have hmem := List.getElem_mem h2
          obtain ⟨x, hx⟩ : ∃ x, f.subs[j] = x := ⟨_, rfl⟩
          have hz := kZ.out _ hmem
          have hwx := kS.out _ hmem
          have hAj := kA.out j h2
          have hKj := kC.out j h2
          have hAlj := kB.out j
          rw [hx] at hz hwx hAj hKj
          obtain ⟨y, hy⟩ : ∃ y, (ren bg x env2 (K j)).1 = y := ⟨_, rfl⟩
          obtain ⟨kj, hkj⟩ : ∃ kj, (ren bg x env2 (K j)).2 = kj := ⟨_, rfl⟩
          rw [hy, hkj] at hAj
          have hlx := Form.size_mem (l := f.subs) hmem
          rw [hx] at hlx
          have ih2 : ∀ (m3 : Nat), m2 ≤ m3 → _ := fun m3 hm3 => kI.out x env2 (K j) m3 (hpX [((212008, n + 1), some ⟨[.fz (.i .i64 0), .fz (.s []), .full [], .full []], true, false⟩),
              ((212009, n + 1 + 1), some ⟨[.fz (.i .i64 f.kind), .fz (.s nm2.l), .ow (212047, g1) 1 (wl.map enc), .ow (212101, g2) 4 ((A j).map enc)], true, false⟩), ((212101, g2), some tok)] X) hz.1 hwx hz.2 (by omega) (by omega) (by omega) (by
            intro id o ho
            simp only [hpX] at ho
            split at ho
            · rename_i e; subst e; simp only; omega
            split at ho
            · rename_i e; subst e; simp only; omega
            split at ho
            · rename_i e; subst e; simp only; omega
            · have := kx.out id o ho; omega)
          simp only [hy, hkj] at ih2
          rw [enc_form (f := x), ko2.out, kn2.out] at ih2
          obtain ⟨fy, hfy⟩ : ∃ fy, enc y = fy := ⟨_, rfl⟩
          have hcy : fy.cells.length = 4 := by rw [← hfy, enc_form]; rfl
          have hff : (flatFz [fy]).all oneB = true := by rw [← hfy]; have h9 := @flats_forms [y]; exact eq_true h9 ▸ h9
          repeat' (first | refine ReqK.i (by omega) fun _ => ?_ | refine ReqK.i (fits_of2 (by first | omega | (simp only [List.length_map, List.length_append, List.length_cons, List.length_nil]; omega)) (by decide)) fun _ => ?_ | refine ReqK.i (by unfold maxL; omega) fun _ => ?_ | refine ReqK.i ⟨by omega, by omega⟩ fun _ => ?_ | simp only [go_sem, HM, h2, hx, getD_map_lt, Tryd.f212, R8, R7, R6, R5, R4, R3, R2, R1, Q20, Q19, Q18, Q17, Q16, Q15, Q14, Q13, Q12, Q11, Q10, Q9, Q8, Q7, Q6, Q5, Q4, Q3, Q2, Q1, Tbl0])
          refine WK_drawV hm hR8 212000 (lsw [47, 71, 75, 78, 82, 101] [1000015, 1000019]) tree19 (by kernel_rfl) (by kernel_rfl) ?_
          repeat' (first | refine And.intro ?_ ?_ | exact True.intro | refine ReqK.i (by omega) fun _ => ?_ | refine ReqK.i (fits_of2 (by first | omega | (simp only [List.length_map, List.length_append, List.length_cons, List.length_nil]; omega)) (by decide)) fun _ => ?_ | refine ReqK.i (by unfold maxL; omega) fun _ => ?_ | refine ReqK.i ⟨by omega, by omega⟩ fun _ => ?_ | simp only [go_sem, HM, tree19, h2, hx, getD_map_lt, Tryd.f212, R8, R7, R6, R5, R4, R3, R2, R1, Q20, Q19, Q18, Q17, Q16, Q15, Q14, Q13, Q12, Q11, Q10, Q9, Q8, Q7, Q6, Q5, Q4, Q3, Q2, Q1, Tbl0])
          all_goals
            refine WcallK.i (Wcall_toX (by simp only [go_sem, argL]) (by simp only [go_sem, HM]) (fun id o ho => ?_) (Nat.le_refl _) (Wcall_mono (ih2 _ (by omega)) ?_))
            · simp only [hpX] at ho
              split at ho
              · rename_i e; subst e; simp only [go_sem]; exact Option.some.inj ho
              split at ho
              · rename_i e; subst e; simp only [go_sem]; exact Option.some.inj ho
              split at ho
              · rename_i e; subst e; simp only [go_sem]; exact Option.some.inj ho
              · refine kX.out id o ho fun h1 => ?_
                ((repeat' (first | exact trivial | apply And.intro)) <;> (rintro rfl; simp only at h1; omega))
            rintro d' H' n' ⟨rfl, e1, e2, e3⟩
            have c6 := e3 (212008, n + 1) ⟨[.fz (.i .i64 0), .fz (.s []), .full [], .full []], true, false⟩ (by simp only [go_sem])
            have c7 := e3 (212009, n + 1 + 1) ⟨[.fz (.i .i64 f.kind), .fz (.s nm2.l), .ow (212047, g1) 1 (wl.map enc), .ow (212101, g2) 4 ((A j).map enc)], true, false⟩ (by simp only [go_sem])
            have c8 := e3 (212101, g2) tok (by simp only [go_sem])
            have hX2 : ∀ id o, X id = some o → H' id = some o := fun id o ho => e3 id o (kX.out id o ho fun h1 => by
              ((repeat' (first | exact trivial | apply And.intro)) <;> (rintro rfl; simp only at h1; omega)))
            clear e3
            simp only [go_sem, HM] at e2
            have c1 := e2
            rw [show H' = hpX [] H' from rfl]
            rw [hfy]
            repeat' (first | refine ReqK.i (by omega) fun _ => ?_ | refine ReqK.i (fits_of2 (by first | omega | (simp only [List.length_map, List.length_append, List.length_cons, List.length_nil]; omega)) (by decide)) fun _ => ?_ | refine ReqK.i (by unfold maxL; omega) fun _ => ?_ | refine ReqK.i ⟨by omega, by omega⟩ fun _ => ?_ | simp only [go_sem, HM, tree19, c1, c6, c7, c8, h2, hcy, hff, Tryd.f212, R8, R7, R6, R5, R4, R3, R2, R1, Q20, Q19, Q18, Q17, Q16, Q15, Q14, Q13, Q12, Q11, Q10, Q9, Q8, Q7, Q6, Q5, Q4, Q3, Q2, Q1, Tbl0])
            refine ⟨⟨j + 1, n', n' + 1, by omega, by omega, by omega, by omega⟩, by simp only; omega, ?_⟩
            refine Weak_toX ?_ ?_ (fun id o ho => ?_) ?_
            · simp only [go_sem]
            · simp only [go_sem, HM, c1, c6, c7, c8, hAj.1, hAj.2, hfy, List.map_append]
            · have h1 := kx.out id o ho
              refine (hpX_pass ?_).trans (hX2 id o ho)
              ((repeat' (first | exact trivial | apply And.intro)) <;> (rintro rfl; simp only at h1; omega))
            · simp only [go_sem]
        · obtain rfl : j = f.subs.length := by omega
          have hE := kE.out
          repeat' (first | refine ReqK.i (by omega) fun _ => ?_ | refine ReqK.i (fits_of2 (by first | omega | (simp only [List.length_map, List.length_append, List.length_cons, List.length_nil]; omega)) (by decide)) fun _ => ?_ | refine ReqK.i (by unfold maxL; omega) fun _ => ?_ | refine ReqK.i ⟨by omega, by omega⟩ fun _ => ?_ | simp only [go_sem, HM, Nat.lt_irrefl, Tryd.f212, R8, R7, R6, R5, R4, R3, R2, R1, Q20, Q19, Q18, Q17, Q16, Q15, Q14, Q13, Q12, Q11, Q10, Q9, Q8, Q7, Q6, Q5, Q4, Q3, Q2, Q1, Tbl0])
          rw [kQ.out, kW.out]
          refine ⟨?_, by omega, ?_, fun id o ho => kX.out id o ho fun h1 => ?_⟩
          · rw [← hE.1]; simp only [go_sem]
          · rw [← hE.2]; simp only [go_sem, HM]
          · ((repeat' (first | exact trivial | apply And.intro)) <;> (rintro rfl; simp only at h1; omega))
end Go.Proofs.YtoicheicnbjfeaaDoor

namespace Go.Abs
open Go
theorem swp_eq {fr to : List Str} {f : Abs.Form} : swp fr to f = .mk f.kind (if isQ f.kind then swapW fr to f.name else f.name) (f.words.map (swapW fr to)) (f.subs.map (swp fr to)) := by cases f; rw [swp, swps_map]; rfl
theorem swapW_hit {fr to : List Str} {w : Str} {i : Nat} (h1 : i < fr.length) (h2 : i < to.length) (he : fr[i] = w) : swapW (fr.drop i) (to.drop i) w = to[i] := by
  rw [List.drop_eq_getElem_cons h1, List.drop_eq_getElem_cons h2]; unfold swapW; rw [if_pos he]
theorem swapW_miss {fr to : List Str} {w : Str} {i : Nat} (h1 : i < fr.length) (h2 : i < to.length) (he : ¬ fr[i] = w) : swapW (fr.drop i) (to.drop i) w = swapW (fr.drop (i + 1)) (to.drop (i + 1)) w := by
  rw [List.drop_eq_getElem_cons h1, List.drop_eq_getElem_cons h2]; conv => lhs; unfold swapW
  rw [if_neg he]
theorem swapW_end {fr to : List Str} {w : Str} {i : Nat} (h : fr.length ≤ i) : swapW (fr.drop i) (to.drop i) w = w := by
  rw [List.drop_of_length_le h]; unfold swapW; rfl
end Go.Abs
namespace Go.Proofs.YtoicheicnbjfeaaDoor
open Go Go.Abs Go.Proofs

/-! ## Swapped -/
def tree17s : Tv := (.q 0 (.q 1 (.q 2 (.q 3 (.q 4 (.q 5 (.q 6 .leaf)))))))
def tree23s : Tv := (.q 0 (.q 1 (.q 2 (.q 3 (.q 4 (.q 5 (.q 6 (.q 7 (.q 8 (.q 9 (.q 10 (.br [(11, (.q 12 (.br [(13, .leaf)])))]))))))))))))
def swpPre (f : Abs.Form) (fr to : List Str) : Prop := f.fit = true ∧ fr.length = to.length
def R9 : Tbl := R8.add 213 (sp3 (fun f fr to => swp fr to f) swpPre)
set_option maxRecDepth 100000 in
set_option maxHeartbeats 1000000 in
set_option maxHeartbeats 8000000 in
theorem hR9 : TblOk Tryd.prog GA R9 := by
  refine sp3_rec Form.size ok213 hR8 fun n hT f fr to hn hpre hw hwf hwt => ?_
  obtain ⟨hfit, hlen⟩ := hpre
  have la := Wf_sl hwf
  simp only [List.length_map, maxL] at la
  obtain ⟨hwl, hsl, hfs⟩ := Form.fit_eq hfit
  have hsz : ∀ g ∈ f.subs, g.size < n ∧ swpPre g fr to := fun g hg => ⟨by have := Form.size_sub hg; omega, Form.fits_mem hfs hg, hlen⟩
  obtain ⟨nm2, hnm2⟩ : ∃ nm2, (if isQ f.kind then swapW fr to f.name else f.name) = nm2 := ⟨_, rfl⟩
  obtain ⟨wl, hwl2⟩ : ∃ wl, f.words.map (swapW fr to) = wl := ⟨_, rfl⟩
  obtain ⟨A, hA⟩ : ∃ A : Nat → List Abs.Form, A = fun j => (f.subs.take j).map (swp fr to) := ⟨_, rfl⟩
  have hA0 : A 0 = [] := by rw [hA]; rfl
  have hAs : ∀ j (h : j < f.subs.length), A (j + 1) = A j ++ [swp fr to f.subs[j]] := fun j h => by rw [hA]; simp only [List.take_succ_eq_append_getElem h, List.map_append, List.map_cons, List.map_nil]
  have hAl : ∀ j, (A j).length ≤ f.subs.length := fun j => by rw [hA]; simp only [List.length_map, List.length_take]; omega
  have hres : swp fr to f = .mk f.kind nm2 wl (A f.subs.length) := by rw [swp_eq, hnm2, hwl2, hA]; simp only [List.take_length]
  rw [hres]
  have kT := Kp.mk hT
  have kz := Kp.mk hsz
  have kn := Kp.mk hnm2
  have kA := Kp.mk hAs
  have kL := Kp.mk hAl
  clear hT hsz hnm2 hAs hAl hA hres hw hwf hwt hfit hfs hn
  refine Wcall_K (N := 95) hm kT.out 213000 (lsw [45, 91] [1000017, 1000023]) ok213 Tryd.func213 rfl rfl (by simp) (by kernel_rfl) ?_
  repeat' (first | refine ReqK.i (by omega) fun _ => ?_ | refine ReqK.i (fits_of2 (by first | omega | (simp only [List.length_map, List.length_append, List.length_cons, List.length_nil]; omega)) (by decide)) fun _ => ?_ | refine ReqK.i (by unfold maxL; omega) fun _ => ?_ | simp only [go_sem, Tryd.f213, R8, R7, R6, R5, R4, R3, R2, R1, Q20, Q19, Q18, Q17, Q16, Q15, Q14, Q13, Q12, Q11, Q10, Q9, Q8, Q7, Q6, Q5, Q4, Q3, Q2, Q1, Tbl0])
  refine WK_weak2 (Weak_rpL (id := (213003, 0)) (t := 3) (b := true) (ys := [.i .i64 f.kind, .s f.name.l, .sl (f.words.map enc), .sl (f.subs.map enc)]) (by simp only [go_sem]) (by simp only [go_sem])) ?_
  refine WK_loop hm kT.out 213000 (lsw [45, 91] [1000017, 1000023]) (ι := LoopG f.words.length 5 fun _ => True)
    ⟨fun q => ⟨frL [(1, .fz (.sl (fr.map enc))), (2, .fz (.sl (to.map enc))), (3, .rp [.i .i64 f.kind, .s f.name.l, .sl (f.words.map enc), .sl (f.subs.map enc)]), (6, .ptr (213006, 1) 0), (7, .ptr (213007, 2) 0), (19, .fz (.sl (f.words.map enc))), (20, .fz (.i .i64 f.words.length)), (21, .fz (.i .i64 q.i))],
      hpL [((213006, 1), some ⟨[.fz (.i .i64 0), .fz (.s []), .full [], .full []], true, false⟩), ((213007, 2), some ⟨[.fz (.i .i64 f.kind), .fz (.s f.name.l), .ow (213045, q.g) 1 (((f.words.take q.i).map (swapW fr to)).map enc), .ow (213091, 3) 4 ([])], true, false⟩), ((213045, q.g), some tok), ((213091, 3), some tok)], q.m⟩, fun q => f.words.length - q.i⟩
    ⟨0, 4, 5, by omega, by omega, by omega, trivial⟩ (by kernel_rfl) ?_ ?_
  · refine Weak_g [] [(213091, 3), (213045, 4)] [] ?_ ?_ ?_ ?_ ?_ <;> simp only [go_sem]
    all_goals first | done | rfl | trace_state
  rintro ⟨i, g1, m1, hi, hg1, hm1, _⟩
  try simp only at hi hg1 hm1
  rcases Nat.lt_or_ge i f.words.length with h1 | h1
  · obtain ⟨w, hwi⟩ : ∃ w, f.words[i] = w := ⟨_, rfl⟩
    have e4 : ((f.words.take (i + 1)).map (swapW fr to)) = ((f.words.take i).map (swapW fr to)) ++ [swapW fr to w] := by rw [List.take_succ_eq_append_getElem h1, hwi, List.map_append]; rfl
    have e5 : ((f.words.take i).map (swapW fr to)).length = i := by rw [List.length_map, List.length_take]; omega
    obtain ⟨ws, hws⟩ : ∃ ws, (f.words.take i).map (swapW fr to) = ws := ⟨_, rfl⟩
    rw [hws] at e4 e5
    obtain ⟨v, hv⟩ : ∃ v, swapW fr to w = v := ⟨_, rfl⟩
    rw [hv] at e4
    repeat' (first | refine ReqK.i (by omega) fun _ => ?_ | refine ReqK.i (fits_of2 (by first | omega | (simp only [List.length_map, List.length_append, List.length_cons, List.length_nil]; omega)) (by decide)) fun _ => ?_ | refine ReqK.i (by unfold maxL; omega) fun _ => ?_ | simp only [go_sem, h1, hwi, hws, str_eta, getD_map_lt, Tryd.f213, R8, R7, R6, R5, R4, R3, R2, R1, Q20, Q19, Q18, Q17, Q16, Q15, Q14, Q13, Q12, Q11, Q10, Q9, Q8, Q7, Q6, Q5, Q4, Q3, Q2, Q1, Tbl0])
    refine WK_loop hm kT.out 213000 (lsw [45, 91] [1000017, 1000023]) (ι := LoopI fr.length fun p => v = swapW (fr.drop p) (to.drop p) w)
      ⟨fun q => ⟨frL [(1, .fz (.sl (fr.map enc))), (2, .fz (.sl (to.map enc))), (3, .rp [.i .i64 f.kind, .s f.name.l, .sl (f.words.map enc), .sl (f.subs.map enc)]), (6, .ptr (213006, 1) 0), (7, .ptr (213007, 2) 0), (9, .fz (.s w.l)), (19, .fz (.sl (f.words.map enc))), (20, .fz (.i .i64 f.words.length)), (21, .fz (.i .i64 i)), (26, .fz (.i .i64 fr.length)), (27, .fz (.i .i64 q.i))],
        hpL [((213006, 1), some ⟨[.fz (.i .i64 0), .fz (.s []), .full [], .full []], true, false⟩), ((213007, 2), some ⟨[.fz (.i .i64 f.kind), .fz (.s f.name.l), .ow (213045, g1) 1 (ws.map enc), .ow (213091, 3) 4 ([])], true, false⟩), ((213045, g1), some tok), ((213091, 3), some tok)], m1⟩, fun q => fr.length - q.i⟩
      ⟨0, by omega, hv.symm⟩ (by kernel_rfl) ?_ ?_
    · refine Weak_to ?_ ?_ ?_ <;> simp only [go_sem]
    rintro ⟨p, hp, hl⟩
    try simp only at hp hl
    rcases Nat.lt_or_ge p fr.length with h2 | h2
    · have h3 : p < to.length := by omega
      by_cases he : fr[p] = w
      · have hl2 := hl.trans (swapW_hit h2 h3 he)
        have he' : fr[p].l = w.l := by rw [he]
        repeat' (first | refine ReqK.i (by omega) fun _ => ?_ | refine ReqK.i (fits_of2 (by first | omega | (simp only [List.length_map, List.length_append, List.length_cons, List.length_nil]; omega)) (by decide)) fun _ => ?_ | refine ReqK.i (by unfold maxL; omega) fun _ => ?_ | simp only [go_sem, h1, h2, h3, he', hwi, getD_map_lt, Tryd.f213, R8, R7, R6, R5, R4, R3, R2, R1, Q20, Q19, Q18, Q17, Q16, Q15, Q14, Q13, Q12, Q11, Q10, Q9, Q8, Q7, Q6, Q5, Q4, Q3, Q2, Q1, Tbl0])
        refine ⟨⟨i + 1, m1, m1 + 1, by omega, by omega, by omega, trivial⟩, by simp only; omega, ?_⟩
        refine Weak_to ?_ ?_ ?_ <;> simp only [go_sem, e4, List.map_append, hl2]
      · have hl2 := hl.trans (swapW_miss h2 h3 he)
        have he' : ¬ fr[p].l = w.l := fun e => he (by cases h7 : fr[p]; cases w; rw [h7] at e; simp only at e; rw [e])
        repeat' (first | refine ReqK.i (by omega) fun _ => ?_ | refine ReqK.i (fits_of2 (by first | omega | (simp only [List.length_map, List.length_append, List.length_cons, List.length_nil]; omega)) (by decide)) fun _ => ?_ | refine ReqK.i (by unfold maxL; omega) fun _ => ?_ | simp only [go_sem, h1, h2, h3, he', hwi, getD_map_lt, Tryd.f213, R8, R7, R6, R5, R4, R3, R2, R1, Q20, Q19, Q18, Q17, Q16, Q15, Q14, Q13, Q12, Q11, Q10, Q9, Q8, Q7, Q6, Q5, Q4, Q3, Q2, Q1, Tbl0])
        refine ⟨⟨p + 1, by omega, hl2⟩, by simp only; omega, ?_⟩
        refine Weak_to ?_ ?_ ?_ <;> simp only [go_sem]
    · obtain rfl : p = fr.length := by omega
      have hl2 := hl.trans (swapW_end (Nat.le_refl _))
      repeat' (first | refine ReqK.i (by omega) fun _ => ?_ | refine ReqK.i (fits_of2 (by first | omega | (simp only [List.length_map, List.length_append, List.length_cons, List.length_nil]; omega)) (by decide)) fun _ => ?_ | refine ReqK.i (by unfold maxL; omega) fun _ => ?_ | simp only [go_sem, h1, Nat.lt_irrefl, hwi, Tryd.f213, R8, R7, R6, R5, R4, R3, R2, R1, Q20, Q19, Q18, Q17, Q16, Q15, Q14, Q13, Q12, Q11, Q10, Q9, Q8, Q7, Q6, Q5, Q4, Q3, Q2, Q1, Tbl0])
      refine ⟨⟨i + 1, m1, m1 + 1, by omega, by omega, by omega, trivial⟩, by simp only; omega, ?_⟩
      refine Weak_to ?_ ?_ ?_ <;> simp only [go_sem, e4, List.map_append, hl2]
  · obtain rfl : i = f.words.length := by omega
    by_cases hq : isQ f.kind
    case' pos =>
      have hn2 := kn.out
      rw [if_pos hq] at hn2
      unfold isQ at hq
      have hq8 : ((f.kind = 8) = True ∧ (f.kind = 8) = True) ∨ ((f.kind = 8) = False ∧ (f.kind = 9) = True) := by
        rcases hq with h | h
        · exact .inl ⟨eq_true h, eq_true h⟩
        · exact .inr ⟨eq_false (by omega), eq_true h⟩
      rcases hq8 with ⟨h8, h9⟩ | ⟨h8, h9⟩
      all_goals
        repeat' (first | refine ReqK.i (by omega) fun _ => ?_ | refine ReqK.i (fits_of2 (by first | omega | (simp only [List.length_map, List.length_append, List.length_cons, List.length_nil]; omega)) (by decide)) fun _ => ?_ | refine ReqK.i (by unfold maxL; omega) fun _ => ?_ | simp only [go_sem, h8, h9, Nat.lt_irrefl, List.take_length, hwl2, str_eta, Tryd.f213, R8, R7, R6, R5, R4, R3, R2, R1, Q20, Q19, Q18, Q17, Q16, Q15, Q14, Q13, Q12, Q11, Q10, Q9, Q8, Q7, Q6, Q5, Q4, Q3, Q2, Q1, Tbl0])
        refine WK_loop hm kT.out 213000 (lsw [45, 91] [1000017, 1000023]) (ι := LoopI fr.length fun p => nm2 = swapW (fr.drop p) (to.drop p) f.name)
          ⟨fun q => ⟨frL [(1, .fz (.sl (fr.map enc))), (2, .fz (.sl (to.map enc))), (3, .rp [.i .i64 f.kind, .s f.name.l, .sl (f.words.map enc), .sl (f.subs.map enc)]), (6, .ptr (213006, 1) 0), (7, .ptr (213007, 2) 0), (57, .fz (.i .i64 fr.length)), (58, .fz (.i .i64 q.i))],
            hpL [((213006, 1), some ⟨[.fz (.i .i64 0), .fz (.s []), .full [], .full []], true, false⟩), ((213007, 2), some ⟨[.fz (.i .i64 f.kind), .fz (.s f.name.l), .ow (213045, g1) 1 (wl.map enc), .ow (213091, 3) 4 ([])], true, false⟩), ((213091, 3), some tok)], m1⟩, fun q => fr.length - q.i⟩
          ⟨0, by omega, hn2.symm⟩ (by kernel_rfl) ?_ ?_
        · refine Weak_to ?_ ?_ ?_ <;> simp only [go_sem]
        rintro ⟨p, hp, hl⟩
        try simp only at hp hl
        rcases Nat.lt_or_ge p fr.length with h2 | h2
        have h3 : p < to.length := by omega
        by_cases he : fr[p] = f.name
        case' pos =>
          have hl2 := hl.trans (swapW_hit h2 h3 he)
          have he' : fr[p].l = f.name.l := by rw [he]
          repeat' (first | refine ReqK.i (by omega) fun _ => ?_ | refine ReqK.i (fits_of2 (by first | omega | (simp only [List.length_map, List.length_append, List.length_cons, List.length_nil]; omega)) (by decide)) fun _ => ?_ | refine ReqK.i (by unfold maxL; omega) fun _ => ?_ | simp only [go_sem, h2, h3, he', getD_map_lt, Tryd.f213, R8, R7, R6, R5, R4, R3, R2, R1, Q20, Q19, Q18, Q17, Q16, Q15, Q14, Q13, Q12, Q11, Q10, Q9, Q8, Q7, Q6, Q5, Q4, Q3, Q2, Q1, Tbl0])
          refine WK_drawV hm kT.out 213000 (lsw [45, 91] [1000017, 1000023]) tree17s (by kernel_rfl) (by kernel_rfl) ?_
          repeat' (first | refine And.intro ?_ ?_ | exact True.intro | refine ReqK.i (by omega) fun _ => ?_ | refine ReqK.i (fits_of2 (by first | omega | (simp only [List.length_map, List.length_append, List.length_cons, List.length_nil]; omega)) (by decide)) fun _ => ?_ | refine ReqK.i (by unfold maxL; omega) fun _ => ?_ | simp only [go_sem, tree17s, h2, h3, he', getD_map_lt, Tryd.f213, R8, R7, R6, R5, R4, R3, R2, R1, Q20, Q19, Q18, Q17, Q16, Q15, Q14, Q13, Q12, Q11, Q10, Q9, Q8, Q7, Q6, Q5, Q4, Q3, Q2, Q1, Tbl0])
        case neg =>
          have hl2 := hl.trans (swapW_miss h2 h3 he)
          have he' : ¬ fr[p].l = f.name.l := fun e => he (by cases h7 : fr[p]; cases h8 : f.name; rw [h7, h8] at e; simp only at e; rw [e])
          repeat' (first | refine ReqK.i (by omega) fun _ => ?_ | refine ReqK.i (fits_of2 (by first | omega | (simp only [List.length_map, List.length_append, List.length_cons, List.length_nil]; omega)) (by decide)) fun _ => ?_ | refine ReqK.i (by unfold maxL; omega) fun _ => ?_ | simp only [go_sem, h2, h3, he', getD_map_lt, Tryd.f213, R8, R7, R6, R5, R4, R3, R2, R1, Q20, Q19, Q18, Q17, Q16, Q15, Q14, Q13, Q12, Q11, Q10, Q9, Q8, Q7, Q6, Q5, Q4, Q3, Q2, Q1, Tbl0])
          refine WK_drawV hm kT.out 213000 (lsw [45, 91] [1000017, 1000023]) tree17s (by kernel_rfl) (by kernel_rfl) ?_
          repeat' (first | refine And.intro ?_ ?_ | exact True.intro | refine ReqK.i (by omega) fun _ => ?_ | refine ReqK.i (fits_of2 (by first | omega | (simp only [List.length_map, List.length_append, List.length_cons, List.length_nil]; omega)) (by decide)) fun _ => ?_ | refine ReqK.i (by unfold maxL; omega) fun _ => ?_ | simp only [go_sem, tree17s, h2, h3, he', getD_map_lt, Tryd.f213, R8, R7, R6, R5, R4, R3, R2, R1, Q20, Q19, Q18, Q17, Q16, Q15, Q14, Q13, Q12, Q11, Q10, Q9, Q8, Q7, Q6, Q5, Q4, Q3, Q2, Q1, Tbl0])
          refine ⟨⟨p + 1, by omega, hl2⟩, by simp only; omega, ?_⟩
          refine Weak_to ?_ ?_ ?_ <;> simp only [go_sem]
        case' inr =>
          obtain rfl : p = fr.length := by omega
          have hl2 := hl.trans (swapW_end (Nat.le_refl _))
          repeat' (first | refine ReqK.i (by omega) fun _ => ?_ | refine ReqK.i (fits_of2 (by first | omega | (simp only [List.length_map, List.length_append, List.length_cons, List.length_nil]; omega)) (by decide)) fun _ => ?_ | refine ReqK.i (by unfold maxL; omega) fun _ => ?_ | simp only [go_sem, Nat.lt_irrefl, Tryd.f213, R8, R7, R6, R5, R4, R3, R2, R1, Q20, Q19, Q18, Q17, Q16, Q15, Q14, Q13, Q12, Q11, Q10, Q9, Q8, Q7, Q6, Q5, Q4, Q3, Q2, Q1, Tbl0])
    case' neg =>
      have hl2 := kn.out.symm
      rw [if_neg hq] at hl2
      unfold isQ at hq
      have h8 : (f.kind = 8) = False := eq_false fun h => hq (.inl h)
      have h9 : (f.kind = 9) = False := eq_false fun h => hq (.inr h)
      repeat' (first | refine ReqK.i (by omega) fun _ => ?_ | refine ReqK.i (fits_of2 (by first | omega | (simp only [List.length_map, List.length_append, List.length_cons, List.length_nil]; omega)) (by decide)) fun _ => ?_ | refine ReqK.i (by unfold maxL; omega) fun _ => ?_ | simp only [go_sem, h8, h9, Nat.lt_irrefl, List.take_length, hwl2, str_eta, Tryd.f213, R8, R7, R6, R5, R4, R3, R2, R1, Q20, Q19, Q18, Q17, Q16, Q15, Q14, Q13, Q12, Q11, Q10, Q9, Q8, Q7, Q6, Q5, Q4, Q3, Q2, Q1, Tbl0])
    all_goals
      refine WK_loop hm kT.out 213000 (lsw [45, 91] [1000017, 1000023]) (ι := LoopG f.subs.length 5 fun _ => True)
        ⟨fun q => ⟨frL [(1, .fz (.sl (fr.map enc))), (2, .fz (.sl (to.map enc))), (3, .rp [.i .i64 f.kind, .s f.name.l, .sl (f.words.map enc), .sl (f.subs.map enc)]), (6, .ptr (213006, 1) 0), (7, .ptr (213007, 2) 0), (76, .fz (.i .i64 f.subs.length)), (77, .fz (.i .i64 q.i))],
          hpL [((213006, 1), some ⟨[.fz (.i .i64 0), .fz (.s []), .full [], .full []], true, false⟩), ((213007, 2), some ⟨[.fz (.i .i64 f.kind), .fz (.s nm2.l), .ow (213045, g1) 1 (wl.map enc), .ow (213091, q.g) 4 ((A q.i).map enc)], true, false⟩), ((213091, q.g), some tok)], q.m⟩, fun q => f.subs.length - q.i⟩
        ⟨0, 3, m1 + 10, by omega, by omega, by omega, trivial⟩ (by kernel_rfl) ?_ ?_
      · refine Weak_to ?_ ?_ ?_ <;> (try simp only [go_sem, hA0, hl2])
        all_goals first | done | omega
      rintro ⟨j, g2, m2, hj, hg2, hm2, _⟩
      try simp only at hj hg2 hm2
      rcases Nat.lt_or_ge j f.subs.length with h2 | h2
      · have hms := kA.out j h2
        have hml := kL.out j
        have hsz := kz.out _ (List.getElem_mem h2)
        obtain ⟨x, hx⟩ : ∃ x, f.subs[j] = x := ⟨_, rfl⟩
        rw [hx] at hms hsz
        repeat' (first | refine ReqK.i hsz fun _ => ?_ | refine ReqK.i (by omega) fun _ => ?_ | refine ReqK.i (fits_of2 (by first | omega | (simp only [List.length_map, List.length_append, List.length_cons, List.length_nil]; omega)) (by decide)) fun _ => ?_ | refine ReqK.i (by unfold maxL; omega) fun _ => ?_ | simp only [go_sem, h2, hx, getD_map_lt, Tryd.f213, R8, R7, R6, R5, R4, R3, R2, R1, Q20, Q19, Q18, Q17, Q16, Q15, Q14, Q13, Q12, Q11, Q10, Q9, Q8, Q7, Q6, Q5, Q4, Q3, Q2, Q1, Tbl0])
        refine WK_drawV hm kT.out 213000 (lsw [45, 91] [1000017, 1000023]) tree23s (by kernel_rfl) (by kernel_rfl) ?_
        repeat' (first | refine And.intro ?_ ?_ | exact True.intro | refine ReqK.i hsz fun _ => ?_ | refine ReqK.i (by omega) fun _ => ?_ | refine ReqK.i (fits_of2 (by first | omega | (simp only [List.length_map, List.length_append, List.length_cons, List.length_nil]; omega)) (by decide)) fun _ => ?_ | refine ReqK.i (by unfold maxL; omega) fun _ => ?_ | simp only [go_sem, tree23s, h2, hx, getD_map_lt, Tryd.f213, R8, R7, R6, R5, R4, R3, R2, R1, Q20, Q19, Q18, Q17, Q16, Q15, Q14, Q13, Q12, Q11, Q10, Q9, Q8, Q7, Q6, Q5, Q4, Q3, Q2, Q1, Tbl0])
        all_goals
          refine ⟨⟨j + 1, m2, m2 + 10, by omega, by omega, by omega, trivial⟩, by simp only; omega, ?_⟩
          refine Weak_to ?_ ?_ ?_ <;> (try simp only [go_sem, hms, List.map_append])
          all_goals first | done | omega
      · obtain rfl : j = f.subs.length := by omega
        repeat' (first | refine ReqK.i (by omega) fun _ => ?_ | refine ReqK.i (fits_of2 (by first | omega | (simp only [List.length_map, List.length_append, List.length_cons, List.length_nil]; omega)) (by decide)) fun _ => ?_ | refine ReqK.i (by unfold maxL; omega) fun _ => ?_ | simp only [go_sem, Nat.lt_irrefl, Tryd.f213, R8, R7, R6, R5, R4, R3, R2, R1, Q20, Q19, Q18, Q17, Q16, Q15, Q14, Q13, Q12, Q11, Q10, Q9, Q8, Q7, Q6, Q5, Q4, Q3, Q2, Q1, Tbl0])
end Go.Proofs.YtoicheicnbjfeaaDoor

namespace Go.Proofs.YtoicheicnbjfeaaDoor
open Go Go.Abs Go.Proofs

/-! ## With, the document's canonical form -/
theorem zip_fr : ∀ {fr to : List Str}, fr.length = to.length → (List.zipWith Abs.Bind.mk fr to).map (·.fr) = fr ∧ (List.zipWith Abs.Bind.mk fr to).map (·.to) = to
  | [], [], _ => ⟨rfl, rfl⟩
  | a :: fr, b :: to, h => by
    have := zip_fr (fr := fr) (to := to) (by simpa using h)
    simp only [List.zipWith_cons_cons, List.map_cons, this.1, this.2, and_self]
theorem oldsM_succ (i : Nat) : oldsM (i + 1) = oldsM i ++ [bnum i] := by unfold oldsM; rw [List.range_succ, List.map_append]; rfl
theorem newsM_succ (us : List Str) (i : Nat) : newsM us (i + 1) = newsM us i ++ [vnum (nextM us (ctr us 0 i))] := by unfold newsM; rw [List.range_succ, List.map_append]; rfl
theorem oldsM_len (i : Nat) : (oldsM i).length = i := by unfold oldsM; rw [List.length_map, List.length_range]
theorem newsM_len (us : List Str) (i : Nat) : (newsM us i).length = i := by unfold newsM; rw [List.length_map, List.length_range]
theorem ctr_le (us : List Str) : ∀ i, ctr us 0 i ≤ i * (us.length + 1)
  | 0 => by simp [ctr]
  | i + 1 => by
    rw [ctr_succ, Nat.add_mul, Nat.one_mul]
    have h1 := ctr_le us i
    have h2 := (nextM_spec us (ctr us 0 i)).2.1
    omega
structure LoopW (len n0 : Nat) where
  i : Nat
  g1 : Nat
  g2 : Nat
  m : Nat
  hi : i ≤ len
  h1 : g1 < m
  h2 : g2 < m
  hm : n0 ≤ m
structure CtrI (us : List Str) (k0 : Nat) where
  k : Nat
  hk : k0 ≤ k
  h : nextM us k = nextM us k0
def wthPre (f : Abs.Form) (fr to : List Str) : Prop := f.fit = true ∧ f.size ≤ 1000 ∧ fr.length = to.length ∧ fr.length ≤ 1000
def R10 : Tbl := R9.add 180 (sp3 (fun f fr to => wthM f (List.zipWith Abs.Bind.mk fr to)) wthPre)
set_option maxRecDepth 100000 in
set_option maxHeartbeats 1000000 in
set_option maxHeartbeats 8000000 in
theorem hR10 : TblOk Tryd.prog GA R10 := by
  refine sp3_ok ok180 hR9 fun f fr to hpre hw _ _ => ?_
  obtain ⟨hfit, hsz, hlen, hle⟩ := hpre
  obtain ⟨z1, z2⟩ := zip_fr hlen
  obtain ⟨env, henv⟩ : ∃ env, List.zipWith Abs.Bind.mk fr to = env := ⟨_, rfl⟩
  rw [henv] at z1 z2 ⊢
  have hel : env.length ≤ 1000 := by rw [← z1, List.length_map] at hle; exact hle
  have h183 := f212 (ga := 2) f.size f env 0 3 (hpL [((180006, 1), some ⟨[.fz (.i .i64 0), .fz (.s []), .full [], .full []], true, false⟩)]) (Nat.le_refl _) hw hfit (by omega) (by omega) (by omega) (fun id o ho => by
    simp only [hpL] at ho
    split at ho
    · rename_i e; subst e; simp only; omega
    · cases ho)
  rw [z1, z2] at h183
  obtain ⟨g, hg⟩ : ∃ g, (ren bg f env 0).1 = g := ⟨_, rfl⟩
  obtain ⟨c2, hc2⟩ : ∃ c2, (ren bg f env 0).2 = c2 := ⟨_, rfl⟩
  have hc2l : c2 ≤ 1000 := by have := ((ren_le bg_le).1 f env 0).2; omega
  have hgs : g.size ≤ 1000 := by rw [← hg, ren_size]; exact hsz
  have hgf : g.fit = true := by rw [← hg, ren_fit]; exact hfit
  obtain ⟨us, hus⟩ : ∃ us, cstR g [] [] = us := ⟨_, rfl⟩
  have hul : us.length ≤ 1000000 := by
    have := cstR_len g [] [] hgf
    rw [hus] at this; simp only [List.length_nil] at this; omega
  have hres : wthM f env = swp (oldsM c2) (newsM us c2) g := by
    unfold wthM usedR markM; rw [hg, hc2, hus]
  obtain ⟨r, hr⟩ : ∃ r, swp (oldsM c2) (newsM us c2) g = r := ⟨_, rfl⟩
  rw [hres, hr]
  rw [hg, hc2] at h183
  rw [enc_form (f := f)] at h183
  clear hres z1 z2 henv hlen hg hc2 hw
  refine Wcall_K (N := 62) hm hR9 180000 (lsw [30, 49, 55] []) ok180 Tryd.func180 rfl rfl (by simp) (by kernel_rfl) ?_
  repeat' (first | refine ReqK.i (by omega) fun _ => ?_ | refine ReqK.i (fits_of2 (by first | omega | (simp only [List.length_map, List.length_append, List.length_cons, List.length_nil]; omega)) (by decide)) fun _ => ?_ | refine ReqK.i (by unfold maxL; omega) fun _ => ?_ | refine ReqK.i ⟨by omega, by omega⟩ fun _ => ?_ | simp only [go_sem, Tryd.f180, R9, R8, R7, R6, R5, R4, R3, R2, R1, Q20, Q19, Q18, Q17, Q16, Q15, Q14, Q13, Q12, Q11, Q10, Q9, Q8, Q7, Q6, Q5, Q4, Q3, Q2, Q1, Tbl0])
  refine WcallK.i (Wcall_hd rfl (Wcall_toX (by simp only [go_sem, argL]) (by simp only [go_sem, HM]; try rfl) (fun id o ho => ?_) (Nat.le_refl _) (Wcall_mono h183 ?_)))
  · simp only [hpL] at ho
    split at ho
    · rename_i e; subst e; simp only [go_sem]; exact Option.some.inj ho
    · cases ho
  rintro d' H' n1 ⟨rfl, e1, e2, e3⟩
  have b6 := e3 (180006, 1) ⟨[.fz (.i .i64 0), .fz (.s []), .full [], .full []], true, false⟩ (by simp only [go_sem])
  simp only [go_sem, HM] at e2
  have b7 := e2
  clear e3 e2
  rw [show H' = hpX [] H' from rfl, enc_form (f := g)]
  repeat' (first | refine ReqK.i ⟨hgf, hgs⟩ fun _ => ?_ | refine ReqK.i (by omega) fun _ => ?_ | refine ReqK.i (fits_of2 (by first | omega | (simp only [List.length_map, List.length_append, List.length_cons, List.length_nil]; omega)) (by decide)) fun _ => ?_ | refine ReqK.i (by unfold maxL; omega) fun _ => ?_ | refine ReqK.i ⟨by omega, by omega⟩ fun _ => ?_ | simp only [go_sem, b6, b7, hgf, hgs, hus, form_eta, Tryd.f180, R9, R8, R7, R6, R5, R4, R3, R2, R1, Q20, Q19, Q18, Q17, Q16, Q15, Q14, Q13, Q12, Q11, Q10, Q9, Q8, Q7, Q6, Q5, Q4, Q3, Q2, Q1, Tbl0])
  refine WK_weak2 (Weak_to (l := [(6, .ptr (180006, 1) 0), (7, .ptr (180007, 2) 0), (8, .ptr (180008, n1) 0), (9, .full []), (21, .fz (.sl (us.map enc))), (22, .fz (.i .i64 us.length)), (23, .fz (.i .i64 0))]) (hl := [((180006, 1), some ⟨[.fz (.i .i64 0), .fz (.s []), .full [], .full []], true, false⟩), ((180007, 2), some ⟨[.fz (.i .i64 (c2 : Nat))], true, false⟩), ((180008, n1), some ⟨[.fz (.i .i64 g.kind), .fz (.s g.name.l), .fz (.sl (g.words.map enc)), .fz (.sl (g.subs.map enc))], true, false⟩)]) (n := n1 + 1) ?_ ?_ ?_) ?_
  · simp only [go_sem]
  · simp only [go_sem, b6, b7]
  · simp only [go_sem]
  clear b6 b7
  refine WK_loop hm hR9 180000 (lsw [30, 49, 55] []) (ι := LoopG us.length (n1 + 2) fun _ => True)
    ⟨fun q => ⟨frL [(6, .ptr (180006, 1) 0), (7, .ptr (180007, 2) 0), (8, .ptr (180008, n1) 0), (9, .ow (180030, q.g) 1 ((us.take q.i).map enc)), (21, .fz (.sl (us.map enc))), (22, .fz (.i .i64 us.length)), (23, .fz (.i .i64 q.i))],
      hpL [((180006, 1), some ⟨[.fz (.i .i64 0), .fz (.s []), .full [], .full []], true, false⟩), ((180007, 2), some ⟨[.fz (.i .i64 (c2 : Nat))], true, false⟩), ((180008, n1), some ⟨[.fz (.i .i64 g.kind), .fz (.s g.name.l), .fz (.sl (g.words.map enc)), .fz (.sl (g.subs.map enc))], true, false⟩), ((180030, q.g), some tok)], q.m⟩, fun q => us.length - q.i⟩
    ⟨0, n1 + 1, n1 + 2, by omega, by omega, by omega, trivial⟩ (by kernel_rfl) ?_ ?_
  · refine Weak_g [] [(180030, n1 + 1)] [] ?_ ?_ ?_ ?_ ?_ <;> simp only [go_sem]
    all_goals first | done | rfl | omega | (repeat' (first | omega | rfl | apply And.intro)) | trace_state
  rintro ⟨i, gg, m, hi, hgg, hmm, _⟩
  try simp only at hi hgg hmm
  rcases Nat.lt_or_ge i us.length with h1 | h1
  · obtain ⟨w, hwi⟩ : ∃ w, us[i] = w := ⟨_, rfl⟩
    have e3 := List.take_succ_eq_append_getElem h1
    rw [hwi] at e3
    have e5 : (us.take i).length = i := by rw [List.length_take]; omega
    obtain ⟨ut, hut⟩ : ∃ ut, us.take i = ut := ⟨_, rfl⟩
    rw [hut] at e3 e5
    repeat' (first | refine ReqK.i (by omega) fun _ => ?_ | refine ReqK.i (fits_of2 (by first | omega | (simp only [List.length_map, List.length_append, List.length_cons, List.length_nil]; omega)) (by decide)) fun _ => ?_ | refine ReqK.i (by unfold maxL; omega) fun _ => ?_ | refine ReqK.i ⟨by omega, by omega⟩ fun _ => ?_ | simp only [go_sem, h1, hwi, hut, str_eta, getD_map_lt, Tryd.f180, R9, R8, R7, R6, R5, R4, R3, R2, R1, Q20, Q19, Q18, Q17, Q16, Q15, Q14, Q13, Q12, Q11, Q10, Q9, Q8, Q7, Q6, Q5, Q4, Q3, Q2, Q1, Tbl0])
    refine ⟨⟨i + 1, m, m + 1, by omega, by omega, by omega, trivial⟩, by simp only; omega, ?_⟩
    refine Weak_to ?_ ?_ ?_ <;> simp only [go_sem, e3, List.map_append]
  obtain rfl : i = us.length := by omega
  repeat' (first | refine ReqK.i (by omega) fun _ => ?_ | refine ReqK.i (fits_of2 (by first | omega | (simp only [List.length_map, List.length_append, List.length_cons, List.length_nil]; omega)) (by decide)) fun _ => ?_ | refine ReqK.i (by unfold maxL; omega) fun _ => ?_ | refine ReqK.i ⟨by omega, by omega⟩ fun _ => ?_ | simp only [go_sem, Nat.lt_irrefl, List.take_length, Tryd.f180, R9, R8, R7, R6, R5, R4, R3, R2, R1, Q20, Q19, Q18, Q17, Q16, Q15, Q14, Q13, Q12, Q11, Q10, Q9, Q8, Q7, Q6, Q5, Q4, Q3, Q2, Q1, Tbl0])
  refine WK_loop hm hR9 180000 (lsw [30, 49, 55] []) (ι := LoopW c2 (m + 2))
    ⟨fun q => ⟨frL [(6, .ptr (180006, 1) 0), (7, .ptr (180007, 2) 0), (8, .ptr (180008, n1) 0), (9, .fz (.sl (us.map enc))), (12, .ow (180049, q.g1) 1 ((oldsM q.i).map enc)), (13, .ow (180055, q.g2) 1 ((newsM us q.i).map enc)), (14, .fz (.i .i64 (ctr us 0 q.i : Nat))), (15, .fz (.i .i64 q.i))],
      hpL [((180006, 1), some ⟨[.fz (.i .i64 0), .fz (.s []), .full [], .full []], true, false⟩), ((180007, 2), some ⟨[.fz (.i .i64 (c2 : Nat))], true, false⟩), ((180008, n1), some ⟨[.fz (.i .i64 g.kind), .fz (.s g.name.l), .fz (.sl (g.words.map enc)), .fz (.sl (g.subs.map enc))], true, false⟩), ((180049, q.g1), some tok), ((180055, q.g2), some tok)], q.m⟩, fun q => c2 - q.i⟩
    ⟨0, m, m + 1, m + 2, by omega, by omega, by omega, by omega⟩ (by kernel_rfl) ?_ ?_
  · refine Weak_g [] [(180049, m), (180055, m + 1)] [] ?_ ?_ ?_ ?_ ?_ <;> simp only [go_sem]
    all_goals first | done | rfl | omega | (repeat' (first | omega | rfl | apply And.intro)) | trace_state
  rintro ⟨i, ga, gb, m2, hi2, hga, hgb, hm2⟩
  try simp only at hi2 hga hgb hm2
  have hol := oldsM_len i
  have hnl := newsM_len us i
  have hcl := ctr_le us i
  rcases Nat.lt_or_ge i c2 with h2 | h2
  · have hos := oldsM_succ i
    have hns := newsM_succ us i
    have hcs := ctr_succ us i 0
    obtain ⟨ol, hole⟩ : ∃ ol, oldsM i = ol := ⟨_, rfl⟩
    obtain ⟨nl, hnle⟩ : ∃ nl, newsM us i = nl := ⟨_, rfl⟩
    obtain ⟨k0, hk0⟩ : ∃ k0, ctr us 0 i = k0 := ⟨_, rfl⟩
    rw [hole] at hol hos
    rw [hnle] at hnl hns
    rw [hk0] at hcl hns hcs
    have hkb : i * (us.length + 1) ≤ 1000 * 1000001 := Nat.mul_le_mul (by omega) (by omega)
    have hnx := nextM_spec us k0
    repeat' (first | refine ReqK.i (by omega) fun _ => ?_ | refine ReqK.i (fits_of2 (by first | omega | (simp only [List.length_map, List.length_append, List.length_cons, List.length_nil]; omega)) (by decide)) fun _ => ?_ | refine ReqK.i (by unfold maxL; omega) fun _ => ?_ | refine ReqK.i ⟨by omega, by omega⟩ fun _ => ?_ | simp only [go_sem, h2, hole, hnle, hk0, Tryd.f180, R9, R8, R7, R6, R5, R4, R3, R2, R1, Q20, Q19, Q18, Q17, Q16, Q15, Q14, Q13, Q12, Q11, Q10, Q9, Q8, Q7, Q6, Q5, Q4, Q3, Q2, Q1, Tbl0])
    refine WK_loop hm hR9 180000 (lsw [30, 49, 55] []) (ι := CtrI us k0)
      ⟨fun q => ⟨frL [(6, .ptr (180006, 1) 0), (7, .ptr (180007, 2) 0), (8, .ptr (180008, n1) 0), (9, .fz (.sl (us.map enc))), (12, .ow (180049, ga) 1 (ol.map enc)), (13, .ow (180055, gb) 1 (nl.map enc)), (14, .fz (.i .i64 q.k)), (15, .fz (.i .i64 i))],
        hpL [((180006, 1), some ⟨[.fz (.i .i64 0), .fz (.s []), .full [], .full []], true, false⟩), ((180007, 2), some ⟨[.fz (.i .i64 (c2 : Nat))], true, false⟩), ((180008, n1), some ⟨[.fz (.i .i64 g.kind), .fz (.s g.name.l), .fz (.sl (g.words.map enc)), .fz (.sl (g.subs.map enc))], true, false⟩), ((180049, ga), some tok), ((180055, gb), some tok)], m2⟩, fun q => nextM us k0 - q.k⟩
      ⟨k0, Nat.le_refl _, rfl⟩ (by kernel_rfl) ?_ ?_
    · refine Weak_to ?_ ?_ ?_ <;> simp only [go_sem]
    rintro ⟨k, hk, hke⟩
    try simp only at hk hke
    have hkn := nextM_spec us k
    have hdl := digits_len k
    have hdi := digits_len i
    rw [hke] at hkn
    by_cases hin : vnum k ∈ us
    · have h3 := nextM_in hin
      have h4 := (nextM_spec us (k + 1)).1
      rw [← h3, hke] at h4
      have hin' : Str.mk (118 :: digits k) ∈ us := hin
      repeat' (first | refine ReqK.i (by omega) fun _ => ?_ | refine ReqK.i (fits_of2 (by first | omega | (simp only [List.length_map, List.length_append, List.length_cons, List.length_nil]; omega)) (by decide)) fun _ => ?_ | refine ReqK.i (by unfold maxL; omega) fun _ => ?_ | refine ReqK.i ⟨by omega, by omega⟩ fun _ => ?_ | simp only [go_sem, hin', digS_l, Tryd.f180, R9, R8, R7, R6, R5, R4, R3, R2, R1, Q20, Q19, Q18, Q17, Q16, Q15, Q14, Q13, Q12, Q11, Q10, Q9, Q8, Q7, Q6, Q5, Q4, Q3, Q2, Q1, Tbl0])
      refine ⟨⟨k + 1, by omega, by rw [← h3]; exact hke⟩, by simp only; omega, ?_⟩
      refine Weak_to ?_ ?_ ?_ <;> simp only [go_sem]
    · have h3 := nextM_out hin
      rw [hke] at h3
      have hin' : Str.mk (118 :: digits k) ∉ us := hin
      repeat' (first | refine ReqK.i (by omega) fun _ => ?_ | refine ReqK.i (fits_of2 (by first | omega | (simp only [List.length_map, List.length_append, List.length_cons, List.length_nil]; omega)) (by decide)) fun _ => ?_ | refine ReqK.i (by unfold maxL; omega) fun _ => ?_ | refine ReqK.i ⟨by omega, by omega⟩ fun _ => ?_ | simp only [go_sem, hin', digS_l, Tryd.f180, R9, R8, R7, R6, R5, R4, R3, R2, R1, Q20, Q19, Q18, Q17, Q16, Q15, Q14, Q13, Q12, Q11, Q10, Q9, Q8, Q7, Q6, Q5, Q4, Q3, Q2, Q1, Tbl0])
      refine ⟨⟨i + 1, m2, m2 + 1, m2 + 10, by omega, by omega, by omega, by omega⟩, by simp only; omega, ?_⟩
      refine Weak_to ?_ ?_ ?_ <;> (try simp only [go_sem, hos, hns, hcs, h3, bnum, vnum, List.map_append])
      all_goals first | done | omega | rfl
  · obtain rfl : i = c2 := by omega
    have hsp : swpPre g (oldsM i) (newsM us i) := ⟨hgf, by rw [hol, hnl]⟩
    repeat' (first | refine ReqK.i hsp fun _ => ?_ | refine ReqK.i (by omega) fun _ => ?_ | refine ReqK.i (fits_of2 (by first | omega | (simp only [List.length_map, List.length_append, List.length_cons, List.length_nil]; omega)) (by decide)) fun _ => ?_ | refine ReqK.i (by unfold maxL; omega) fun _ => ?_ | refine ReqK.i ⟨by omega, by omega⟩ fun _ => ?_ | simp only [go_sem, Nat.lt_irrefl, hr, hsp, form_eta, Tryd.f180, R9, R8, R7, R6, R5, R4, R3, R2, R1, Q20, Q19, Q18, Q17, Q16, Q15, Q14, Q13, Q12, Q11, Q10, Q9, Q8, Q7, Q6, Q5, Q4, Q3, Q2, Q1, Tbl0])

def R11 : Tbl := R10.add 111 (sp1 (fun f => wthM f []) fun f => f.fit = true ∧ f.size ≤ 1000)
set_option maxRecDepth 100000 in
set_option maxHeartbeats 1000000 in
theorem hR11 : TblOk Tryd.prog GA R11 := by
  refine sp1_ok ok111 hR10 fun f hpre _ => ?_
  have hp : wthPre f [] [] := ⟨hpre.1, hpre.2, rfl, by simp⟩
  have hz : List.zipWith Abs.Bind.mk [] [] = [] := rfl
  obtain ⟨r, hr⟩ : ∃ r, wthM f [] = r := ⟨_, rfl⟩
  rw [hr]
  refine Wcall_K (N := 5) hm hR10 111000 (lst []) ok111 Tryd.func111 rfl rfl (by simp) (by kernel_rfl) ?_
  repeat' (first | refine ReqK.i (by omega) fun _ => ?_ | refine ReqK.i hp fun _ => ?_ | simp only [go_sem, hz, hr, form_eta, Tryd.f111, R10, R9, R8, R7, R6, R5, R4, R3, R2, R1, Q20, Q19, Q18, Q17, Q16, Q15, Q14, Q13, Q12, Q11, Q10, Q9, Q8, Q7, Q6, Q5, Q4, Q3, Q2, Q1, Tbl0])
end Go.Proofs.YtoicheicnbjfeaaDoor

namespace Go.Abs
open Go
section
variable {P : Program} {G : Nat → List FD} {T : Tbl}
/-- a recursive function of one argument with two results -/
theorem sp1p_rec {α ρ σ : Type} [Enc α] [Enc ρ] [Enc σ] {f : FuncId} {g : α → ρ × σ} {pre : α → Prop} (m : α → Nat) (hc : CallOk P f) (hT : TblOk P G T)
    (h : ∀ n, TblOk P G (T.add f (sp1p g fun a => m a < n ∧ pre a)) → ∀ a, m a = n → pre a → (enc a).Wf → Wcall P G f [.fz (enc a)] (hpL []) 0 (fun d _ _ => D.val d = some (.tup [.fz (enc (g a).1), .fz (enc (g a).2)]))) : TblOk P G (T.add f (sp1p g pre)) := by
  have key : ∀ n, TblOk P G (T.add f (sp1p g fun a => m a < n ∧ pre a)) := by
    intro n
    induction n with
    | zero => exact sp1p_ok hc hT fun a ha => by omega
    | succ n ih =>
      refine sp1p_ok hc hT fun a ha hw => ?_
      rcases Nat.lt_or_ge (m a) n with h1 | h1
      · have h2 := ih f (sp1p g fun a => m a < n ∧ pre a) [enc a] _ _ (by simp [Tbl.add]) (k_sp1p) ⟨by rw [dec_enc], by rw [dec_enc]; exact ⟨h1, ha.2⟩⟩
        rw [dec_enc, H0_eq] at h2
        exact h2
      · exact h n ih a (by omega) ha.2 hw
  refine sp1p_ok hc hT fun a ha hw => h (m a) (key _) a rfl ha hw
end
theorem size_eq {f : Abs.Form} : f.size = Form.sizes f.subs + 1 := by cases f; rw [Form.size]; rfl
theorem depth_eq {f : Abs.Form} : f.depth = Form.depths f.subs + 1 := by cases f; rw [Form.depth]; rfl
theorem sizes_take_succ {fs : List Abs.Form} {j : Nat} (h : j < fs.length) : Form.sizes (fs.take (j + 1)) = Form.sizes (fs.take j) + fs[j].size := by
  rw [List.take_succ_eq_append_getElem h, Form.sizes_app, Form.sizes, Form.sizes]; omega
theorem depths_take_succ {fs : List Abs.Form} {j : Nat} (h : j < fs.length) : Form.depths (fs.take (j + 1)) = max (Form.depths (fs.take j)) fs[j].depth := by
  rw [List.take_succ_eq_append_getElem h, Form.depths_app, Form.depths, Form.depths]; omega
theorem depths_take_le {fs : List Abs.Form} (j : Nat) : Form.depths (fs.take j) ≤ Form.depths fs := by
  have := congrArg Form.depths (List.take_append_drop j fs)
  rw [Form.depths_app] at this; omega
end Go.Abs
namespace Go.Proofs.YtoicheicnbjfeaaDoor
open Go Go.Abs Go.Proofs

/-! ## size, depth, limits -/
def szPre (f : Abs.Form) : Prop := f.fit = true ∧ f.size ≤ 1000000
def R12 : Tbl := R11.add 87 (sp1 (fun f : Abs.Form => (f.size : Int)) szPre)
set_option maxRecDepth 100000 in
set_option maxHeartbeats 1000000 in
theorem hR12 : TblOk Tryd.prog GA R12 := by
  refine sp1_rec Form.size ok87 hR11 fun n hT f hn hpre _ => ?_
  obtain ⟨hfit, hsz⟩ := hpre
  obtain ⟨_, hsl, hfs⟩ := Form.fit_eq hfit
  have hse := @size_eq f
  have hr : ∀ g ∈ f.subs, g.size < n ∧ szPre g := fun g hg => ⟨by have := Form.size_sub hg; omega, Form.fits_mem hfs hg, by have := Form.size_sub hg; omega⟩
  have kT := Kp.mk hT
  have kr := Kp.mk hr
  obtain ⟨S, hS⟩ : ∃ S : Nat → Nat, S = fun j => Form.sizes (f.subs.take j) + 1 := ⟨_, rfl⟩
  have hS0 : S 0 = 1 := by rw [hS]; simp [Form.sizes]
  have hSs : ∀ j (h : j < f.subs.length), S (j + 1) = S j + f.subs[j].size := fun j h => by rw [hS]; simp only [sizes_take_succ h]; omega
  have hSl : ∀ j (h : j < f.subs.length), S j + f.subs[j].size ≤ 1000001 := fun j h => by have := sizes_take h; rw [hS]; simp only; omega
  have hSe : f.size = S f.subs.length := by rw [hS, hse]; simp only [List.take_length]
  have kS := Kp.mk hSs
  have kL := Kp.mk hSl
  rw [hSe]
  clear hT hr hS hSs hSl hSe hfit hfs hn
  refine Wcall_K (N := 21) hm kT.out 87000 (lst []) ok87 Tryd.func87 rfl rfl (by simp) (by kernel_rfl) ?_
  repeat' (first | refine ReqK.i (by omega) fun _ => ?_ | simp only [go_sem, Tryd.f87, R11, R10, R9, R8, R7, R6, R5, R4, R3, R2, R1, Q20, Q19, Q18, Q17, Q16, Q15, Q14, Q13, Q12, Q11, Q10, Q9, Q8, Q7, Q6, Q5, Q4, Q3, Q2, Q1, Tbl0])
  refine WK_weak2 (Weak_rpL (id := (87001, 0)) (t := 1) (b := true) (ys := [.i .i64 f.kind, .s f.name.l, .sl (f.words.map enc), .sl (f.subs.map enc)]) (by simp only [go_sem]) (by simp only [go_sem])) ?_
  refine WK_loop hm kT.out 87000 (lst []) (ι := LoopI f.subs.length fun _ => True)
    ⟨fun q => ⟨frL [(1, .rp [.i .i64 f.kind, .s f.name.l, .sl (f.words.map enc), .sl (f.subs.map enc)]), (3, .fz (.i .i64 (S q.i : Nat))), (7, .fz (.i .i64 f.subs.length)), (8, .fz (.i .i64 q.i))], hpL [], 1⟩, fun q => f.subs.length - q.i⟩
    ⟨0, by omega, trivial⟩ (by kernel_rfl) ?_ ?_
  · refine Weak_to ?_ ?_ ?_ <;> simp only [go_sem, hS0]
    all_goals first | done | rfl
  rintro ⟨j, hj, _⟩
  try simp only at hj
  rcases Nat.lt_or_ge j f.subs.length with h2 | h2
  · have hss := kS.out j h2
    have hsl2 := kL.out j h2
    have hr := kr.out _ (List.getElem_mem h2)
    obtain ⟨x, hx⟩ : ∃ x, f.subs[j] = x := ⟨_, rfl⟩
    rw [hx] at hss hsl2 hr
    repeat' (first | refine ReqK.i (by omega) fun _ => ?_ | refine ReqK.i hr fun _ => ?_ | simp only [go_sem, h2, hx, getD_map_lt, Tryd.f87, R11, R10, R9, R8, R7, R6, R5, R4, R3, R2, R1, Q20, Q19, Q18, Q17, Q16, Q15, Q14, Q13, Q12, Q11, Q10, Q9, Q8, Q7, Q6, Q5, Q4, Q3, Q2, Q1, Tbl0])
    refine ⟨⟨j + 1, by omega, trivial⟩, by simp only; omega, ?_⟩
    refine Weak_to ?_ ?_ ?_ <;> simp only [go_sem, hss, Int.natCast_add]
    all_goals first | done | rfl
  · obtain rfl : j = f.subs.length := by omega
    repeat' (first | refine ReqK.i (by omega) fun _ => ?_ | simp only [go_sem, Nat.lt_irrefl, Tryd.f87, R11, R10, R9, R8, R7, R6, R5, R4, R3, R2, R1, Q20, Q19, Q18, Q17, Q16, Q15, Q14, Q13, Q12, Q11, Q10, Q9, Q8, Q7, Q6, Q5, Q4, Q3, Q2, Q1, Tbl0])
def R13 : Tbl := R12.add 88 (sp1 (fun f : Abs.Form => (f.depth : Int)) szPre)
set_option maxRecDepth 100000 in
set_option maxHeartbeats 1000000 in
theorem hR13 : TblOk Tryd.prog GA R13 := by
  refine sp1_rec Form.size ok88 hR12 fun n hT f hn hpre _ => ?_
  obtain ⟨hfit, hsz⟩ := hpre
  obtain ⟨_, hsl, hfs⟩ := Form.fit_eq hfit
  have hde := f.depth_size
  have hse := @depth_eq f
  have hr : ∀ g ∈ f.subs, g.size < n ∧ szPre g := fun g hg => ⟨by have := Form.size_sub hg; omega, Form.fits_mem hfs hg, by have := Form.size_sub hg; omega⟩
  have kT := Kp.mk hT
  have kr := Kp.mk hr
  obtain ⟨S, hS⟩ : ∃ S : Nat → Nat, S = fun j => Form.depths (f.subs.take j) := ⟨_, rfl⟩
  have hS0 : S 0 = 0 := by rw [hS]; simp [Form.depths]
  have hSs : ∀ j (h : j < f.subs.length), S (j + 1) = max (S j) f.subs[j].depth := fun j h => by rw [hS]; simp only [depths_take_succ h]
  have hSl : ∀ j, S j ≤ 1000000 := fun j => by have := depths_take_le (fs := f.subs) j; rw [hS]; simp only; omega
  have hSe : f.depth = S f.subs.length + 1 := by rw [hS, hse]; simp only [List.take_length]
  have kS := Kp.mk hSs
  have hSn := hSl f.subs.length
  rw [hSe]
  clear hT hr hS hSs hSl hSe hfit hfs hn
  refine Wcall_K (N := 25) hm kT.out 88000 (lst []) ok88 Tryd.func88 rfl rfl (by simp) (by kernel_rfl) ?_
  repeat' (first | refine ReqK.i (by omega) fun _ => ?_ | simp only [go_sem, Tryd.f88, R12, R11, R10, R9, R8, R7, R6, R5, R4, R3, R2, R1, Q20, Q19, Q18, Q17, Q16, Q15, Q14, Q13, Q12, Q11, Q10, Q9, Q8, Q7, Q6, Q5, Q4, Q3, Q2, Q1, Tbl0])
  refine WK_weak2 (Weak_rpL (id := (88001, 0)) (t := 1) (b := true) (ys := [.i .i64 f.kind, .s f.name.l, .sl (f.words.map enc), .sl (f.subs.map enc)]) (by simp only [go_sem]) (by simp only [go_sem])) ?_
  refine WK_loop hm kT.out 88000 (lst []) (ι := LoopI f.subs.length fun _ => True)
    ⟨fun q => ⟨frL [(1, .rp [.i .i64 f.kind, .s f.name.l, .sl (f.words.map enc), .sl (f.subs.map enc)]), (3, .fz (.i .i64 (S q.i : Nat))), (8, .fz (.i .i64 f.subs.length)), (9, .fz (.i .i64 q.i))], hpL [], 1⟩, fun q => f.subs.length - q.i⟩
    ⟨0, by omega, trivial⟩ (by kernel_rfl) ?_ ?_
  · refine Weak_to ?_ ?_ ?_ <;> simp only [go_sem, hS0]
    all_goals first | done | rfl
  rintro ⟨j, hj, _⟩
  try simp only at hj
  rcases Nat.lt_or_ge j f.subs.length with h2 | h2
  · have hss := kS.out j h2
    have hr := kr.out _ (List.getElem_mem h2)
    obtain ⟨x, hx⟩ : ∃ x, f.subs[j] = x := ⟨_, rfl⟩
    rw [hx] at hss hr
    rcases Nat.lt_or_ge (S j) x.depth with h3 | h3
    · have h3' : (S j : Int) < (x.depth : Int) := by omega
      have h4 : S (j + 1) = x.depth := by omega
      repeat' (first | refine ReqK.i (by omega) fun _ => ?_ | refine ReqK.i hr fun _ => ?_ | simp only [go_sem, h2, hx, h3, h3', getD_map_lt, Tryd.f88, R12, R11, R10, R9, R8, R7, R6, R5, R4, R3, R2, R1, Q20, Q19, Q18, Q17, Q16, Q15, Q14, Q13, Q12, Q11, Q10, Q9, Q8, Q7, Q6, Q5, Q4, Q3, Q2, Q1, Tbl0])
      refine ⟨⟨j + 1, by omega, trivial⟩, by simp only; omega, ?_⟩
      refine Weak_to ?_ ?_ ?_ <;> simp only [go_sem, h4]
    · have h3' : ¬ (S j : Int) < (x.depth : Int) := by omega
      have h3'' : ¬ S j < x.depth := by omega
      have h4 : S (j + 1) = S j := by omega
      repeat' (first | refine ReqK.i (by omega) fun _ => ?_ | refine ReqK.i hr fun _ => ?_ | simp only [go_sem, h2, hx, h3', h3'', getD_map_lt, Tryd.f88, R12, R11, R10, R9, R8, R7, R6, R5, R4, R3, R2, R1, Q20, Q19, Q18, Q17, Q16, Q15, Q14, Q13, Q12, Q11, Q10, Q9, Q8, Q7, Q6, Q5, Q4, Q3, Q2, Q1, Tbl0])
      refine ⟨⟨j + 1, by omega, trivial⟩, by simp only; omega, ?_⟩
      refine Weak_to ?_ ?_ ?_ <;> simp only [go_sem, h4]
  · obtain rfl : j = f.subs.length := by omega
    repeat' (first | refine ReqK.i (by omega) fun _ => ?_ | simp only [go_sem, Nat.lt_irrefl, Tryd.f88, R12, R11, R10, R9, R8, R7, R6, R5, R4, R3, R2, R1, Q20, Q19, Q18, Q17, Q16, Q15, Q14, Q13, Q12, Q11, Q10, Q9, Q8, Q7, Q6, Q5, Q4, Q3, Q2, Q1, Tbl0])
    all_goals first | done | rfl
def R14 : Tbl := R13.add 118 (sp1 fitsM szPre)
set_option maxRecDepth 100000 in
set_option maxHeartbeats 1000000 in
theorem hR14 : TblOk Tryd.prog GA R14 := by
  refine sp1_ok ok118 hR13 fun f hpre _ => ?_
  refine Wcall_K (N := 11) hm hR13 118000 (lst []) ok118 Tryd.func118 rfl rfl (by simp) (by kernel_rfl) ?_
  by_cases h1 : f.size ≤ 200
  · have h1' : (f.size : Int) ≤ 200 := by omega
    by_cases h2 : f.depth ≤ 40
    · have h2' : (f.depth : Int) ≤ 40 := by omega
      have e : fitsM f = true := decide_eq_true ⟨h1, h2⟩
      repeat' (first | refine ReqK.i (by omega) fun _ => ?_ | refine ReqK.i hpre fun _ => ?_ | simp only [go_sem, h1', h2', e, form_eta, Tryd.f118, R13, R12, R11, R10, R9, R8, R7, R6, R5, R4, R3, R2, R1, Q20, Q19, Q18, Q17, Q16, Q15, Q14, Q13, Q12, Q11, Q10, Q9, Q8, Q7, Q6, Q5, Q4, Q3, Q2, Q1, Tbl0])
    · have h2' : ¬ (f.depth : Int) ≤ 40 := by omega
      have e : fitsM f = false := decide_eq_false fun h => h2 h.2
      repeat' (first | refine ReqK.i (by omega) fun _ => ?_ | refine ReqK.i hpre fun _ => ?_ | simp only [go_sem, h1', h2', e, form_eta, Tryd.f118, R13, R12, R11, R10, R9, R8, R7, R6, R5, R4, R3, R2, R1, Q20, Q19, Q18, Q17, Q16, Q15, Q14, Q13, Q12, Q11, Q10, Q9, Q8, Q7, Q6, Q5, Q4, Q3, Q2, Q1, Tbl0])
  · have h1' : ¬ (f.size : Int) ≤ 200 := by omega
    have e : fitsM f = false := decide_eq_false fun h => h1 h.1
    repeat' (first | refine ReqK.i (by omega) fun _ => ?_ | refine ReqK.i hpre fun _ => ?_ | simp only [go_sem, h1', e, form_eta, Tryd.f118, R13, R12, R11, R10, R9, R8, R7, R6, R5, R4, R3, R2, R1, Q20, Q19, Q18, Q17, Q16, Q15, Q14, Q13, Q12, Q11, Q10, Q9, Q8, Q7, Q6, Q5, Q4, Q3, Q2, Q1, Tbl0])
def R15 : Tbl := R14.add 158 (sp1p (fun f : Abs.Form => ((f.size : Int), (f.depth : Int))) szPre)
set_option maxRecDepth 100000 in
set_option maxHeartbeats 1000000 in
theorem hR15 : TblOk Tryd.prog GA R15 := by
  refine sp1p_rec Form.size ok158 hR14 fun n hT f hn hpre _ => ?_
  obtain ⟨hfit, hsz⟩ := hpre
  obtain ⟨_, hsl, hfs⟩ := Form.fit_eq hfit
  have hse := @size_eq f
  have hdd := f.depth_size
  have hde := @depth_eq f
  have hr : ∀ g ∈ f.subs, g.size < n ∧ szPre g := fun g hg => ⟨by have := Form.size_sub hg; omega, Form.fits_mem hfs hg, by have := Form.size_sub hg; omega⟩
  have kT := Kp.mk hT
  have kr := Kp.mk hr
  obtain ⟨S, hS⟩ : ∃ S : Nat → Nat, S = fun j => Form.sizes (f.subs.take j) + 1 := ⟨_, rfl⟩
  have hS0 : S 0 = 1 := by rw [hS]; simp [Form.sizes]
  have hSs : ∀ j (h : j < f.subs.length), S (j + 1) = S j + f.subs[j].size := fun j h => by rw [hS]; simp only [sizes_take_succ h]; omega
  have hSl : ∀ j (h : j < f.subs.length), S j + f.subs[j].size ≤ 1000001 := fun j h => by have := sizes_take h; rw [hS]; simp only; omega
  have hSe : f.size = S f.subs.length := by rw [hS, hse]; simp only [List.take_length]
  obtain ⟨E, hE⟩ : ∃ E : Nat → Nat, E = fun j => Form.depths (f.subs.take j) := ⟨_, rfl⟩
  have hE0 : E 0 = 0 := by rw [hE]; simp [Form.depths]
  have hEs : ∀ j (h : j < f.subs.length), E (j + 1) = max (E j) f.subs[j].depth := fun j h => by rw [hE]; simp only [depths_take_succ h]
  have hEl : ∀ j, E j ≤ 1000000 := fun j => by have := depths_take_le (fs := f.subs) j; rw [hE]; simp only; omega
  have hEe : f.depth = E f.subs.length + 1 := by rw [hE, hde]; simp only [List.take_length]
  have hEn := hEl f.subs.length
  have kS := Kp.mk hSs
  have kL := Kp.mk hSl
  have kE := Kp.mk hEs
  rw [hSe, hEe]
  clear hT hr hS hSs hSl hSe hE hEs hEl hEe hfit hfs hn
  refine Wcall_K (N := 32) hm kT.out 158000 (lst []) ok158 Tryd.func158 rfl rfl (by simp) (by kernel_rfl) ?_
  repeat' (first | refine ReqK.i (by omega) fun _ => ?_ | simp only [go_sem, Tryd.f158, R14, R13, R12, R11, R10, R9, R8, R7, R6, R5, R4, R3, R2, R1, Q20, Q19, Q18, Q17, Q16, Q15, Q14, Q13, Q12, Q11, Q10, Q9, Q8, Q7, Q6, Q5, Q4, Q3, Q2, Q1, Tbl0])
  refine WK_weak2 (Weak_rpL (id := (158001, 0)) (t := 1) (b := true) (ys := [.i .i64 f.kind, .s f.name.l, .sl (f.words.map enc), .sl (f.subs.map enc)]) (by simp only [go_sem]) (by simp only [go_sem])) ?_
  refine WK_loop hm kT.out 158000 (lst []) (ι := LoopM f.subs.length 1 fun _ => True)
    ⟨fun q => ⟨frL [(4, .fz (.i .i64 (S q.i : Nat))), (5, .fz (.i .i64 (E q.i : Nat))), (11, .fz (.sl (f.subs.map enc))), (12, .fz (.i .i64 f.subs.length)), (13, .fz (.i .i64 q.i))], hpL [], q.m⟩, fun q => f.subs.length - q.i⟩
    ⟨0, 1, by omega, by omega, trivial⟩ (by kernel_rfl) ?_ ?_
  · refine Weak_to ?_ ?_ ?_ <;> simp only [go_sem, hS0, hE0]
    all_goals first | done | rfl
  rintro ⟨j, m, hj, hm1, _⟩
  try simp only at hj hm1
  rcases Nat.lt_or_ge j f.subs.length with h2 | h2
  · have hss := kS.out j h2
    have hes := kE.out j h2
    have hsl2 := kL.out j h2
    have hr := kr.out _ (List.getElem_mem h2)
    obtain ⟨x, hx⟩ : ∃ x, f.subs[j] = x := ⟨_, rfl⟩
    rw [hx] at hss hsl2 hr hes
    repeat' (first | refine ReqK.i (by omega) fun _ => ?_ | refine ReqK.i hr fun _ => ?_ | simp only [go_sem, h2, hx, getD_map_lt, Tryd.f158, R14, R13, R12, R11, R10, R9, R8, R7, R6, R5, R4, R3, R2, R1, Q20, Q19, Q18, Q17, Q16, Q15, Q14, Q13, Q12, Q11, Q10, Q9, Q8, Q7, Q6, Q5, Q4, Q3, Q2, Q1, Tbl0])
    refine ⟨⟨j + 1, m + 1, by omega, by omega, trivial⟩, by simp only; omega, ?_⟩
    refine Weak_to ?_ ?_ ?_ <;> simp only [go_sem, hss, hes, Int.natCast_add]
    all_goals first | done | rfl | omega
  · obtain rfl : j = f.subs.length := by omega
    repeat' (first | refine ReqK.i (by omega) fun _ => ?_ | simp only [go_sem, Nat.lt_irrefl, Tryd.f158, R14, R13, R12, R11, R10, R9, R8, R7, R6, R5, R4, R3, R2, R1, Q20, Q19, Q18, Q17, Q16, Q15, Q14, Q13, Q12, Q11, Q10, Q9, Q8, Q7, Q6, Q5, Q4, Q3, Q2, Q1, Tbl0])
    all_goals first | done | rfl
def R16 : Tbl := R15.add 122 (sp1 fitsM szPre)
set_option maxRecDepth 100000 in
set_option maxHeartbeats 1000000 in
theorem hR16 : TblOk Tryd.prog GA R16 := by
  refine sp1_ok ok122 hR15 fun f hpre _ => ?_
  refine Wcall_K (N := 16) hm hR15 122000 (lst []) ok122 Tryd.func122 rfl rfl (by simp) (by kernel_rfl) ?_
  by_cases h1 : f.size ≤ 200
  · have h1' : (f.size : Int) ≤ 200 := by omega
    by_cases h2 : f.depth ≤ 40
    · have h2' : (f.depth : Int) ≤ 40 := by omega
      have e : fitsM f = true := decide_eq_true ⟨h1, h2⟩
      repeat' (first | refine ReqK.i (by omega) fun _ => ?_ | refine ReqK.i hpre fun _ => ?_ | simp only [go_sem, h1', h2', e, form_eta, Tryd.f122, R15, R14, R13, R12, R11, R10, R9, R8, R7, R6, R5, R4, R3, R2, R1, Q20, Q19, Q18, Q17, Q16, Q15, Q14, Q13, Q12, Q11, Q10, Q9, Q8, Q7, Q6, Q5, Q4, Q3, Q2, Q1, Tbl0])
    · have h2' : ¬ (f.depth : Int) ≤ 40 := by omega
      have e : fitsM f = false := decide_eq_false fun h => h2 h.2
      repeat' (first | refine ReqK.i (by omega) fun _ => ?_ | refine ReqK.i hpre fun _ => ?_ | simp only [go_sem, h1', h2', e, form_eta, Tryd.f122, R15, R14, R13, R12, R11, R10, R9, R8, R7, R6, R5, R4, R3, R2, R1, Q20, Q19, Q18, Q17, Q16, Q15, Q14, Q13, Q12, Q11, Q10, Q9, Q8, Q7, Q6, Q5, Q4, Q3, Q2, Q1, Tbl0])
  · have h1' : ¬ (f.size : Int) ≤ 200 := by omega
    have e : fitsM f = false := decide_eq_false fun h => h1 h.1
    repeat' (first | refine ReqK.i (by omega) fun _ => ?_ | refine ReqK.i hpre fun _ => ?_ | simp only [go_sem, h1', e, form_eta, Tryd.f122, R15, R14, R13, R12, R11, R10, R9, R8, R7, R6, R5, R4, R3, R2, R1, Q20, Q19, Q18, Q17, Q16, Q15, Q14, Q13, Q12, Q11, Q10, Q9, Q8, Q7, Q6, Q5, Q4, Q3, Q2, Q1, Tbl0])
end Go.Proofs.YtoicheicnbjfeaaDoor

namespace Go.Proofs.YtoicheicnbjfeaaDoor
open Go Go.Abs Go.Proofs

/-! ## formulas put together; a formula returned, if it keeps the limits -/
def doneR (f : Abs.Form) : Abs.Form := if fitsM f then wthM f [] else zeroF
def R17 : Tbl := R16.add 49 (sp1p (fun f : Abs.Form => (doneR f, doneE f)) szPre)
set_option maxRecDepth 100000 in
set_option maxHeartbeats 1000000 in
theorem hR17 : TblOk Tryd.prog GA R17 := by
  refine sp1p_ok ok49 hR16 fun f hpre hw => ?_
  cases hf : fitsM f with
  | true =>
    have h1 := of_decide_eq_true hf
    have hp : f.fit = true ∧ f.size ≤ 1000 := ⟨hpre.1, by omega⟩
    have e1 : doneR f = wthM f [] := by unfold doneR; rw [if_pos hf]
    have e2 : doneE f = ⟨0, 0⟩ := by unfold doneE; rw [if_pos hf]
    obtain ⟨c, hc⟩ : ∃ c, wthM f [] = c := ⟨_, rfl⟩
    simp only [e1, e2, hc]
    refine Wcall_K (N := 12) hm hR16 49000 (lst []) ok49 Tryd.func49 rfl rfl (by simp) (by kernel_rfl) ?_
    repeat' (first | refine ReqK.i hpre fun _ => ?_ | refine ReqK.i hp fun _ => ?_ | refine ReqK.i (by omega) fun _ => ?_ | refine ReqK.i (by unfold maxL; omega) fun _ => ?_ | simp only [go_sem, hf, hc, form_eta, Tryd.f49, R16, R15, R14, R13, R12, R11, R10, R9, R8, R7, R6, R5, R4, R3, R2, R1, Q20, Q19, Q18, Q17, Q16, Q15, Q14, Q13, Q12, Q11, Q10, Q9, Q8, Q7, Q6, Q5, Q4, Q3, Q2, Q1, Tbl0])
  | false =>
    have e1 : doneR f = zeroF := by unfold doneR; rw [if_neg (by simp [hf])]
    have e2 : doneE f = ⟨1, -1⟩ := by unfold doneE; rw [if_neg (by simp [hf])]
    simp only [e1, e2, zeroF]
    refine Wcall_K (N := 12) hm hR16 49000 (lst []) ok49 Tryd.func49 rfl rfl (by simp) (by kernel_rfl) ?_
    repeat' (first | refine ReqK.i hpre fun _ => ?_ | refine ReqK.i (by omega) fun _ => ?_ | refine ReqK.i (by unfold maxL; omega) fun _ => ?_ | simp only [go_sem, hf, form_eta, Tryd.f49, R16, R15, R14, R13, R12, R11, R10, R9, R8, R7, R6, R5, R4, R3, R2, R1, Q20, Q19, Q18, Q17, Q16, Q15, Q14, Q13, Q12, Q11, Q10, Q9, Q8, Q7, Q6, Q5, Q4, Q3, Q2, Q1, Tbl0])
def R18 : Tbl := R17.add 127 (sp1p (fun f : Abs.Form => (doneF f, doneE f)) szPre)
set_option maxRecDepth 100000 in
set_option maxHeartbeats 1000000 in
theorem hR18 : TblOk Tryd.prog GA R18 := by
  refine sp1p_ok ok127 hR17 fun f hpre hw => ?_
  cases hf : fitsM f with
  | true =>
    have h1 := of_decide_eq_true hf
    have hp : f.fit = true ∧ f.size ≤ 1000 := ⟨hpre.1, by omega⟩
    have e1 : doneF f = canonM f [] := by unfold doneF; rw [if_pos hf]
    have e2 : doneE f = ⟨0, 0⟩ := by unfold doneE; rw [if_pos hf]
    obtain ⟨c, hc⟩ : ∃ c, canonM f [] = c := ⟨_, rfl⟩
    simp only [e1, e2, hc]
    refine Wcall_K (N := 12) hm hR17 127000 (lst []) ok127 Tryd.func127 rfl rfl (by simp) (by kernel_rfl) ?_
    repeat' (first | refine ReqK.i hpre fun _ => ?_ | refine ReqK.i hp fun _ => ?_ | refine ReqK.i (by omega) fun _ => ?_ | refine ReqK.i (by unfold maxL; omega) fun _ => ?_ | simp only [go_sem, hf, hc, form_eta, Tryd.f127, R17, R16, R15, R14, R13, R12, R11, R10, R9, R8, R7, R6, R5, R4, R3, R2, R1, Q20, Q19, Q18, Q17, Q16, Q15, Q14, Q13, Q12, Q11, Q10, Q9, Q8, Q7, Q6, Q5, Q4, Q3, Q2, Q1, Tbl0])
  | false =>
    have e1 : doneF f = zeroF := by unfold doneF; rw [if_neg (by simp [hf])]
    have e2 : doneE f = ⟨1, -1⟩ := by unfold doneE; rw [if_neg (by simp [hf])]
    simp only [e1, e2, zeroF]
    refine Wcall_K (N := 12) hm hR17 127000 (lst []) ok127 Tryd.func127 rfl rfl (by simp) (by kernel_rfl) ?_
    repeat' (first | refine ReqK.i hpre fun _ => ?_ | refine ReqK.i (by omega) fun _ => ?_ | refine ReqK.i (by unfold maxL; omega) fun _ => ?_ | simp only [go_sem, hf, form_eta, Tryd.f127, R17, R16, R15, R14, R13, R12, R11, R10, R9, R8, R7, R6, R5, R4, R3, R2, R1, Q20, Q19, Q18, Q17, Q16, Q15, Q14, Q13, Q12, Q11, Q10, Q9, Q8, Q7, Q6, Q5, Q4, Q3, Q2, Q1, Tbl0])
theorem joinM_cast (k : Int) {l : List Abs.Form} {i : Nat} (h : i + 1 < l.length) : joinM k (l.take (i + 1 + 1)) = .mk k ⟨[]⟩ [] [joinM k (l.take (i + 1)), l[i + 1]] := joinM_take h
def joinPre (_ : Int) (l : List Abs.Form) : Prop := l ≠ [] ∧ l.length ≤ 1000
def R19 : Tbl := R18.add 128 (sp2 joinM joinPre)
set_option maxRecDepth 100000 in
set_option maxHeartbeats 1000000 in
theorem hR19 : TblOk Tryd.prog GA R19 := by
  refine sp2_ok ok128 hR18 fun k l hpre _ _ => ?_
  obtain ⟨hne, hll⟩ := hpre
  obtain ⟨f0, tl, rfl⟩ : ∃ f0 tl, l = f0 :: tl := by
    cases l with
    | nil => exact absurd rfl hne
    | cons a t => exact ⟨a, t, rfl⟩
  obtain ⟨J, hJ⟩ : ∃ J : Nat → Abs.Form, J = fun i => joinM k ((f0 :: tl).take (i + 1)) := ⟨_, rfl⟩
  have hJ0 : J 0 = f0 := by rw [hJ]; rfl
  have hJs : ∀ i (h : i < tl.length), J (i + 1) = .mk k ⟨[]⟩ [] [J i, tl[i]] := fun i h => by rw [hJ]; exact joinM_cast k (l := f0 :: tl) (by simpa using h)
  have hJe : joinM k (f0 :: tl) = J tl.length := by rw [hJ]; simp only [← List.length_cons (a := f0), List.take_length]
  have hcut : ∀ y, cutFD (y :: tl.map enc) (1 : Int) ((tl.length : Int) + 1) = tl.map enc := fun y => by
    unfold cutFD
    rw [show ((tl.length : Int) + 1).toNat = tl.length + 1 by omega, List.take_succ_cons, List.take_of_length_le (by rw [List.length_map]; exact Nat.le_refl _)]
    rfl
  have hq1 : (1 : Int) = (tl.length : Int) + 1 ∨ ((tl.map enc).getD 0 FD.nilf).cells.length = 4 := by
    cases tl with
    | nil => exact .inl rfl
    | cons x t => exact .inr (by show (enc x).cells.length = 4; rw [enc_form]; rfl)
  simp only [List.length_cons] at hll
  have kJ := Kp.mk hJs
  rw [hJe]
  clear hJ hJs hJe hne
  refine Wcall_K (N := 25) hm hR18 128000 (lst []) ok128 Tryd.func128 rfl rfl (by simp) (by kernel_rfl) ?_
  repeat' (first | refine ReqK.i ⟨by omega, by omega, hq1⟩ fun _ => ?_ | refine ReqK.i (by omega) fun _ => ?_ | refine ReqK.i (by unfold maxL; omega) fun _ => ?_ | simp only [go_sem, hcut, List.length_cons, Tryd.f128, R18, R17, R16, R15, R14, R13, R12, R11, R10, R9, R8, R7, R6, R5, R4, R3, R2, R1, Q20, Q19, Q18, Q17, Q16, Q15, Q14, Q13, Q12, Q11, Q10, Q9, Q8, Q7, Q6, Q5, Q4, Q3, Q2, Q1, Tbl0])
  refine WK_loop hm hR18 128000 (lst []) (ι := LoopM tl.length 2 fun _ => True)
    ⟨fun q => ⟨frL [(0, .fz (.i .i64 k)), (4, .ptr (128004, 0) 0), (5, .ptr (128005, 1) 0), (12, .fz (.sl (tl.map enc))), (13, .fz (.i .i64 tl.length)), (14, .fz (.i .i64 q.i))],
      hpL [((128004, 0), some ⟨[.fz (.i .i64 0), .fz (.s []), .full [], .full []], true, false⟩), ((128005, 1), some ⟨[.fz (.i .i64 (J q.i).kind), .fz (.s (J q.i).name.l), .fz (.sl ((J q.i).words.map enc)), .fz (.sl ((J q.i).subs.map enc))], true, false⟩)], q.m⟩, fun q => tl.length - q.i⟩
    ⟨0, 2, by omega, by omega, trivial⟩ (by kernel_rfl) ?_ ?_
  · refine Weak_to ?_ ?_ ?_ <;> simp only [go_sem, hJ0, enc_form, hcut]
    all_goals first | done | rfl | trace_state
  rintro ⟨i, m, hi, hm1, _⟩
  try simp only at hi hm1
  rcases Nat.lt_or_ge i tl.length with h2 | h2
  · have hs := kJ.out i h2
    obtain ⟨x, hx⟩ : ∃ x, tl[i] = x := ⟨_, rfl⟩
    rw [hx] at hs
    obtain ⟨y, hy⟩ : ∃ y, J i = y := ⟨_, rfl⟩
    rw [hy] at hs
    repeat' (first | refine ReqK.i (by omega) fun _ => ?_ | refine ReqK.i (by unfold maxL; omega) fun _ => ?_ | simp only [go_sem, h2, hx, hy, getD_map_lt, Tryd.f128, R18, R17, R16, R15, R14, R13, R12, R11, R10, R9, R8, R7, R6, R5, R4, R3, R2, R1, Q20, Q19, Q18, Q17, Q16, Q15, Q14, Q13, Q12, Q11, Q10, Q9, Q8, Q7, Q6, Q5, Q4, Q3, Q2, Q1, Tbl0])
    refine ⟨⟨i + 1, m + 3, by omega, by omega, trivial⟩, by simp only; omega, ?_⟩
    refine Weak_g [] [] [] ?_ ?_ ?_ ?_ ?_ <;> (try simp only [go_sem, hs])
    all_goals first | done | omega | rfl | trace_state
  · obtain rfl : i = tl.length := by omega
    repeat' (first | refine ReqK.i (by omega) fun _ => ?_ | refine ReqK.i (by unfold maxL; omega) fun _ => ?_ | simp only [go_sem, Nat.lt_irrefl, Tryd.f128, R18, R17, R16, R15, R14, R13, R12, R11, R10, R9, R8, R7, R6, R5, R4, R3, R2, R1, Q20, Q19, Q18, Q17, Q16, Q15, Q14, Q13, Q12, Q11, Q10, Q9, Q8, Q7, Q6, Q5, Q4, Q3, Q2, Q1, Tbl0])
def tree117 : Tv := (.q 0 (.q 1 (.q 2 (.q 3 (.q 4 (.q 5 (.q 6 (.q 7 (.br [(8, .leaf)])))))))))
def R20 : Tbl := R19.add 120 (sp2 joinM joinPre)
set_option maxRecDepth 100000 in
set_option maxHeartbeats 1000000 in
theorem hR20 : TblOk Tryd.prog GA R20 := by
  refine sp2_ok ok120 hR19 fun k l hpre _ _ => ?_
  obtain ⟨hne, hll⟩ := hpre
  have hl0 : 0 < l.length := List.length_pos_iff.2 hne
  obtain ⟨J, hJ⟩ : ∃ J : Nat → Abs.Form, J = fun i => joinM k (l.take (i + 1)) := ⟨_, rfl⟩
  obtain ⟨f0, hf0⟩ : ∃ f0, l[0] = f0 := ⟨_, rfl⟩
  have hJ0 : J 0 = f0 := by
    rw [hJ, ← hf0]
    cases l with
    | nil => exact absurd rfl hne
    | cons a t => rfl
  have hJs : ∀ i (h : i + 1 < l.length), J (i + 1) = .mk k ⟨[]⟩ [] [J i, l[i + 1]] := fun i h => by rw [hJ]; exact joinM_cast k h
  obtain ⟨n, hn⟩ : ∃ n, l.length = n + 1 := ⟨l.length - 1, by omega⟩
  have hJe : joinM k l = J n := by rw [hJ]; simp only [← hn, List.take_length]
  have kJ := Kp.mk hJs
  rw [hJe]
  clear hJ hJs hJe hne
  refine Wcall_K (N := 25) hm hR19 120000 (lst [1000005]) ok120 Tryd.func120 rfl rfl (by simp) (by kernel_rfl) ?_
  repeat' (first | refine ReqK.i (by omega) fun _ => ?_ | refine ReqK.i (by unfold maxL; omega) fun _ => ?_ | simp only [go_sem, hl0, hf0, getD_map_lt, Tryd.f120, R19, R18, R17, R16, R15, R14, R13, R12, R11, R10, R9, R8, R7, R6, R5, R4, R3, R2, R1, Q20, Q19, Q18, Q17, Q16, Q15, Q14, Q13, Q12, Q11, Q10, Q9, Q8, Q7, Q6, Q5, Q4, Q3, Q2, Q1, Tbl0])
  refine WK_loop hm hR19 120000 (lst [1000005]) (ι := LoopM n 2 fun _ => True)
    ⟨fun q => ⟨frL [(0, .fz (.i .i64 k)), (1, .fz (.sl (l.map enc))), (4, .ptr (120004, 0) 0), (5, .ptr (120005, 1) 0), (6, .fz (.i .i64 ((q.i + 1 : Nat) : Int)))],
      hpL [((120004, 0), some ⟨[.fz (.i .i64 0), .fz (.s []), .full [], .full []], true, false⟩), ((120005, 1), some ⟨[.fz (.i .i64 (J q.i).kind), .fz (.s (J q.i).name.l), .fz (.sl ((J q.i).words.map enc)), .fz (.sl ((J q.i).subs.map enc))], true, false⟩)], q.m⟩, fun q => n - q.i⟩
    ⟨0, 2, by omega, by omega, trivial⟩ (by kernel_rfl) ?_ ?_
  · refine Weak_to ?_ ?_ ?_ <;> simp only [go_sem, hJ0]
    all_goals first | done | rfl | trace_state
  rintro ⟨i, m, hi, hm1, _⟩
  try simp only at hi hm1
  rcases Nat.lt_or_ge i n with h2 | h2
  · have h3 : i + 1 < l.length := by omega
    have h3' : ((i : Int) + 1 < (l.length : Int)) = True := eq_true (by omega)
    have h4 : (0 ≤ (i : Int) + 1) = True := eq_true (by omega)
    have h5 : ((i : Int) + 1).toNat = i + 1 := by omega
    have hs := kJ.out i h3
    obtain ⟨x, hx⟩ : ∃ x, l[i + 1] = x := ⟨_, rfl⟩
    rw [hx] at hs
    obtain ⟨y, hy⟩ : ∃ y, J i = y := ⟨_, rfl⟩
    rw [hy] at hs
    repeat' (first | refine ReqK.i (by omega) fun _ => ?_ | refine ReqK.i (by unfold maxL; omega) fun _ => ?_ | simp only [go_sem, h4, h5, h3', h3, hx, hy, getD_map_lt, Tryd.f120, R19, R18, R17, R16, R15, R14, R13, R12, R11, R10, R9, R8, R7, R6, R5, R4, R3, R2, R1, Q20, Q19, Q18, Q17, Q16, Q15, Q14, Q13, Q12, Q11, Q10, Q9, Q8, Q7, Q6, Q5, Q4, Q3, Q2, Q1, Tbl0])
    refine WK_drawV hm hR19 120000 (lst [1000005]) tree117 (by kernel_rfl) (by kernel_rfl) ?_
    repeat' (first | refine And.intro ?_ ?_ | exact True.intro | refine ReqK.i (by omega) fun _ => ?_ | refine ReqK.i (by unfold maxL; omega) fun _ => ?_ | simp only [go_sem, tree117, h4, h5, h3', h3, hx, hy, getD_map_lt, Tryd.f120, R19, R18, R17, R16, R15, R14, R13, R12, R11, R10, R9, R8, R7, R6, R5, R4, R3, R2, R1, Q20, Q19, Q18, Q17, Q16, Q15, Q14, Q13, Q12, Q11, Q10, Q9, Q8, Q7, Q6, Q5, Q4, Q3, Q2, Q1, Tbl0])
    refine ⟨⟨i + 1, m + 3, by omega, by omega, trivial⟩, by simp only; omega, ?_⟩
    refine Weak_g [] [] [] ?_ ?_ ?_ ?_ ?_ <;> (try simp only [go_sem, hs])
    all_goals first | done | omega | rfl | trace_state
  · obtain rfl : i = n := by omega
    have h3 : ((i : Int) + 1 < (l.length : Int)) = False := eq_false (by omega)
    repeat' (first | refine ReqK.i (by omega) fun _ => ?_ | refine ReqK.i (by unfold maxL; omega) fun _ => ?_ | simp only [go_sem, h3, Tryd.f120, R19, R18, R17, R16, R15, R14, R13, R12, R11, R10, R9, R8, R7, R6, R5, R4, R3, R2, R1, Q20, Q19, Q18, Q17, Q16, Q15, Q14, Q13, Q12, Q11, Q10, Q9, Q8, Q7, Q6, Q5, Q4, Q3, Q2, Q1, Tbl0])
/-- what a group must be -/
def chkGo (at' : Int) : List Str → List Str → Fault
  | _, [] => ⟨0, 0⟩
  | pre, x :: xs => if isName x = false then ⟨10, at'⟩ else if x ∈ pre then ⟨7, at'⟩ else chkGo at' (pre ++ [x]) xs
def chkG (l : List Str) (at' : Int) : Fault := if l.length = 0 ∨ 5 < l.length then ⟨2, at'⟩ else chkGo at' [] l
theorem chkGo_step {at' : Int} {l : List Str} {i : Nat} (h : i < l.length) : chkGo at' (l.take i) (l.drop i) =
    if isName l[i] = false then ⟨10, at'⟩ else if l[i] ∈ l.take i then ⟨7, at'⟩ else chkGo at' (l.take (i + 1)) (l.drop (i + 1)) := by
  rw [List.drop_eq_getElem_cons h, chkGo, List.take_succ_eq_append_getElem h]
theorem chkGo_zero {at' : Int} : ∀ {xs pre : List Str}, (chkGo at' pre xs).code = 0 → chkGo at' pre xs = ⟨0, 0⟩ ∧ ∀ x ∈ xs, isName x = true
  | [], pre, h => by rw [chkGo]; exact ⟨rfl, by simp⟩
  | x :: xs, pre, h => by
    rw [chkGo] at h ⊢
    split at h
    · simp at h
    split at h
    · simp at h
    rename_i h1 h2
    have h3 := chkGo_zero h
    rw [if_neg h1, if_neg h2]
    refine ⟨h3.1, fun y hy => ?_⟩
    rcases List.mem_cons.1 hy with rfl | hy
    · simpa using h1
    · exact h3.2 y hy
theorem chkG_zero {l : List Str} {at' : Int} (h : (chkG l at').code = 0) : chkG l at' = ⟨0, 0⟩ ∧ 1 ≤ l.length ∧ l.length ≤ 5 ∧ ∀ x ∈ l, isName x = true := by
  unfold chkG at h ⊢
  split at h
  · simp at h
  rename_i h1
  rw [if_neg h1]
  have := chkGo_zero h
  exact ⟨this.1, by omega, by omega, this.2⟩
def R21 : Tbl := R20.add 125 (sp2 chkG fun _ _ => True)
set_option maxRecDepth 100000 in
set_option maxHeartbeats 1000000 in
theorem hR21 : TblOk Tryd.prog GA R21 := by
  refine sp2_ok ok125 hR20 fun l at' _ hl _ => ?_
  have la := Wf_sl hl
  simp only [List.length_map, maxL] at la
  refine Wcall_K (N := 38) hm hR20 125000 (lst []) ok125 Tryd.func125 rfl rfl (by simp) (by kernel_rfl) ?_
  simp only [go_sem]
  repeat' (first | refine CondK.d (fun _ => ?_) (fun _ => ?_) | refine ReqK.i (by omega) fun _ => ?_ | simp only [go_sem, Tryd.f125, *])
  · have e : chkG l at' = ⟨2, at'⟩ := by unfold chkG; rw [if_pos (by omega)]
    simp only [go_sem, e]
  · have e : chkG l at' = ⟨2, at'⟩ := by unfold chkG; rw [if_pos (by omega)]
    simp only [go_sem, e]
  · have e : chkG l at' = chkGo at' (l.take 0) (l.drop 0) := by unfold chkG; rw [if_neg (by omega)]; simp
    refine WK_loop hm hR20 125000 (lst []) (ι := LoopI l.length fun i => chkG l at' = chkGo at' (l.take i) (l.drop i))
      ⟨fun i => ⟨frL [(0, .fz (enc l)), (1, .fz (enc at')), (4, .ptr (125004, 0) 0), (17, .fz (enc l)), (18, .fz (.i .i64 l.length)), (19, .fz (.i .i64 i.i))], hpL [((125004, 0), some ⟨[.fz (.i .i64 0), .fz (.i .i64 0)], true, false⟩)], 1⟩, fun i => l.length - i.i⟩ ⟨0, by simp, e⟩ (by kernel_rfl) ?_ ?_
    · refine Weak_to ?_ ?_ ?_ <;> simp only [go_sem]
    · intro i
      have hi := i.hi
      have hp := i.hp
      simp only [go_sem]
      refine CondK.d (fun h2 => ?_) (fun h2 => ?_)
      · rw [chkGo_step h2] at hp
        simp only [go_sem, h2, getD_map_lt, R20, R19, R18, R17, R16, R15, R14, R13, R12, R11, R10, R9, R8, R7, R6, R5, R4, R3, R2, R1, Q20, Q19, Q18, Q17, Q16, Q15, Q14, Q13, Q12, Q11, Q10, Q9, Q8, Q7, Q6, Q5, Q4, Q3, Q2, Q1, Tbl0]
        refine CondK.i (fun h3 => ?_) (fun h3 => ?_)
        · rw [if_neg (by simp [h3])] at hp
          simp only [go_sem, h2, getD_map_lt, R20, R19, R18, R17, R16, R15, R14, R13, R12, R11, R10, R9, R8, R7, R6, R5, R4, R3, R2, R1, Q20, Q19, Q18, Q17, Q16, Q15, Q14, Q13, Q12, Q11, Q10, Q9, Q8, Q7, Q6, Q5, Q4, Q3, Q2, Q1, Tbl0]
          refine ReqK.i (by omega) fun _ => ?_
          simp only [go_sem, h2, getD_map_lt, R20, R19, R18, R17, R16, R15, R14, R13, R12, R11, R10, R9, R8, R7, R6, R5, R4, R3, R2, R1, Q20, Q19, Q18, Q17, Q16, Q15, Q14, Q13, Q12, Q11, Q10, Q9, Q8, Q7, Q6, Q5, Q4, Q3, Q2, Q1, Tbl0]
          refine CondK.d (fun h4 => ?_) (fun h4 => ?_)
          · rw [if_pos h4] at hp
            simp only [go_sem, Tryd.f125, hp]
          · rw [if_neg h4] at hp
            simp only [go_sem]
            refine ReqK.i (by omega) fun _ => ?_
            simp only [go_sem]
            refine ⟨⟨i.i + 1, by omega, hp⟩, by simp only; omega, ?_⟩
            refine Weak_to ?_ ?_ ?_ <;> simp only [go_sem]
        · rw [if_pos h3] at hp
          simp only [go_sem, Tryd.f125, hp]
      · have e2 : chkG l at' = ⟨0, 0⟩ := by rw [hp, List.drop_of_length_le (by omega), chkGo]
        simp only [go_sem, Tryd.f125, e2]
def R22 : Tbl := R21
theorem hR22 : TblOk Tryd.prog GA R22 := hR21
end Go.Proofs.YtoicheicnbjfeaaDoor

namespace Go.Proofs.YtoicheicnbjfeaaDoor
open Go Go.Abs Go.Proofs

/-! ## plural.Each and the document's -/
def eachP (f : Abs.Form) (name : Str) (group : List Str) : Abs.Form × Fault :=
  if (checkM false f).code ≠ 0 then (zeroF, checkM false f) else if isName name = false then (zeroF, ⟨10, -2⟩) else if (chkG group (-3)).code ≠ 0 then (zeroF, chkG group (-3)) else (doneF (eachM f name group), doneE (eachM f name group))
def tree503p : Tv := (.q 0 (.br [(1, (.br [(2, (.br [(3, .leaf)]))])), (2, (.q 1 (.br [(3, .leaf)])))]))
theorem list_nep {α : Type} {l : List α} (h : 1 ≤ l.length) : l ≠ [] := fun e => by rw [e] at h; simp at h
theorem each_fit {f : Abs.Form} {name : Str} {group : List Str} (h : (checkM false f).code = 0) (hg : group.length ≤ 5) : szPre (eachM f name group) := by
  refine ⟨joinM_fit 5 ((fits_mem _).2 fun g hgm => ?_), ?_⟩
  · obtain ⟨x, _, rfl⟩ := List.mem_map.1 hgm
    rw [canonM_fit]; exact checkM_fit h
  · have h1 := joinM_size 5 (group.map fun g => canonM f [⟨name, g⟩])
    have h2 := sizes_mul (c := 200) (group.map fun g => canonM f [⟨name, g⟩]) fun g hgm => by
      obtain ⟨x, _, rfl⟩ := List.mem_map.1 hgm
      rw [canonM_size]; exact checkM_size h
    unfold eachM
    rw [List.length_map] at h1 h2
    omega
def R23 : Tbl := R22.add 53 (sp3p eachP fun _ _ _ => True)
set_option maxRecDepth 100000 in
set_option maxHeartbeats 1000000 in
theorem hR23 : TblOk Tryd.prog GA R23 := by
  refine sp3p_ok ok53 hR22 fun f name group _ hwf _ hwg => ?_
  have la := Wf_sl hwg
  simp only [List.length_map, maxL] at la
  by_cases hc1 : ¬ (checkM false f).code = 0
  · have e1 : eachP f name group = (zeroF, checkM false f) := by unfold eachP; rw [if_pos hc1]
    simp only [e1, zeroF]
    refine Wcall_K (N := 51) hm hR22 53000 (lsw [44] [1000003, 1000008]) ok53 Tryd.func53 rfl rfl (by simp) (by kernel_rfl) ?_
    repeat' (first | refine WK_drawV hm hR22 53000 (lsw [44] [1000003, 1000008]) tree503p (by kernel_rfl) (by kernel_rfl) ?_ | refine And.intro ?_ ?_ | exact True.intro | refine ReqK.i (by omega) fun _ => ?_ | refine ReqK.i (by unfold maxL; omega) fun _ => ?_ | refine ReqK.i (fits_of2 (by first | omega | (simp only [List.length_map, List.length_take, List.length_append, List.length_cons, List.length_nil]; omega)) (by decide)) fun _ => ?_ | simp only [go_sem, hc1, form_eta, tree503p, Tryd.f53, R22, R21, R20, R19, R18, R17, R16, R15, R14, R13, R12, R11, R10, R9, R8, R7, R6, R5, R4, R3, R2, R1, Q20, Q19, Q18, Q17, Q16, Q15, Q14, Q13, Q12, Q11, Q10, Q9, Q8, Q7, Q6, Q5, Q4, Q3, Q2, Q1, Tbl0])
  have hc1 := Decidable.not_not.1 hc1
  have hck := checkM_code hc1
  by_cases hc2 : isName name = false
  · have e1 : eachP f name group = (zeroF, ⟨10, -2⟩) := by unfold eachP; rw [if_neg (by simp [hc1]), if_pos hc2]
    simp only [e1, zeroF]
    refine Wcall_K (N := 51) hm hR22 53000 (lsw [44] [1000003, 1000008]) ok53 Tryd.func53 rfl rfl (by simp) (by kernel_rfl) ?_
    repeat' (first | refine WK_drawV hm hR22 53000 (lsw [44] [1000003, 1000008]) tree503p (by kernel_rfl) (by kernel_rfl) ?_ | refine And.intro ?_ ?_ | exact True.intro | refine ReqK.i (by omega) fun _ => ?_ | refine ReqK.i (by unfold maxL; omega) fun _ => ?_ | refine ReqK.i (fits_of2 (by first | omega | (simp only [List.length_map, List.length_take, List.length_append, List.length_cons, List.length_nil]; omega)) (by decide)) fun _ => ?_ | simp only [go_sem, hc1, hck, hc2, form_eta, str_eta, tree503p, Tryd.f53, R22, R21, R20, R19, R18, R17, R16, R15, R14, R13, R12, R11, R10, R9, R8, R7, R6, R5, R4, R3, R2, R1, Q20, Q19, Q18, Q17, Q16, Q15, Q14, Q13, Q12, Q11, Q10, Q9, Q8, Q7, Q6, Q5, Q4, Q3, Q2, Q1, Tbl0])
  have hc2 : isName name = true := by simpa using hc2
  by_cases hc3 : ¬ (chkG group (-3)).code = 0
  · have e1 : eachP f name group = (zeroF, chkG group (-3)) := by unfold eachP; rw [if_neg (by simp [hc1]), if_neg (by simp [hc2]), if_pos hc3]
    simp only [e1, zeroF]
    refine Wcall_K (N := 51) hm hR22 53000 (lsw [44] [1000003, 1000008]) ok53 Tryd.func53 rfl rfl (by simp) (by kernel_rfl) ?_
    repeat' (first | refine WK_drawV hm hR22 53000 (lsw [44] [1000003, 1000008]) tree503p (by kernel_rfl) (by kernel_rfl) ?_ | refine And.intro ?_ ?_ | exact True.intro | refine ReqK.i (by omega) fun _ => ?_ | refine ReqK.i (by unfold maxL; omega) fun _ => ?_ | refine ReqK.i (fits_of2 (by first | omega | (simp only [List.length_map, List.length_take, List.length_append, List.length_cons, List.length_nil]; omega)) (by decide)) fun _ => ?_ | simp only [go_sem, hc1, hck, hc2, hc3, form_eta, str_eta, tree503p, Tryd.f53, R22, R21, R20, R19, R18, R17, R16, R15, R14, R13, R12, R11, R10, R9, R8, R7, R6, R5, R4, R3, R2, R1, Q20, Q19, Q18, Q17, Q16, Q15, Q14, Q13, Q12, Q11, Q10, Q9, Q8, Q7, Q6, Q5, Q4, Q3, Q2, Q1, Tbl0])
  have hc3 := Decidable.not_not.1 hc3
  obtain ⟨hc3e, hg1, hg5, hgn⟩ := chkG_zero hc3
  have e1 : eachP f name group = (doneF (eachM f name group), doneE (eachM f name group)) := by unfold eachP; rw [if_neg (by simp [hc1]), if_neg (by simp [hc2]), if_neg (by simp [hc3])]
  have hfit := checkM_fit hc1
  have hsz := checkM_size hc1
  have hput : f.fit = true ∧ f.size ≤ 1000 := ⟨hfit, by omega⟩
  have hdone := each_fit (name := name) hc1 hg5
  obtain ⟨L, hL⟩ : ∃ L : Nat → List Abs.Form, L = fun i => (group.take i).map fun g => canonM f [⟨name, g⟩] := ⟨_, rfl⟩
  have hL0 : L 0 = [] := by rw [hL]; rfl
  have hLs : ∀ i (h : i < group.length), L (i + 1) = L i ++ [canonM f [⟨name, group[i]⟩]] := fun i h => by rw [hL]; simp only [List.take_succ_eq_append_getElem h, List.map_append, List.map_cons, List.map_nil]
  have hLl : ∀ i, (L i).length ≤ group.length := fun i => by rw [hL]; simp only [List.length_map, List.length_take]; omega
  have hLe : joinM 5 (L group.length) = eachM f name group := by rw [hL]; simp only [List.take_length]; rfl
  have hjp : joinPre 5 (L group.length) := by
    refine ⟨list_nep ?_, ?_⟩
    · rw [hL]; simp only [List.length_map, List.take_length]; exact hg1
    · have := hLl group.length; omega
  obtain ⟨E, hE⟩ : ∃ E, eachM f name group = E := ⟨_, rfl⟩
  rw [hE] at hLe hdone
  obtain ⟨c, hcE⟩ : ∃ c, doneF E = c := ⟨_, rfl⟩
  simp only [e1, hE, hcE]
  have kL := Kp.mk hLs
  clear hL hLs
  refine Wcall_K (N := 51) hm hR22 53000 (lsw [44] [1000003, 1000008]) ok53 Tryd.func53 rfl rfl (by simp) (by kernel_rfl) ?_
  repeat' (first | refine ReqK.i (by omega) fun _ => ?_ | refine ReqK.i (by unfold maxL; omega) fun _ => ?_ | refine ReqK.i (fits_of2 (by first | omega | (simp only [List.length_map, List.length_take, List.length_append, List.length_cons, List.length_nil]; omega)) (by decide)) fun _ => ?_ | simp only [go_sem, hc1, hck, hc2, hc3, hc3e, form_eta, str_eta, Tryd.f53, R22, R21, R20, R19, R18, R17, R16, R15, R14, R13, R12, R11, R10, R9, R8, R7, R6, R5, R4, R3, R2, R1, Q20, Q19, Q18, Q17, Q16, Q15, Q14, Q13, Q12, Q11, Q10, Q9, Q8, Q7, Q6, Q5, Q4, Q3, Q2, Q1, Tbl0])
  refine WK_loop hm hR22 53000 (lsw [44] [1000003, 1000008]) (ι := LoopG group.length 6 fun _ => True)
    ⟨fun q => ⟨frL [(1, .fz (.s name.l)), (3, .ptr (53003, 0) 0), (6, .ptr (53006, 1) 0), (7, .ptr (53007, 2) 0), (10, .ow (53044, q.g) 4 ((L q.i).map enc)), (32, .fz (.sl (group.map enc))), (33, .fz (.i .i64 group.length)), (34, .fz (.i .i64 q.i))],
      hpL [((53003, 0), some ⟨[.fz (.i .i64 f.kind), .fz (.s f.name.l), .fz (.sl (f.words.map enc)), .fz (.sl (f.subs.map enc))], true, false⟩), ((53006, 1), some ⟨[.fz (.i .i64 0), .fz (.s []), .full [], .full []], true, false⟩), ((53007, 2), some ⟨[.fz (.i .i64 0), .fz (.i .i64 0)], true, false⟩), ((53044, q.g), some tok)], q.m⟩, fun q => group.length - q.i⟩
    ⟨0, 5, 6, by omega, by omega, by omega, trivial⟩ (by kernel_rfl) ?_ ?_
  · refine Weak_g [] [(53044, 5)] [] ?_ ?_ ?_ ?_ ?_ <;> simp only [go_sem, hL0]
    all_goals first | done | rfl | omega | trace_state
  rintro ⟨i, g, m, hi, hg, hm1, _⟩
  try simp only at hi hg hm1
  rcases Nat.lt_or_ge i group.length with h1 | h1
  · have hls := kL.out i h1
    have hll := hLl i
    obtain ⟨x, hx⟩ : ∃ x, group[i] = x := ⟨_, rfl⟩
    rw [hx] at hls
    obtain ⟨y, hy⟩ : ∃ y, canonM f [⟨name, x⟩] = y := ⟨_, rfl⟩
    rw [hy] at hls
    repeat' (first | refine ReqK.i hput fun _ => ?_ | refine ReqK.i (by omega) fun _ => ?_ | refine ReqK.i (by unfold maxL; omega) fun _ => ?_ | refine ReqK.i (fits_of2 (by first | omega | (simp only [List.length_map, List.length_take, List.length_append, List.length_cons, List.length_nil]; omega)) (by decide)) fun _ => ?_ | simp only [go_sem, h1, hx, hy, form_eta, str_eta, getD_map_lt, Tryd.f53, R22, R21, R20, R19, R18, R17, R16, R15, R14, R13, R12, R11, R10, R9, R8, R7, R6, R5, R4, R3, R2, R1, Q20, Q19, Q18, Q17, Q16, Q15, Q14, Q13, Q12, Q11, Q10, Q9, Q8, Q7, Q6, Q5, Q4, Q3, Q2, Q1, Tbl0])
    refine ⟨⟨i + 1, m, m + 1, by omega, by omega, by omega, trivial⟩, by simp only; omega, ?_⟩
    refine Weak_to ?_ ?_ ?_ <;> (try simp only [go_sem, hls, List.map_append])
    all_goals first | done | omega | rfl | trace_state
  · obtain rfl : i = group.length := by omega
    repeat' (first | refine ReqK.i hjp fun _ => ?_ | refine ReqK.i hdone fun _ => ?_ | refine ReqK.i (by omega) fun _ => ?_ | refine ReqK.i (by unfold maxL; omega) fun _ => ?_ | refine ReqK.i (fits_of2 (by first | omega | (simp only [List.length_map, List.length_take, List.length_append, List.length_cons, List.length_nil]; omega)) (by decide)) fun _ => ?_ | simp only [go_sem, Nat.lt_irrefl, hLe, hcE, form_eta, Tryd.f53, R22, R21, R20, R19, R18, R17, R16, R15, R14, R13, R12, R11, R10, R9, R8, R7, R6, R5, R4, R3, R2, R1, Q20, Q19, Q18, Q17, Q16, Q15, Q14, Q13, Q12, Q11, Q10, Q9, Q8, Q7, Q6, Q5, Q4, Q3, Q2, Q1, Tbl0])
def eachR (f : Abs.Form) (name : Str) (group : List Str) : Abs.Form := joinM 5 (group.map fun g => wthM f [⟨name, g⟩])
def eachPre (f : Abs.Form) (_ : Str) (group : List Str) : Prop := f.fit = true ∧ f.size ≤ 200 ∧ 1 ≤ group.length ∧ group.length ≤ 5
def R24 : Tbl := R23
theorem hR24 : TblOk Tryd.prog GA R24 := hR23
end Go.Proofs.YtoicheicnbjfeaaDoor

namespace Go.Abs
open Go
theorem cum_fit {pred : Str} {a b : List Str} : (cumM pred a b).fit = true := by
  refine joinM_fit 5 ((fits_mem _).2 fun g hg => ?_)
  have hh : ∀ x y : Str, (holdsM pred x y).fit = true := fun x y => by simp [holdsM, Form.fit, Form.fits]
  rcases List.mem_append.1 hg with h | h
  · obtain ⟨x, _, rfl⟩ := List.mem_map.1 h
    refine joinM_fit 6 ((fits_mem _).2 fun g hg => ?_)
    obtain ⟨y, _, rfl⟩ := List.mem_map.1 hg
    exact hh _ _
  · obtain ⟨x, _, rfl⟩ := List.mem_map.1 h
    refine joinM_fit 6 ((fits_mem _).2 fun g hg => ?_)
    obtain ⟨y, _, rfl⟩ := List.mem_map.1 hg
    exact hh _ _
theorem row_size {pred : Str} {b : List Str} (h : b.length ≤ 5) (x : Str) : (rowA pred b x).size ≤ 11 ∧ (rowB pred b x).size ≤ 11 := by
  have hh : ∀ x y : Str, (holdsM pred x y).size ≤ 1 := fun x y => by simp [holdsM, Form.size, Form.sizes]
  constructor
  · have h1 := joinM_size 6 (b.map fun y => holdsM pred x y)
    have h2 := sizes_mul (c := 1) (b.map fun y => holdsM pred x y) fun g hg => by
      obtain ⟨y, _, rfl⟩ := List.mem_map.1 hg; exact hh _ _
    unfold rowA; rw [List.length_map] at h1 h2; omega
  · have h1 := joinM_size 6 (b.map fun y => holdsM pred y x)
    have h2 := sizes_mul (c := 1) (b.map fun y => holdsM pred y x) fun g hg => by
      obtain ⟨y, _, rfl⟩ := List.mem_map.1 hg; exact hh _ _
    unfold rowB; rw [List.length_map] at h1 h2; omega
theorem cum_size {pred : Str} {a b : List Str} (ha : a.length ≤ 5) (hb : b.length ≤ 5) : (cumM pred a b).size ≤ 1000 := by
  have h1 := joinM_size 5 (a.map (rowA pred b) ++ b.map (rowB pred a))
  have h2 := sizes_mul (c := 11) (a.map (rowA pred b) ++ b.map (rowB pred a)) fun g hg => by
    rcases List.mem_append.1 hg with h | h
    · obtain ⟨x, _, rfl⟩ := List.mem_map.1 h; exact (row_size hb x).1
    · obtain ⟨x, _, rfl⟩ := List.mem_map.1 h; exact (row_size ha x).2
  unfold cumM
  rw [List.length_append, List.length_map, List.length_map] at h1 h2
  omega
end Go.Abs
namespace Go.Proofs.YtoicheicnbjfeaaDoor
open Go Go.Abs Go.Proofs

/-! ## plural.Cumulative -/
set_option maxRecDepth 100000 in
set_option maxHeartbeats 1000000 in
theorem f131 {x y pr : List UInt8} {id : Abs.Id} {H : Heap} {n : Nat} {R : D → Heap → Nat → Prop} (hid : id.2 < n) (ho : H id = some ⟨[.fz (.s pr)], true, false⟩) (hR : ∀ n', n ≤ n' → R (.agg [.fz (.i .i64 2), .fz (.s pr), .full [.s x, .s y], .full []]) H n') :
    Wcall Tryd.prog GA 131 [.fz (.s x), .fz (.s y), .ptr id 0] H n R := by
  refine Wcall_keep ok131 (fun hfr => ?_) hR
  have hne : id ≠ (131005, n) := by rintro rfl; simp at hid
  have hne' : (id = (131005, n)) = False := eq_false hne
  obtain ⟨Q, hQ⟩ : ∃ Q : D → Heap → Nat → Prop, Q = (fun d' H' n' => d' = .agg [.fz (.i .i64 2), .fz (.s pr), .full [.s x, .s y], .full []] ∧ n ≤ n' ∧ ∀ id, id.2 < n → H' id = H id) := ⟨_, rfl⟩
  rw [← hQ]
  have e : H = hpX [] H := rfl
  rw [e]
  refine Wcall_K (N := 11) hm hR24 131000 (lst []) ok131 Tryd.func131 rfl rfl (by simp) (by kernel_rfl) ?_
  repeat' (first | refine ReqK.i (by omega) fun _ => ?_ | refine ReqK.i (by unfold maxL; omega) fun _ => ?_ | refine ReqK.i (fits_of2 (by first | omega | (simp only [List.length_map, List.length_take, List.length_append, List.length_cons, List.length_nil]; omega)) (by decide)) fun _ => ?_ | simp only [go_sem, hne', ho, Tryd.f131, R24, R23, R22, R21, R20, R19, R18, R17, R16, R15, R14, R13, R12, R11, R10, R9, R8, R7, R6, R5, R4, R3, R2, R1, Q20, Q19, Q18, Q17, Q16, Q15, Q14, Q13, Q12, Q11, Q10, Q9, Q8, Q7, Q6, Q5, Q4, Q3, Q2, Q1, Tbl0])
  all_goals try (rw [if_neg hne, ho])
  repeat' (first | refine ReqK.i (by omega) fun _ => ?_ | refine ReqK.i (by unfold maxL; omega) fun _ => ?_ | refine ReqK.i (fits_of2 (by first | omega | (simp only [List.length_map, List.length_take, List.length_append, List.length_cons, List.length_nil]; omega)) (by decide)) fun _ => ?_ | simp only [go_sem, hne', ho, Tryd.f131, R24, R23, R22, R21, R20, R19, R18, R17, R16, R15, R14, R13, R12, R11, R10, R9, R8, R7, R6, R5, R4, R3, R2, R1, Q20, Q19, Q18, Q17, Q16, Q15, Q14, Q13, Q12, Q11, Q10, Q9, Q8, Q7, Q6, Q5, Q4, Q3, Q2, Q1, Tbl0])
  rw [hQ]
  refine ⟨?_, by omega, fun id hid => hpX_old (n := n) (by intro p hp; simp at hp; rcases hp with rfl | rfl <;> simp) id hid⟩
  simp only [go_sem]
def cumP (pred : Str) (a b : List Str) : Abs.Form × Fault :=
  if isName pred = false then (zeroF, ⟨10, -1⟩) else if (chkG a (-2)).code ≠ 0 then (zeroF, chkG a (-2)) else if (chkG b (-3)).code ≠ 0 then (zeroF, chkG b (-3)) else (doneF (cumM pred a b), doneE (cumM pred a b))
def R25 : Tbl := R24.add 55 (sp3p cumP fun _ _ _ => True)
set_option maxRecDepth 100000 in
set_option maxHeartbeats 1000000 in
set_option maxHeartbeats 8000000 in
theorem hR25 : TblOk Tryd.prog GA R25 := by
  refine sp3p_ok ok55 hR24 fun pred a b _ _ hwa hwb => ?_
  by_cases hc1 : isName pred = false
  · have e1 : cumP pred a b = (zeroF, ⟨10, -1⟩) := by unfold cumP; rw [if_pos hc1]
    simp only [e1, zeroF]
    refine Wcall_K (N := 99) hm hR24 55000 (lsw [60, 66, 86, 92] [1000005, 1000008]) ok55 Tryd.func55 rfl rfl (by simp) (by kernel_rfl) ?_
    repeat' (first | refine WK_drawV hm hR24 55000 (lsw [60, 66, 86, 92] [1000005, 1000008]) tree503p (by kernel_rfl) (by kernel_rfl) ?_ | refine And.intro ?_ ?_ | exact True.intro | refine ReqK.i (by omega) fun _ => ?_ | refine ReqK.i (by unfold maxL; omega) fun _ => ?_ | refine ReqK.i (fits_of2 (by first | omega | (simp only [List.length_map, List.length_take, List.length_append, List.length_cons, List.length_nil]; omega)) (by decide)) fun _ => ?_ | simp only [go_sem, hc1, str_eta, tree503p, Tryd.f55, R24, R23, R22, R21, R20, R19, R18, R17, R16, R15, R14, R13, R12, R11, R10, R9, R8, R7, R6, R5, R4, R3, R2, R1, Q20, Q19, Q18, Q17, Q16, Q15, Q14, Q13, Q12, Q11, Q10, Q9, Q8, Q7, Q6, Q5, Q4, Q3, Q2, Q1, Tbl0])
  have hc1 : isName pred = true := by simpa using hc1
  by_cases hc2 : ¬ (chkG a (-2)).code = 0
  · have e1 : cumP pred a b = (zeroF, chkG a (-2)) := by unfold cumP; rw [if_neg (by simp [hc1]), if_pos hc2]
    simp only [e1, zeroF]
    refine Wcall_K (N := 99) hm hR24 55000 (lsw [60, 66, 86, 92] [1000005, 1000008]) ok55 Tryd.func55 rfl rfl (by simp) (by kernel_rfl) ?_
    repeat' (first | refine WK_drawV hm hR24 55000 (lsw [60, 66, 86, 92] [1000005, 1000008]) tree503p (by kernel_rfl) (by kernel_rfl) ?_ | refine And.intro ?_ ?_ | exact True.intro | refine ReqK.i (by omega) fun _ => ?_ | refine ReqK.i (by unfold maxL; omega) fun _ => ?_ | refine ReqK.i (fits_of2 (by first | omega | (simp only [List.length_map, List.length_take, List.length_append, List.length_cons, List.length_nil]; omega)) (by decide)) fun _ => ?_ | simp only [go_sem, hc1, hc2, str_eta, tree503p, Tryd.f55, R24, R23, R22, R21, R20, R19, R18, R17, R16, R15, R14, R13, R12, R11, R10, R9, R8, R7, R6, R5, R4, R3, R2, R1, Q20, Q19, Q18, Q17, Q16, Q15, Q14, Q13, Q12, Q11, Q10, Q9, Q8, Q7, Q6, Q5, Q4, Q3, Q2, Q1, Tbl0])
  have hc2 := Decidable.not_not.1 hc2
  obtain ⟨hc2e, ha1, ha5, _⟩ := chkG_zero hc2
  by_cases hc3 : ¬ (chkG b (-3)).code = 0
  · have e1 : cumP pred a b = (zeroF, chkG b (-3)) := by unfold cumP; rw [if_neg (by simp [hc1]), if_neg (by simp [hc2]), if_pos hc3]
    simp only [e1, zeroF]
    refine Wcall_K (N := 99) hm hR24 55000 (lsw [60, 66, 86, 92] [1000005, 1000008]) ok55 Tryd.func55 rfl rfl (by simp) (by kernel_rfl) ?_
    repeat' (first | refine WK_drawV hm hR24 55000 (lsw [60, 66, 86, 92] [1000005, 1000008]) tree503p (by kernel_rfl) (by kernel_rfl) ?_ | refine And.intro ?_ ?_ | exact True.intro | refine ReqK.i (by omega) fun _ => ?_ | refine ReqK.i (by unfold maxL; omega) fun _ => ?_ | refine ReqK.i (fits_of2 (by first | omega | (simp only [List.length_map, List.length_take, List.length_append, List.length_cons, List.length_nil]; omega)) (by decide)) fun _ => ?_ | simp only [go_sem, hc1, hc2, hc2e, hc3, str_eta, tree503p, Tryd.f55, R24, R23, R22, R21, R20, R19, R18, R17, R16, R15, R14, R13, R12, R11, R10, R9, R8, R7, R6, R5, R4, R3, R2, R1, Q20, Q19, Q18, Q17, Q16, Q15, Q14, Q13, Q12, Q11, Q10, Q9, Q8, Q7, Q6, Q5, Q4, Q3, Q2, Q1, Tbl0])
  have hc3 := Decidable.not_not.1 hc3
  obtain ⟨hc3e, hb1, hb5, _⟩ := chkG_zero hc3
  have e1 : cumP pred a b = (doneF (cumM pred a b), doneE (cumM pred a b)) := by unfold cumP; rw [if_neg (by simp [hc1]), if_neg (by simp [hc2]), if_neg (by simp [hc3])]
  have hdone : szPre (cumM pred a b) := ⟨cum_fit, by have := cum_size (pred := pred) ha5 hb5; omega⟩
  obtain ⟨A, hA⟩ : ∃ A : Nat → List Abs.Form, A = fun i => (a.take i).map (rowA pred b) := ⟨_, rfl⟩
  have hA0 : A 0 = [] := by rw [hA]; rfl
  have hAs : ∀ i (h : i < a.length), A (i + 1) = A i ++ [rowA pred b a[i]] := fun i h => by rw [hA]; simp only [List.take_succ_eq_append_getElem h, List.map_append, List.map_cons, List.map_nil]
  have hAl : ∀ i, (A i).length ≤ a.length := fun i => by rw [hA]; simp only [List.length_map, List.length_take]; omega
  obtain ⟨B, hB⟩ : ∃ B : Nat → List Abs.Form, B = fun i => A a.length ++ (b.take i).map (rowB pred a) := ⟨_, rfl⟩
  have hB0 : B 0 = A a.length := by rw [hB]; simp
  have hBs : ∀ i (h : i < b.length), B (i + 1) = B i ++ [rowB pred a b[i]] := fun i h => by rw [hB]; simp only [List.take_succ_eq_append_getElem h, List.map_append, List.map_cons, List.map_nil, List.append_assoc]
  have hBl : ∀ i, (B i).length ≤ a.length + b.length := fun i => by have := hAl a.length; rw [hB]; simp only [List.length_append, List.length_map, List.length_take]; omega
  have hBe : joinM 5 (B b.length) = cumM pred a b := by rw [hB, hA]; simp only [List.take_length]; rfl
  have hjp : joinPre 5 (B b.length) := by
    refine ⟨list_nep ?_, ?_⟩
    · rw [hB]; simp only [List.length_append, List.length_map, List.take_length]; omega
    · have := hBl b.length; omega
  obtain ⟨P, hP⟩ : ∃ P : Str → Nat → List Abs.Form, P = fun x j => (b.take j).map fun y => holdsM pred x y := ⟨_, rfl⟩
  have hP0 : ∀ x, P x 0 = [] := fun x => by rw [hP]; rfl
  have hPs : ∀ x j (h : j < b.length), P x (j + 1) = P x j ++ [.mk 2 pred [x, b[j]] []] := fun x j h => by rw [hP]; simp only [List.take_succ_eq_append_getElem h, List.map_append, List.map_cons, List.map_nil]; rfl
  have hPl : ∀ x j, (P x j).length ≤ b.length := fun x j => by rw [hP]; simp only [List.length_map, List.length_take]; omega
  have hPe : ∀ x, joinM 6 (P x b.length) = rowA pred b x := fun x => by rw [hP]; simp only [List.take_length]; rfl
  have hPj : ∀ x, joinPre 6 (P x b.length) := fun x => ⟨list_nep (by rw [hP]; simp only [List.length_map, List.take_length]; exact hb1), by have := hPl x b.length; omega⟩
  obtain ⟨S, hS⟩ : ∃ S : Str → Nat → List Abs.Form, S = fun y j => (a.take j).map fun x => holdsM pred x y := ⟨_, rfl⟩
  have hS0 : ∀ x, S x 0 = [] := fun x => by rw [hS]; rfl
  have hSs : ∀ y j (h : j < a.length), S y (j + 1) = S y j ++ [.mk 2 pred [a[j], y] []] := fun x j h => by rw [hS]; simp only [List.take_succ_eq_append_getElem h, List.map_append, List.map_cons, List.map_nil]; rfl
  have hSl : ∀ x j, (S x j).length ≤ a.length := fun x j => by rw [hS]; simp only [List.length_map, List.length_take]; omega
  have hSe : ∀ x, joinM 6 (S x a.length) = rowB pred a x := fun x => by rw [hS]; simp only [List.take_length]; rfl
  have hSj : ∀ x, joinPre 6 (S x a.length) := fun x => ⟨list_nep (by rw [hS]; simp only [List.length_map, List.take_length]; exact ha1), by have := hSl x a.length; omega⟩
  obtain ⟨E, hE⟩ : ∃ E, cumM pred a b = E := ⟨_, rfl⟩
  rw [hE] at hBe hdone
  obtain ⟨c, hcE⟩ : ∃ c, doneF E = c := ⟨_, rfl⟩
  simp only [e1, hE, hcE]
  have kA := Kp.mk hAs
  have kB := Kp.mk hBs
  have kP := Kp.mk hPs
  have kPe := Kp.mk hPe
  have kPj := Kp.mk hPj
  have kS := Kp.mk hSs
  have kSe := Kp.mk hSe
  have kSj := Kp.mk hSj
  have kP0 := Kp.mk hP0
  have kS0 := Kp.mk hS0
  clear hA hAs hB hBs hP hPs hPe hPj hS hSs hSe hSj hE hP0 hS0
  refine Wcall_K (N := 99) hm hR24 55000 (lsw [60, 66, 86, 92] [1000005, 1000008]) ok55 Tryd.func55 rfl rfl (by simp) (by kernel_rfl) ?_
  repeat' (first | refine ReqK.i (by omega) fun _ => ?_ | refine ReqK.i (by unfold maxL; omega) fun _ => ?_ | refine ReqK.i (fits_of2 (by first | omega | (simp only [List.length_map, List.length_take, List.length_append, List.length_cons, List.length_nil]; omega)) (by decide)) fun _ => ?_ | simp only [go_sem, hc1, hc2, hc2e, hc3, hc3e, str_eta, Tryd.f55, R24, R23, R22, R21, R20, R19, R18, R17, R16, R15, R14, R13, R12, R11, R10, R9, R8, R7, R6, R5, R4, R3, R2, R1, Q20, Q19, Q18, Q17, Q16, Q15, Q14, Q13, Q12, Q11, Q10, Q9, Q8, Q7, Q6, Q5, Q4, Q3, Q2, Q1, Tbl0])
  refine WK_loop hm hR24 55000 (lsw [60, 66, 86, 92] [1000005, 1000008]) (ι := LoopG a.length 6 fun _ => True)
    ⟨fun q => ⟨frL [(1, .fz (.sl (a.map enc))), (2, .fz (.sl (b.map enc))), (6, .ptr (55006, 1) 0), (7, .ptr (55007, 2) 0), (10, .fn 131 [.ptr (55003, 0) 0]), (11, .ow (55066, q.g) 4 ((A q.i).map enc)), (42, .fz (.sl (a.map enc))), (43, .fz (.i .i64 a.length)), (44, .fz (.i .i64 q.i))],
      hpL [((55003, 0), some ⟨[.fz (.s pred.l)], true, false⟩), ((55006, 1), some ⟨[.fz (.i .i64 0), .fz (.s []), .full [], .full []], true, false⟩), ((55007, 2), some ⟨[.fz (.i .i64 0), .fz (.i .i64 0)], true, false⟩), ((55066, q.g), some tok)], q.m⟩, fun q => a.length - q.i⟩
    ⟨0, 5, 6, by omega, by omega, by omega, trivial⟩ (by kernel_rfl) ?_ ?_
  · refine Weak_g [] [(55066, 5)] [] ?_ ?_ ?_ ?_ ?_ <;> simp only [go_sem, hA0]
    all_goals first | done | rfl | omega | trace_state
  rintro ⟨i, g, m, hi, hg, hm1, _⟩
  try simp only at hi hg hm1
  rcases Nat.lt_or_ge i a.length with h1 | h1
  · have hls := kA.out i h1
    have hll := hAl i
    obtain ⟨x, hx⟩ : ∃ x, a[i] = x := ⟨_, rfl⟩
    rw [hx] at hls
    have hpe := kPe.out x
    have hpj := kPj.out x
    have hp0 := kP0.out x
    obtain ⟨r, hr⟩ : ∃ r, rowA pred b x = r := ⟨_, rfl⟩
    rw [hr] at hls hpe
    repeat' (first | refine ReqK.i (by omega) fun _ => ?_ | refine ReqK.i (by unfold maxL; omega) fun _ => ?_ | refine ReqK.i (fits_of2 (by first | omega | (simp only [List.length_map, List.length_take, List.length_append, List.length_cons, List.length_nil]; omega)) (by decide)) fun _ => ?_ | simp only [go_sem, h1, hx, str_eta, getD_map_lt, Tryd.f55, R24, R23, R22, R21, R20, R19, R18, R17, R16, R15, R14, R13, R12, R11, R10, R9, R8, R7, R6, R5, R4, R3, R2, R1, Q20, Q19, Q18, Q17, Q16, Q15, Q14, Q13, Q12, Q11, Q10, Q9, Q8, Q7, Q6, Q5, Q4, Q3, Q2, Q1, Tbl0])
    refine WK_loop hm hR24 55000 (lsw [60, 66, 86, 92] [1000005, 1000008]) (ι := LoopG b.length (m + 1) fun _ => True)
      ⟨fun q => ⟨frL [(1, .fz (.sl (a.map enc))), (2, .fz (.sl (b.map enc))), (6, .ptr (55006, 1) 0), (7, .ptr (55007, 2) 0), (10, .fn 131 [.ptr (55003, 0) 0]), (11, .ow (55066, g) 4 ((A i).map enc)), (13, .fz (.s x.l)), (14, .ow (55060, q.g) 4 ((P x q.i).map enc)), (42, .fz (.sl (a.map enc))), (43, .fz (.i .i64 a.length)), (44, .fz (.i .i64 i)), (48, .fz (.sl (b.map enc))), (49, .fz (.i .i64 b.length)), (50, .fz (.i .i64 q.i))],
        hpL [((55003, 0), some ⟨[.fz (.s pred.l)], true, false⟩), ((55006, 1), some ⟨[.fz (.i .i64 0), .fz (.s []), .full [], .full []], true, false⟩), ((55007, 2), some ⟨[.fz (.i .i64 0), .fz (.i .i64 0)], true, false⟩), ((55066, g), some tok), ((55060, q.g), some tok)], q.m⟩, fun q => b.length - q.i⟩
      ⟨0, m, m + 1, by omega, by omega, by omega, trivial⟩ (by kernel_rfl) ?_ ?_
    · refine Weak_g [] [(55060, m)] [] ?_ ?_ ?_ ?_ ?_ <;> simp only [go_sem, hp0]
      all_goals first | done | rfl | omega | trace_state
    rintro ⟨j, g2, m2, hj, hg2, hm2, _⟩
    try simp only at hj hg2 hm2
    rcases Nat.lt_or_ge j b.length with h2 | h2
    · have hps := kP.out x j h2
      have hpl := hPl x j
      obtain ⟨y, hy⟩ : ∃ y, b[j] = y := ⟨_, rfl⟩
      rw [hy] at hps
      repeat' (first | refine WcallK.i (f131 (pr := pred.l) (by simp only; omega) (by simp only [go_sem]) fun n3 hn3 => ?_) | refine ReqK.i (by omega) fun _ => ?_ | refine ReqK.i (by unfold maxL; omega) fun _ => ?_ | refine ReqK.i (fits_of2 (by first | omega | (simp only [List.length_map, List.length_take, List.length_append, List.length_cons, List.length_nil]; omega)) (by decide)) fun _ => ?_ | simp only [go_sem, h1, h2, hx, hy, str_eta, getD_map_lt, Tryd.f55, R24, R23, R22, R21, R20, R19, R18, R17, R16, R15, R14, R13, R12, R11, R10, R9, R8, R7, R6, R5, R4, R3, R2, R1, Q20, Q19, Q18, Q17, Q16, Q15, Q14, Q13, Q12, Q11, Q10, Q9, Q8, Q7, Q6, Q5, Q4, Q3, Q2, Q1, Tbl0])
      refine ⟨⟨j + 1, n3, n3 + 1, by omega, by omega, by omega, trivial⟩, by simp only; omega, ?_⟩
      refine Weak_to ?_ ?_ ?_ <;> (try simp only [go_sem, hps, List.map_append])
      all_goals first | done | omega | rfl | trace_state
    · obtain rfl : j = b.length := by omega
      repeat' (first | refine ReqK.i hpj fun _ => ?_ | refine ReqK.i (by omega) fun _ => ?_ | refine ReqK.i (by unfold maxL; omega) fun _ => ?_ | refine ReqK.i (fits_of2 (by first | omega | (simp only [List.length_map, List.length_take, List.length_append, List.length_cons, List.length_nil]; omega)) (by decide)) fun _ => ?_ | simp only [go_sem, h1, Nat.lt_irrefl, hpe, form_eta, Tryd.f55, R24, R23, R22, R21, R20, R19, R18, R17, R16, R15, R14, R13, R12, R11, R10, R9, R8, R7, R6, R5, R4, R3, R2, R1, Q20, Q19, Q18, Q17, Q16, Q15, Q14, Q13, Q12, Q11, Q10, Q9, Q8, Q7, Q6, Q5, Q4, Q3, Q2, Q1, Tbl0])
      refine ⟨⟨i + 1, m2, m2 + 1, by omega, by omega, by omega, trivial⟩, by simp only; omega, ?_⟩
      refine Weak_to ?_ ?_ ?_ <;> (try simp only [go_sem, hls, List.map_append])
      all_goals first | done | omega | rfl | trace_state
  obtain rfl : i = a.length := by omega
  repeat' (first | refine ReqK.i (by omega) fun _ => ?_ | refine ReqK.i (by unfold maxL; omega) fun _ => ?_ | refine ReqK.i (fits_of2 (by first | omega | (simp only [List.length_map, List.length_take, List.length_append, List.length_cons, List.length_nil]; omega)) (by decide)) fun _ => ?_ | simp only [go_sem, Nat.lt_irrefl, Tryd.f55, R24, R23, R22, R21, R20, R19, R18, R17, R16, R15, R14, R13, R12, R11, R10, R9, R8, R7, R6, R5, R4, R3, R2, R1, Q20, Q19, Q18, Q17, Q16, Q15, Q14, Q13, Q12, Q11, Q10, Q9, Q8, Q7, Q6, Q5, Q4, Q3, Q2, Q1, Tbl0])
  obtain ⟨m0, hm0⟩ : ∃ m0, m = m0 := ⟨_, rfl⟩
  refine WK_loop hm hR24 55000 (lsw [60, 66, 86, 92] [1000005, 1000008]) (ι := LoopG b.length (m + 1) fun _ => True)
    ⟨fun q => ⟨frL [(1, .fz (.sl (a.map enc))), (2, .fz (.sl (b.map enc))), (6, .ptr (55006, 1) 0), (7, .ptr (55007, 2) 0), (10, .fn 131 [.ptr (55003, 0) 0]), (11, .ow (55092, q.g) 4 ((B q.i).map enc)), (68, .fz (.sl (b.map enc))), (69, .fz (.i .i64 b.length)), (70, .fz (.i .i64 q.i))],
      hpL [((55003, 0), some ⟨[.fz (.s pred.l)], true, false⟩), ((55006, 1), some ⟨[.fz (.i .i64 0), .fz (.s []), .full [], .full []], true, false⟩), ((55007, 2), some ⟨[.fz (.i .i64 0), .fz (.i .i64 0)], true, false⟩), ((55092, q.g), some tok)], q.m⟩, fun q => b.length - q.i⟩
    ⟨0, m, m + 1, by omega, by omega, by omega, trivial⟩ (by kernel_rfl) ?_ ?_
  · refine Weak_g [((55092, m), (55066, g))] [] [] ?_ ?_ ?_ ?_ ?_ <;> simp only [go_sem, hB0]
    all_goals first | done | rfl | omega | exact .inr ⟨Nat.le_refl _, rfl, by simp [preL]⟩ | exact ⟨by omega, by omega, by omega, ⟨Nat.lt_succ_self _, .inr ⟨Nat.le_refl _, rfl, by simp [preL]⟩⟩⟩ | trace_state
  rintro ⟨i, g, m, hi, hg, hm1, _⟩
  try simp only at hi hg hm1
  rcases Nat.lt_or_ge i b.length with h1 | h1
  · have hls := kB.out i h1
    have hll := hBl i
    obtain ⟨x, hx⟩ : ∃ x, b[i] = x := ⟨_, rfl⟩
    rw [hx] at hls
    have hpe := kSe.out x
    have hpj := kSj.out x
    have hp0 := kS0.out x
    obtain ⟨r, hr⟩ : ∃ r, rowB pred a x = r := ⟨_, rfl⟩
    rw [hr] at hls hpe
    repeat' (first | refine ReqK.i (by omega) fun _ => ?_ | refine ReqK.i (by unfold maxL; omega) fun _ => ?_ | refine ReqK.i (fits_of2 (by first | omega | (simp only [List.length_map, List.length_take, List.length_append, List.length_cons, List.length_nil]; omega)) (by decide)) fun _ => ?_ | simp only [go_sem, h1, hx, str_eta, getD_map_lt, Tryd.f55, R24, R23, R22, R21, R20, R19, R18, R17, R16, R15, R14, R13, R12, R11, R10, R9, R8, R7, R6, R5, R4, R3, R2, R1, Q20, Q19, Q18, Q17, Q16, Q15, Q14, Q13, Q12, Q11, Q10, Q9, Q8, Q7, Q6, Q5, Q4, Q3, Q2, Q1, Tbl0])
    refine WK_loop hm hR24 55000 (lsw [60, 66, 86, 92] [1000005, 1000008]) (ι := LoopG a.length (m + 1) fun _ => True)
      ⟨fun q => ⟨frL [(1, .fz (.sl (a.map enc))), (2, .fz (.sl (b.map enc))), (6, .ptr (55006, 1) 0), (7, .ptr (55007, 2) 0), (10, .fn 131 [.ptr (55003, 0) 0]), (11, .ow (55092, g) 4 ((B i).map enc)), (18, .fz (.s x.l)), (19, .ow (55086, q.g) 4 ((S x q.i).map enc)), (68, .fz (.sl (b.map enc))), (69, .fz (.i .i64 b.length)), (70, .fz (.i .i64 i)), (74, .fz (.sl (a.map enc))), (75, .fz (.i .i64 a.length)), (76, .fz (.i .i64 q.i))],
        hpL [((55003, 0), some ⟨[.fz (.s pred.l)], true, false⟩), ((55006, 1), some ⟨[.fz (.i .i64 0), .fz (.s []), .full [], .full []], true, false⟩), ((55007, 2), some ⟨[.fz (.i .i64 0), .fz (.i .i64 0)], true, false⟩), ((55092, g), some tok), ((55086, q.g), some tok)], q.m⟩, fun q => a.length - q.i⟩
      ⟨0, m, m + 1, by omega, by omega, by omega, trivial⟩ (by kernel_rfl) ?_ ?_
    · refine Weak_g [] [(55086, m)] [] ?_ ?_ ?_ ?_ ?_ <;> simp only [go_sem, hp0]
      all_goals first | done | rfl | omega | trace_state
    rintro ⟨j, g2, m2, hj, hg2, hm2, _⟩
    try simp only at hj hg2 hm2
    rcases Nat.lt_or_ge j a.length with h2 | h2
    · have hps := kS.out x j h2
      have hpl := hSl x j
      obtain ⟨y, hy⟩ : ∃ y, a[j] = y := ⟨_, rfl⟩
      rw [hy] at hps
      repeat' (first | refine WcallK.i (f131 (pr := pred.l) (by simp only; omega) (by simp only [go_sem]) fun n3 hn3 => ?_) | refine ReqK.i (by omega) fun _ => ?_ | refine ReqK.i (by unfold maxL; omega) fun _ => ?_ | refine ReqK.i (fits_of2 (by first | omega | (simp only [List.length_map, List.length_take, List.length_append, List.length_cons, List.length_nil]; omega)) (by decide)) fun _ => ?_ | simp only [go_sem, h1, h2, hx, hy, str_eta, getD_map_lt, Tryd.f55, R24, R23, R22, R21, R20, R19, R18, R17, R16, R15, R14, R13, R12, R11, R10, R9, R8, R7, R6, R5, R4, R3, R2, R1, Q20, Q19, Q18, Q17, Q16, Q15, Q14, Q13, Q12, Q11, Q10, Q9, Q8, Q7, Q6, Q5, Q4, Q3, Q2, Q1, Tbl0])
      refine ⟨⟨j + 1, n3, n3 + 1, by omega, by omega, by omega, trivial⟩, by simp only; omega, ?_⟩
      refine Weak_to ?_ ?_ ?_ <;> (try simp only [go_sem, hps, List.map_append])
      all_goals first | done | omega | rfl | trace_state
    · obtain rfl : j = a.length := by omega
      repeat' (first | refine ReqK.i hpj fun _ => ?_ | refine ReqK.i (by omega) fun _ => ?_ | refine ReqK.i (by unfold maxL; omega) fun _ => ?_ | refine ReqK.i (fits_of2 (by first | omega | (simp only [List.length_map, List.length_take, List.length_append, List.length_cons, List.length_nil]; omega)) (by decide)) fun _ => ?_ | simp only [go_sem, h1, Nat.lt_irrefl, hpe, form_eta, Tryd.f55, R24, R23, R22, R21, R20, R19, R18, R17, R16, R15, R14, R13, R12, R11, R10, R9, R8, R7, R6, R5, R4, R3, R2, R1, Q20, Q19, Q18, Q17, Q16, Q15, Q14, Q13, Q12, Q11, Q10, Q9, Q8, Q7, Q6, Q5, Q4, Q3, Q2, Q1, Tbl0])
      refine ⟨⟨i + 1, m2, m2 + 1, by omega, by omega, by omega, trivial⟩, by simp only; omega, ?_⟩
      refine Weak_to ?_ ?_ ?_ <;> (try simp only [go_sem, hls, List.map_append])
      all_goals first | done | omega | rfl | trace_state
  obtain rfl : i = b.length := by omega
  repeat' (first | refine ReqK.i hjp fun _ => ?_ | refine ReqK.i hdone fun _ => ?_ | refine ReqK.i (by omega) fun _ => ?_ | refine ReqK.i (by unfold maxL; omega) fun _ => ?_ | refine ReqK.i (fits_of2 (by first | omega | (simp only [List.length_map, List.length_take, List.length_append, List.length_cons, List.length_nil]; omega)) (by decide)) fun _ => ?_ | simp only [go_sem, Nat.lt_irrefl, hBe, hcE, form_eta, Tryd.f55, R24, R23, R22, R21, R20, R19, R18, R17, R16, R15, R14, R13, R12, R11, R10, R9, R8, R7, R6, R5, R4, R3, R2, R1, Q20, Q19, Q18, Q17, Q16, Q15, Q14, Q13, Q12, Q11, Q10, Q9, Q8, Q7, Q6, Q5, Q4, Q3, Q2, Q1, Tbl0])
end Go.Proofs.YtoicheicnbjfeaaDoor

namespace Go.Proofs.YtoicheicnbjfeaaDoor
open Go Go.Abs Go.Proofs

section
variable {P : Program} {G : Nat → List FD} {T : Tbl}
/-- a recursive function of two arguments -/
theorem sp2_rec {α β ρ : Type} [Enc α] [Enc β] [Enc ρ] {f : FuncId} {g : α → β → ρ} (m : α → Nat) (hc : CallOk P f) (hT : TblOk P G T)
    (h : ∀ n, TblOk P G (T.add f (sp2 g fun a _ => m a < n)) → ∀ a b, m a = n → (enc a).Wf → (enc b).Wf → Wcall P G f [.fz (enc a), .fz (enc b)] (hpL []) 0 (fun d _ _ => D.val d = some (.fz (enc (g a b))))) : TblOk P G (T.add f (sp2 g fun _ _ => True)) := by
  have key : ∀ n, TblOk P G (T.add f (sp2 g fun a _ => m a < n)) := by
    intro n
    induction n with
    | zero => exact sp2_ok hc hT fun a _ ha => by omega
    | succ n ih =>
      refine sp2_ok hc hT fun a b ha hw hw2 => ?_
      rcases Nat.lt_or_ge (m a) n with h3 | h3
      · have h4 := ih f (sp2 g fun a _ => m a < n) [enc a, enc b] _ _ (by simp [Tbl.add]) (k_sp2) ⟨by rw [dec_enc], by rw [dec_enc], by rw [dec_enc]; exact h3⟩
        rw [dec_enc, dec_enc, H0_eq] at h4
        exact h4
      · exact h n ih a b (by omega) hw hw2
  exact sp2_ok hc hT fun a b _ hw hw2 => h (m a) (key _) a b rfl hw hw2
end
theorem form_ext {a b : Abs.Form} (h1 : a.kind = b.kind) (h2 : a.name = b.name) (h3 : a.words = b.words) (h4 : a.subs = b.subs) : a = b := by
  cases a; cases b; simp only [form_kind, form_name, form_words, form_subs] at *; subst h1 h2 h3 h4; rfl
theorem eq_of_take {α : Type} {a b : List α} (h : a.length = b.length) (h2 : a.take a.length = b.take a.length) : a = b := by
  rw [List.take_length] at h2
  rw [h, List.take_length] at h2
  exact h2
def R27 : Tbl := R22.add 38 (sp2 (fun a b : Abs.Form => decide (a = b)) fun _ _ => True)
set_option maxRecDepth 100000 in
set_option maxHeartbeats 1000000 in
theorem hR27 : TblOk Tryd.prog GA R27 := by
  refine sp2_rec Form.size ok38 hR22 fun n hT a b hn hwa hwb => ?_
  obtain ⟨Q, hQ⟩ : ∃ Q : D → Heap → Nat → Prop, Q = (fun d _ _ => D.val d = some (.fz (enc (decide (a = b))))) := ⟨_, rfl⟩
  rw [← hQ]
  have hf : a ≠ b → ∀ {H' n'}, Q (.fz (.b false)) H' n' := fun h H' n' => by rw [hQ]; show _ = some (D.fz (.b (decide (a = b)))); rw [decide_eq_false h]; rfl
  have ht : a = b → ∀ {H' n'}, Q (.fz (.b true)) H' n' := fun h H' n' => by rw [hQ]; show _ = some (D.fz (.b (decide (a = b)))); rw [decide_eq_true h]; rfl
  have hsl : a.subs.length ≤ maxL := by
    have h := Wf_agg (by have h := hwa; rw [enc_form] at h; exact h) (FD.sl (a.subs.map enc)) (by simp)
    have := Wf_sl h
    simpa using this
  unfold maxL at hsl
  have hsz : ∀ g ∈ a.subs, g.size < n := fun g hg => by have := Form.size_sub hg; omega
  have kf := Kp.mk @hf
  have kt := Kp.mk @ht
  have kz := Kp.mk hsz
  have kT := Kp.mk hT
  clear hf ht hQ hwa hwb hsz hT
  refine Wcall_K (N := 54) hm kT.out 38000 (lst []) ok38 Tryd.func38 rfl rfl (by simp) (by kernel_rfl) ?_
  repeat' (first | refine CondK.d (fun _ => ?_) (fun _ => ?_) | refine CondK.i (fun _ => ?_) (fun _ => ?_) | refine ReqK.i (by omega) fun _ => ?_ | simp only [go_sem, Tryd.f38, R22, R21, R20, R19, R18, R17, R16, R15, R14, R13, R12, R11, R10, R9, R8, R7, R6, R5, R4, R3, R2, R1, Q20, Q19, Q18, Q17, Q16, Q15, Q14, Q13, Q12, Q11, Q10, Q9, Q8, Q7, Q6, Q5, Q4, Q3, Q2, Q1, Tbl0, *])
  all_goals try (refine kf.out (fun e => ?_); subst e; contradiction)
  rename_i e1 e2 e3 e4
  have hlen : a.subs.length = b.subs.length := by omega
  refine WK_loop hm kT.out 38000 (lst []) (ι := LoopI a.subs.length fun i => a.subs.take i = b.subs.take i)
    ⟨fun q => ⟨frL [(2, .ptr (38002, 0) 0), (3, .ptr (38003, 1) 0), (37, .fz (.i .i64 a.subs.length)), (38, .fz (.i .i64 q.i))],
      hpL [((38002, 0), some ⟨[.fz (.i .i64 a.kind), .fz (.s a.name.l), .fz (.sl (a.words.map enc)), .fz (.sl (a.subs.map enc))], true, false⟩), ((38003, 1), some ⟨[.fz (.i .i64 b.kind), .fz (.s b.name.l), .fz (.sl (b.words.map enc)), .fz (.sl (b.subs.map enc))], true, false⟩)], 2⟩, fun q => a.subs.length - q.i⟩
    ⟨0, by omega, rfl⟩ (by kernel_rfl) ?_ ?_
  · refine Weak_to ?_ ?_ ?_ <;> simp only [go_sem, *]
  rintro ⟨i, hi, hpi⟩
  rcases Nat.lt_or_ge i a.subs.length with h1 | h1
  · have h2 : i < b.subs.length := by omega
    obtain ⟨x, hx⟩ : ∃ x, a.subs[i] = x := ⟨_, rfl⟩
    obtain ⟨y, hy⟩ : ∃ y, b.subs[i] = y := ⟨_, rfl⟩
    have hxs : x.size < n := kz.out x (by rw [← hx]; exact List.getElem_mem h1)
    by_cases hxy : x = y
    · repeat' (first | refine ReqK.i (by omega) fun _ => ?_ | simp only [go_sem, h1, h2, hx, hy, hxs, eq_true hxy, getD_map_lt, Tryd.f38, R22, R21, R20, R19, R18, R17, R16, R15, R14, R13, R12, R11, R10, R9, R8, R7, R6, R5, R4, R3, R2, R1, Q20, Q19, Q18, Q17, Q16, Q15, Q14, Q13, Q12, Q11, Q10, Q9, Q8, Q7, Q6, Q5, Q4, Q3, Q2, Q1, Tbl0])
      refine ⟨⟨i + 1, by omega, ?_⟩, by simp only; omega, ?_⟩
      · rw [List.take_succ_eq_append_getElem h1, List.take_succ_eq_append_getElem h2, hpi, hx, hy, hxy]
      · refine Weak_to ?_ ?_ ?_ <;> simp only [go_sem]
    · repeat' (first | refine ReqK.i (by omega) fun _ => ?_ | simp only [go_sem, h1, h2, hx, hy, hxs, eq_false hxy, getD_map_lt, Tryd.f38, R22, R21, R20, R19, R18, R17, R16, R15, R14, R13, R12, R11, R10, R9, R8, R7, R6, R5, R4, R3, R2, R1, Q20, Q19, Q18, Q17, Q16, Q15, Q14, Q13, Q12, Q11, Q10, Q9, Q8, Q7, Q6, Q5, Q4, Q3, Q2, Q1, Tbl0])
      exact kf.out fun e => hxy (by subst e; rw [← hx, ← hy])
  · have h1' : ¬ i < a.subs.length := by omega
    obtain rfl : i = a.subs.length := by omega
    repeat' (first | refine ReqK.i (by omega) fun _ => ?_ | simp only [go_sem, Nat.lt_irrefl, h1', Tryd.f38])
    exact kt.out (form_ext e1 e2 e3 (eq_of_take hlen hpi))

def twoM (k : Int) (f g : Abs.Form) : Abs.Form := .mk k ⟨[]⟩ [] [f, g]
def R28 : Tbl := R27.add 36 (sp3 twoM fun _ _ _ => True)
set_option maxRecDepth 100000 in
set_option maxHeartbeats 1000000 in
theorem hR28 : TblOk Tryd.prog GA R28 := by
  refine sp3_ok ok36 hR27 fun k f g _ _ _ _ => ?_
  simp only [twoM]
  refine Wcall_K (N := 12) hm hR27 36000 (lst []) ok36 Tryd.func36 rfl rfl (by simp) (by kernel_rfl) ?_
  repeat' (first | refine ReqK.i (by omega) fun _ => ?_ | refine ReqK.i (by unfold maxL; omega) fun _ => ?_ | simp only [go_sem, form_eta, Tryd.f36, R27, R22, R21, R20, R19, R18, R17, R16, R15, R14, R13, R12, R11, R10, R9, R8, R7, R6, R5, R4, R3, R2, R1, Q20, Q19, Q18, Q17, Q16, Q15, Q14, Q13, Q12, Q11, Q10, Q9, Q8, Q7, Q6, Q5, Q4, Q3, Q2, Q1, Tbl0])

def tree503 : Tv := (.q 0 (.br [(1, (.br [(2, (.br [(3, .leaf)]))])), (2, (.q 1 (.br [(3, .leaf)])))]))
def sWalk : Str := ⟨[119, 97, 108, 107]⟩
def sKim : Str := ⟨[107, 105, 109]⟩
end Go.Proofs.YtoicheicnbjfeaaDoor
