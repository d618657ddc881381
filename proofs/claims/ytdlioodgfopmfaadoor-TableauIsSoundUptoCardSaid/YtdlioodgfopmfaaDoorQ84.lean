import Derived.Test.YtdlioodgfopmfaaDoorAT
import Derived.Test.YtdlioodgfopmfaaDoorQ70
import Derived.Test.YtdlioodgfopmfaaDoorY14
set_option maxRecDepth 100000
set_option maxHeartbeats 1000000
set_option linter.unusedSimpArgs false
namespace Go.Abs
open Go
theorem below_succ2 {p : Nat → Prop} {i : Nat} (h : ∀ j, j < i → p j) (hi : p i) : ∀ j, j < i + 1 → p j := fun j h2 => by
  rcases Nat.lt_or_ge j i with h3 | h3
  · exact h j h3
  · obtain rfl : j = i := by omega
    exact hi
theorem hasRs_none {m : Model} {l : List Form} (h : ∀ j (hj : j < l.length), hasR m l[j] = true) : hasRs m l = true := by rw [hasRs_all]; exact all_holds h
theorem hasRs_bad {m : Model} {l : List Form} {j : Nat} (hj : j < l.length) (h : hasR m l[j] = false) : hasRs m l = false := by rw [hasRs_all]; exact all_falls hj h
end Go.Abs
namespace Go.Proofs.YtdlioodgfopmfaaDoor
open Go Go.Abs Go.Proofs
section
variable {G : Nat → List FD}
theorem relP_snd {m : Model} {w : Str} {n : Int} : (relP m w n).2 = (findR m w n).isSome := by
  unfold relP
  cases findR m w n <;> rfl
set_option maxHeartbeats 8000000 in
theorem f78 {m : Model} (hok : okR m.rels) : ∀ (s : Nat) (f : Abs.Form), f.size ≤ s → szP f → ∀ (H : Heap) (n : Nat) (R : D → Heap → Nat → Prop), 3 < n →
    H (38002, 0) = some ⟨[.fz (.i .i64 m.size), .fz (.sl (m.consts.map enc)), .fz (.sl (m.rels.map enc))], true, false⟩ → H (38009, 3) = some ⟨[.fn 78 [.ptr (38002, 0) 0, .ptr (38009, 3) 0]], true, false⟩ → (∀ n', n ≤ n' → R (.fz (.b (hasR m f))) H n') →
    Wcall Tryd.prog G 78 [.fz (enc f), .ptr (38002, 0) 0, .ptr (38009, 3) 0] H n R := by
  intro s
  induction s with
  | zero => intro f hs; have := f.size_pos; omega
  | succ s ih =>
    intro f hs hsz H n R hn ho1 ho2 hR
    have hsb : ∀ g ∈ f.subs, g.size ≤ s ∧ szP g := fun g hg => by have := szP_sub hsz hg; exact ⟨by omega, this.2⟩
    have hsl := (Form.fit_eq hsz.1).2.1
    have hwl := (Form.fit_eq hsz.1).1
    refine Wcall_keep ok78 (fun hfr => ?_) hR
    clear hR
    obtain ⟨Q, hQ⟩ : ∃ Q : D → Heap → Nat → Prop, Q = (fun d' H' n' => d' = .fz (.b (hasR m f)) ∧ n ≤ n' ∧ ∀ id, id.2 < n → H' id = H id) := ⟨_, rfl⟩
    rw [← hQ]
    have hX : ∀ id o, H id = some o → id.2 < n := fun id o h => by
      rcases Nat.lt_or_ge id.2 n with h1 | h1
      · exact h1
      · rw [hfr id h1] at h; cases h
    have hX' : ∀ {l : List (Abs.Id × Option O)} (id o), H id = some o → (id.2 < n → apartL id l) → hpX l H id = some o := fun id o h1 h2 => (hpX_pass (h2 (hX id o h1))).trans h1
    have hfin : ∀ {b : Bool} {l : List (Abs.Id × Option O)} {n' : Nat}, hasR m f = b → n ≤ n' → (∀ p ∈ l, n ≤ p.1.2) → Q (.fz (.b b)) (hpX l H) n' := fun {b l n'} h1 h2 h3 => by
      rw [hQ]; exact ⟨by rw [h1], h2, hpX_old h3⟩
    have hR := hasR_eq (m := m) (f := f)
    have kf := Kp.mk @hfin
    have kx := Kp.mk @hX'
    have kz := Kp.mk hsb
    have kI := Kp.mk ih
    clear hfin hX hX' hQ hsb ih hfr
    rw [show H = hpX [] H from rfl]
    by_cases hb : f.kind = 2 ∧ (findR m f.name f.words.length).isSome = false
    · have e : hasR m f = false := by rw [hR, decide_eq_true hb.1, hb.2]; rfl
      have c1 := hb.1
      have e2 : (relP m f.name f.words.length).2 = false := by rw [relP_snd]; exact hb.2
      obtain ⟨r, b, hrb⟩ : ∃ r b, relP m f.name f.words.length = (r, b) := ⟨_, _, rfl⟩
      rw [hrb] at e2
      simp only at e2
      subst e2
      refine Wcall_K (N := 36) hm (G := G) hA19 78000 (lst []) ok78 Tryd.func78 rfl rfl (by simp) (by kernel_rfl) ?_
      repeat' (first | refine ReqK.i hok fun _ => ?_ | refine rq fun _ => ?_ | simp only [go_sem, ho1, ho2, c1, hrb, model_eta, str_eta, Tryd.f78])
      exact kf.out e (by omega) (by intro p hp; simp at hp; rcases hp with rfl | rfl | rfl | rfl <;> simp only <;> omega)
    have hR2 : hasR m f = hasRs m f.subs := by
      rw [hR]
      by_cases h2 : f.kind = 2
      · have h3 : (findR m f.name f.words.length).isSome = true := by
          cases h4 : (findR m f.name f.words.length).isSome with
          | true => rfl
          | false => exact absurd ⟨h2, h4⟩ hb
        rw [h3]; simp
      · simp [h2]
    have hk : f.kind = 2 ∨ ¬ f.kind = 2 := by omega
    refine Wcall_K (N := 36) hm (G := G) hA19 78000 (lst []) ok78 Tryd.func78 rfl rfl (by simp) (by kernel_rfl) ?_
    rcases hk with hk | hk
    case' inl =>
      have e2 : (relP m f.name f.words.length).2 = true := by
        rw [relP_snd]
        cases h4 : (findR m f.name f.words.length).isSome with
        | true => rfl
        | false => exact absurd ⟨hk, h4⟩ hb
      obtain ⟨r, b, hrb⟩ : ∃ r b, relP m f.name f.words.length = (r, b) := ⟨_, _, rfl⟩
      rw [hrb] at e2
      simp only at e2
      subst e2
      repeat' (first | refine ReqK.i hok fun _ => ?_ | refine rq fun _ => ?_ | simp only [go_sem, ho1, ho2, hk, hrb, model_eta, str_eta, Tryd.f78])
    case' inr =>
      have hk' : (f.kind = 2) = False := eq_false hk
      repeat' (first | refine rq fun _ => ?_ | simp only [go_sem, ho1, ho2, hk', model_eta, str_eta, Tryd.f78])
    all_goals
      refine WK_loop hm (G := G) hA19 78000 (lst []) (ι := LoopM f.subs.length n fun i => ∀ j (h : j < f.subs.length), j < i → hasR m f.subs[j] = true)
        ⟨fun q => ⟨frL [(1, .ptr (38002, 0) 0), (2, .ptr (38009, 3) 0), (25, .fz (.sl (f.subs.map enc))), (26, .fz (.i .i64 f.subs.length)), (27, .fz (.i .i64 q.i))], hpX [] H, q.m⟩, fun q => f.subs.length - q.i⟩
        ⟨0, n + 9, by omega, by omega, fun j h h2 => by omega⟩ (by kernel_rfl) ?_ ?_
      · refine Weak_toX ?_ ?_ (fun id o ho => ?_) ?_
        · simp only [go_sem]
        · simp only [go_sem]
        · refine kx.out id o ho fun h1 => ?_
          ((repeat' (first | exact trivial | apply And.intro)) <;> (rintro rfl; simp only at h1; omega))
        · simp only [go_sem]; omega
      rintro ⟨i, q, hi, hq, hp⟩
      try simp only at hi hq
      rcases Nat.lt_or_ge i f.subs.length with h1 | h1
      · have hz := kz.out _ (List.getElem_mem h1)
        have hbad := hasRs_bad (m := m) h1
        obtain ⟨x, hx⟩ : ∃ x, f.subs[i] = x := ⟨_, rfl⟩
        rw [hx] at hz hbad
        have hgood : hasR m x = true → ∀ j (h : j < f.subs.length), j < i + 1 → hasR m f.subs[j] = true := fun h j hj h2 => by
          rcases Nat.lt_or_ge j i with h3 | h3
          · exact hp j hj h3
          · obtain rfl : j = i := by omega
            rw [hx]; exact h
        have kb := Kp.mk hbad
        have kg := Kp.mk hgood
        clear hbad hgood
        have ihx := kI.out x hz.1 hz.2
        rw [enc_form (f := x)] at ihx
        have kih := Kp.mk ihx
        clear ihx
        cases hv : hasR m x with
        | false =>
          repeat' (first | refine rq fun _ => ?_ | simp only [go_sem, h1, hx, ho1, ho2, getD_map_lt, Tryd.f78])
          refine WcallK.i (Wcall_hd rfl (kih.out _ _ _ (by omega) (by simp only [go_sem, ho1]) (by simp only [go_sem, ho2]) fun n' hn' => ?_))
          repeat' (first | refine rq fun _ => ?_ | simp only [go_sem, hv, ho1, ho2, Tryd.f78])
          exact kf.out (hR2.trans (kb.out hv)) (by omega) (by intro p hp; simp at hp; rcases hp with rfl | rfl <;> simp only <;> omega)
        | true =>
          repeat' (first | refine rq fun _ => ?_ | simp only [go_sem, h1, hx, ho1, ho2, getD_map_lt, Tryd.f78])
          refine WcallK.i (Wcall_hd rfl (kih.out _ _ _ (by omega) (by simp only [go_sem, ho1]) (by simp only [go_sem, ho2]) fun n' hn' => ?_))
          repeat' (first | refine rq fun _ => ?_ | simp only [go_sem, hv, ho1, ho2, Tryd.f78])
          refine ⟨⟨i + 1, n' + 1, by omega, by omega, kg.out hv⟩, by simp only; omega, ?_⟩
          refine Weak_toX ?_ ?_ (fun id o ho => ?_) ?_
          · simp only [go_sem]
          · simp only [go_sem]
          · refine kx.out id o ho fun h1 => ?_
            ((repeat' (first | exact trivial | apply And.intro)) <;> (rintro rfl; simp only at h1; omega))
          · simp only [go_sem]; omega
      obtain rfl : i = f.subs.length := by omega
      repeat' (first | refine rq fun _ => ?_ | simp only [go_sem, Nat.lt_irrefl, Tryd.f78])
      exact kf.out (hR2.trans (hasRs_none fun j h => hp j h h)) (by omega) (by intro p hp; simp at hp)
theorem constP_snd {m : Model} {w : Str} : (constP m w).2 = (findC m w).isSome := by
  unfold constP
  cases findC m w <;> rfl
theorem used_all {m : Model} {f : Abs.Form} (h : ∀ j (hj : j < (usedM f).length), (findC m (usedM f)[j]).isSome = true) : (cst f []).all (fun c => (findC m c).isSome) = true := by
  rw [List.all_eq_true]
  intro c hc
  obtain ⟨j, hj, rfl⟩ := List.getElem_of_mem ((mem_usedM f c).2 hc)
  exact h j hj
theorem used_bad {m : Model} {f : Abs.Form} {j : Nat} (hj : j < (usedM f).length) (h : (findC m (usedM f)[j]).isSome = false) : (cst f []).all (fun c => (findC m c).isSome) = false :=  by
  cases ha : (cst f []).all (fun c => (findC m c).isSome) with
  | false => rfl
  | true => rw [List.all_eq_true.1 ha _ ((mem_usedM f _).1 (List.getElem_mem hj))] at h; cases h
def flP (m : Model) (f : Abs.Form) : Prop := okC m.consts ∧ okR m.rels ∧ szP f ∧ (cst f []).length ≤ 1000000
def A20 : Tbl := A19.add 38 (sp2 truthE flP)
attribute [go_sem] A20
set_option maxHeartbeats 8000000 in
theorem hA20 : TblOk Tryd.prog G A20 := by
  refine sp2_ok ok38 hA19 fun m f hpre _ _ => ?_
  obtain ⟨hoc, hor, hsz, hcl⟩ := hpre
  have hul := usedM_len f
  have hsp : (cst f []).length ≤ 1000000 ∧ f.size ≤ 1000000 := ⟨hcl, hsz.2⟩
  by_cases h1 : 5 < nestM f
  · have e : truthE m f = ⟨17, -2⟩ := by unfold truthE; rw [if_pos h1]
    have h1' : (5 < (nestM f : Int)) = True := eq_true (by omega)
    rw [e]
    refine Wcall_K (N := 38) hm (G := G) hA19 38000 (lst []) ok38 Tryd.func38 rfl rfl (by simp) (by kernel_rfl) ?_
    repeat' (first | refine ReqK.i hsz fun _ => ?_ | refine rq fun _ => ?_ | simp only [go_sem, h1', model_eta, form_eta, Tryd.f38])
  have h1' : (5 < (nestM f : Int)) = False := eq_false (by omega)
  have hlb : ∀ b, lacksM m f = b → truthE m f = if b = true then ⟨6, -2⟩ else ⟨0, 0⟩ := fun b h => by unfold truthE; rw [if_neg h1, h]
  obtain ⟨U, hU⟩ : ∃ U, usedM f = U := ⟨_, rfl⟩
  have hbad : ∀ j (h : j < U.length), (findC m U[j]).isSome = false → truthE m f = ⟨6, -2⟩ := fun j h h2 => by
    subst hU
    rw [hlb true (by unfold lacksM; rw [used_bad h h2]; rfl), if_pos rfl]
  have hend : (∀ j (h : j < U.length), (findC m U[j]).isSome = true) → truthE m f = if hasR m f = false then ⟨6, -2⟩ else ⟨0, 0⟩ := fun h => by
    subst hU
    rw [hlb (!hasR m f) (by unfold lacksM; rw [used_all h]; rfl)]
    cases hasR m f <;> rfl
  rw [hU] at hul
  have kb := Kp.mk hbad
  have ke := Kp.mk hend
  have h185 := f78 (G := G) (m := m) hor f.size f (Nat.le_refl _) hsz
  rw [enc_form (f := f)] at h185
  have k185 := Kp.mk h185
  clear hbad hend hlb h185
  refine Wcall_K (N := 38) hm (G := G) hA19 38000 (lst []) ok38 Tryd.func38 rfl rfl (by simp) (by kernel_rfl) ?_
  repeat' (first | refine ReqK.i hsz fun _ => ?_ | refine ReqK.i hsp fun _ => ?_ | refine rq fun _ => ?_ | simp only [go_sem, h1', hU, model_eta, form_eta, Tryd.f38])
  refine WK_loop hm (G := G) hA19 38000 (lst []) (ι := LoopI U.length fun i => ∀ j (h : j < U.length), j < i → (findC m U[j]).isSome = true)
    ⟨fun q => ⟨frL [(2, .ptr (38002, 0) 0), (3, .ptr (38003, 1) 0), (4, .ptr (38004, 2) 0), (15, .fz (.sl (U.map enc))), (16, .fz (.i .i64 U.length)), (17, .fz (.i .i64 q.i))],
      hpL [((38002, 0), some ⟨[.fz (.i .i64 m.size), .fz (.sl (m.consts.map enc)), .fz (.sl (m.rels.map enc))], true, false⟩), ((38003, 1), some ⟨[.fz (.i .i64 f.kind), .fz (.s f.name.l), .fz (.sl (f.words.map enc)), .fz (.sl (f.subs.map enc))], true, false⟩), ((38004, 2), some ⟨[.fz (.i .i64 0), .fz (.i .i64 0)], true, false⟩)], 3⟩, fun q => U.length - q.i⟩
    ⟨0, by omega, fun j h h2 => by omega⟩ (by kernel_rfl) ?_ ?_
  · refine Weak_to ?_ ?_ ?_ <;> simp only [go_sem]
  rintro ⟨i, hi, hp⟩
  try simp only at hi hp
  rcases Nat.lt_or_ge i U.length with h2 | h2
  · have hb := kb.out i h2
    have hg := fun h => below_succ2 (p := fun j => ∀ h : j < U.length, (findC m U[j]).isSome = true) (i := i) (fun j h1 h3 => hp j h3 h1) h
    obtain ⟨v, b, hvb⟩ : ∃ v b, constP m U[i] = (v, b) := ⟨_, _, rfl⟩
    have hs : b = (findC m U[i]).isSome := by rw [← constP_snd, hvb]
    cases hbb : b with
    | false =>
      rw [hbb] at hs hvb
      rw [hb hs.symm]
      repeat' (first | refine ReqK.i hoc fun _ => ?_ | refine rq fun _ => ?_ | simp only [go_sem, h2, hvb, model_eta, str_eta, getD_map_lt, Tryd.f38])
    | true =>
      rw [hbb] at hs hvb
      have kg := Kp.mk (hg fun _ => hs.symm)
      repeat' (first | refine ReqK.i hoc fun _ => ?_ | refine rq fun _ => ?_ | simp only [go_sem, h2, hvb, model_eta, str_eta, getD_map_lt, Tryd.f38])
      refine ⟨⟨i + 1, by omega, fun j h h3 => kg.out j h3 h⟩, by simp only; omega, ?_⟩
      refine Weak_to ?_ ?_ ?_ <;> simp only [go_sem]
  obtain rfl : i = U.length := by omega
  rw [ke.out fun j h => hp j h h]
  repeat' (first | refine rq fun _ => ?_ | simp only [go_sem, Nat.lt_irrefl, model_eta, Tryd.f38])
  refine WcallK.i (Wcall_hd rfl (k185.out _ _ _ (by omega) (by simp only [go_sem]) (by simp only [go_sem]) fun n' hn' => ?_))
  cases hasR m f
  · repeat' (first | refine rq fun _ => ?_ | simp only [go_sem, Bool.false_eq_true, Tryd.f38])
  · repeat' (first | refine rq fun _ => ?_ | simp only [go_sem, Bool.false_eq_true, Tryd.f38])
end
end Go.Proofs.YtdlioodgfopmfaaDoor
