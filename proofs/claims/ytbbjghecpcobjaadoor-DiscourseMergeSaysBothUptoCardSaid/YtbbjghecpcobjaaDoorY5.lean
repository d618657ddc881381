/- several texts of this proof in one; no conditions -/
import Derived.Test.YtbbjghecpcobjaaDoorAT
import Derived.Test.YtbbjghecpcobjaaDoorY4
import Derived.Test.YtbbjghecpcobjaaDoorVS
set_option linter.unusedSimpArgs false
namespace Go.Abs
open Go
theorem below_succ2 {p : Nat → Prop} {i : Nat} (h : ∀ j, j < i → p j) (hi : p i) : ∀ j, j < i + 1 → p j := fun j h2 => by
  rcases Nat.lt_or_ge j i with h3 | h3
  · exact h j h3
  · obtain rfl : j = i := by omega
    exact hi
theorem hasRs_none {m : Model} {l : List Form} (h : ∀ j (hj : j < l.length), hasR m l[j] = true) : hasRs m l = true := by rw [hasRs_all]; exact all_holds h
theorem hasRs_bad {m : Model} {l : List Form} {j : Nat} (hj : j < l.length) (h : hasR m l[j] = false) : hasRs m l = false := by rw [hasRs_all]; exact all_falls hj h
end Go.Abs
namespace Go.Proofs.YtbbjghecpcobjaaDoor
open Go Go.Abs Go.Proofs
section
variable {G : Nat → List FD}
/-! ## truth.Fault -/
theorem relP_snd {m : Model} {w : Str} {n : Int} : (relP m w n).2 = (findR m w n).isSome := by
  unfold relP
  cases findR m w n <;> rfl
set_option maxRecDepth 100000 in
set_option maxHeartbeats 1000000 in
set_option maxHeartbeats 8000000 in
theorem f114 {m : Model} (hok : okR m.rels) : ∀ (s : Nat) (f : Abs.Form), f.size ≤ s → szP f → ∀ (H : Heap) (n : Nat) (R : D → Heap → Nat → Prop), 3 < n →
    H (72002, 0) = some ⟨[.fz (.i .i64 m.size), .fz (.sl (m.consts.map enc)), .fz (.sl (m.rels.map enc))], true, false⟩ → H (72009, 3) = some ⟨[.fn 114 [.ptr (72002, 0) 0, .ptr (72009, 3) 0]], true, false⟩ → (∀ n', n ≤ n' → R (.fz (.b (hasR m f))) H n') →
    Wcall Tryd.prog G 114 [.fz (enc f), .ptr (72002, 0) 0, .ptr (72009, 3) 0] H n R := by
  intro s
  induction s with
  | zero => intro f hs; have := f.size_pos; omega
  | succ s ih =>
    intro f hs hsz H n R hn ho1 ho2 hR
    have hsb : ∀ g ∈ f.subs, g.size ≤ s ∧ szP g := fun g hg => by have := szP_sub hsz hg; exact ⟨by omega, this.2⟩
    have hsl := (Form.fit_eq hsz.1).2.1
    have hwl := (Form.fit_eq hsz.1).1
    refine Wcall_keep ok114 (fun hfr => ?_) hR
    clear hR
    obtain ⟨Q, hQ⟩ : ∃ Q : D → Heap → Nat → Prop, Q = (fun d' H' n' => d' = .fz (.b (hasR m f)) ∧ n ≤ n' ∧ ∀ id, id.2 < n → H' id = H id) := ⟨_, rfl⟩
    rw [← hQ]
    have hX : ∀ id o, H id = some o → id.2 < n := fun id o h => by
      rcases Nat.lt_or_ge id.2 n with h1 | h1
      · exact h1
      · rw [hfr id h1] at h; cases h
    have hX' : ∀ {l : List (Abs.Id × Option O)} (id o), H id = some o → (id.2 < n → apartL id l) → hpX l H id = some o := fun id o h1 h2 => (hpX_pass (h2 (hX id o h1))).trans h1
    have hfin : ∀ {b : Bool} {l : List (Abs.Id × Option O)} {n' : Nat}, hasR m f = b → n ≤ n' → (∀ p ∈ l, n ≤ p.1.2) → Q (.fz (.b b)) (hpX l H) n' := fun {b l n'} h1 h2 h3 => by
      rw [hQ]; exact ⟨by rw [h1], h2, hpX_old h3⟩
    have hR := hasR_eq (m := m) (f := f)
    have kf := Kp.mk @hfin
    have kx := Kp.mk @hX'
    have kz := Kp.mk hsb
    have kI := Kp.mk ih
    clear hfin hX hX' hQ hsb ih hfr
    rw [show H = hpX [] H from rfl]
    by_cases hb : f.kind = 2 ∧ (findR m f.name f.words.length).isSome = false
    · have e : hasR m f = false := by rw [hR, decide_eq_true hb.1, hb.2]; rfl
      have c1 := hb.1
      have e2 : (relP m f.name f.words.length).2 = false := by rw [relP_snd]; exact hb.2
      obtain ⟨r, b, hrb⟩ : ∃ r b, relP m f.name f.words.length = (r, b) := ⟨_, _, rfl⟩
      rw [hrb] at e2
      simp only at e2
      subst e2
      refine Wcall_K (N := 36) hm (G := G) hA19 114000 (lst []) ok114 Tryd.func114 rfl rfl (by simp) (by kernel_rfl) ?_
      repeat' (first | refine ReqK.i hok fun _ => ?_ | refine rq fun _ => ?_ | simp only [go_sem, ho1, ho2, c1, hrb, model_eta, str_eta, Tryd.f114])
      exact kf.out e (by omega) (by intro p hp; simp at hp; rcases hp with rfl | rfl | rfl | rfl <;> simp only <;> omega)
    have hR2 : hasR m f = hasRs m f.subs := by
      rw [hR]
      by_cases h2 : f.kind = 2
      · have h3 : (findR m f.name f.words.length).isSome = true := by
          cases h4 : (findR m f.name f.words.length).isSome with
          | true => rfl
          | false => exact absurd ⟨h2, h4⟩ hb
        rw [h3]; simp
      · simp [h2]
    have hk : f.kind = 2 ∨ ¬ f.kind = 2 := by omega
    refine Wcall_K (N := 36) hm (G := G) hA19 114000 (lst []) ok114 Tryd.func114 rfl rfl (by simp) (by kernel_rfl) ?_
    rcases hk with hk | hk
    case' inl =>
      have e2 : (relP m f.name f.words.length).2 = true := by
        rw [relP_snd]
        cases h4 : (findR m f.name f.words.length).isSome with
        | true => rfl
        | false => exact absurd ⟨hk, h4⟩ hb
      obtain ⟨r, b, hrb⟩ : ∃ r b, relP m f.name f.words.length = (r, b) := ⟨_, _, rfl⟩
      rw [hrb] at e2
      simp only at e2
      subst e2
      repeat' (first | refine ReqK.i hok fun _ => ?_ | refine rq fun _ => ?_ | simp only [go_sem, ho1, ho2, hk, hrb, model_eta, str_eta, Tryd.f114])
    case' inr =>
      have hk' : (f.kind = 2) = False := eq_false hk
      repeat' (first | refine rq fun _ => ?_ | simp only [go_sem, ho1, ho2, hk', model_eta, str_eta, Tryd.f114])
    all_goals
      refine WK_loop hm (G := G) hA19 114000 (lst []) (ι := LoopM f.subs.length n fun i => ∀ j (h : j < f.subs.length), j < i → hasR m f.subs[j] = true)
        ⟨fun q => ⟨frL [(1, .ptr (72002, 0) 0), (2, .ptr (72009, 3) 0), (25, .fz (.sl (f.subs.map enc))), (26, .fz (.i .i64 f.subs.length)), (27, .fz (.i .i64 q.i))], hpX [] H, q.m⟩, fun q => f.subs.length - q.i⟩
        ⟨0, n + 9, by omega, by omega, fun j h h2 => by omega⟩ (by kernel_rfl) ?_ ?_
      · refine Weak_toX ?_ ?_ (fun id o ho => ?_) ?_
        · simp only [go_sem]
        · simp only [go_sem]
        · refine kx.out id o ho fun h1 => ?_
          ((repeat' (first | exact trivial | apply And.intro)) <;> (rintro rfl; simp only at h1; omega))
        · simp only [go_sem]; omega
      rintro ⟨i, q, hi, hq, hp⟩
      try simp only at hi hq
      rcases Nat.lt_or_ge i f.subs.length with h1 | h1
      · have hz := kz.out _ (List.getElem_mem h1)
        have hbad := hasRs_bad (m := m) h1
        obtain ⟨x, hx⟩ : ∃ x, f.subs[i] = x := ⟨_, rfl⟩
        rw [hx] at hz hbad
        have hgood : hasR m x = true → ∀ j (h : j < f.subs.length), j < i + 1 → hasR m f.subs[j] = true := fun h j hj h2 => by
          rcases Nat.lt_or_ge j i with h3 | h3
          · exact hp j hj h3
          · obtain rfl : j = i := by omega
            rw [hx]; exact h
        have kb := Kp.mk hbad
        have kg := Kp.mk hgood
        clear hbad hgood
        have ihx := kI.out x hz.1 hz.2
        rw [enc_form (f := x)] at ihx
        have kih := Kp.mk ihx
        clear ihx
        cases hv : hasR m x with
        | false =>
          repeat' (first | refine rq fun _ => ?_ | simp only [go_sem, h1, hx, ho1, ho2, getD_map_lt, Tryd.f114])
          refine WcallK.i (Wcall_hd rfl (kih.out _ _ _ (by omega) (by simp only [go_sem, ho1]) (by simp only [go_sem, ho2]) fun n' hn' => ?_))
          repeat' (first | refine rq fun _ => ?_ | simp only [go_sem, hv, ho1, ho2, Tryd.f114])
          exact kf.out (hR2.trans (kb.out hv)) (by omega) (by intro p hp; simp at hp; rcases hp with rfl | rfl <;> simp only <;> omega)
        | true =>
          repeat' (first | refine rq fun _ => ?_ | simp only [go_sem, h1, hx, ho1, ho2, getD_map_lt, Tryd.f114])
          refine WcallK.i (Wcall_hd rfl (kih.out _ _ _ (by omega) (by simp only [go_sem, ho1]) (by simp only [go_sem, ho2]) fun n' hn' => ?_))
          repeat' (first | refine rq fun _ => ?_ | simp only [go_sem, hv, ho1, ho2, Tryd.f114])
          refine ⟨⟨i + 1, n' + 1, by omega, by omega, kg.out hv⟩, by simp only; omega, ?_⟩
          refine Weak_toX ?_ ?_ (fun id o ho => ?_) ?_
          · simp only [go_sem]
          · simp only [go_sem]
          · refine kx.out id o ho fun h1 => ?_
            ((repeat' (first | exact trivial | apply And.intro)) <;> (rintro rfl; simp only at h1; omega))
          · simp only [go_sem]; omega
      obtain rfl : i = f.subs.length := by omega
      repeat' (first | refine rq fun _ => ?_ | simp only [go_sem, Nat.lt_irrefl, Tryd.f114])
      exact kf.out (hR2.trans (hasRs_none fun j h => hp j h h)) (by omega) (by intro p hp; simp at hp)
theorem constP_snd {m : Model} {w : Str} : (constP m w).2 = (findC m w).isSome := by
  unfold constP
  cases findC m w <;> rfl
theorem used_all {m : Model} {f : Abs.Form} (h : ∀ j (hj : j < (usedM f).length), (findC m (usedM f)[j]).isSome = true) : (cst f []).all (fun c => (findC m c).isSome) = true := by
  rw [List.all_eq_true]
  intro c hc
  obtain ⟨j, hj, rfl⟩ := List.getElem_of_mem ((mem_usedM f c).2 hc)
  exact h j hj
theorem used_bad {m : Model} {f : Abs.Form} {j : Nat} (hj : j < (usedM f).length) (h : (findC m (usedM f)[j]).isSome = false) : (cst f []).all (fun c => (findC m c).isSome) = false :=  by
  cases ha : (cst f []).all (fun c => (findC m c).isSome) with
  | false => rfl
  | true => rw [List.all_eq_true.1 ha _ ((mem_usedM f _).1 (List.getElem_mem hj))] at h; cases h
def flP (m : Model) (f : Abs.Form) : Prop := okC m.consts ∧ okR m.rels ∧ szP f ∧ (cst f []).length ≤ 1000000
def A20 : Tbl := A19.add 72 (sp2 truthE flP)
attribute [go_sem] A20
set_option maxRecDepth 100000 in
set_option maxHeartbeats 1000000 in
set_option maxHeartbeats 8000000 in
theorem hA20 : TblOk Tryd.prog G A20 := by
  refine sp2_ok ok72 hA19 fun m f hpre _ _ => ?_
  obtain ⟨hoc, hor, hsz, hcl⟩ := hpre
  have hul := usedM_len f
  have hsp : (cst f []).length ≤ 1000000 ∧ f.size ≤ 1000000 := ⟨hcl, hsz.2⟩
  by_cases h1 : 5 < nestM f
  · have e : truthE m f = ⟨17, -2⟩ := by unfold truthE; rw [if_pos h1]
    have h1' : (5 < (nestM f : Int)) = True := eq_true (by omega)
    rw [e]
    refine Wcall_K (N := 38) hm (G := G) hA19 72000 (lst []) ok72 Tryd.func72 rfl rfl (by simp) (by kernel_rfl) ?_
    repeat' (first | refine ReqK.i hsz fun _ => ?_ | refine rq fun _ => ?_ | simp only [go_sem, h1', model_eta, form_eta, Tryd.f72])
  have h1' : (5 < (nestM f : Int)) = False := eq_false (by omega)
  have hlb : ∀ b, lacksM m f = b → truthE m f = if b = true then ⟨6, -2⟩ else ⟨0, 0⟩ := fun b h => by unfold truthE; rw [if_neg h1, h]
  obtain ⟨U, hU⟩ : ∃ U, usedM f = U := ⟨_, rfl⟩
  have hbad : ∀ j (h : j < U.length), (findC m U[j]).isSome = false → truthE m f = ⟨6, -2⟩ := fun j h h2 => by
    subst hU
    rw [hlb true (by unfold lacksM; rw [used_bad h h2]; rfl), if_pos rfl]
  have hend : (∀ j (h : j < U.length), (findC m U[j]).isSome = true) → truthE m f = if hasR m f = false then ⟨6, -2⟩ else ⟨0, 0⟩ := fun h => by
    subst hU
    rw [hlb (!hasR m f) (by unfold lacksM; rw [used_all h]; rfl)]
    cases hasR m f <;> rfl
  rw [hU] at hul
  have kb := Kp.mk hbad
  have ke := Kp.mk hend
  have h185 := f114 (G := G) (m := m) hor f.size f (Nat.le_refl _) hsz
  rw [enc_form (f := f)] at h185
  have k185 := Kp.mk h185
  clear hbad hend hlb h185
  refine Wcall_K (N := 38) hm (G := G) hA19 72000 (lst []) ok72 Tryd.func72 rfl rfl (by simp) (by kernel_rfl) ?_
  repeat' (first | refine ReqK.i hsz fun _ => ?_ | refine ReqK.i hsp fun _ => ?_ | refine rq fun _ => ?_ | simp only [go_sem, h1', hU, model_eta, form_eta, Tryd.f72])
  refine WK_loop hm (G := G) hA19 72000 (lst []) (ι := LoopI U.length fun i => ∀ j (h : j < U.length), j < i → (findC m U[j]).isSome = true)
    ⟨fun q => ⟨frL [(2, .ptr (72002, 0) 0), (3, .ptr (72003, 1) 0), (4, .ptr (72004, 2) 0), (15, .fz (.sl (U.map enc))), (16, .fz (.i .i64 U.length)), (17, .fz (.i .i64 q.i))],
      hpL [((72002, 0), some ⟨[.fz (.i .i64 m.size), .fz (.sl (m.consts.map enc)), .fz (.sl (m.rels.map enc))], true, false⟩), ((72003, 1), some ⟨[.fz (.i .i64 f.kind), .fz (.s f.name.l), .fz (.sl (f.words.map enc)), .fz (.sl (f.subs.map enc))], true, false⟩), ((72004, 2), some ⟨[.fz (.i .i64 0), .fz (.i .i64 0)], true, false⟩)], 3⟩, fun q => U.length - q.i⟩
    ⟨0, by omega, fun j h h2 => by omega⟩ (by kernel_rfl) ?_ ?_
  · refine Weak_to ?_ ?_ ?_ <;> simp only [go_sem]
  rintro ⟨i, hi, hp⟩
  try simp only at hi hp
  rcases Nat.lt_or_ge i U.length with h2 | h2
  · have hb := kb.out i h2
    have hg := fun h => below_succ2 (p := fun j => ∀ h : j < U.length, (findC m U[j]).isSome = true) (i := i) (fun j h1 h3 => hp j h3 h1) h
    obtain ⟨v, b, hvb⟩ : ∃ v b, constP m U[i] = (v, b) := ⟨_, _, rfl⟩
    have hs : b = (findC m U[i]).isSome := by rw [← constP_snd, hvb]
    cases hbb : b with
    | false =>
      rw [hbb] at hs hvb
      rw [hb hs.symm]
      repeat' (first | refine ReqK.i hoc fun _ => ?_ | refine rq fun _ => ?_ | simp only [go_sem, h2, hvb, model_eta, str_eta, getD_map_lt, Tryd.f72])
    | true =>
      rw [hbb] at hs hvb
      have kg := Kp.mk (hg fun _ => hs.symm)
      repeat' (first | refine ReqK.i hoc fun _ => ?_ | refine rq fun _ => ?_ | simp only [go_sem, h2, hvb, model_eta, str_eta, getD_map_lt, Tryd.f72])
      refine ⟨⟨i + 1, by omega, fun j h h3 => kg.out j h3 h⟩, by simp only; omega, ?_⟩
      refine Weak_to ?_ ?_ ?_ <;> simp only [go_sem]
  obtain rfl : i = U.length := by omega
  rw [ke.out fun j h => hp j h h]
  repeat' (first | refine rq fun _ => ?_ | simp only [go_sem, Nat.lt_irrefl, model_eta, Tryd.f72])
  refine WcallK.i (Wcall_hd rfl (k185.out _ _ _ (by omega) (by simp only [go_sem]) (by simp only [go_sem]) fun n' hn' => ?_))
  cases hasR m f
  · repeat' (first | refine rq fun _ => ?_ | simp only [go_sem, Bool.false_eq_true, Tryd.f72])
  · repeat' (first | refine rq fun _ => ?_ | simp only [go_sem, Bool.false_eq_true, Tryd.f72])
end
end Go.Proofs.YtbbjghecpcobjaaDoor

namespace Go.Abs
open Go
/-- what stands ahead of a place of a row -/
def pvA {α : Type} (l : List α) : Nat → Option α
  | 0 => none
  | i + 1 => l[i]?
theorem pvA_succ {α : Type} {l : List α} {i : Nat} (h : i < l.length) : pvA l (i + 1) = some l[i] := List.getElem?_eq_getElem h
def ccM (m : Model) (i : Nat) : Fault := restC m.size (pvA m.consts i) (m.consts.drop i) i
def rrM (m : Model) (i : Nat) : Fault := restR m.size (pvA m.rels i) (m.rels.drop i) i
def ttM (size arity : Int) (l : List (List Int)) (k : Nat) : Int := restT size arity (pvA l k) (l.drop k)
theorem ccM_step {m : Model} {i : Nat} (h : i < m.consts.length) : ccM m i = if constC m.size (pvA m.consts i) m.consts[i] ≠ 0 then ⟨constC m.size (pvA m.consts i) m.consts[i], i⟩ else ccM m (i + 1) := by
  unfold ccM
  rw [List.drop_eq_getElem_cons h, restC, pvA_succ h]
theorem rrM_step {m : Model} {i : Nat} (h : i < m.rels.length) : rrM m i = if relC m.size (pvA m.rels i) m.rels[i] ≠ 0 then ⟨relC m.size (pvA m.rels i) m.rels[i], i⟩ else rrM m (i + 1) := by
  unfold rrM
  rw [List.drop_eq_getElem_cons h, restR, pvA_succ h]
theorem ttM_step {size arity : Int} {l : List (List Int)} {k : Nat} (h : k < l.length) : ttM size arity l k = if tupC size arity (pvA l k) l[k] ≠ 0 then tupC size arity (pvA l k) l[k] else ttM size arity l (k + 1) := by
  unfold ttM
  rw [List.drop_eq_getElem_cons h, restT, pvA_succ h]
theorem ccM_end (m : Model) : ccM m m.consts.length = ⟨0, 0⟩ := by unfold ccM; rw [List.drop_length, restC]
theorem rrM_end (m : Model) : rrM m m.rels.length = ⟨0, 0⟩ := by unfold rrM; rw [List.drop_length, restR]
theorem ttM_end (size arity : Int) (l : List (List Int)) : ttM size arity l l.length = 0 := by unfold ttM; rw [List.drop_length, restT]
theorem modelM_cc {m : Model} (h1 : ¬ (m.size < 1 ∨ 6 < m.size)) (h2 : ¬ (300 < m.consts.length ∨ 300 < m.rels.length)) : ((ccM m 0).code ≠ 0 → modelM m = ccM m 0) ∧ ((ccM m 0).code = 0 → modelM m = rrM m 0) := by
  unfold modelM
  rw [if_neg h1, if_neg h2]
  exact ⟨fun h => if_pos h, fun h => if_neg fun h2 => h2 h⟩
def badV (size v : Int) : Bool := decide (v < 0 ∨ size ≤ v)
end Go.Abs
namespace Go.Proofs.YtbbjghecpcobjaaDoor
open Go Go.Abs Go.Proofs
section
variable {G : Nat → List FD}
/-! ## truth.Validate -/

set_option maxRecDepth 100000 in
set_option maxHeartbeats 1000000 in
theorem f80 {c a : Int} {id : Abs.Id} {H : Heap} {n : Nat} {R : D → Heap → Nat → Prop} (hid : id.2 < n) (ho : H id = some ⟨[.fz (.i .i64 a)], true, false⟩) (hR : ∀ n', n ≤ n' → R (.agg [.fz (.i .i64 c), .fz (.i .i64 a)]) H n') :
    Wcall Tryd.prog G 80 [.fz (.i .i64 c), .ptr id 0] H n R := by
  refine Wcall_keep ok80 (fun hfr => ?_) hR
  have hne : id ≠ (80003, n) := by rintro rfl; simp at hid
  obtain ⟨Q, hQ⟩ : ∃ Q : D → Heap → Nat → Prop, Q = (fun d' H' n' => d' = .agg [.fz (.i .i64 c), .fz (.i .i64 a)] ∧ n ≤ n' ∧ ∀ id, id.2 < n → H' id = H id) := ⟨_, rfl⟩
  rw [← hQ]
  have e : H = hpX [] H := rfl
  rw [e]
  refine Wcall_K (N := 7) hm (G := G) hA20 80000 (lst []) ok80 Tryd.func80 rfl rfl (by simp) (by kernel_rfl) ?_
  simp only [go_sem]
  rw [if_neg hne, ho]
  simp only [go_sem, Tryd.f80]
  rw [hQ]
  refine ⟨?_, by omega, fun id hid => hpX_old (n := n) (by intro p hp; simp at hp; rcases hp with rfl | rfl <;> simp) id hid⟩
  simp only [go_sem]

set_option maxRecDepth 100000 in
set_option maxHeartbeats 1000000 in
theorem f81 {c a : Int} {id : Abs.Id} {H : Heap} {n : Nat} {R : D → Heap → Nat → Prop} (hid : id.2 < n) (ho : H id = some ⟨[.fz (.i .i64 a)], true, false⟩) (hR : ∀ n', n ≤ n' → R (.agg [.fz (.i .i64 c), .fz (.i .i64 a)]) H n') :
    Wcall Tryd.prog G 81 [.fz (.i .i64 c), .ptr id 0] H n R := by
  refine Wcall_keep ok81 (fun hfr => ?_) hR
  have hne : id ≠ (81003, n) := by rintro rfl; simp at hid
  obtain ⟨Q, hQ⟩ : ∃ Q : D → Heap → Nat → Prop, Q = (fun d' H' n' => d' = .agg [.fz (.i .i64 c), .fz (.i .i64 a)] ∧ n ≤ n' ∧ ∀ id, id.2 < n → H' id = H id) := ⟨_, rfl⟩
  rw [← hQ]
  have e : H = hpX [] H := rfl
  rw [e]
  refine Wcall_K (N := 7) hm (G := G) hA20 81000 (lst []) ok81 Tryd.func81 rfl rfl (by simp) (by kernel_rfl) ?_
  simp only [go_sem]
  rw [if_neg hne, ho]
  simp only [go_sem, Tryd.f81]
  rw [hQ]
  refine ⟨?_, by omega, fun id hid => hpX_old (n := n) (by intro p hp; simp at hp; rcases hp with rfl | rfl <;> simp) id hid⟩
  simp only [go_sem]
def A21 : Tbl := A20.add 35 (sp1 modelM fun _ => True)
attribute [go_sem] A21
set_option maxRecDepth 100000 in
set_option maxHeartbeats 1000000 in
set_option maxHeartbeats 20000000 in
theorem hA21 : TblOk Tryd.prog G A21 := by
  refine sp1_ok ok35 hA20 fun m _ hw => ?_
  have hcl := Wf_sl (Wf_agg (by have h := hw; rw [enc_model] at h; exact h) (FD.sl (m.consts.map enc)) (by simp))
  have hrl := Wf_sl (Wf_agg (by have h := hw; rw [enc_model] at h; exact h) (FD.sl (m.rels.map enc)) (by simp))
  simp only [List.length_map, maxL] at hcl hrl
  have htl : ∀ i (h : i < m.rels.length), m.rels[i].tuples.length ≤ 281474976710656 ∧ ∀ k (h2 : k < m.rels[i].tuples.length), m.rels[i].tuples[k].length ≤ 281474976710656 := fun i h => by
    have h3 : (enc m.rels[i]).Wf := Wf_mem (Wf_agg (by have h := hw; rw [enc_model] at h; exact h) (FD.sl (m.rels.map enc)) (by simp)) _ (List.mem_map_of_mem (List.getElem_mem h))
    rw [enc_rel] at h3
    have h4 := Wf_agg h3 (FD.sl (m.rels[i].tuples.map enc)) (by simp)
    have h5 := Wf_sl h4
    simp only [List.length_map, maxL] at h5
    refine ⟨h5, fun k hk => ?_⟩
    have h6 : (enc m.rels[i].tuples[k]).Wf := Wf_mem h4 _ (List.mem_map_of_mem (List.getElem_mem hk))
    have h7 := Wf_sl h6
    simpa [maxL] using h7
  have ktl := Kp.mk htl
  clear htl hw
  by_cases c1 : m.size < 1
  · have e : modelM m = ⟨3, 0⟩ := by unfold modelM; rw [if_pos (.inl c1)]
    rw [e]
    refine Wcall_K (N := 167) hm (G := G) hA20 35000 (lst []) ok35 Tryd.func35 rfl rfl (by simp) (by kernel_rfl) ?_
    repeat' (first | refine rq fun _ => ?_ | simp only [go_sem, c1, Tryd.f35])
  by_cases c2 : 6 < m.size
  · have e : modelM m = ⟨3, 0⟩ := by unfold modelM; rw [if_pos (.inr c2)]
    rw [e]
    refine Wcall_K (N := 167) hm (G := G) hA20 35000 (lst []) ok35 Tryd.func35 rfl rfl (by simp) (by kernel_rfl) ?_
    repeat' (first | refine rq fun _ => ?_ | simp only [go_sem, c1, c2, Tryd.f35])
  by_cases c3 : 300 < m.consts.length
  · have e : modelM m = ⟨2, 0⟩ := by unfold modelM; rw [if_neg (by omega), if_pos (.inl c3)]
    have c3' : (300 < (m.consts.length : Int)) = True := eq_true (by omega)
    rw [e]
    refine Wcall_K (N := 167) hm (G := G) hA20 35000 (lst []) ok35 Tryd.func35 rfl rfl (by simp) (by kernel_rfl) ?_
    repeat' (first | refine rq fun _ => ?_ | simp only [go_sem, c1, c2, c3', Tryd.f35])
  have c3' : (300 < (m.consts.length : Int)) = False := eq_false (by omega)
  by_cases c4 : 300 < m.rels.length
  · have e : modelM m = ⟨2, 0⟩ := by unfold modelM; rw [if_neg (by omega), if_pos (.inr c4)]
    have c4' : (300 < (m.rels.length : Int)) = True := eq_true (by omega)
    rw [e]
    refine Wcall_K (N := 167) hm (G := G) hA20 35000 (lst []) ok35 Tryd.func35 rfl rfl (by simp) (by kernel_rfl) ?_
    repeat' (first | refine rq fun _ => ?_ | simp only [go_sem, c1, c2, c3', c4', Tryd.f35])
  have c4' : (300 < (m.rels.length : Int)) = False := eq_false (by omega)
  obtain ⟨hX1, hX2⟩ := modelM_cc (m := m) (by omega) (by omega)
  obtain ⟨X, hX⟩ : ∃ X, modelM m = X := ⟨_, rfl⟩
  rw [hX] at hX1 hX2 ⊢
  have kX1 := Kp.mk hX1
  have kX2 := Kp.mk hX2
  clear hX1 hX2 hX
  refine Wcall_K (N := 167) hm (G := G) hA20 35000 (lst []) ok35 Tryd.func35 rfl rfl (by simp) (by kernel_rfl) ?_
  repeat' (first | refine rq fun _ => ?_ | simp only [go_sem, c1, c2, c3', c4', Tryd.f35])
  refine WK_loop hm (G := G) hA20 35000 (lst []) (ι := LoopM m.consts.length 2 fun i => ccM m 0 = ccM m i)
    ⟨fun q => ⟨frL [(1, .ptr (35001, 0) 0), (2, .ptr (35002, 1) 0), (34, .fz (.sl (m.consts.map enc))), (35, .fz (.i .i64 m.consts.length)), (36, .fz (.i .i64 q.i))], hpL [((35001, 0), some ⟨[.fz (.i .i64 m.size), .fz (.sl (m.consts.map enc)), .fz (.sl (m.rels.map enc))], true, false⟩), ((35002, 1), some ⟨[.fz (.i .i64 0), .fz (.i .i64 0)], true, false⟩)], q.m⟩, fun q => m.consts.length - q.i⟩
    ⟨0, 2, by omega, by omega, rfl⟩ (by kernel_rfl) ?_ ?_
  · refine Weak_to ?_ ?_ ?_ <;> simp only [go_sem]
  rintro ⟨i, q, hi, hq, hp⟩
  try simp only at hi hq hp
  rcases Nat.lt_or_ge i m.consts.length with h1 | h1
  · have hstep := ccM_step h1
    have hbad : ∀ k : Int, constC m.size (pvA m.consts i) m.consts[i] = k → k ≠ 0 → X = ⟨k, i⟩ := fun k h h2 => by
      rw [h, if_pos h2] at hstep
      rw [kX1.out (by rw [hp, hstep]; exact h2), hp, hstep]
    have hgood : constC m.size (pvA m.consts i) m.consts[i] = 0 → ccM m 0 = ccM m (i + 1) := fun h => by
      rw [h, if_neg (by simp)] at hstep
      rw [hp, hstep]
    obtain ⟨c, hc⟩ : ∃ c, m.consts[i] = c := ⟨_, rfl⟩
    rw [hc] at hbad hgood
    clear hstep
    rcases i with _ | i
    · rw [show pvA m.consts 0 = none from rfl] at hbad hgood
      have h1' : (0 : Int) < (m.consts.length : Int) := by omega
      cases hn : isName c.name with
      | false =>
        rw [hbad 10 (by unfold constC; rw [if_pos hn]) (by decide)]
        repeat' (first | refine rq fun _ => ?_ | simp only [go_sem, h1, h1', hc, const_eta, str_eta, getD_map_lt, hn, Tryd.f35])
        refine WcallK.i (f80 (a := 0) (by simp only; omega) (by simp only [go_sem]) fun n' hn' => ?_)
        repeat' (first | refine rq fun _ => ?_ | simp only [go_sem, Tryd.f35])
      | true =>
        have s1 : ∀ x y z : Int, (if isName c.name = false then x else y) = y := fun x y z => if_neg (by simp [hn])
        by_cases hv0 : c.value < 0
        · rw [hbad 3 (by unfold constC; rw [if_neg (by simp [hn]), if_neg (by simp), if_pos (.inl hv0)]) (by decide)]
          repeat' (first | refine rq fun _ => ?_ | simp only [go_sem, h1, h1', hc, const_eta, str_eta, getD_map_lt, hn, hv0, Tryd.f35])
          refine WcallK.i (f80 (a := 0) (by simp only; omega) (by simp only [go_sem]) fun n' hn' => ?_)
          repeat' (first | refine rq fun _ => ?_ | simp only [go_sem, Tryd.f35])
        by_cases hv1 : m.size ≤ c.value
        · rw [hbad 3 (by unfold constC; rw [if_neg (by simp [hn]), if_neg (by simp), if_pos (.inr hv1)]) (by decide)]
          repeat' (first | refine rq fun _ => ?_ | simp only [go_sem, h1, h1', hc, const_eta, str_eta, getD_map_lt, hn, hv0, hv1, Tryd.f35])
          refine WcallK.i (f80 (a := 0) (by simp only; omega) (by simp only [go_sem]) fun n' hn' => ?_)
          repeat' (first | refine rq fun _ => ?_ | simp only [go_sem, Tryd.f35])
        have hnx := hgood (by unfold constC; rw [if_neg (by simp [hn]), if_neg (by simp), if_neg (by omega)])
        repeat' (first | refine rq fun _ => ?_ | simp only [go_sem, h1, h1', hc, const_eta, str_eta, getD_map_lt, hn, hv0, hv1, Tryd.f35])
        refine ⟨⟨0 + 1, q + 2, by omega, by omega, hnx⟩, by simp only; omega, ?_⟩
        refine Weak_to ?_ ?_ ?_ <;> simp only [go_sem]
        all_goals first | done | omega | rfl | trace_state
      
    · have h0 : i < m.consts.length := by omega
      rw [pvA_succ h0] at hbad hgood
      obtain ⟨p, hpv⟩ : ∃ p, m.consts[i] = p := ⟨_, rfl⟩
      rw [hpv] at hbad hgood
      have h1' : (i : Int) + 1 < (m.consts.length : Int) := by omega
      have hi0 : (0 : Int) < (i : Int) + 1 := by omega
      have hi1 : (i : Int) + 1 - 1 = (i : Int) := by omega
      have hi2 : ((i : Int) + 1).toNat = i + 1 := by omega
      cases hn : isName c.name with
      | false =>
        rw [hbad 10 (by unfold constC; rw [if_pos hn]) (by decide)]
        repeat' (first | refine rq fun _ => ?_ | simp only [go_sem, h1, h1', hi0, hi1, hi2, hc, const_eta, str_eta, getD_map_lt, hn, Tryd.f35])
        refine WcallK.i (f80 (a := (i : Int) + 1) (by simp only; omega) (by simp only [go_sem]) fun n' hn' => ?_)
        repeat' (first | refine rq fun _ => ?_ | simp only [go_sem, Tryd.f35])
      | true =>
        have s1 : ∀ x y z : Int, (if isName c.name = false then x else y) = y := fun x y z => if_neg (by simp [hn])
        by_cases hlt : p.name.l < c.name.l
        rotate_left
        · have hlt' : Op.bytesLess p.name.l c.name.l = false := by rw [bytesLess_lt']; exact decide_eq_false hlt
          rw [hbad 13 (by unfold constC; rw [if_neg (by simp [hn]), if_pos (by simp only; rw [decide_eq_false hlt]; rfl)]) (by decide)]
          repeat' (first | refine rq fun _ => ?_ | simp only [go_sem, h1, h1', hi0, hi1, hi2, hc, const_eta, str_eta, getD_map_lt, hn, hlt', hpv, h0, Tryd.f35])
          refine WcallK.i (f80 (a := (i : Int) + 1) (by simp only; omega) (by simp only [go_sem]) fun n' hn' => ?_)
          repeat' (first | refine rq fun _ => ?_ | simp only [go_sem, Tryd.f35])
        have hlt' : Op.bytesLess p.name.l c.name.l = true := by rw [bytesLess_lt']; exact decide_eq_true hlt
        by_cases hv0 : c.value < 0
        · rw [hbad 3 (by unfold constC; rw [if_neg (by simp [hn]), if_neg (by simp [hlt]), if_pos (.inl hv0)]) (by decide)]
          repeat' (first | refine rq fun _ => ?_ | simp only [go_sem, h1, h1', hi0, hi1, hi2, hc, const_eta, str_eta, getD_map_lt, hn, hlt', hpv, h0, hv0, Tryd.f35])
          refine WcallK.i (f80 (a := (i : Int) + 1) (by simp only; omega) (by simp only [go_sem]) fun n' hn' => ?_)
          repeat' (first | refine rq fun _ => ?_ | simp only [go_sem, Tryd.f35])
        by_cases hv1 : m.size ≤ c.value
        · rw [hbad 3 (by unfold constC; rw [if_neg (by simp [hn]), if_neg (by simp [hlt]), if_pos (.inr hv1)]) (by decide)]
          repeat' (first | refine rq fun _ => ?_ | simp only [go_sem, h1, h1', hi0, hi1, hi2, hc, const_eta, str_eta, getD_map_lt, hn, hlt', hpv, h0, hv0, hv1, Tryd.f35])
          refine WcallK.i (f80 (a := (i : Int) + 1) (by simp only; omega) (by simp only [go_sem]) fun n' hn' => ?_)
          repeat' (first | refine rq fun _ => ?_ | simp only [go_sem, Tryd.f35])
        have hnx := hgood (by unfold constC; rw [if_neg (by simp [hn]), if_neg (by simp [hlt]), if_neg (by omega)])
        repeat' (first | refine rq fun _ => ?_ | simp only [go_sem, h1, h1', hi0, hi1, hi2, hc, const_eta, str_eta, getD_map_lt, hn, hlt', hpv, h0, hv0, hv1, Tryd.f35])
        refine ⟨⟨(i + 1) + 1, q + 2, by omega, by omega, hnx⟩, by simp only; omega, ?_⟩
        refine Weak_to ?_ ?_ ?_ <;> simp only [go_sem]
        all_goals first | done | omega | rfl | trace_state
      
  obtain rfl : i = m.consts.length := by omega
  have hrr : X = rrM m 0 := kX2.out (by rw [hp, ccM_end])
  repeat' (first | refine rq fun _ => ?_ | simp only [go_sem, Nat.lt_irrefl, Tryd.f35])
  refine WK_loop hm (G := G) hA20 35000 (lst []) (ι := LoopM m.rels.length 2 fun i => rrM m 0 = rrM m i)
    ⟨fun q => ⟨frL [(1, .ptr (35001, 0) 0), (2, .ptr (35002, 1) 0), (78, .fz (.sl (m.rels.map enc))), (79, .fz (.i .i64 m.rels.length)), (80, .fz (.i .i64 q.i))], hpL [((35001, 0), some ⟨[.fz (.i .i64 m.size), .fz (.sl (m.consts.map enc)), .fz (.sl (m.rels.map enc))], true, false⟩), ((35002, 1), some ⟨[.fz (.i .i64 0), .fz (.i .i64 0)], true, false⟩)], q.m⟩, fun q => m.rels.length - q.i⟩
    ⟨0, q, by omega, by omega, rfl⟩ (by kernel_rfl) ?_ ?_
  · refine Weak_to ?_ ?_ ?_ <;> simp only [go_sem]
    all_goals first | done | omega | rfl | trace_state
  clear hp
  rintro ⟨i, q, hi, hq, hp⟩
  try simp only at hi hq hp
  rcases Nat.lt_or_ge i m.rels.length with h1 | h1
  · have hstep := rrM_step h1
    have hbad : ∀ k : Int, relC m.size (pvA m.rels i) m.rels[i] = k → k ≠ 0 → X = ⟨k, i⟩ := fun k h h2 => by
      rw [h, if_pos h2] at hstep
      rw [hrr, hp, hstep]
    have hgood : relC m.size (pvA m.rels i) m.rels[i] = 0 → rrM m 0 = rrM m (i + 1) := fun h => by
      rw [h, if_neg (by simp)] at hstep
      rw [hp, hstep]
    have htx := ktl.out i h1
    obtain ⟨x, hx⟩ : ∃ x, m.rels[i] = x := ⟨_, rfl⟩
    rw [hx] at hbad hgood
    simp only [hx] at htx
    clear hstep
    rcases i with _ | i
    · rw [show pvA m.rels 0 = none from rfl] at hbad hgood
      have h1' : (0 : Int) < (m.rels.length : Int) := by omega
      cases hn : isName x.name with
      | false =>
        rw [hbad 10 (by unfold relC; rw [if_pos hn]) (by decide)]
        repeat' (first | refine rq fun _ => ?_ | simp only [go_sem, h1, h1', hx, rel_eta, str_eta, getD_map_lt, hn, Tryd.f35])
        refine WcallK.i (f81 (a := 0) (by simp only; omega) (by simp only [go_sem]) fun n' hn' => ?_)
        repeat' (first | refine rq fun _ => ?_ | simp only [go_sem, Tryd.f35])
      | true =>
        by_cases a0 : x.arity < 0
        · rw [hbad 3 (by unfold relC; rw [if_neg (by simp [hn]), if_pos (.inl a0)]) (by decide)]
          repeat' (first | refine rq fun _ => ?_ | simp only [go_sem, h1, h1', hx, rel_eta, str_eta, getD_map_lt, hn, a0, Tryd.f35])
          refine WcallK.i (f81 (a := 0) (by simp only; omega) (by simp only [go_sem]) fun n' hn' => ?_)
          repeat' (first | refine rq fun _ => ?_ | simp only [go_sem, Tryd.f35])
        by_cases a1 : 3 < x.arity
        · rw [hbad 3 (by unfold relC; rw [if_neg (by simp [hn]), if_pos (.inr a1)]) (by decide)]
          repeat' (first | refine rq fun _ => ?_ | simp only [go_sem, h1, h1', hx, rel_eta, str_eta, getD_map_lt, hn, a0, a1, Tryd.f35])
          refine WcallK.i (f81 (a := 0) (by simp only; omega) (by simp only [go_sem]) fun n' hn' => ?_)
          repeat' (first | refine rq fun _ => ?_ | simp only [go_sem, Tryd.f35])
        have hrel : relC m.size none x = ttM m.size x.arity x.tuples 0 := by unfold relC; rw [if_neg (by simp [hn]), if_neg (by omega), if_neg (by simp)]; rfl
        rw [hrel] at hbad hgood
        have hT := htx.1
        repeat' (first | refine rq fun _ => ?_ | simp only [go_sem, h1, h1', hx, rel_eta, str_eta, getD_map_lt, hn, a0, a1, Tryd.f35])
        refine WK_loop hm (G := G) hA20 35000 (lst []) (ι := LoopM x.tuples.length (q + 2) fun k => ttM m.size x.arity x.tuples 0 = ttM m.size x.arity x.tuples k)
          ⟨fun q2 => ⟨frL [(1, .ptr (35001, 0) 0), (2, .ptr (35002, 1) 0), (78, .fz (.sl (m.rels.map enc))), (79, .fz (.i .i64 m.rels.length)), (80, .fz (.i .i64 (0))), (6, .ptr (35006, q) 0), (7, .ptr (35007, q + 1) 0), (8, .fn 81 [.ptr (35006, q) 0]), (118, .fz (.sl (x.tuples.map enc))), (119, .fz (.i .i64 x.tuples.length)), (120, .fz (.i .i64 q2.i))], hpL [((35001, 0), some ⟨[.fz (.i .i64 m.size), .fz (.sl (m.consts.map enc)), .fz (.sl (m.rels.map enc))], true, false⟩), ((35002, 1), some ⟨[.fz (.i .i64 0), .fz (.i .i64 0)], true, false⟩), ((35006, q), some ⟨[.fz (.i .i64 (0))], true, false⟩), ((35007, q + 1), some ⟨[.fz (.s x.name.l), .fz (.i .i64 x.arity), .fz (.sl (x.tuples.map enc))], true, false⟩)], q2.m⟩, fun q2 => x.tuples.length - q2.i⟩
          ⟨0, q + 2, by omega, by omega, rfl⟩ (by kernel_rfl) ?_ ?_
        · refine Weak_to ?_ ?_ ?_ <;> simp only [go_sem]
          all_goals first | done | omega | rfl | trace_state
        rintro ⟨k, mm, hk, hmm, hpk2⟩
        try simp only at hk hmm hpk2
        rcases Nat.lt_or_ge k x.tuples.length with h2 | h2
        · have hst := ttM_step (size := m.size) (arity := x.arity) h2
          have kTb : ∀ c : Int, tupC m.size x.arity (pvA x.tuples k) x.tuples[k] = c → c ≠ 0 → X = ⟨c, (0 : Int)⟩ := fun c h h4 => by
            rw [h, if_pos h4] at hst
            exact hbad c (hpk2.trans hst) h4
          have kTg : tupC m.size x.arity (pvA x.tuples k) x.tuples[k] = 0 → ttM m.size x.arity x.tuples 0 = ttM m.size x.arity x.tuples (k + 1) := fun h => by
            rw [h, if_neg (by simp)] at hst
            exact hpk2.trans hst
          have htlk := htx.2 k h2
          obtain ⟨t, hkx⟩ : ∃ t, x.tuples[k] = t := ⟨_, rfl⟩
          rw [hkx] at kTb kTg htlk
          clear hst
          have hk := h2
          rcases k with _ | k
          · rw [show pvA x.tuples 0 = none from rfl] at kTb kTg
            have hk1 : (0 : Int) < (x.tuples.length : Int) := by omega
            by_cases ha : (t.length : Int) = x.arity
            rotate_left
            · have ha' : ((t.length : Int) = x.arity) = False := eq_false ha
              rw [kTb 9 (by unfold tupC; rw [if_pos ha]) (by decide)]
              repeat' (first | refine rq fun _ => ?_ | simp only [go_sem, hk, hk1, hkx, h1, h1', hx, rel_eta, str_eta, getD_map_lt, hn, a0, a1, ha', Tryd.f35])
              refine WcallK.i (f81 (a := 0) (by simp only; omega) (by simp only [go_sem]) fun n' hn' => ?_)
              repeat' (first | refine rq fun _ => ?_ | simp only [go_sem, Tryd.f35])
            have ha' : ((t.length : Int) = x.arity) = True := eq_true ha
            repeat' (first | refine rq fun _ => ?_ | simp only [go_sem, hk, hk1, hkx, h1, h1', hx, rel_eta, str_eta, getD_map_lt, hn, a0, a1, ha', Tryd.f35])
            refine WK_loop hm (G := G) hA20 35000 (lst []) (ι := LoopI t.length fun j => (t.take j).any (fun v => decide (v < 0 ∨ m.size ≤ v)) = false)
              ⟨fun q2 => ⟨frL [(1, .ptr (35001, 0) 0), (2, .ptr (35002, 1) 0), (78, .fz (.sl (m.rels.map enc))), (79, .fz (.i .i64 m.rels.length)), (80, .fz (.i .i64 (0))), (6, .ptr (35006, q) 0), (7, .ptr (35007, q + 1) 0), (8, .fn 81 [.ptr (35006, q) 0]), (118, .fz (.sl (x.tuples.map enc))), (119, .fz (.i .i64 x.tuples.length)), (120, .fz (.i .i64 (0))), (9, .fz (.i .i64 (0))), (10, .fz (.sl (t.map enc))), (132, .fz (.sl (t.map enc))), (133, .fz (.i .i64 t.length)), (134, .fz (.i .i64 q2.i))], hpL [((35001, 0), some ⟨[.fz (.i .i64 m.size), .fz (.sl (m.consts.map enc)), .fz (.sl (m.rels.map enc))], true, false⟩), ((35002, 1), some ⟨[.fz (.i .i64 0), .fz (.i .i64 0)], true, false⟩), ((35006, q), some ⟨[.fz (.i .i64 (0))], true, false⟩), ((35007, q + 1), some ⟨[.fz (.s x.name.l), .fz (.i .i64 x.arity), .fz (.sl (x.tuples.map enc))], true, false⟩)], mm⟩, fun q2 => t.length - q2.i⟩
              ⟨0, by omega, rfl⟩ (by kernel_rfl) ?_ ?_
            · refine Weak_to ?_ ?_ ?_ <;> simp only [go_sem]
              all_goals first | done | omega | rfl | trace_state
            rintro ⟨j, hj, hpj⟩
            try simp only at hj hpj
            rcases Nat.lt_or_ge j t.length with h3 | h3
            · have hts := any_take_succ (f := fun v => decide (v < 0 ∨ m.size ≤ v)) h3
              rw [hpj, Bool.false_or] at hts
              have hany : decide (t[j] < 0 ∨ m.size ≤ t[j]) = true → t.any (fun v => decide (v < 0 ∨ m.size ≤ v)) = true := fun h => List.any_eq_true.2 ⟨t[j], List.getElem_mem h3, h⟩
              obtain ⟨v, hv⟩ : ∃ v, t[j] = v := ⟨_, rfl⟩
              rw [hv] at hts hany
              by_cases v0 : v < 0
              · rw [kTb 3 (by unfold tupC; rw [if_neg (by simp [ha]), if_pos (hany (decide_eq_true (.inl v0)))]) (by decide)]
                repeat' (first | refine rq fun _ => ?_ | simp only [go_sem, hk, hk1, hkx, h1, h1', hx, rel_eta, str_eta, getD_map_lt, hn, a0, a1, h3, hv, v0, Tryd.f35])
                refine WcallK.i (f81 (a := 0) (by simp only; omega) (by simp only [go_sem]) fun n' hn' => ?_)
                repeat' (first | refine rq fun _ => ?_ | simp only [go_sem, Tryd.f35])
              by_cases v1 : m.size ≤ v
              · rw [kTb 3 (by unfold tupC; rw [if_neg (by simp [ha]), if_pos (hany (decide_eq_true (.inr v1)))]) (by decide)]
                repeat' (first | refine rq fun _ => ?_ | simp only [go_sem, hk, hk1, hkx, h1, h1', hx, rel_eta, str_eta, getD_map_lt, hn, a0, a1, h3, hv, v0, v1, Tryd.f35])
                refine WcallK.i (f81 (a := 0) (by simp only; omega) (by simp only [go_sem]) fun n' hn' => ?_)
                repeat' (first | refine rq fun _ => ?_ | simp only [go_sem, Tryd.f35])
              have hnj : (t.take (j + 1)).any (fun v => decide (v < 0 ∨ m.size ≤ v)) = false := by rw [hts]; exact decide_eq_false (by omega)
              repeat' (first | refine rq fun _ => ?_ | simp only [go_sem, hk, hk1, hkx, h1, h1', hx, rel_eta, str_eta, getD_map_lt, hn, a0, a1, h3, hv, v0, v1, Tryd.f35])
              refine ⟨⟨j + 1, by omega, hnj⟩, by simp only; omega, ?_⟩
              refine Weak_to ?_ ?_ ?_ <;> simp only [go_sem]
              all_goals first | done | omega | rfl | trace_state
            obtain rfl : j = t.length := by omega
            rw [List.take_length] at hpj
            have hnx := kTg (by unfold tupC; rw [if_neg (by simp [ha]), if_neg (by rw [hpj]; decide), if_neg (by simp)])
            repeat' (first | refine rq fun _ => ?_ | simp only [go_sem, hk, hk1, hkx, h1, h1', hx, rel_eta, str_eta, getD_map_lt, hn, a0, a1, Nat.lt_irrefl, Tryd.f35])
            refine ⟨⟨0 + 1, mm, by omega, by omega, hnx⟩, by simp only; omega, ?_⟩
            refine Weak_to ?_ ?_ ?_ <;> simp only [go_sem]
            all_goals first | done | omega | rfl | trace_state
          · have hk0 : k < x.tuples.length := by omega
            rw [pvA_succ hk0] at kTb kTg
            obtain ⟨y, hpk⟩ : ∃ y, x.tuples[k] = y := ⟨_, rfl⟩
            rw [hpk] at kTb kTg
            have hk1 : (k : Int) + 1 < (x.tuples.length : Int) := by omega
            have hk3 : (0 : Int) < (k : Int) + 1 := by omega
            have hk4 : (k : Int) + 1 - 1 = (k : Int) := by omega
            have hk5 : ((k : Int) + 1).toNat = k + 1 := by omega
            by_cases ha : (t.length : Int) = x.arity
            rotate_left
            · have ha' : ((t.length : Int) = x.arity) = False := eq_false ha
              rw [kTb 9 (by unfold tupC; rw [if_pos ha]) (by decide)]
              repeat' (first | refine rq fun _ => ?_ | simp only [go_sem, hk, hk1, hkx, hk0, hpk, hk3, hk4, hk5, h1, h1', hx, rel_eta, str_eta, getD_map_lt, hn, a0, a1, ha', Tryd.f35])
              refine WcallK.i (f81 (a := 0) (by simp only; omega) (by simp only [go_sem]) fun n' hn' => ?_)
              repeat' (first | refine rq fun _ => ?_ | simp only [go_sem, Tryd.f35])
            have ha' : ((t.length : Int) = x.arity) = True := eq_true ha
            repeat' (first | refine rq fun _ => ?_ | simp only [go_sem, hk, hk1, hkx, hk0, hpk, hk3, hk4, hk5, h1, h1', hx, rel_eta, str_eta, getD_map_lt, hn, a0, a1, ha', Tryd.f35])
            refine WK_loop hm (G := G) hA20 35000 (lst []) (ι := LoopI t.length fun j => (t.take j).any (fun v => decide (v < 0 ∨ m.size ≤ v)) = false)
              ⟨fun q2 => ⟨frL [(1, .ptr (35001, 0) 0), (2, .ptr (35002, 1) 0), (78, .fz (.sl (m.rels.map enc))), (79, .fz (.i .i64 m.rels.length)), (80, .fz (.i .i64 (0))), (6, .ptr (35006, q) 0), (7, .ptr (35007, q + 1) 0), (8, .fn 81 [.ptr (35006, q) 0]), (118, .fz (.sl (x.tuples.map enc))), (119, .fz (.i .i64 x.tuples.length)), (120, .fz (.i .i64 ((k : Int) + 1))), (9, .fz (.i .i64 ((k : Int) + 1))), (10, .fz (.sl (t.map enc))), (132, .fz (.sl (t.map enc))), (133, .fz (.i .i64 t.length)), (134, .fz (.i .i64 q2.i))], hpL [((35001, 0), some ⟨[.fz (.i .i64 m.size), .fz (.sl (m.consts.map enc)), .fz (.sl (m.rels.map enc))], true, false⟩), ((35002, 1), some ⟨[.fz (.i .i64 0), .fz (.i .i64 0)], true, false⟩), ((35006, q), some ⟨[.fz (.i .i64 (0))], true, false⟩), ((35007, q + 1), some ⟨[.fz (.s x.name.l), .fz (.i .i64 x.arity), .fz (.sl (x.tuples.map enc))], true, false⟩)], mm⟩, fun q2 => t.length - q2.i⟩
              ⟨0, by omega, rfl⟩ (by kernel_rfl) ?_ ?_
            · refine Weak_to ?_ ?_ ?_ <;> simp only [go_sem]
              all_goals first | done | omega | rfl | trace_state
            rintro ⟨j, hj, hpj⟩
            try simp only at hj hpj
            rcases Nat.lt_or_ge j t.length with h3 | h3
            · have hts := any_take_succ (f := fun v => decide (v < 0 ∨ m.size ≤ v)) h3
              rw [hpj, Bool.false_or] at hts
              have hany : decide (t[j] < 0 ∨ m.size ≤ t[j]) = true → t.any (fun v => decide (v < 0 ∨ m.size ≤ v)) = true := fun h => List.any_eq_true.2 ⟨t[j], List.getElem_mem h3, h⟩
              obtain ⟨v, hv⟩ : ∃ v, t[j] = v := ⟨_, rfl⟩
              rw [hv] at hts hany
              by_cases v0 : v < 0
              · rw [kTb 3 (by unfold tupC; rw [if_neg (by simp [ha]), if_pos (hany (decide_eq_true (.inl v0)))]) (by decide)]
                repeat' (first | refine rq fun _ => ?_ | simp only [go_sem, hk, hk1, hkx, hk0, hpk, hk3, hk4, hk5, h1, h1', hx, rel_eta, str_eta, getD_map_lt, hn, a0, a1, h3, hv, v0, Tryd.f35])
                refine WcallK.i (f81 (a := 0) (by simp only; omega) (by simp only [go_sem]) fun n' hn' => ?_)
                repeat' (first | refine rq fun _ => ?_ | simp only [go_sem, Tryd.f35])
              by_cases v1 : m.size ≤ v
              · rw [kTb 3 (by unfold tupC; rw [if_neg (by simp [ha]), if_pos (hany (decide_eq_true (.inr v1)))]) (by decide)]
                repeat' (first | refine rq fun _ => ?_ | simp only [go_sem, hk, hk1, hkx, hk0, hpk, hk3, hk4, hk5, h1, h1', hx, rel_eta, str_eta, getD_map_lt, hn, a0, a1, h3, hv, v0, v1, Tryd.f35])
                refine WcallK.i (f81 (a := 0) (by simp only; omega) (by simp only [go_sem]) fun n' hn' => ?_)
                repeat' (first | refine rq fun _ => ?_ | simp only [go_sem, Tryd.f35])
              have hnj : (t.take (j + 1)).any (fun v => decide (v < 0 ∨ m.size ≤ v)) = false := by rw [hts]; exact decide_eq_false (by omega)
              repeat' (first | refine rq fun _ => ?_ | simp only [go_sem, hk, hk1, hkx, hk0, hpk, hk3, hk4, hk5, h1, h1', hx, rel_eta, str_eta, getD_map_lt, hn, a0, a1, h3, hv, v0, v1, Tryd.f35])
              refine ⟨⟨j + 1, by omega, hnj⟩, by simp only; omega, ?_⟩
              refine Weak_to ?_ ?_ ?_ <;> simp only [go_sem]
              all_goals first | done | omega | rfl | trace_state
            obtain rfl : j = t.length := by omega
            rw [List.take_length] at hpj
            by_cases hcl2 : 0 ≤ cmpL y t
            · rw [kTb 13 (by unfold tupC; rw [if_neg (by simp [ha]), if_neg (by rw [hpj]; decide), if_pos (by simp [hcl2])]) (by decide)]
              repeat' (first | refine rq fun _ => ?_ | simp only [go_sem, hk, hk1, hkx, hk0, hpk, hk3, hk4, hk5, h1, h1', hx, rel_eta, str_eta, getD_map_lt, hn, a0, a1, Nat.lt_irrefl, hcl2, Tryd.f35])
              refine WcallK.i (f81 (a := 0) (by simp only; omega) (by simp only [go_sem]) fun n' hn' => ?_)
              repeat' (first | refine rq fun _ => ?_ | simp only [go_sem, Tryd.f35])
            have hnx := kTg (by unfold tupC; rw [if_neg (by simp [ha]), if_neg (by rw [hpj]; decide), if_neg (by simp [hcl2])])
            repeat' (first | refine rq fun _ => ?_ | simp only [go_sem, hk, hk1, hkx, hk0, hpk, hk3, hk4, hk5, h1, h1', hx, rel_eta, str_eta, getD_map_lt, hn, a0, a1, Nat.lt_irrefl, hcl2, Tryd.f35])
            refine ⟨⟨(k + 1) + 1, mm, by omega, by omega, hnx⟩, by simp only; omega, ?_⟩
            refine Weak_to ?_ ?_ ?_ <;> simp only [go_sem]
            all_goals first | done | omega | rfl | trace_state
        obtain rfl : k = x.tuples.length := by omega
        have hnx := hgood (by rw [hpk2, ttM_end])
        repeat' (first | refine rq fun _ => ?_ | simp only [go_sem, h1, h1', hx, rel_eta, str_eta, getD_map_lt, hn, a0, a1, Nat.lt_irrefl, Tryd.f35])
        refine ⟨⟨0 + 1, mm, by omega, by omega, hnx⟩, by simp only; omega, ?_⟩
        refine Weak_to ?_ ?_ ?_ <;> simp only [go_sem]
        all_goals first | done | omega | rfl | trace_state
    · have h0 : i < m.rels.length := by omega
      rw [pvA_succ h0] at hbad hgood
      obtain ⟨p, hpv⟩ : ∃ p, m.rels[i] = p := ⟨_, rfl⟩
      rw [hpv] at hbad hgood
      have h1' : (i : Int) + 1 < (m.rels.length : Int) := by omega
      have hi0 : (0 : Int) < (i : Int) + 1 := by omega
      have hi1 : (i : Int) + 1 - 1 = (i : Int) := by omega
      have hi2 : ((i : Int) + 1).toNat = i + 1 := by omega
      cases hn : isName x.name with
      | false =>
        rw [hbad 10 (by unfold relC; rw [if_pos hn]) (by decide)]
        repeat' (first | refine rq fun _ => ?_ | simp only [go_sem, h1, h1', hx, rel_eta, str_eta, getD_map_lt, hpv, h0, hi0, hi1, hi2, hn, Tryd.f35])
        refine WcallK.i (f81 (a := (i : Int) + 1) (by simp only; omega) (by simp only [go_sem]) fun n' hn' => ?_)
        repeat' (first | refine rq fun _ => ?_ | simp only [go_sem, Tryd.f35])
      | true =>
        by_cases a0 : x.arity < 0
        · rw [hbad 3 (by unfold relC; rw [if_neg (by simp [hn]), if_pos (.inl a0)]) (by decide)]
          repeat' (first | refine rq fun _ => ?_ | simp only [go_sem, h1, h1', hx, rel_eta, str_eta, getD_map_lt, hpv, h0, hi0, hi1, hi2, hn, a0, Tryd.f35])
          refine WcallK.i (f81 (a := (i : Int) + 1) (by simp only; omega) (by simp only [go_sem]) fun n' hn' => ?_)
          repeat' (first | refine rq fun _ => ?_ | simp only [go_sem, Tryd.f35])
        by_cases a1 : 3 < x.arity
        · rw [hbad 3 (by unfold relC; rw [if_neg (by simp [hn]), if_pos (.inr a1)]) (by decide)]
          repeat' (first | refine rq fun _ => ?_ | simp only [go_sem, h1, h1', hx, rel_eta, str_eta, getD_map_lt, hpv, h0, hi0, hi1, hi2, hn, a0, a1, Tryd.f35])
          refine WcallK.i (f81 (a := (i : Int) + 1) (by simp only; omega) (by simp only [go_sem]) fun n' hn' => ?_)
          repeat' (first | refine rq fun _ => ?_ | simp only [go_sem, Tryd.f35])
        by_cases hcp : 0 ≤ cmpR p x
        · rw [hbad 13 (by unfold relC; rw [if_neg (by simp [hn]), if_neg (by omega), if_pos (by simp [hcp])]) (by decide)]
          repeat' (first | refine rq fun _ => ?_ | simp only [go_sem, h1, h1', hx, rel_eta, str_eta, getD_map_lt, hpv, h0, hi0, hi1, hi2, hn, a0, a1, hcp, Tryd.f35])
          refine WcallK.i (f81 (a := (i : Int) + 1) (by simp only; omega) (by simp only [go_sem]) fun n' hn' => ?_)
          repeat' (first | refine rq fun _ => ?_ | simp only [go_sem, Tryd.f35])
        have hrel : relC m.size (some p) x = ttM m.size x.arity x.tuples 0 := by unfold relC; rw [if_neg (by simp [hn]), if_neg (by omega), if_neg (by simp [hcp])]; rfl
        rw [hrel] at hbad hgood
        have hT := htx.1
        repeat' (first | refine rq fun _ => ?_ | simp only [go_sem, h1, h1', hx, rel_eta, str_eta, getD_map_lt, hpv, h0, hi0, hi1, hi2, hn, a0, a1, hcp, Tryd.f35])
        refine WK_loop hm (G := G) hA20 35000 (lst []) (ι := LoopM x.tuples.length (q + 2) fun k => ttM m.size x.arity x.tuples 0 = ttM m.size x.arity x.tuples k)
          ⟨fun q2 => ⟨frL [(1, .ptr (35001, 0) 0), (2, .ptr (35002, 1) 0), (78, .fz (.sl (m.rels.map enc))), (79, .fz (.i .i64 m.rels.length)), (80, .fz (.i .i64 ((i : Int) + 1))), (6, .ptr (35006, q) 0), (7, .ptr (35007, q + 1) 0), (8, .fn 81 [.ptr (35006, q) 0]), (118, .fz (.sl (x.tuples.map enc))), (119, .fz (.i .i64 x.tuples.length)), (120, .fz (.i .i64 q2.i))], hpL [((35001, 0), some ⟨[.fz (.i .i64 m.size), .fz (.sl (m.consts.map enc)), .fz (.sl (m.rels.map enc))], true, false⟩), ((35002, 1), some ⟨[.fz (.i .i64 0), .fz (.i .i64 0)], true, false⟩), ((35006, q), some ⟨[.fz (.i .i64 ((i : Int) + 1))], true, false⟩), ((35007, q + 1), some ⟨[.fz (.s x.name.l), .fz (.i .i64 x.arity), .fz (.sl (x.tuples.map enc))], true, false⟩)], q2.m⟩, fun q2 => x.tuples.length - q2.i⟩
          ⟨0, q + 2, by omega, by omega, rfl⟩ (by kernel_rfl) ?_ ?_
        · refine Weak_to ?_ ?_ ?_ <;> simp only [go_sem]
          all_goals first | done | omega | rfl | trace_state
        rintro ⟨k, mm, hk, hmm, hpk2⟩
        try simp only at hk hmm hpk2
        rcases Nat.lt_or_ge k x.tuples.length with h2 | h2
        · have hst := ttM_step (size := m.size) (arity := x.arity) h2
          have kTb : ∀ c : Int, tupC m.size x.arity (pvA x.tuples k) x.tuples[k] = c → c ≠ 0 → X = ⟨c, ((i : Int) + 1 : Int)⟩ := fun c h h4 => by
            rw [h, if_pos h4] at hst
            exact hbad c (hpk2.trans hst) h4
          have kTg : tupC m.size x.arity (pvA x.tuples k) x.tuples[k] = 0 → ttM m.size x.arity x.tuples 0 = ttM m.size x.arity x.tuples (k + 1) := fun h => by
            rw [h, if_neg (by simp)] at hst
            exact hpk2.trans hst
          have htlk := htx.2 k h2
          obtain ⟨t, hkx⟩ : ∃ t, x.tuples[k] = t := ⟨_, rfl⟩
          rw [hkx] at kTb kTg htlk
          clear hst
          have hk := h2
          rcases k with _ | k
          · rw [show pvA x.tuples 0 = none from rfl] at kTb kTg
            have hk1 : (0 : Int) < (x.tuples.length : Int) := by omega
            by_cases ha : (t.length : Int) = x.arity
            rotate_left
            · have ha' : ((t.length : Int) = x.arity) = False := eq_false ha
              rw [kTb 9 (by unfold tupC; rw [if_pos ha]) (by decide)]
              repeat' (first | refine rq fun _ => ?_ | simp only [go_sem, hk, hk1, hkx, h1, h1', hx, rel_eta, str_eta, getD_map_lt, hpv, h0, hi0, hi1, hi2, hn, a0, a1, hcp, ha', Tryd.f35])
              refine WcallK.i (f81 (a := (i : Int) + 1) (by simp only; omega) (by simp only [go_sem]) fun n' hn' => ?_)
              repeat' (first | refine rq fun _ => ?_ | simp only [go_sem, Tryd.f35])
            have ha' : ((t.length : Int) = x.arity) = True := eq_true ha
            repeat' (first | refine rq fun _ => ?_ | simp only [go_sem, hk, hk1, hkx, h1, h1', hx, rel_eta, str_eta, getD_map_lt, hpv, h0, hi0, hi1, hi2, hn, a0, a1, hcp, ha', Tryd.f35])
            refine WK_loop hm (G := G) hA20 35000 (lst []) (ι := LoopI t.length fun j => (t.take j).any (fun v => decide (v < 0 ∨ m.size ≤ v)) = false)
              ⟨fun q2 => ⟨frL [(1, .ptr (35001, 0) 0), (2, .ptr (35002, 1) 0), (78, .fz (.sl (m.rels.map enc))), (79, .fz (.i .i64 m.rels.length)), (80, .fz (.i .i64 ((i : Int) + 1))), (6, .ptr (35006, q) 0), (7, .ptr (35007, q + 1) 0), (8, .fn 81 [.ptr (35006, q) 0]), (118, .fz (.sl (x.tuples.map enc))), (119, .fz (.i .i64 x.tuples.length)), (120, .fz (.i .i64 (0))), (9, .fz (.i .i64 (0))), (10, .fz (.sl (t.map enc))), (132, .fz (.sl (t.map enc))), (133, .fz (.i .i64 t.length)), (134, .fz (.i .i64 q2.i))], hpL [((35001, 0), some ⟨[.fz (.i .i64 m.size), .fz (.sl (m.consts.map enc)), .fz (.sl (m.rels.map enc))], true, false⟩), ((35002, 1), some ⟨[.fz (.i .i64 0), .fz (.i .i64 0)], true, false⟩), ((35006, q), some ⟨[.fz (.i .i64 ((i : Int) + 1))], true, false⟩), ((35007, q + 1), some ⟨[.fz (.s x.name.l), .fz (.i .i64 x.arity), .fz (.sl (x.tuples.map enc))], true, false⟩)], mm⟩, fun q2 => t.length - q2.i⟩
              ⟨0, by omega, rfl⟩ (by kernel_rfl) ?_ ?_
            · refine Weak_to ?_ ?_ ?_ <;> simp only [go_sem]
              all_goals first | done | omega | rfl | trace_state
            rintro ⟨j, hj, hpj⟩
            try simp only at hj hpj
            rcases Nat.lt_or_ge j t.length with h3 | h3
            · have hts := any_take_succ (f := fun v => decide (v < 0 ∨ m.size ≤ v)) h3
              rw [hpj, Bool.false_or] at hts
              have hany : decide (t[j] < 0 ∨ m.size ≤ t[j]) = true → t.any (fun v => decide (v < 0 ∨ m.size ≤ v)) = true := fun h => List.any_eq_true.2 ⟨t[j], List.getElem_mem h3, h⟩
              obtain ⟨v, hv⟩ : ∃ v, t[j] = v := ⟨_, rfl⟩
              rw [hv] at hts hany
              by_cases v0 : v < 0
              · rw [kTb 3 (by unfold tupC; rw [if_neg (by simp [ha]), if_pos (hany (decide_eq_true (.inl v0)))]) (by decide)]
                repeat' (first | refine rq fun _ => ?_ | simp only [go_sem, hk, hk1, hkx, h1, h1', hx, rel_eta, str_eta, getD_map_lt, hpv, h0, hi0, hi1, hi2, hn, a0, a1, hcp, h3, hv, v0, Tryd.f35])
                refine WcallK.i (f81 (a := (i : Int) + 1) (by simp only; omega) (by simp only [go_sem]) fun n' hn' => ?_)
                repeat' (first | refine rq fun _ => ?_ | simp only [go_sem, Tryd.f35])
              by_cases v1 : m.size ≤ v
              · rw [kTb 3 (by unfold tupC; rw [if_neg (by simp [ha]), if_pos (hany (decide_eq_true (.inr v1)))]) (by decide)]
                repeat' (first | refine rq fun _ => ?_ | simp only [go_sem, hk, hk1, hkx, h1, h1', hx, rel_eta, str_eta, getD_map_lt, hpv, h0, hi0, hi1, hi2, hn, a0, a1, hcp, h3, hv, v0, v1, Tryd.f35])
                refine WcallK.i (f81 (a := (i : Int) + 1) (by simp only; omega) (by simp only [go_sem]) fun n' hn' => ?_)
                repeat' (first | refine rq fun _ => ?_ | simp only [go_sem, Tryd.f35])
              have hnj : (t.take (j + 1)).any (fun v => decide (v < 0 ∨ m.size ≤ v)) = false := by rw [hts]; exact decide_eq_false (by omega)
              repeat' (first | refine rq fun _ => ?_ | simp only [go_sem, hk, hk1, hkx, h1, h1', hx, rel_eta, str_eta, getD_map_lt, hpv, h0, hi0, hi1, hi2, hn, a0, a1, hcp, h3, hv, v0, v1, Tryd.f35])
              refine ⟨⟨j + 1, by omega, hnj⟩, by simp only; omega, ?_⟩
              refine Weak_to ?_ ?_ ?_ <;> simp only [go_sem]
              all_goals first | done | omega | rfl | trace_state
            obtain rfl : j = t.length := by omega
            rw [List.take_length] at hpj
            have hnx := kTg (by unfold tupC; rw [if_neg (by simp [ha]), if_neg (by rw [hpj]; decide), if_neg (by simp)])
            repeat' (first | refine rq fun _ => ?_ | simp only [go_sem, hk, hk1, hkx, h1, h1', hx, rel_eta, str_eta, getD_map_lt, hpv, h0, hi0, hi1, hi2, hn, a0, a1, hcp, Nat.lt_irrefl, Tryd.f35])
            refine ⟨⟨0 + 1, mm, by omega, by omega, hnx⟩, by simp only; omega, ?_⟩
            refine Weak_to ?_ ?_ ?_ <;> simp only [go_sem]
            all_goals first | done | omega | rfl | trace_state
          · have hk0 : k < x.tuples.length := by omega
            rw [pvA_succ hk0] at kTb kTg
            obtain ⟨y, hpk⟩ : ∃ y, x.tuples[k] = y := ⟨_, rfl⟩
            rw [hpk] at kTb kTg
            have hk1 : (k : Int) + 1 < (x.tuples.length : Int) := by omega
            have hk3 : (0 : Int) < (k : Int) + 1 := by omega
            have hk4 : (k : Int) + 1 - 1 = (k : Int) := by omega
            have hk5 : ((k : Int) + 1).toNat = k + 1 := by omega
            by_cases ha : (t.length : Int) = x.arity
            rotate_left
            · have ha' : ((t.length : Int) = x.arity) = False := eq_false ha
              rw [kTb 9 (by unfold tupC; rw [if_pos ha]) (by decide)]
              repeat' (first | refine rq fun _ => ?_ | simp only [go_sem, hk, hk1, hkx, hk0, hpk, hk3, hk4, hk5, h1, h1', hx, rel_eta, str_eta, getD_map_lt, hpv, h0, hi0, hi1, hi2, hn, a0, a1, hcp, ha', Tryd.f35])
              refine WcallK.i (f81 (a := (i : Int) + 1) (by simp only; omega) (by simp only [go_sem]) fun n' hn' => ?_)
              repeat' (first | refine rq fun _ => ?_ | simp only [go_sem, Tryd.f35])
            have ha' : ((t.length : Int) = x.arity) = True := eq_true ha
            repeat' (first | refine rq fun _ => ?_ | simp only [go_sem, hk, hk1, hkx, hk0, hpk, hk3, hk4, hk5, h1, h1', hx, rel_eta, str_eta, getD_map_lt, hpv, h0, hi0, hi1, hi2, hn, a0, a1, hcp, ha', Tryd.f35])
            refine WK_loop hm (G := G) hA20 35000 (lst []) (ι := LoopI t.length fun j => (t.take j).any (fun v => decide (v < 0 ∨ m.size ≤ v)) = false)
              ⟨fun q2 => ⟨frL [(1, .ptr (35001, 0) 0), (2, .ptr (35002, 1) 0), (78, .fz (.sl (m.rels.map enc))), (79, .fz (.i .i64 m.rels.length)), (80, .fz (.i .i64 ((i : Int) + 1))), (6, .ptr (35006, q) 0), (7, .ptr (35007, q + 1) 0), (8, .fn 81 [.ptr (35006, q) 0]), (118, .fz (.sl (x.tuples.map enc))), (119, .fz (.i .i64 x.tuples.length)), (120, .fz (.i .i64 ((k : Int) + 1))), (9, .fz (.i .i64 ((k : Int) + 1))), (10, .fz (.sl (t.map enc))), (132, .fz (.sl (t.map enc))), (133, .fz (.i .i64 t.length)), (134, .fz (.i .i64 q2.i))], hpL [((35001, 0), some ⟨[.fz (.i .i64 m.size), .fz (.sl (m.consts.map enc)), .fz (.sl (m.rels.map enc))], true, false⟩), ((35002, 1), some ⟨[.fz (.i .i64 0), .fz (.i .i64 0)], true, false⟩), ((35006, q), some ⟨[.fz (.i .i64 ((i : Int) + 1))], true, false⟩), ((35007, q + 1), some ⟨[.fz (.s x.name.l), .fz (.i .i64 x.arity), .fz (.sl (x.tuples.map enc))], true, false⟩)], mm⟩, fun q2 => t.length - q2.i⟩
              ⟨0, by omega, rfl⟩ (by kernel_rfl) ?_ ?_
            · refine Weak_to ?_ ?_ ?_ <;> simp only [go_sem]
              all_goals first | done | omega | rfl | trace_state
            rintro ⟨j, hj, hpj⟩
            try simp only at hj hpj
            rcases Nat.lt_or_ge j t.length with h3 | h3
            · have hts := any_take_succ (f := fun v => decide (v < 0 ∨ m.size ≤ v)) h3
              rw [hpj, Bool.false_or] at hts
              have hany : decide (t[j] < 0 ∨ m.size ≤ t[j]) = true → t.any (fun v => decide (v < 0 ∨ m.size ≤ v)) = true := fun h => List.any_eq_true.2 ⟨t[j], List.getElem_mem h3, h⟩
              obtain ⟨v, hv⟩ : ∃ v, t[j] = v := ⟨_, rfl⟩
              rw [hv] at hts hany
              by_cases v0 : v < 0
              · rw [kTb 3 (by unfold tupC; rw [if_neg (by simp [ha]), if_pos (hany (decide_eq_true (.inl v0)))]) (by decide)]
                repeat' (first | refine rq fun _ => ?_ | simp only [go_sem, hk, hk1, hkx, hk0, hpk, hk3, hk4, hk5, h1, h1', hx, rel_eta, str_eta, getD_map_lt, hpv, h0, hi0, hi1, hi2, hn, a0, a1, hcp, h3, hv, v0, Tryd.f35])
                refine WcallK.i (f81 (a := (i : Int) + 1) (by simp only; omega) (by simp only [go_sem]) fun n' hn' => ?_)
                repeat' (first | refine rq fun _ => ?_ | simp only [go_sem, Tryd.f35])
              by_cases v1 : m.size ≤ v
              · rw [kTb 3 (by unfold tupC; rw [if_neg (by simp [ha]), if_pos (hany (decide_eq_true (.inr v1)))]) (by decide)]
                repeat' (first | refine rq fun _ => ?_ | simp only [go_sem, hk, hk1, hkx, hk0, hpk, hk3, hk4, hk5, h1, h1', hx, rel_eta, str_eta, getD_map_lt, hpv, h0, hi0, hi1, hi2, hn, a0, a1, hcp, h3, hv, v0, v1, Tryd.f35])
                refine WcallK.i (f81 (a := (i : Int) + 1) (by simp only; omega) (by simp only [go_sem]) fun n' hn' => ?_)
                repeat' (first | refine rq fun _ => ?_ | simp only [go_sem, Tryd.f35])
              have hnj : (t.take (j + 1)).any (fun v => decide (v < 0 ∨ m.size ≤ v)) = false := by rw [hts]; exact decide_eq_false (by omega)
              repeat' (first | refine rq fun _ => ?_ | simp only [go_sem, hk, hk1, hkx, hk0, hpk, hk3, hk4, hk5, h1, h1', hx, rel_eta, str_eta, getD_map_lt, hpv, h0, hi0, hi1, hi2, hn, a0, a1, hcp, h3, hv, v0, v1, Tryd.f35])
              refine ⟨⟨j + 1, by omega, hnj⟩, by simp only; omega, ?_⟩
              refine Weak_to ?_ ?_ ?_ <;> simp only [go_sem]
              all_goals first | done | omega | rfl | trace_state
            obtain rfl : j = t.length := by omega
            rw [List.take_length] at hpj
            by_cases hcl2 : 0 ≤ cmpL y t
            · rw [kTb 13 (by unfold tupC; rw [if_neg (by simp [ha]), if_neg (by rw [hpj]; decide), if_pos (by simp [hcl2])]) (by decide)]
              repeat' (first | refine rq fun _ => ?_ | simp only [go_sem, hk, hk1, hkx, hk0, hpk, hk3, hk4, hk5, h1, h1', hx, rel_eta, str_eta, getD_map_lt, hpv, h0, hi0, hi1, hi2, hn, a0, a1, hcp, Nat.lt_irrefl, hcl2, Tryd.f35])
              refine WcallK.i (f81 (a := (i : Int) + 1) (by simp only; omega) (by simp only [go_sem]) fun n' hn' => ?_)
              repeat' (first | refine rq fun _ => ?_ | simp only [go_sem, Tryd.f35])
            have hnx := kTg (by unfold tupC; rw [if_neg (by simp [ha]), if_neg (by rw [hpj]; decide), if_neg (by simp [hcl2])])
            repeat' (first | refine rq fun _ => ?_ | simp only [go_sem, hk, hk1, hkx, hk0, hpk, hk3, hk4, hk5, h1, h1', hx, rel_eta, str_eta, getD_map_lt, hpv, h0, hi0, hi1, hi2, hn, a0, a1, hcp, Nat.lt_irrefl, hcl2, Tryd.f35])
            refine ⟨⟨(k + 1) + 1, mm, by omega, by omega, hnx⟩, by simp only; omega, ?_⟩
            refine Weak_to ?_ ?_ ?_ <;> simp only [go_sem]
            all_goals first | done | omega | rfl | trace_state
        obtain rfl : k = x.tuples.length := by omega
        have hnx := hgood (by rw [hpk2, ttM_end])
        repeat' (first | refine rq fun _ => ?_ | simp only [go_sem, h1, h1', hx, rel_eta, str_eta, getD_map_lt, hpv, h0, hi0, hi1, hi2, hn, a0, a1, hcp, Nat.lt_irrefl, Tryd.f35])
        refine ⟨⟨(i + 1) + 1, mm, by omega, by omega, hnx⟩, by simp only; omega, ?_⟩
        refine Weak_to ?_ ?_ ?_ <;> simp only [go_sem]
        all_goals first | done | omega | rfl | trace_state
  obtain rfl : i = m.rels.length := by omega
  have hX0 : X = ⟨0, 0⟩ := by rw [hrr, hp, rrM_end]
  rw [hX0]
  repeat' (first | refine rq fun _ => ?_ | simp only [go_sem, Nat.lt_irrefl, Tryd.f35])
end
end Go.Proofs.YtbbjghecpcobjaaDoor

namespace Go.Abs
open Go
theorem sorted_of_step {α : Type} {lt : α → α → Prop} (tr : ∀ a b c, lt a b → lt b c → lt a c) {l : List α} (h : ∀ i (h : i + 1 < l.length), lt l[i] l[i + 1]) : ∀ j i (hj : j < l.length) (hi : i < l.length), i < j → lt l[i] l[j] := by
  intro j
  induction j with
  | zero => intro i _ _ h; omega
  | succ j ih =>
    intro i hj hi hij
    rcases Nat.lt_or_ge i j with h1 | h1
    · exact tr _ _ _ (ih i (by omega) hi h1) (h j hj)
    · obtain rfl : i = j := by omega
      exact h i hj
theorem ccM_all {m : Model} (h : (ccM m 0).code = 0) : ∀ i (hi : i < m.consts.length), constC m.size (pvA m.consts i) m.consts[i] = 0 := by
  have key : ∀ i, i ≤ m.consts.length → (ccM m i).code = 0 := by
    intro i
    induction i with
    | zero => intro _; exact h
    | succ i ih =>
      intro hi
      have h1 := ih (by omega)
      rw [ccM_step (by omega)] at h1
      split at h1
      · rename_i h2; exact absurd h1 h2
      · exact h1
  intro i hi
  have h1 := key i (by omega)
  rw [ccM_step hi] at h1
  split at h1
  · rename_i h2; exact absurd h1 h2
  · rename_i h2; exact Decidable.not_not.1 h2
theorem rrM_all {m : Model} (h : (rrM m 0).code = 0) : ∀ i (hi : i < m.rels.length), relC m.size (pvA m.rels i) m.rels[i] = 0 := by
  have key : ∀ i, i ≤ m.rels.length → (rrM m i).code = 0 := by
    intro i
    induction i with
    | zero => intro _; exact h
    | succ i ih =>
      intro hi
      have h1 := ih (by omega)
      rw [rrM_step (by omega)] at h1
      split at h1
      · rename_i h2; exact absurd h1 h2
      · exact h1
  intro i hi
  have h1 := key i (by omega)
  rw [rrM_step hi] at h1
  split at h1
  · rename_i h2; exact absurd h1 h2
  · rename_i h2; exact Decidable.not_not.1 h2
theorem ttM_all {size arity : Int} {l : List (List Int)} (h : ttM size arity l 0 = 0) : ∀ k (hk : k < l.length), tupC size arity (pvA l k) l[k] = 0 := by
  have key : ∀ k, k ≤ l.length → ttM size arity l k = 0 := by
    intro k
    induction k with
    | zero => intro _; exact h
    | succ k ih =>
      intro hk
      have h1 := ih (by omega)
      rw [ttM_step (by omega)] at h1
      split at h1
      · rename_i h2; exact absurd h1 h2
      · exact h1
  intro k hk
  have h1 := key k (by omega)
  rw [ttM_step hk] at h1
  split at h1
  · rename_i h2; exact absurd h1 h2
  · rename_i h2; exact Decidable.not_not.1 h2
/-- what is known of a valid model -/
structure mgood (m : Model) : Prop where
  v : mval m
  cv : ∀ c ∈ m.consts, 0 ≤ c.value ∧ c.value < m.size
  ar : ∀ r ∈ m.rels, 0 ≤ r.arity ∧ r.arity ≤ 3
  tv : ∀ r ∈ m.rels, ∀ t ∈ r.tuples, (t.length : Int) = r.arity ∧ ∀ v ∈ t, 0 ≤ v ∧ v < m.size
theorem constC_ok {size : Int} {p : Option Const} {c : Const} (h : constC size p c = 0) : (∀ q, p = some q → q.name.l < c.name.l) ∧ 0 ≤ c.value ∧ c.value < size := by
  unfold constC at h
  by_cases hn : isName c.name = false
  · rw [if_pos hn] at h; exact absurd h (by decide)
  rw [if_neg hn] at h
  have fin : (if c.value < 0 ∨ size ≤ c.value then (3 : Int) else 0) = 0 → 0 ≤ c.value ∧ c.value < size := fun h => by
    split at h
    · exact absurd h (by decide)
    · omega
  cases p with
  | none =>
    rw [if_neg (by simp)] at h
    exact ⟨fun q hq => (by cases hq), fin h⟩
  | some q =>
    by_cases hq : q.name.l < c.name.l
    · rw [if_neg (by simp [hq])] at h
      exact ⟨fun q' hq' => (by cases hq'; exact hq), fin h⟩
    · rw [if_pos (by simp [hq])] at h; exact absurd h (by decide)
theorem relC_ok {size : Int} {p : Option MRel} {r : MRel} (h : relC size p r = 0) : (∀ q, p = some q → ltR q r) ∧ 0 ≤ r.arity ∧ r.arity ≤ 3 ∧ ttM size r.arity r.tuples 0 = 0 := by
  unfold relC at h
  by_cases hn : isName r.name = false
  · rw [if_pos hn] at h; exact absurd h (by decide)
  rw [if_neg hn] at h
  by_cases ha : r.arity < 0 ∨ 3 < r.arity
  · rw [if_pos ha] at h; exact absurd h (by decide)
  rw [if_neg ha] at h
  cases p with
  | none =>
    rw [if_neg (by simp)] at h
    exact ⟨fun q hq => (by cases hq), by omega, by omega, h⟩
  | some q =>
    by_cases hq : 0 ≤ cmpR q r
    · rw [if_pos (by simp [hq])] at h; exact absurd h (by decide)
    · rw [if_neg (by simp [hq])] at h
      exact ⟨fun q' hq' => (by cases hq'; rw [← cmpR_neg]; omega), by omega, by omega, h⟩
theorem tupC_ok {size arity : Int} {p : Option (List Int)} {t : List Int} (h : tupC size arity p t = 0) : (∀ q, p = some q → cmpL q t < 0) ∧ (t.length : Int) = arity ∧ ∀ v ∈ t, 0 ≤ v ∧ v < size := by
  unfold tupC at h
  by_cases ha : (t.length : Int) ≠ arity
  · rw [if_pos ha] at h; exact absurd h (by decide)
  rw [if_neg ha] at h
  have ha := Decidable.not_not.1 ha
  by_cases hb : (t.any fun v => decide (v < 0 ∨ size ≤ v)) = true
  · rw [if_pos hb] at h; exact absurd h (by decide)
  rw [if_neg hb] at h
  have hv : ∀ v ∈ t, 0 ≤ v ∧ v < size := fun v hv => by
    by_cases h9 : v < 0 ∨ size ≤ v
    · exact absurd (List.any_eq_true.2 ⟨v, hv, decide_eq_true h9⟩) hb
    · omega
  cases p with
  | none => exact ⟨fun q hq => (by cases hq), ha, hv⟩
  | some q =>
    by_cases hq : 0 ≤ cmpL q t
    · rw [if_pos (by simp [hq])] at h; exact absurd h (by decide)
    · exact ⟨fun q' hq' => (by cases hq'; omega), ha, hv⟩
theorem modelM_good {m : Model} (h : (modelM m).code = 0) : mgood m := by
  have h1 : ¬ (m.size < 1 ∨ 6 < m.size) := fun h2 => by unfold modelM at h; rw [if_pos h2] at h; exact absurd h (by decide)
  have h2 : ¬ (300 < m.consts.length ∨ 300 < m.rels.length) := fun h2 => by unfold modelM at h; rw [if_neg h1, if_pos h2] at h; exact absurd h (by decide)
  obtain ⟨g1, g2⟩ := modelM_cc h1 h2
  have hc : (ccM m 0).code = 0 := Decidable.byContradiction fun h3 => by rw [g1 h3] at h; exact h3 h
  have hr : (rrM m 0).code = 0 := by rw [g2 hc] at h; exact h
  have ac := ccM_all hc
  have ar := rrM_all hr
  have cs : ∀ i (h : i + 1 < m.consts.length), m.consts[i].name.l < m.consts[i + 1].name.l := fun i h => (constC_ok (ac (i + 1) h)).1 _ (by rw [pvA_succ (by omega)])
  have rs : ∀ i (h : i + 1 < m.rels.length), ltR m.rels[i] m.rels[i + 1] := fun i h => (relC_ok (ar (i + 1) h)).1 _ (by rw [pvA_succ (by omega)])
  have tt : ∀ r ∈ m.rels, ∀ k (hk : k < r.tuples.length), tupC m.size r.arity (pvA r.tuples k) r.tuples[k] = 0 := fun r hr => by
    obtain ⟨i, hi, rfl⟩ := List.getElem_of_mem hr
    exact ttM_all (relC_ok (ar i hi)).2.2.2
  have ts : ∀ r ∈ m.rels, ∀ k (h : k + 1 < r.tuples.length), cmpL r.tuples[k] r.tuples[k + 1] < 0 := fun r hr k h => (tupC_ok (tt r hr (k + 1) h)).1 _ (by rw [pvA_succ (by omega)])
  refine ⟨⟨fun i j hi hj hij => ?_, fun i j hi hj hij => ?_, fun r hr i j hi hj hij => ?_, by omega, by omega, by omega, by omega⟩, fun c hcm => ?_, fun r hrm => ?_, fun r hrm t ht => ?_⟩
  · exact sorted_of_step (lt := fun a b : Const => a.name.l < b.name.l) (fun a b c h1 h2 => str_lt_trans h1 h2) cs j i hj hi hij
  · exact sorted_of_step (lt := ltR) (fun a b c h1 h2 => ltR_trans h1 h2) rs j i hj hi hij
  · exact sorted_of_step (lt := fun a b : List Int => cmpL a b < 0) (fun a b c h1 h2 => cmpL_trans h1 (by omega)) (ts r hr) j i hj hi hij
  · obtain ⟨i, hi, rfl⟩ := List.getElem_of_mem hcm
    exact (constC_ok (ac i hi)).2
  · obtain ⟨i, hi, rfl⟩ := List.getElem_of_mem hrm
    exact ⟨(relC_ok (ar i hi)).2.1, (relC_ok (ar i hi)).2.2.1⟩
  · obtain ⟨k, hk, rfl⟩ := List.getElem_of_mem ht
    exact (tupC_ok (tt r hrm k hk)).2
theorem modelM_zero {m : Model} (h : (modelM m).code = 0) : modelM m = ⟨0, 0⟩ := by
  have h1 : ¬ (m.size < 1 ∨ 6 < m.size) := fun h2 => by unfold modelM at h; rw [if_pos h2] at h; exact absurd h (by decide)
  have h2 : ¬ (300 < m.consts.length ∨ 300 < m.rels.length) := fun h2 => by unfold modelM at h; rw [if_neg h1, if_pos h2] at h; exact absurd h (by decide)
  obtain ⟨g1, g2⟩ := modelM_cc h1 h2
  have hc : (ccM m 0).code = 0 := Decidable.byContradiction fun h3 => by rw [g1 h3] at h; exact h3 h
  have hr : (rrM m 0).code = 0 := by rw [g2 hc] at h; exact h
  rw [g2 hc]
  have ar := rrM_all hr
  have key : ∀ k i, i + k = m.rels.length → rrM m i = ⟨0, 0⟩ := by
    intro k
    induction k with
    | zero => intro i hi; obtain rfl : i = m.rels.length := by omega
              exact rrM_end m
    | succ k ih => intro i hi; rw [rrM_step (by omega), ar i (by omega), if_neg (by simp)]; exact ih (i + 1) (by omega)
  exact key m.rels.length 0 (by omega)
/-- for each individual whether a formula is true of it -/
def valsM (m : Model) (name : Str) (f : Form) : List Bool := (indiv m).map fun v => valM m f [⟨name, v⟩]
def cntM (l : List Bool) : Nat := (l.filter id).length
def bothM (x y : List Bool) : Nat := ((List.range x.length).filter fun i => x.getD i false && y.getD i false).length
structure vsP (m : Model) (f : Form) : Prop where
  m : mval m
  v : vok f
  s : szP f
  e : nestM f ≤ 800
theorem vsP_val {m : Model} {f : Form} (h : vsP m f) (env : List Const) (he : env.length ≤ 100) : valP m f env := ⟨h.m, h.v, h.s, by have := h.e; omega⟩
theorem vsP_ok {m : Model} {f : Form} (hm : mval m) (h : (checkM false f).code = 0) : vsP m f :=
  ⟨hm, checkM_vok h, ⟨checkM_fit h, by have := checkM_size h; omega⟩, by have := nest_depth f; have := Form.depth_size f; have := checkM_size h; omega⟩
def qfM (m : Model) (name : Str) (f : Form) (at' : Int) : Fault := if (checkM false f).code ≠ 0 then ⟨(checkM false f).code, at'⟩ else if (truthE m (.mk 9 name [] [f])).code ≠ 0 then ⟨(truthE m (.mk 9 name [] [f])).code, at'⟩ else ⟨0, 0⟩
def numP (m : Model) (name : Str) (f : Form) : Int × Fault := if (modelM m).code ≠ 0 then (0, modelM m) else if isName name = false then (0, ⟨10, -2⟩) else if (qfM m name f (-3)).code ≠ 0 then (0, qfM m name f (-3)) else ((cntM (valsM m name f) : Nat), ⟨0, 0⟩)
def mostP (m : Model) (name : Str) (a b : Form) : Bool × Fault := if (numP m name a).2.code ≠ 0 then (false, (numP m name a).2) else if (qfM m name b (-4)).code ≠ 0 then (false, qfM m name b (-4)) else (decide (cntM (valsM m name a) < 2 * bothM (valsM m name a) (valsM m name b)), ⟨0, 0⟩)
theorem cntM_take {l : List Bool} {i : Nat} (h : i < l.length) : cntM (l.take (i + 1)) = cntM (l.take i) + if l[i] then 1 else 0 := by
  unfold cntM
  rw [List.take_succ_eq_append_getElem h, List.filter_append, List.length_append]
  cases l[i] <;> rfl
theorem cntM_le (l : List Bool) : cntM l ≤ l.length := List.length_filter_le _ _
theorem indiv_get {m : Model} {i : Nat} (h : i < (indiv m).length) : (indiv m)[i] = (i : Int) := by
  simp only [indiv, List.getElem_map, List.getElem_range]; rfl
theorem valsM_len (m : Model) (name : Str) (f : Form) : (valsM m name f).length = m.size.toNat := by unfold valsM; rw [List.length_map, indiv_len]
theorem qf_flP {m : Model} {name : Str} {f : Form} (hm : mval m) (h : (checkM false f).code = 0) : okC m.consts ∧ okR m.rels ∧ szP (.mk 9 name [] [f]) ∧ (cst (.mk 9 name [] [f]) []).length ≤ 1000000 := by
  have h1 := checkM_fit h
  have h2 := checkM_size h
  have hf : (Form.mk 9 name [] [f]).fit = true := by rw [Form.fit, Form.fits, Form.fits, h1]; rfl
  have hs : (Form.mk 9 name [] [f]).size = f.size + 1 := by rw [Form.size, Form.sizes, Form.sizes]
  refine ⟨hm.c, hm.r, ⟨hf, by omega⟩, ?_⟩
  have := cst_len (.mk 9 name [] [f]) [] hf
  omega
section
variable {P : Program} {G : Nat → List FD} {T : Tbl}
def sp4p {α β γ δ ρ σ : Type} [Enc α] [Enc β] [Enc γ] [Enc δ] [Enc ρ] [Enc σ] (f : α → β → γ → δ → ρ × σ) (pre : α → β → γ → δ → Prop) : List FD → Option (D × Prop)
  | [x, y, z, w] => some (.tup [.fz (enc (f (dec x) (dec y) (dec z) (dec w)).1), .fz (enc (f (dec x) (dec y) (dec z) (dec w)).2)], x = enc (dec (α := α) x) ∧ y = enc (dec (α := β) y) ∧ z = enc (dec (α := γ) z) ∧ w = enc (dec (α := δ) w) ∧ pre (dec x) (dec y) (dec z) (dec w))
  | _ => none
@[go_sem] theorem k_sp4p {α β γ δ ρ σ : Type} [Enc α] [Enc β] [Enc γ] [Enc δ] [Enc ρ] [Enc σ] {f : α → β → γ → δ → ρ × σ} {pre : α → β → γ → δ → Prop} {x y z w : FD} : sp4p f pre [x, y, z, w] = some (.tup [.fz (enc (f (dec x) (dec y) (dec z) (dec w)).1), .fz (enc (f (dec x) (dec y) (dec z) (dec w)).2)], x = enc (dec (α := α) x) ∧ y = enc (dec (α := β) y) ∧ z = enc (dec (α := γ) z) ∧ w = enc (dec (α := δ) w) ∧ pre (dec x) (dec y) (dec z) (dec w)) := rfl
end
end Go.Abs
namespace Go.Proofs.YtbbjghecpcobjaaDoor
open Go Go.Abs Go.Proofs
section
variable {G : Nat → List FD}
/-! ## quantity.values -/
def B22 : Tbl := A21.add 38 (sp3 valsM fun m _ f => vsP m f)
attribute [go_sem] B22
set_option maxRecDepth 100000 in
set_option maxHeartbeats 1000000 in
theorem hB22 : TblOk Tryd.prog G B22 := by
  refine sp3_ok ok38 hA21 fun m name f hpre _ _ _ => ?_
  have s1 := hpre.m.s1
  have s6 := hpre.m.s6
  have hv : ∀ v : Int, valP m f [⟨name, v⟩] := fun v => vsP_val hpre _ (by simp)
  obtain ⟨A, hA⟩ : ∃ A : Nat → List Bool, A = fun i => ((indiv m).take i).map fun v => valM m f [⟨name, v⟩] := ⟨_, rfl⟩
  have hA0 : A 0 = [] := by rw [hA]; rfl
  have hAs : ∀ i (h : i < m.size.toNat), A (i + 1) = A i ++ [valM m f [⟨name, (i : Int)⟩]] := fun i h => by
    rw [hA]
    have h2 : i < (indiv m).length := by rw [indiv_len]; exact h
    simp only [List.take_succ_eq_append_getElem h2, List.map_append, List.map_cons, List.map_nil]
    rw [indiv_get h2]
  have hAe : valsM m name f = A m.size.toNat := by rw [hA]; unfold valsM; simp only; rw [← indiv_len, List.take_length]
  have hAl : ∀ i, (A i).length ≤ 6 := fun i => by
    rw [hA]
    simp only [List.length_map, List.length_take, indiv_len]; omega
  rw [hAe]
  have kA := Kp.mk hAs
  have kL := Kp.mk hAl
  have kv := Kp.mk hv
  clear hA hAs hAl hAe hv
  refine Wcall_K (N := 26) hm (G := G) hA21 38000 (lsw [23] []) ok38 Tryd.func38 rfl rfl (by simp) (by kernel_rfl) ?_
  repeat' (first | refine rq fun _ => ?_ | refine ReqK.i ⟨rfl, fits_of2 (by first | omega | (simp only [List.length_map, List.length_take, List.length_append, List.length_cons, List.length_nil]; omega)) (by decide)⟩ fun _ => ?_ | refine rq fun _ => ?_ | refine ReqK.i (fits_of2 (by first | omega | (simp only [List.length_map, List.length_take, List.length_append, List.length_cons, List.length_nil]; omega)) (by decide)) fun _ => ?_ | simp only [go_sem, Tryd.f38])
  refine WK_loop hm (G := G) hA21 38000 (lsw [23] []) (ι := LoopG m.size.toNat 3 fun _ => True)
    ⟨fun q => ⟨frL [(1, .fz (.s name.l)), (3, .ptr (38003, 0) 0), (5, .ptr (38005, 1) 0), (7, .ow (38023, q.g) 1 ((A q.i).map enc)), (10, .fz (.i .i64 m.size)), (11, .fz (.i .i64 q.i))],
      hpL [((38003, 0), some ⟨[.fz (.i .i64 m.size), .fz (.sl (m.consts.map enc)), .fz (.sl (m.rels.map enc))], true, false⟩), ((38005, 1), some ⟨[.fz (.i .i64 f.kind), .fz (.s f.name.l), .fz (.sl (f.words.map enc)), .fz (.sl (f.subs.map enc))], true, false⟩), ((38023, q.g), some tok)], q.m⟩, fun q => m.size.toNat - q.i⟩
    ⟨0, 2, 3, by omega, by omega, by omega, trivial⟩ (by kernel_rfl) ?_ ?_
  · refine Weak_g [] [(38023, 2)] [] ?_ ?_ ?_ ?_ ?_ <;> simp only [go_sem, hA0]
    all_goals first | done | rfl | omega | trace_state
  rintro ⟨i, g, q, hi, hg, hq, _⟩
  try simp only at hi hg hq
  rcases Nat.lt_or_ge i m.size.toNat with h1 | h1
  · have hs := kA.out i h1
    have hl := kL.out i
    have hp := kv.out (i : Int)
    have h1' : ((i : Int) < m.size) = True := eq_true (by omega)
    obtain ⟨b, hb⟩ : ∃ b, valM m f [⟨name, (i : Int)⟩] = b := ⟨_, rfl⟩
    rw [hb] at hs
    repeat' (first | refine ReqK.i hp fun _ => ?_ | refine rq fun _ => ?_ | refine ReqK.i ⟨rfl, fits_of2 (by first | omega | (simp only [List.length_map, List.length_take, List.length_append, List.length_cons, List.length_nil]; omega)) (by decide)⟩ fun _ => ?_ | refine rq fun _ => ?_ | refine ReqK.i (fits_of2 (by first | omega | (simp only [List.length_map, List.length_take, List.length_append, List.length_cons, List.length_nil]; omega)) (by decide)) fun _ => ?_ | simp only [go_sem, h1', hb, str_eta, form_eta, model_eta, dec_sl_cons, dec_sl_nil, dec_const, Tryd.f38])
    refine ⟨⟨i + 1, q, q + 5, by omega, by omega, by omega, trivial⟩, by simp only; omega, ?_⟩
    refine Weak_to ?_ ?_ ?_ <;> (try simp only [go_sem, hs, List.map_append])
    all_goals first | done | omega | rfl | trace_state
  obtain rfl : i = m.size.toNat := by omega
  have h1' : ((m.size.toNat : Int) < m.size) = False := eq_false (by omega)
  repeat' (first | refine rq fun _ => ?_ | refine ReqK.i ⟨rfl, fits_of2 (by first | omega | (simp only [List.length_map, List.length_take, List.length_append, List.length_cons, List.length_nil]; omega)) (by decide)⟩ fun _ => ?_ | refine rq fun _ => ?_ | refine ReqK.i (fits_of2 (by first | omega | (simp only [List.length_map, List.length_take, List.length_append, List.length_cons, List.length_nil]; omega)) (by decide)) fun _ => ?_ | simp only [go_sem, h1', Tryd.f38])
/-! ## quantity.fault -/
def B23 : Tbl := B22.add 37 (sp4 qfM fun m _ _ _ => mval m)
attribute [go_sem] B23
set_option maxRecDepth 100000 in
set_option maxHeartbeats 1000000 in
theorem hB23 : TblOk Tryd.prog G B23 := by
  refine sp4_ok ok37 hB22 fun m name f at' hpre _ _ _ _ => ?_
  by_cases h1 : (checkM false f).code = 0
  rotate_left
  · have e : qfM m name f at' = ⟨(checkM false f).code, at'⟩ := by unfold qfM; rw [if_pos h1]
    rw [e]
    refine Wcall_K (N := 34) hm (G := G) hB22 37000 (lst []) ok37 Tryd.func37 rfl rfl (by simp) (by kernel_rfl) ?_
    repeat' (first | refine rq fun _ => ?_ | refine ReqK.i ⟨rfl, fits_of2 (by first | omega | (simp only [List.length_map, List.length_take, List.length_append, List.length_cons, List.length_nil]; omega)) (by decide)⟩ fun _ => ?_ | refine rq fun _ => ?_ | refine ReqK.i (fits_of2 (by first | omega | (simp only [List.length_map, List.length_take, List.length_append, List.length_cons, List.length_nil]; omega)) (by decide)) fun _ => ?_ | simp only [go_sem, h1, form_eta, Tryd.f37])
  have hfl := qf_flP (name := name) hpre h1
  have hq : qfM m name f at' = if (truthE m (.mk 9 name [] [f])).code ≠ 0 then ⟨(truthE m (.mk 9 name [] [f])).code, at'⟩ else ⟨0, 0⟩ := by unfold qfM; rw [if_neg (by simp [h1])]
  obtain ⟨e, he⟩ : ∃ e, truthE m (.mk 9 name [] [f]) = e := ⟨_, rfl⟩
  rw [he] at hq
  have hfl2 : flP m (.mk 9 name [] [f]) := hfl
  by_cases h2 : e.code = 0
  · rw [if_neg (by simp [h2])] at hq
    rw [hq]
    refine Wcall_K (N := 34) hm (G := G) hB22 37000 (lst []) ok37 Tryd.func37 rfl rfl (by simp) (by kernel_rfl) ?_
    repeat' (first | refine ReqK.i hfl2 fun _ => ?_ | refine rq fun _ => ?_ | refine ReqK.i ⟨rfl, fits_of2 (by first | omega | (simp only [List.length_map, List.length_take, List.length_append, List.length_cons, List.length_nil]; omega)) (by decide)⟩ fun _ => ?_ | refine rq fun _ => ?_ | refine ReqK.i (fits_of2 (by first | omega | (simp only [List.length_map, List.length_take, List.length_append, List.length_cons, List.length_nil]; omega)) (by decide)) fun _ => ?_ | simp only [go_sem, h1, h2, he, form_eta, str_eta, model_eta, Tryd.f37])
  · rw [if_pos h2] at hq
    rw [hq]
    refine Wcall_K (N := 34) hm (G := G) hB22 37000 (lst []) ok37 Tryd.func37 rfl rfl (by simp) (by kernel_rfl) ?_
    repeat' (first | refine ReqK.i hfl2 fun _ => ?_ | refine rq fun _ => ?_ | refine ReqK.i ⟨rfl, fits_of2 (by first | omega | (simp only [List.length_map, List.length_take, List.length_append, List.length_cons, List.length_nil]; omega)) (by decide)⟩ fun _ => ?_ | refine rq fun _ => ?_ | refine ReqK.i (fits_of2 (by first | omega | (simp only [List.length_map, List.length_take, List.length_append, List.length_cons, List.length_nil]; omega)) (by decide)) fun _ => ?_ | simp only [go_sem, h1, h2, he, form_eta, str_eta, model_eta, Tryd.f37])
/-! ## quantity.Number -/
def B24 : Tbl := B23.add 9 (sp3p numP fun _ _ _ => True)
attribute [go_sem] B24
set_option maxRecDepth 100000 in
set_option maxHeartbeats 1000000 in
theorem hB24 : TblOk Tryd.prog G B24 := by
  refine sp3p_ok ok9 hB23 fun m name f _ _ _ _ => ?_
  by_cases h1 : (modelM m).code = 0
  rotate_left
  · have e : numP m name f = (0, modelM m) := by unfold numP; rw [if_pos h1]
    obtain ⟨X, hX⟩ : ∃ X, modelM m = X := ⟨_, rfl⟩
    rw [hX] at e h1
    rw [e]
    refine Wcall_K (N := 46) hm (G := G) hB23 9000 (lst []) ok9 Tryd.func9 rfl rfl (by simp) (by kernel_rfl) ?_
    repeat' (first | refine rq fun _ => ?_ | refine ReqK.i ⟨rfl, fits_of2 (by first | omega | (simp only [List.length_map, List.length_take, List.length_append, List.length_cons, List.length_nil]; omega)) (by decide)⟩ fun _ => ?_ | refine rq fun _ => ?_ | refine ReqK.i (fits_of2 (by first | omega | (simp only [List.length_map, List.length_take, List.length_append, List.length_cons, List.length_nil]; omega)) (by decide)) fun _ => ?_ | simp only [go_sem, h1, hX, model_eta, Tryd.f9])
  have hmg := modelM_good h1
  have hmz := modelM_zero h1
  have hmv := hmg.v
  have s1 := hmv.s1
  have s6 := hmv.s6
  cases h2 : isName name with
  | false =>
    have e : numP m name f = (0, ⟨10, -2⟩) := by unfold numP; rw [if_neg (by simp [h1]), if_pos h2]
    rw [e]
    refine Wcall_K (N := 46) hm (G := G) hB23 9000 (lst []) ok9 Tryd.func9 rfl rfl (by simp) (by kernel_rfl) ?_
    repeat' (first | refine rq fun _ => ?_ | refine ReqK.i ⟨rfl, fits_of2 (by first | omega | (simp only [List.length_map, List.length_take, List.length_append, List.length_cons, List.length_nil]; omega)) (by decide)⟩ fun _ => ?_ | refine rq fun _ => ?_ | refine ReqK.i (fits_of2 (by first | omega | (simp only [List.length_map, List.length_take, List.length_append, List.length_cons, List.length_nil]; omega)) (by decide)) fun _ => ?_ | simp only [go_sem, hmz, h2, str_eta, model_eta, Tryd.f9])
  | true =>
    by_cases h3 : (qfM m name f (-3)).code = 0
    rotate_left
    · have e : numP m name f = (0, qfM m name f (-3)) := by unfold numP; rw [if_neg (by simp [h1]), if_neg (by simp [h2]), if_pos h3]
      obtain ⟨X, hX⟩ : ∃ X, qfM m name f (-3) = X := ⟨_, rfl⟩
      rw [hX] at e h3
      rw [e]
      refine Wcall_K (N := 46) hm (G := G) hB23 9000 (lst []) ok9 Tryd.func9 rfl rfl (by simp) (by kernel_rfl) ?_
      repeat' (first | refine ReqK.i hmv fun _ => ?_ | refine rq fun _ => ?_ | refine ReqK.i ⟨rfl, fits_of2 (by first | omega | (simp only [List.length_map, List.length_take, List.length_append, List.length_cons, List.length_nil]; omega)) (by decide)⟩ fun _ => ?_ | refine rq fun _ => ?_ | refine ReqK.i (fits_of2 (by first | omega | (simp only [List.length_map, List.length_take, List.length_append, List.length_cons, List.length_nil]; omega)) (by decide)) fun _ => ?_ | simp only [go_sem, hmz, h2, h3, hX, str_eta, form_eta, model_eta, Tryd.f9])
    have e : numP m name f = (((cntM (valsM m name f) : Nat) : Int), ⟨0, 0⟩) := by unfold numP; rw [if_neg (by simp [h1]), if_neg (by simp [h2]), if_neg (by simp [h3])]
    have hck : (checkM false f).code = 0 := by
      unfold qfM at h3
      split at h3
      · rename_i h4; exact absurd h3 h4
      · rename_i h4; exact Decidable.not_not.1 h4
    have hvs := vsP_ok hmv hck
    have hvl := valsM_len m name f
    obtain ⟨V, hV⟩ : ∃ V, valsM m name f = V := ⟨_, rfl⟩
    rw [hV] at e hvl
    rw [e]
    have hct := fun i h => cntM_take (l := V) (i := i) h
    have hcl : ∀ i, cntM (V.take i) ≤ 6 := fun i => by have := cntM_le (V.take i); rw [List.length_take] at this; omega
    have kc := Kp.mk hct
    have kl := Kp.mk hcl
    clear hct hcl
    refine Wcall_K (N := 46) hm (G := G) hB23 9000 (lst []) ok9 Tryd.func9 rfl rfl (by simp) (by kernel_rfl) ?_
    repeat' (first | refine ReqK.i hmv fun _ => ?_ | refine ReqK.i hvs fun _ => ?_ | refine rq fun _ => ?_ | refine ReqK.i ⟨rfl, fits_of2 (by first | omega | (simp only [List.length_map, List.length_take, List.length_append, List.length_cons, List.length_nil]; omega)) (by decide)⟩ fun _ => ?_ | refine rq fun _ => ?_ | refine ReqK.i (fits_of2 (by first | omega | (simp only [List.length_map, List.length_take, List.length_append, List.length_cons, List.length_nil]; omega)) (by decide)) fun _ => ?_ | simp only [go_sem, hmz, h2, h3, hV, str_eta, form_eta, model_eta, Tryd.f9])
    refine WK_loop hm (G := G) hB23 9000 (lst []) (ι := LoopI V.length fun _ => True)
      ⟨fun q => ⟨frL [(7, .ptr (9007, 2) 0), (10, .fz (.i .i64 (cntM (V.take q.i) : Nat))), (34, .fz (.sl (V.map enc))), (35, .fz (.i .i64 V.length)), (36, .fz (.i .i64 q.i))],
        hpL [((9007, 2), some ⟨[.fz (.i .i64 0), .fz (.i .i64 0)], true, false⟩)], 9⟩, fun q => V.length - q.i⟩
      ⟨0, by omega, trivial⟩ (by kernel_rfl) ?_ ?_
    · refine Weak_to ?_ ?_ ?_ <;> simp only [go_sem]
      all_goals first | done | rfl | omega | trace_state
    rintro ⟨i, hi, _⟩
    try simp only at hi
    rcases Nat.lt_or_ge i V.length with h4 | h4
    · have hc := kc.out i h4
      have hl := kl.out i
      obtain ⟨b, hb⟩ : ∃ b, V[i] = b := ⟨_, rfl⟩
      rw [hb] at hc
      obtain ⟨K, hK⟩ : ∃ K, cntM (V.take i) = K := ⟨_, rfl⟩
      rw [hK] at hc hl
      cases b with
      | true =>
        have hc' : cntM (V.take (i + 1)) = K + 1 := hc
        repeat' (first | refine rq fun _ => ?_ | refine ReqK.i ⟨rfl, fits_of2 (by first | omega | (simp only [List.length_map, List.length_take, List.length_append, List.length_cons, List.length_nil]; omega)) (by decide)⟩ fun _ => ?_ | refine rq fun _ => ?_ | refine ReqK.i (fits_of2 (by first | omega | (simp only [List.length_map, List.length_take, List.length_append, List.length_cons, List.length_nil]; omega)) (by decide)) fun _ => ?_ | simp only [go_sem, h4, hb, hK, getD_map_lt, Tryd.f9])
        refine ⟨⟨i + 1, by omega, trivial⟩, by simp only; omega, ?_⟩
        refine Weak_to ?_ ?_ ?_ <;> simp only [go_sem, hc']
        all_goals first | done | rfl | omega | trace_state
      | false =>
        have hc' : cntM (V.take (i + 1)) = K := hc
        repeat' (first | refine rq fun _ => ?_ | refine ReqK.i ⟨rfl, fits_of2 (by first | omega | (simp only [List.length_map, List.length_take, List.length_append, List.length_cons, List.length_nil]; omega)) (by decide)⟩ fun _ => ?_ | refine rq fun _ => ?_ | refine ReqK.i (fits_of2 (by first | omega | (simp only [List.length_map, List.length_take, List.length_append, List.length_cons, List.length_nil]; omega)) (by decide)) fun _ => ?_ | simp only [go_sem, h4, hb, hK, getD_map_lt, Tryd.f9])
        refine ⟨⟨i + 1, by omega, trivial⟩, by simp only; omega, ?_⟩
        refine Weak_to ?_ ?_ ?_ <;> simp only [go_sem, hc', hK]
        all_goals first | done | rfl | omega | trace_state
    obtain rfl : i = V.length := by omega
    repeat' (first | refine rq fun _ => ?_ | refine ReqK.i ⟨rfl, fits_of2 (by first | omega | (simp only [List.length_map, List.length_take, List.length_append, List.length_cons, List.length_nil]; omega)) (by decide)⟩ fun _ => ?_ | refine rq fun _ => ?_ | refine ReqK.i (fits_of2 (by first | omega | (simp only [List.length_map, List.length_take, List.length_append, List.length_cons, List.length_nil]; omega)) (by decide)) fun _ => ?_ | simp only [go_sem, Nat.lt_irrefl, List.take_length, Tryd.f9])
end
end Go.Proofs.YtbbjghecpcobjaaDoor
