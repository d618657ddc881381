import Derived.Test.YtbbcinpmomjbgaaDoorP20
set_option linter.unusedSimpArgs false
namespace Go.Proofs.YtbbcinpmomjbgaaDoor
open Go Go.Abs Go.Proofs

theorem mk1' {n : Nat} {d : D} : (List.range n).map (fun j => [d].getD (j % 1) .junk) = List.replicate n d := by
  simp [Nat.mod_one, List.map_const']
theorem rep_bools {n : Nat} : List.replicate n (D.fz (.b false)) = flatFz ((List.replicate n false).map enc) := by
  rw [flat_one]; simp [enc_bool]
def rowsC (tag : Nat) (gs : Nat → Nat) (p : Nat) : List D := (List.range p).map fun c => .arr (tag, gs c) 1 0 p
theorem rowsC_get {tag p c : Nat} {gs : Nat → Nat} (h : c < p) : (rowsC tag gs p).getD c .junk = .arr (tag, gs c) 1 0 p := by
  simp [rowsC, List.getD_eq_getElem?_getD, h]
theorem rowsC_len {tag p : Nat} {gs : Nat → Nat} : (rowsC tag gs p).length = p := by simp [rowsC]
theorem famC_sq {tag p : Nat} {gs : Nat → Nat} {B : List (List Bool)} (h : Sq p B) : famC tag B gs p = rowsC tag gs p := by
  unfold famC rowsC
  refine List.map_congr_left fun c hc => ?_
  have hc' := List.mem_range.1 hc
  rw [if_pos (by rw [h.len]; exact hc'), h.get hc']
def rowI (p i : Nat) : List Bool := (List.replicate p false).set i true
theorem initM_eq (p : Nat) : initM p = (List.range p).map (rowI p) := rfl

structure BI (p : Nat) where
  i : Nat
  m : Nat
  gs : Nat → Nat
  f : Heap
  hi : i ≤ p
  hF : Fam 31024 m ((List.range i).map (rowI p)) gs f
structure FI (n p : Nat) (gs : Nat → Nat) (Bf : Nat → List (List Bool)) where
  i : Nat
  m : Nat
  f : Heap
  hi : i ≤ n
  hF : Fam 31024 m (Bf i) gs f
  hS : Sq p (Bf i)

theorem fam_get {tag n p : Nat} {gs : Nat → Nat} {B : List (List Bool)} {f : Heap} (hF : Fam tag n B gs f) (hS : Sq p B) {i : Nat} (hi : i < p) : f (tag, gs i) = some ⟨flatFz ((B.getD i []).map enc), false, false⟩ := by
  have hB : i < B.length := by rw [hS.len]; exact hi
  have := hF.get i hB
  rw [this]
  rw [List.getD_eq_getElem?_getD, List.getElem?_eq_getElem hB]; rfl
theorem row_get {p : Nat} {B : List (List Bool)} (hS : Sq p B) {i j : Nat} (hi : i < p) (hj : j < p) : (flatFz ((B.getD i []).map enc)).getD j .junk = .fz (.b (getM B i j)) := by
  have := hS.get hi
  have hl : j < (B.getD i []).length := by omega
  have e : (B.getD i [])[j] = getM B i j := by
    unfold getM
    generalize B.getD i [] = r at hl
    rw [List.getD_eq_getElem?_getD, List.getElem?_eq_getElem hl]; rfl
  rw [flat_getD hl, enc_bool, e]
theorem row_set' {r : List Bool} {j : Nat} : (flatFz (r.map enc)).set j (.fz (.b true)) = flatFz ((r.set j true).map enc) := by
  rw [← flat_set]; rfl
theorem set_getD {B : List (List Bool)} {a b c : Nat} (h : a ≠ c) : (setM B a b).getD c [] = B.getD c [] := by
  unfold setM; rw [List.getD_eq_getElem?_getD, List.getElem?_set_ne h, List.getD_eq_getElem?_getD]
theorem set_idem {p : Nat} {B : List (List Bool)} (hS : Sq p B) {a b : Nat} (ha : a < p) : setM (setM B a b) a b = setM B a b := by
  have h : a < B.length := by rw [hS.len]; exact ha
  unfold setM
  have e : ∀ r, (B.set a r).getD a [] = r := fun r => by rw [List.getD_eq_getElem?_getD, List.getElem?_set_self h]; rfl
  rw [e, List.set_set, List.set_set]
theorem row_set {B : List (List Bool)} {i j : Nat} : (flatFz ((B.getD i []).map enc)).set j (.fz (.b true)) = flatFz (((B.getD i []).set j true).map enc) := by
  rw [← flat_set]; rfl
theorem fam_lt {tag n p : Nat} {gs : Nat → Nat} {B : List (List Bool)} {f : Heap} (hF : Fam tag n B gs f) (hS : Sq p B) {i : Nat} (hi : i < p) : gs i < n := hF.lt i (by rw [hS.len]; exact hi)
theorem fam_ne {tag n p : Nat} {gs : Nat → Nat} {B : List (List Bool)} {f : Heap} (hF : Fam tag n B gs f) (hS : Sq p B) {i j : Nat} (hi : i < p) (hj : j < p) (h : i ≠ j) : (gs i = gs j) = False :=
  eq_false fun e => h (hF.inj i j (by rw [hS.len]; exact hi) (by rw [hS.len]; exact hj) e)
theorem fam_set {tag n p : Nat} {gs : Nat → Nat} {B : List (List Bool)} {f : Heap} (hF : Fam tag n B gs f) (hS : Sq p B) {i j : Nat} (hi : i < p) : Fam tag n (setM B i j) gs (hpX [((tag, gs i), some ⟨flatFz (((B.getD i []).set j true).map enc), false, false⟩)] f) :=
  hF.write (by rw [hS.len]; exact hi)

def consPre (p : Int) (l : List Time) : Prop := 0 ≤ p ∧ p ≤ 12 ∧ l.length ≤ 1000 ∧ ∀ x ∈ l, OkT p.toNat x
def U6 : Tbl := U5.add 31 (sp2 (fun (p : Int) l => consM p.toNat l) consPre)
set_option maxRecDepth 100000 in
set_option maxHeartbeats 1000000 in
theorem hU6 : TblOk Tryd.prog G0 U6 := by
  refine sp2_ok ok31 hU5 fun p l hpre _ _ => ?_
  obtain ⟨hp0, hp12, hll, hok⟩ := hpre
  obtain ⟨p, rfl⟩ := Int.eq_ofNat_of_zero_le hp0
  simp only [Int.toNat_natCast] at hok ⊢
  have hin : ∀ x ∈ l, InR p x := fun x hx => (hok x hx).2
  refine Wcall_K (N := 147) hm hU5 31000 (lst []) ok31 Tryd.func31 rfl rfl (by simp) (by kernel_rfl) ?_
  repeat' (first | refine ReqK.i (by unfold maxL; omega) fun _ => ?_ | simp only [go_sem, reduceIte, reduceCtorEq, Nat.reduceEqDiff, Nat.reduceAdd, Nat.reduceSub, Nat.reduceMul, Nat.reduceDiv, Nat.reduceMod, Nat.reduceLT, Nat.reduceLeDiff, Nat.reduceBEq, Nat.reducePow, Int.reduceLE, Int.reduceLT, Int.reduceEq, Int.reduceNeg, Int.reduceAdd, Int.reduceToNat, mk1', ← famC_zero (α := Bool) (tag := 31024) (gs := fun _ => 0)])
  refine WK_loop hm hU5 31000 (lst []) (ι := BI p)
    ⟨fun q => ⟨frL [(0, .fz (.i .i64 p)), (1, .fz (enc l)), (5, .arr (31015, 0) 1 0 p), (16, .arr (31015, 0) 1 0 p), (17, .fz (.i .i64 p)), (18, .fz (.i .i64 q.i))],
      hpX [((31015, 0), some ⟨famC 31024 ((List.range q.i).map (rowI p)) q.gs p, false, false⟩)] q.f, q.m⟩, fun q => p - q.i⟩ ⟨0, 1, fun _ => 0, H0, by omega, Fam.nil⟩ (by kernel_rfl) ?_ ?_
  · refine Weak_toX ?_ ?_ (by intro _ _ h; cases h) ?_ <;> simp only [go_sem, reduceIte, reduceCtorEq, Nat.reduceEqDiff, Nat.reduceAdd, Nat.reduceSub, Nat.reduceMul, Nat.reduceDiv, Nat.reduceMod, Nat.reduceLT, Nat.reduceLeDiff, Nat.reduceBEq, Nat.reducePow, Int.reduceLE, Int.reduceLT, Int.reduceEq, Int.reduceNeg, Int.reduceAdd, Int.reduceToNat]
  · rintro ⟨i, m, gs, f, hi, hF⟩
    rcases Nat.lt_or_ge i p with h1 | h1
    · have hBl : ((List.range i).map (rowI p)).length = i := by simp
      have hcl := famC_len (tag := 31024) (B := (List.range i).map (rowI p)) (gs := gs) (p := p)
      have hg1 : ((famC 31024 ((List.range i).map (rowI p)) gs p).set i (D.arr (31024, m) 1 0 p)).getD i .junk = .arr (31024, m) 1 0 p := by
        rw [List.getD_eq_getElem?_getD, List.getElem?_set_self (by rw [hcl]; exact h1)]; rfl
      have hrs : (flatFz ((List.replicate p false).map enc)).set i (.fz (.b true)) = flatFz ((rowI p i).map enc) := by rw [rowI, ← flat_set]; rfl
      have hrl : p = (rowI p i).length := by simp [rowI]
      repeat' (first | refine ReqK.i (by omega) fun _ => ?_ | refine ReqK.i (by unfold maxL; omega) fun _ => ?_ | simp only [go_sem, reduceIte, reduceCtorEq, Nat.reduceEqDiff, Nat.reduceAdd, Nat.reduceSub, Nat.reduceMul, Nat.reduceDiv, Nat.reduceMod, Nat.reduceLT, Nat.reduceLeDiff, Nat.reduceBEq, Nat.reducePow, Int.reduceLE, Int.reduceLT, Int.reduceEq, Int.reduceNeg, Int.reduceAdd, Int.reduceToNat, h1, mk1', rep_bools, hcl, hg1, List.length_replicate, List.length_set])
      refine ⟨⟨i + 1, m + 1, _, _, by omega, by rw [List.range_succ, List.map_append]; exact hF.push (Nat.le_refl _)⟩, by simp only; omega, ?_⟩
      refine Weak_toX ?_ ?_ (fun id o ho => ?_) ?_
      · simp only [go_sem, reduceIte, reduceCtorEq, Nat.reduceEqDiff, Nat.reduceAdd, Nat.reduceSub, Nat.reduceMul, Nat.reduceDiv, Nat.reduceMod, Nat.reduceLT, Nat.reduceLeDiff, Nat.reduceBEq, Nat.reducePow, Int.reduceLE, Int.reduceLT, Int.reduceEq, Int.reduceNeg, Int.reduceAdd, Int.reduceToNat]
      · simp only [go_sem, reduceIte, reduceCtorEq, Nat.reduceEqDiff, Nat.reduceAdd, Nat.reduceSub, Nat.reduceMul, Nat.reduceDiv, Nat.reduceMod, Nat.reduceLT, Nat.reduceLeDiff, Nat.reduceBEq, Nat.reducePow, Int.reduceLE, Int.reduceLT, Int.reduceEq, Int.reduceNeg, Int.reduceAdd, Int.reduceToNat, famC_push (tag := 31024) (gs := gs) (n := m) (p := p) hBl.symm hrl, List.range_succ, List.map_append]
      · have ht := (hF.push (xs := rowI p i) (Nat.le_refl _)).tg id o ho
        obtain ⟨a, b⟩ := id
        obtain rfl : a = 31024 := ht
        simp only [go_sem, reduceIte, reduceCtorEq, Nat.reduceEqDiff, Nat.reduceAdd, Nat.reduceSub, Nat.reduceMul, Nat.reduceDiv, Nat.reduceMod, Nat.reduceLT, Nat.reduceLeDiff, Nat.reduceBEq, Nat.reducePow, Int.reduceLE, Int.reduceLT, Int.reduceEq, Int.reduceNeg, Int.reduceAdd, Int.reduceToNat] at ho
        simp only [go_sem, reduceIte, reduceCtorEq, Nat.reduceEqDiff, Nat.reduceAdd, Nat.reduceSub, Nat.reduceMul, Nat.reduceDiv, Nat.reduceMod, Nat.reduceLT, Nat.reduceLeDiff, Nat.reduceBEq, Nat.reducePow, Int.reduceLE, Int.reduceLT, Int.reduceEq, Int.reduceNeg, Int.reduceAdd, Int.reduceToNat, hrs]
        by_cases e : b = m
        · rw [if_pos e] at ho ⊢; exact ho
        · rw [if_neg e] at ho ⊢; rw [if_neg e]; exact ho
      · simp only [go_sem, reduceIte, reduceCtorEq, Nat.reduceEqDiff, Nat.reduceAdd, Nat.reduceSub, Nat.reduceMul, Nat.reduceDiv, Nat.reduceMod, Nat.reduceLT, Nat.reduceLeDiff, Nat.reduceBEq, Nat.reducePow, Int.reduceLE, Int.reduceLT, Int.reduceEq, Int.reduceNeg, Int.reduceAdd, Int.reduceToNat]
    · obtain rfl : p = i := by omega
      have hS0 : Sq p ((List.range p).map (rowI p)) := sq_init p
      have hi1 : ((p : Int) < (p : Int)) = False := eq_false (by omega)
      have hci := famC_sq (tag := 31024) (gs := gs) hS0
      have hk : ∀ x ∈ l, 1 ≤ x.kind ∧ x.kind ≤ 4 := fun x hx => (hok x hx).1
      have hrl := rowsC_len (tag := 31024) (gs := gs) (p := p)
      simp only [go_sem, reduceIte, reduceCtorEq, Nat.reduceEqDiff, Nat.reduceAdd, Nat.reduceSub, Nat.reduceMul, Nat.reduceDiv, Nat.reduceMod, Nat.reduceLT, Nat.reduceLeDiff, Nat.reduceBEq, Nat.reducePow, Int.reduceLE, Int.reduceLT, Int.reduceEq, Int.reduceNeg, Int.reduceAdd, Int.reduceToNat, Nat.lt_irrefl, hi1, hci]
      refine WK_loop hm hU5 31000 (lst []) (ι := FI l.length p gs fun k => baseM (l.take k) (initM p))
        ⟨fun q => ⟨frL [(0, .fz (.i .i64 p)), (1, .fz (enc l)), (5, .arr (31015, 0) 1 0 p), (33, .fz (enc l)), (34, .fz (.i .i64 l.length)), (35, .fz (.i .i64 q.i))],
          hpX [((31015, 0), some ⟨rowsC 31024 gs p, false, false⟩)] q.f, q.m⟩, fun q => l.length - q.i⟩ ⟨0, m, f, by omega, hF, hS0⟩ (by kernel_rfl) ?_ ?_
      · refine Weak_toX ?_ ?_ (fun id o ho => ?_) ?_
        · simp only [go_sem, reduceIte, reduceCtorEq, Nat.reduceEqDiff, Nat.reduceAdd, Nat.reduceSub, Nat.reduceMul, Nat.reduceDiv, Nat.reduceMod, Nat.reduceLT, Nat.reduceLeDiff, Nat.reduceBEq, Nat.reducePow, Int.reduceLE, Int.reduceLT, Int.reduceEq, Int.reduceNeg, Int.reduceAdd, Int.reduceToNat]
        · simp only [go_sem, reduceIte, reduceCtorEq, Nat.reduceEqDiff, Nat.reduceAdd, Nat.reduceSub, Nat.reduceMul, Nat.reduceDiv, Nat.reduceMod, Nat.reduceLT, Nat.reduceLeDiff, Nat.reduceBEq, Nat.reducePow, Int.reduceLE, Int.reduceLT, Int.reduceEq, Int.reduceNeg, Int.reduceAdd, Int.reduceToNat]
        · have ht := (hF).tg id o ho
          obtain ⟨aT, bT⟩ := id
          obtain rfl : aT = 31024 := ht
          try (simp only [go_sem, reduceIte, reduceCtorEq, Nat.reduceEqDiff, Nat.reduceAdd, Nat.reduceSub, Nat.reduceMul, Nat.reduceDiv, Nat.reduceMod, Nat.reduceLT, Nat.reduceLeDiff, Nat.reduceBEq, Nat.reducePow, Int.reduceLE, Int.reduceLT, Int.reduceEq, Int.reduceNeg, Int.reduceAdd, Int.reduceToNat] at ho)
          simp only [go_sem, reduceIte, reduceCtorEq, Nat.reduceEqDiff, Nat.reduceAdd, Nat.reduceSub, Nat.reduceMul, Nat.reduceDiv, Nat.reduceMod, Nat.reduceLT, Nat.reduceLeDiff, Nat.reduceBEq, Nat.reducePow, Int.reduceLE, Int.reduceLT, Int.reduceEq, Int.reduceNeg, Int.reduceAdd, Int.reduceToNat]
          exact ho
        · simp only [go_sem, reduceIte, reduceCtorEq, Nat.reduceEqDiff, Nat.reduceAdd, Nat.reduceSub, Nat.reduceMul, Nat.reduceDiv, Nat.reduceMod, Nat.reduceLT, Nat.reduceLeDiff, Nat.reduceBEq, Nat.reducePow, Int.reduceLE, Int.reduceLT, Int.reduceEq, Int.reduceNeg, Int.reduceAdd, Int.reduceToNat]
      rintro ⟨j, m2, f2, hj, hF2, hS2⟩
      clear hF hS0
      rcases Nat.lt_or_ge j l.length with h2 | h2x
      · have hx := hin l[j] (List.getElem_mem h2)
        have hkj := hk l[j] (List.getElem_mem h2)
        have hstep : baseM (l.take (j + 1)) (initM p) = oneM (baseM (l.take j) (initM p)) l[j] := by
          unfold baseM; rw [List.take_succ_eq_append_getElem h2, List.foldl_append]; rfl
        obtain ⟨B, hB⟩ : ∃ B, B = baseM (l.take j) (initM p) := ⟨_, rfl⟩
        rw [← hB] at hstep hF2 hS2
        obtain ⟨a, ha⟩ : ∃ a : Nat, l[j].a = (a : Int) := Int.eq_ofNat_of_zero_le hx.1
        obtain ⟨b, hb⟩ : ∃ b : Nat, l[j].b = (b : Int) := Int.eq_ofNat_of_zero_le hx.2.2.1
        have hai : a < p := by have := hx.2.1; omega
        have hbi : b < p := by have := hx.2.2.2; omega
        have hga := rowsC_get (tag := 31024) (gs := gs) hai
        have hgb := rowsC_get (tag := 31024) (gs := gs) hbi
        have hfa := fam_get hF2 hS2 hai
        have hfb := fam_get hF2 hS2 hbi
        have hla := hS2.get hai
        have hlb := hS2.get hbi
        have hw1 := fam_set (j := b) hF2 hS2 hai
        have hs1 := hS2.set (j := b) hai
        by_cases e4 : l[j].kind = 4
        · have hone : oneM B l[j] = B := by unfold oneM; rw [if_neg (by omega)]; simp [e4]
          rw [hone] at hstep
          repeat' (first | refine ReqK.i (by omega) fun _ => ?_ | simp only [go_sem, reduceIte, reduceCtorEq, Nat.reduceEqDiff, Nat.reduceAdd, Nat.reduceSub, Nat.reduceMul, Nat.reduceDiv, Nat.reduceMod, Nat.reduceLT, Nat.reduceLeDiff, Nat.reduceBEq, Nat.reducePow, Int.reduceLE, Int.reduceLT, Int.reduceEq, Int.reduceNeg, Int.reduceAdd, Int.reduceToNat, h2, getD_map_lt, e4])
          refine ⟨⟨j + 1, m2 + 1, f2, by omega, by rw [hstep]; exact hF2.mono (Nat.le_succ _), by rw [hstep]; exact hS2⟩, by simp only; omega, ?_⟩
          refine Weak_toX ?_ ?_ (fun id o ho => ?_) ?_
          · simp only [go_sem, reduceIte, reduceCtorEq, Nat.reduceEqDiff, Nat.reduceAdd, Nat.reduceSub, Nat.reduceMul, Nat.reduceDiv, Nat.reduceMod, Nat.reduceLT, Nat.reduceLeDiff, Nat.reduceBEq, Nat.reducePow, Int.reduceLE, Int.reduceLT, Int.reduceEq, Int.reduceNeg, Int.reduceAdd, Int.reduceToNat]
          · simp only [go_sem, reduceIte, reduceCtorEq, Nat.reduceEqDiff, Nat.reduceAdd, Nat.reduceSub, Nat.reduceMul, Nat.reduceDiv, Nat.reduceMod, Nat.reduceLT, Nat.reduceLeDiff, Nat.reduceBEq, Nat.reducePow, Int.reduceLE, Int.reduceLT, Int.reduceEq, Int.reduceNeg, Int.reduceAdd, Int.reduceToNat]
          · have ht := (hF2).tg id o ho
            obtain ⟨aT, bT⟩ := id
            obtain rfl : aT = 31024 := ht
            try (simp only [go_sem, reduceIte, reduceCtorEq, Nat.reduceEqDiff, Nat.reduceAdd, Nat.reduceSub, Nat.reduceMul, Nat.reduceDiv, Nat.reduceMod, Nat.reduceLT, Nat.reduceLeDiff, Nat.reduceBEq, Nat.reducePow, Int.reduceLE, Int.reduceLT, Int.reduceEq, Int.reduceNeg, Int.reduceAdd, Int.reduceToNat] at ho)
            simp only [go_sem, reduceIte, reduceCtorEq, Nat.reduceEqDiff, Nat.reduceAdd, Nat.reduceSub, Nat.reduceMul, Nat.reduceDiv, Nat.reduceMod, Nat.reduceLT, Nat.reduceLeDiff, Nat.reduceBEq, Nat.reducePow, Int.reduceLE, Int.reduceLT, Int.reduceEq, Int.reduceNeg, Int.reduceAdd, Int.reduceToNat]
            exact ho
          · simp only [go_sem, reduceIte, reduceCtorEq, Nat.reduceEqDiff, Nat.reduceAdd, Nat.reduceSub, Nat.reduceMul, Nat.reduceDiv, Nat.reduceMod, Nat.reduceLT, Nat.reduceLeDiff, Nat.reduceBEq, Nat.reducePow, Int.reduceLE, Int.reduceLT, Int.reduceEq, Int.reduceNeg, Int.reduceAdd, Int.reduceToNat]
        by_cases e3 : l[j].kind = 3
        · by_cases eab : a = b
          · subst eab
            have hone : oneM B l[j] = setM B a a := by
              unfold oneM; simp only; rw [if_pos e3, if_pos e4, ha, hb]
              exact set_idem hS2 hai
            rw [hone] at hstep
            repeat' (first | refine ReqK.i (by omega) fun _ => ?_ | simp only [go_sem, reduceIte, reduceCtorEq, Nat.reduceEqDiff, Nat.reduceAdd, Nat.reduceSub, Nat.reduceMul, Nat.reduceDiv, Nat.reduceMod, Nat.reduceLT, Nat.reduceLeDiff, Nat.reduceBEq, Nat.reducePow, Int.reduceLE, Int.reduceLT, Int.reduceEq, Int.reduceNeg, Int.reduceAdd, Int.reduceToNat, h2, getD_map_lt, e4, e3, ha, hb, hga, hgb, hrl, hfa, hfb, hla, hlb, hai, hbi, row_set', List.set_set, List.length_set])
            refine ⟨⟨j + 1, m2 + 1, _, by omega, by rw [hstep]; exact hw1.mono (Nat.le_succ _), by rw [hstep]; exact hs1⟩, by simp only; omega, ?_⟩
            refine Weak_toX ?_ ?_ (fun id o ho => ?_) ?_
            · simp only [go_sem, reduceIte, reduceCtorEq, Nat.reduceEqDiff, Nat.reduceAdd, Nat.reduceSub, Nat.reduceMul, Nat.reduceDiv, Nat.reduceMod, Nat.reduceLT, Nat.reduceLeDiff, Nat.reduceBEq, Nat.reducePow, Int.reduceLE, Int.reduceLT, Int.reduceEq, Int.reduceNeg, Int.reduceAdd, Int.reduceToNat]
            · simp only [go_sem, reduceIte, reduceCtorEq, Nat.reduceEqDiff, Nat.reduceAdd, Nat.reduceSub, Nat.reduceMul, Nat.reduceDiv, Nat.reduceMod, Nat.reduceLT, Nat.reduceLeDiff, Nat.reduceBEq, Nat.reducePow, Int.reduceLE, Int.reduceLT, Int.reduceEq, Int.reduceNeg, Int.reduceAdd, Int.reduceToNat]
            · have ht := hw1.tg id o ho
              obtain ⟨aT, bT⟩ := id
              obtain rfl : aT = 31024 := ht
              simp only [go_sem, reduceIte, reduceCtorEq, Nat.reduceEqDiff, Nat.reduceAdd, Nat.reduceSub, Nat.reduceMul, Nat.reduceDiv, Nat.reduceMod, Nat.reduceLT, Nat.reduceLeDiff, Nat.reduceBEq, Nat.reducePow, Int.reduceLE, Int.reduceLT, Int.reduceEq, Int.reduceNeg, Int.reduceAdd, Int.reduceToNat] at ho
              simp only [go_sem, reduceIte, reduceCtorEq, Nat.reduceEqDiff, Nat.reduceAdd, Nat.reduceSub, Nat.reduceMul, Nat.reduceDiv, Nat.reduceMod, Nat.reduceLT, Nat.reduceLeDiff, Nat.reduceBEq, Nat.reducePow, Int.reduceLE, Int.reduceLT, Int.reduceEq, Int.reduceNeg, Int.reduceAdd, Int.reduceToNat]
              by_cases e : bT = gs a
              · rw [if_pos e] at ho ⊢; exact ho
              · rw [if_neg e] at ho ⊢; rw [if_neg e]; exact ho
            · simp only [go_sem, reduceIte, reduceCtorEq, Nat.reduceEqDiff, Nat.reduceAdd, Nat.reduceSub, Nat.reduceMul, Nat.reduceDiv, Nat.reduceMod, Nat.reduceLT, Nat.reduceLeDiff, Nat.reduceBEq, Nat.reducePow, Int.reduceLE, Int.reduceLT, Int.reduceEq, Int.reduceNeg, Int.reduceAdd, Int.reduceToNat]
          · have hone : oneM B l[j] = setM (setM B a b) b a := by
              unfold oneM; simp only; rw [if_pos e3, if_pos e4, ha, hb]; rfl
            rw [hone] at hstep
            have hw2 := fam_set (j := a) hw1 hs1 hbi
            have hs2 := hs1.set (j := a) hbi
            rw [set_getD eab] at hw2
            have hne := fam_ne hF2 hS2 hbi hai fun e => eab e.symm
            repeat' (first | refine ReqK.i (by omega) fun _ => ?_ | simp only [go_sem, reduceIte, reduceCtorEq, Nat.reduceEqDiff, Nat.reduceAdd, Nat.reduceSub, Nat.reduceMul, Nat.reduceDiv, Nat.reduceMod, Nat.reduceLT, Nat.reduceLeDiff, Nat.reduceBEq, Nat.reducePow, Int.reduceLE, Int.reduceLT, Int.reduceEq, Int.reduceNeg, Int.reduceAdd, Int.reduceToNat, h2, getD_map_lt, e4, e3, ha, hb, hga, hgb, hrl, hfa, hfb, hla, hlb, hai, hbi, hne, row_set', List.length_set])
            refine ⟨⟨j + 1, m2 + 1, _, by omega, by rw [hstep]; exact hw2.mono (Nat.le_succ _), by rw [hstep]; exact hs2⟩, by simp only; omega, ?_⟩
            refine Weak_toX ?_ ?_ (fun id o ho => ?_) ?_
            · simp only [go_sem, reduceIte, reduceCtorEq, Nat.reduceEqDiff, Nat.reduceAdd, Nat.reduceSub, Nat.reduceMul, Nat.reduceDiv, Nat.reduceMod, Nat.reduceLT, Nat.reduceLeDiff, Nat.reduceBEq, Nat.reducePow, Int.reduceLE, Int.reduceLT, Int.reduceEq, Int.reduceNeg, Int.reduceAdd, Int.reduceToNat]
            · simp only [go_sem, reduceIte, reduceCtorEq, Nat.reduceEqDiff, Nat.reduceAdd, Nat.reduceSub, Nat.reduceMul, Nat.reduceDiv, Nat.reduceMod, Nat.reduceLT, Nat.reduceLeDiff, Nat.reduceBEq, Nat.reducePow, Int.reduceLE, Int.reduceLT, Int.reduceEq, Int.reduceNeg, Int.reduceAdd, Int.reduceToNat]
            · have ht := (hw2).tg id o ho
              obtain ⟨aT, bT⟩ := id
              obtain rfl : aT = 31024 := ht
              try (simp only [go_sem, reduceIte, reduceCtorEq, Nat.reduceEqDiff, Nat.reduceAdd, Nat.reduceSub, Nat.reduceMul, Nat.reduceDiv, Nat.reduceMod, Nat.reduceLT, Nat.reduceLeDiff, Nat.reduceBEq, Nat.reducePow, Int.reduceLE, Int.reduceLT, Int.reduceEq, Int.reduceNeg, Int.reduceAdd, Int.reduceToNat] at ho)
              simp only [go_sem, reduceIte, reduceCtorEq, Nat.reduceEqDiff, Nat.reduceAdd, Nat.reduceSub, Nat.reduceMul, Nat.reduceDiv, Nat.reduceMod, Nat.reduceLT, Nat.reduceLeDiff, Nat.reduceBEq, Nat.reducePow, Int.reduceLE, Int.reduceLT, Int.reduceEq, Int.reduceNeg, Int.reduceAdd, Int.reduceToNat]
              exact ho
            · simp only [go_sem, reduceIte, reduceCtorEq, Nat.reduceEqDiff, Nat.reduceAdd, Nat.reduceSub, Nat.reduceMul, Nat.reduceDiv, Nat.reduceMod, Nat.reduceLT, Nat.reduceLeDiff, Nat.reduceBEq, Nat.reducePow, Int.reduceLE, Int.reduceLT, Int.reduceEq, Int.reduceNeg, Int.reduceAdd, Int.reduceToNat]
        · have hone : oneM B l[j] = setM B a b := by unfold oneM; simp only; rw [if_neg e3, if_pos e4, ha, hb]; rfl
          rw [hone] at hstep
          repeat' (first | refine ReqK.i (by omega) fun _ => ?_ | simp only [go_sem, reduceIte, reduceCtorEq, Nat.reduceEqDiff, Nat.reduceAdd, Nat.reduceSub, Nat.reduceMul, Nat.reduceDiv, Nat.reduceMod, Nat.reduceLT, Nat.reduceLeDiff, Nat.reduceBEq, Nat.reducePow, Int.reduceLE, Int.reduceLT, Int.reduceEq, Int.reduceNeg, Int.reduceAdd, Int.reduceToNat, h2, getD_map_lt, e4, e3, ha, hb, hga, hgb, hrl, hfa, hfb, hla, hlb, hai, hbi, row_set'])
          refine ⟨⟨j + 1, m2 + 1, _, by omega, by rw [hstep]; exact hw1.mono (Nat.le_succ _), by rw [hstep]; exact hs1⟩, by simp only; omega, ?_⟩
          refine Weak_toX ?_ ?_ (fun id o ho => ?_) ?_
          · simp only [go_sem, reduceIte, reduceCtorEq, Nat.reduceEqDiff, Nat.reduceAdd, Nat.reduceSub, Nat.reduceMul, Nat.reduceDiv, Nat.reduceMod, Nat.reduceLT, Nat.reduceLeDiff, Nat.reduceBEq, Nat.reducePow, Int.reduceLE, Int.reduceLT, Int.reduceEq, Int.reduceNeg, Int.reduceAdd, Int.reduceToNat]
          · simp only [go_sem, reduceIte, reduceCtorEq, Nat.reduceEqDiff, Nat.reduceAdd, Nat.reduceSub, Nat.reduceMul, Nat.reduceDiv, Nat.reduceMod, Nat.reduceLT, Nat.reduceLeDiff, Nat.reduceBEq, Nat.reducePow, Int.reduceLE, Int.reduceLT, Int.reduceEq, Int.reduceNeg, Int.reduceAdd, Int.reduceToNat]
          · have ht := (hw1).tg id o ho
            obtain ⟨aT, bT⟩ := id
            obtain rfl : aT = 31024 := ht
            try (simp only [go_sem, reduceIte, reduceCtorEq, Nat.reduceEqDiff, Nat.reduceAdd, Nat.reduceSub, Nat.reduceMul, Nat.reduceDiv, Nat.reduceMod, Nat.reduceLT, Nat.reduceLeDiff, Nat.reduceBEq, Nat.reducePow, Int.reduceLE, Int.reduceLT, Int.reduceEq, Int.reduceNeg, Int.reduceAdd, Int.reduceToNat] at ho)
            simp only [go_sem, reduceIte, reduceCtorEq, Nat.reduceEqDiff, Nat.reduceAdd, Nat.reduceSub, Nat.reduceMul, Nat.reduceDiv, Nat.reduceMod, Nat.reduceLT, Nat.reduceLeDiff, Nat.reduceBEq, Nat.reducePow, Int.reduceLE, Int.reduceLT, Int.reduceEq, Int.reduceNeg, Int.reduceAdd, Int.reduceToNat]
            exact ho
          · simp only [go_sem, reduceIte, reduceCtorEq, Nat.reduceEqDiff, Nat.reduceAdd, Nat.reduceSub, Nat.reduceMul, Nat.reduceDiv, Nat.reduceMod, Nat.reduceLT, Nat.reduceLeDiff, Nat.reduceBEq, Nat.reducePow, Int.reduceLE, Int.reduceLT, Int.reduceEq, Int.reduceNeg, Int.reduceAdd, Int.reduceToNat]
      have h2 : ¬ j < l.length := by omega
      rw [List.take_of_length_le h2x] at hF2 hS2
      obtain ⟨B0, hB0⟩ : ∃ B, B = baseM l (initM p) := ⟨_, rfl⟩
      rw [← hB0] at hF2 hS2
      simp only [go_sem, reduceIte, reduceCtorEq, Nat.reduceEqDiff, Nat.reduceAdd, Nat.reduceSub, Nat.reduceMul, Nat.reduceDiv, Nat.reduceMod, Nat.reduceLT, Nat.reduceLeDiff, Nat.reduceBEq, Nat.reducePow, Int.reduceLE, Int.reduceLT, Int.reduceEq, Int.reduceNeg, Int.reduceAdd, Int.reduceToNat, h2]
      refine WK_loop hm hU5 31000 (lst []) (ι := FI p p gs fun k => (List.range k).foldl (allM p) B0)
        ⟨fun q => ⟨frL [(0, .fz (.i .i64 p)), (1, .fz (enc l)), (5, .arr (31015, 0) 1 0 p), (62, .fz (.i .i64 p)), (63, .fz (.i .i64 q.i))],
          hpX [((31015, 0), some ⟨rowsC 31024 gs p, false, false⟩)] q.f, q.m⟩, fun q => p - q.i⟩ ⟨0, m2, f2, by omega, hF2, hS2⟩ (by kernel_rfl) ?_ ?_
      · refine Weak_toX ?_ ?_ (fun id o ho => ?_) ?_
        · simp only [go_sem, reduceIte, reduceCtorEq, Nat.reduceEqDiff, Nat.reduceAdd, Nat.reduceSub, Nat.reduceMul, Nat.reduceDiv, Nat.reduceMod, Nat.reduceLT, Nat.reduceLeDiff, Nat.reduceBEq, Nat.reducePow, Int.reduceLE, Int.reduceLT, Int.reduceEq, Int.reduceNeg, Int.reduceAdd, Int.reduceToNat]
        · simp only [go_sem, reduceIte, reduceCtorEq, Nat.reduceEqDiff, Nat.reduceAdd, Nat.reduceSub, Nat.reduceMul, Nat.reduceDiv, Nat.reduceMod, Nat.reduceLT, Nat.reduceLeDiff, Nat.reduceBEq, Nat.reducePow, Int.reduceLE, Int.reduceLT, Int.reduceEq, Int.reduceNeg, Int.reduceAdd, Int.reduceToNat]
        · have ht := (hF2).tg id o ho
          obtain ⟨aT, bT⟩ := id
          obtain rfl : aT = 31024 := ht
          try (simp only [go_sem, reduceIte, reduceCtorEq, Nat.reduceEqDiff, Nat.reduceAdd, Nat.reduceSub, Nat.reduceMul, Nat.reduceDiv, Nat.reduceMod, Nat.reduceLT, Nat.reduceLeDiff, Nat.reduceBEq, Nat.reducePow, Int.reduceLE, Int.reduceLT, Int.reduceEq, Int.reduceNeg, Int.reduceAdd, Int.reduceToNat] at ho)
          simp only [go_sem, reduceIte, reduceCtorEq, Nat.reduceEqDiff, Nat.reduceAdd, Nat.reduceSub, Nat.reduceMul, Nat.reduceDiv, Nat.reduceMod, Nat.reduceLT, Nat.reduceLeDiff, Nat.reduceBEq, Nat.reducePow, Int.reduceLE, Int.reduceLT, Int.reduceEq, Int.reduceNeg, Int.reduceAdd, Int.reduceToNat]
          exact ho
        · simp only [go_sem, reduceIte, reduceCtorEq, Nat.reduceEqDiff, Nat.reduceAdd, Nat.reduceSub, Nat.reduceMul, Nat.reduceDiv, Nat.reduceMod, Nat.reduceLT, Nat.reduceLeDiff, Nat.reduceBEq, Nat.reducePow, Int.reduceLE, Int.reduceLT, Int.reduceEq, Int.reduceNeg, Int.reduceAdd, Int.reduceToNat]
      rintro ⟨k, m3, f3, hk3, hF3, hS3⟩
      clear hF2 hS2
      rcases Nat.lt_or_ge k p with h3 | h3x
      · obtain ⟨Bk, hBk⟩ : ∃ B, B = (List.range k).foldl (allM p) B0 := ⟨_, rfl⟩
        rw [← hBk] at hF3 hS3
        have hgk := rowsC_get (tag := 31024) (gs := gs) h3
        simp only [go_sem, reduceIte, reduceCtorEq, Nat.reduceEqDiff, Nat.reduceAdd, Nat.reduceSub, Nat.reduceMul, Nat.reduceDiv, Nat.reduceMod, Nat.reduceLT, Nat.reduceLeDiff, Nat.reduceBEq, Nat.reducePow, Int.reduceLE, Int.reduceLT, Int.reduceEq, Int.reduceNeg, Int.reduceAdd, Int.reduceToNat, h3]
        refine WK_loop hm hU5 31000 (lst []) (ι := FI p p gs fun i => (List.range i).foldl (rowM p k) Bk)
          ⟨fun q => ⟨frL [(0, .fz (.i .i64 p)), (1, .fz (enc l)), (5, .arr (31015, 0) 1 0 p), (62, .fz (.i .i64 p)), (63, .fz (.i .i64 k)), (9, .fz (.i .i64 k)), (66, .fz (.i .i64 p)), (67, .fz (.i .i64 q.i))],
            hpX [((31015, 0), some ⟨rowsC 31024 gs p, false, false⟩)] q.f, q.m⟩, fun q => p - q.i⟩ ⟨0, m3, f3, by omega, hF3, hS3⟩ (by kernel_rfl) ?_ ?_
        · refine Weak_toX ?_ ?_ (fun id o ho => ?_) ?_
          · simp only [go_sem, reduceIte, reduceCtorEq, Nat.reduceEqDiff, Nat.reduceAdd, Nat.reduceSub, Nat.reduceMul, Nat.reduceDiv, Nat.reduceMod, Nat.reduceLT, Nat.reduceLeDiff, Nat.reduceBEq, Nat.reducePow, Int.reduceLE, Int.reduceLT, Int.reduceEq, Int.reduceNeg, Int.reduceAdd, Int.reduceToNat]
          · simp only [go_sem, reduceIte, reduceCtorEq, Nat.reduceEqDiff, Nat.reduceAdd, Nat.reduceSub, Nat.reduceMul, Nat.reduceDiv, Nat.reduceMod, Nat.reduceLT, Nat.reduceLeDiff, Nat.reduceBEq, Nat.reducePow, Int.reduceLE, Int.reduceLT, Int.reduceEq, Int.reduceNeg, Int.reduceAdd, Int.reduceToNat]
          · have ht := (hF3).tg id o ho
            obtain ⟨aT, bT⟩ := id
            obtain rfl : aT = 31024 := ht
            try (simp only [go_sem, reduceIte, reduceCtorEq, Nat.reduceEqDiff, Nat.reduceAdd, Nat.reduceSub, Nat.reduceMul, Nat.reduceDiv, Nat.reduceMod, Nat.reduceLT, Nat.reduceLeDiff, Nat.reduceBEq, Nat.reducePow, Int.reduceLE, Int.reduceLT, Int.reduceEq, Int.reduceNeg, Int.reduceAdd, Int.reduceToNat] at ho)
            simp only [go_sem, reduceIte, reduceCtorEq, Nat.reduceEqDiff, Nat.reduceAdd, Nat.reduceSub, Nat.reduceMul, Nat.reduceDiv, Nat.reduceMod, Nat.reduceLT, Nat.reduceLeDiff, Nat.reduceBEq, Nat.reducePow, Int.reduceLE, Int.reduceLT, Int.reduceEq, Int.reduceNeg, Int.reduceAdd, Int.reduceToNat]
            exact ho
          · simp only [go_sem, reduceIte, reduceCtorEq, Nat.reduceEqDiff, Nat.reduceAdd, Nat.reduceSub, Nat.reduceMul, Nat.reduceDiv, Nat.reduceMod, Nat.reduceLT, Nat.reduceLeDiff, Nat.reduceBEq, Nat.reducePow, Int.reduceLE, Int.reduceLT, Int.reduceEq, Int.reduceNeg, Int.reduceAdd, Int.reduceToNat]
        rintro ⟨i, m4, f4, hi4, hF4, hS4⟩
        clear hF3 hS3
        rcases Nat.lt_or_ge i p with h4 | h4x
        · obtain ⟨Bi, hBi⟩ : ∃ B, B = (List.range i).foldl (rowM p k) Bk := ⟨_, rfl⟩
          rw [← hBi] at hF4 hS4
          have hgi := rowsC_get (tag := 31024) (gs := gs) h4
          simp only [go_sem, reduceIte, reduceCtorEq, Nat.reduceEqDiff, Nat.reduceAdd, Nat.reduceSub, Nat.reduceMul, Nat.reduceDiv, Nat.reduceMod, Nat.reduceLT, Nat.reduceLeDiff, Nat.reduceBEq, Nat.reducePow, Int.reduceLE, Int.reduceLT, Int.reduceEq, Int.reduceNeg, Int.reduceAdd, Int.reduceToNat, h4]
          refine WK_loop hm hU5 31000 (lst []) (ι := FI p p gs fun j => (List.range j).foldl (stepM k i) Bi)
            ⟨fun q => ⟨frL [(0, .fz (.i .i64 p)), (1, .fz (enc l)), (5, .arr (31015, 0) 1 0 p), (62, .fz (.i .i64 p)), (63, .fz (.i .i64 k)), (9, .fz (.i .i64 k)), (66, .fz (.i .i64 p)), (67, .fz (.i .i64 i)), (10, .fz (.i .i64 i)), (70, .fz (.i .i64 p)), (71, .fz (.i .i64 q.i))],
              hpX [((31015, 0), some ⟨rowsC 31024 gs p, false, false⟩)] q.f, q.m⟩, fun q => p - q.i⟩ ⟨0, m4, f4, by omega, hF4, hS4⟩ (by kernel_rfl) ?_ ?_
          · refine Weak_toX ?_ ?_ (fun id o ho => ?_) ?_
            · simp only [go_sem, reduceIte, reduceCtorEq, Nat.reduceEqDiff, Nat.reduceAdd, Nat.reduceSub, Nat.reduceMul, Nat.reduceDiv, Nat.reduceMod, Nat.reduceLT, Nat.reduceLeDiff, Nat.reduceBEq, Nat.reducePow, Int.reduceLE, Int.reduceLT, Int.reduceEq, Int.reduceNeg, Int.reduceAdd, Int.reduceToNat]
            · simp only [go_sem, reduceIte, reduceCtorEq, Nat.reduceEqDiff, Nat.reduceAdd, Nat.reduceSub, Nat.reduceMul, Nat.reduceDiv, Nat.reduceMod, Nat.reduceLT, Nat.reduceLeDiff, Nat.reduceBEq, Nat.reducePow, Int.reduceLE, Int.reduceLT, Int.reduceEq, Int.reduceNeg, Int.reduceAdd, Int.reduceToNat]
            · have ht := (hF4).tg id o ho
              obtain ⟨aT, bT⟩ := id
              obtain rfl : aT = 31024 := ht
              try (simp only [go_sem, reduceIte, reduceCtorEq, Nat.reduceEqDiff, Nat.reduceAdd, Nat.reduceSub, Nat.reduceMul, Nat.reduceDiv, Nat.reduceMod, Nat.reduceLT, Nat.reduceLeDiff, Nat.reduceBEq, Nat.reducePow, Int.reduceLE, Int.reduceLT, Int.reduceEq, Int.reduceNeg, Int.reduceAdd, Int.reduceToNat] at ho)
              simp only [go_sem, reduceIte, reduceCtorEq, Nat.reduceEqDiff, Nat.reduceAdd, Nat.reduceSub, Nat.reduceMul, Nat.reduceDiv, Nat.reduceMod, Nat.reduceLT, Nat.reduceLeDiff, Nat.reduceBEq, Nat.reducePow, Int.reduceLE, Int.reduceLT, Int.reduceEq, Int.reduceNeg, Int.reduceAdd, Int.reduceToNat]
              exact ho
            · simp only [go_sem, reduceIte, reduceCtorEq, Nat.reduceEqDiff, Nat.reduceAdd, Nat.reduceSub, Nat.reduceMul, Nat.reduceDiv, Nat.reduceMod, Nat.reduceLT, Nat.reduceLeDiff, Nat.reduceBEq, Nat.reducePow, Int.reduceLE, Int.reduceLT, Int.reduceEq, Int.reduceNeg, Int.reduceAdd, Int.reduceToNat]
          rintro ⟨j, m5, f5, hj5, hF5, hS5⟩
          clear hF4 hS4
          have hstep : (List.range (j + 1)).foldl (stepM k i) Bi = stepM k i ((List.range j).foldl (stepM k i) Bi) j := by
            rw [List.range_succ, List.foldl_append]; rfl
          obtain ⟨B, hB⟩ : ∃ B, B = (List.range j).foldl (stepM k i) Bi := ⟨_, rfl⟩
          rcases Nat.lt_or_ge j p with h5 | h5x
          · rw [← hB] at hF5 hS5 hstep
            have hfi := fam_get hF5 hS5 h4
            have hfk := fam_get hF5 hS5 h3
            have hri := row_get hS5 h4 h3
            have hrk := row_get hS5 h3 h5
            have hla := hS5.get h4
            have hlb := hS5.get h3
            have hw1 := fam_set (j := j) hF5 hS5 h4
            have hs1 := hS5.set (j := j) h4
            cases hb1 : getM B i k
            · have e : stepM k i B j = B := by unfold stepM; rw [hb1]; rfl
              rw [e] at hstep
              rw [hb1] at hri
              repeat' (first | refine ReqK.i (by omega) fun _ => ?_ | simp only [go_sem, reduceIte, reduceCtorEq, Nat.reduceEqDiff, Nat.reduceAdd, Nat.reduceSub, Nat.reduceMul, Nat.reduceDiv, Nat.reduceMod, Nat.reduceLT, Nat.reduceLeDiff, Nat.reduceBEq, Nat.reducePow, Int.reduceLE, Int.reduceLT, Int.reduceEq, Int.reduceNeg, Int.reduceAdd, Int.reduceToNat, h5, h3, h4, hgi, hgk, hrl, hfi, hfk, hri, hrk, hla, hlb])
              refine ⟨⟨j + 1, m5, f5, by omega, by rw [hstep]; exact hF5, by rw [hstep]; exact hS5⟩, by simp only; omega, ?_⟩
              refine Weak_toX ?_ ?_ (fun id o ho => ?_) ?_
              · simp only [go_sem, reduceIte, reduceCtorEq, Nat.reduceEqDiff, Nat.reduceAdd, Nat.reduceSub, Nat.reduceMul, Nat.reduceDiv, Nat.reduceMod, Nat.reduceLT, Nat.reduceLeDiff, Nat.reduceBEq, Nat.reducePow, Int.reduceLE, Int.reduceLT, Int.reduceEq, Int.reduceNeg, Int.reduceAdd, Int.reduceToNat]
              · simp only [go_sem, reduceIte, reduceCtorEq, Nat.reduceEqDiff, Nat.reduceAdd, Nat.reduceSub, Nat.reduceMul, Nat.reduceDiv, Nat.reduceMod, Nat.reduceLT, Nat.reduceLeDiff, Nat.reduceBEq, Nat.reducePow, Int.reduceLE, Int.reduceLT, Int.reduceEq, Int.reduceNeg, Int.reduceAdd, Int.reduceToNat]
              · have ht := (hF5).tg id o ho
                obtain ⟨aT, bT⟩ := id
                obtain rfl : aT = 31024 := ht
                try (simp only [go_sem, reduceIte, reduceCtorEq, Nat.reduceEqDiff, Nat.reduceAdd, Nat.reduceSub, Nat.reduceMul, Nat.reduceDiv, Nat.reduceMod, Nat.reduceLT, Nat.reduceLeDiff, Nat.reduceBEq, Nat.reducePow, Int.reduceLE, Int.reduceLT, Int.reduceEq, Int.reduceNeg, Int.reduceAdd, Int.reduceToNat] at ho)
                simp only [go_sem, reduceIte, reduceCtorEq, Nat.reduceEqDiff, Nat.reduceAdd, Nat.reduceSub, Nat.reduceMul, Nat.reduceDiv, Nat.reduceMod, Nat.reduceLT, Nat.reduceLeDiff, Nat.reduceBEq, Nat.reducePow, Int.reduceLE, Int.reduceLT, Int.reduceEq, Int.reduceNeg, Int.reduceAdd, Int.reduceToNat]
                exact ho
              · simp only [go_sem, reduceIte, reduceCtorEq, Nat.reduceEqDiff, Nat.reduceAdd, Nat.reduceSub, Nat.reduceMul, Nat.reduceDiv, Nat.reduceMod, Nat.reduceLT, Nat.reduceLeDiff, Nat.reduceBEq, Nat.reducePow, Int.reduceLE, Int.reduceLT, Int.reduceEq, Int.reduceNeg, Int.reduceAdd, Int.reduceToNat]
            · cases hb2 : getM B k j
              · have e : stepM k i B j = B := by unfold stepM; rw [hb1, hb2]; rfl
                rw [e] at hstep
                rw [hb1] at hri
                rw [hb2] at hrk
                repeat' (first | refine ReqK.i (by omega) fun _ => ?_ | simp only [go_sem, reduceIte, reduceCtorEq, Nat.reduceEqDiff, Nat.reduceAdd, Nat.reduceSub, Nat.reduceMul, Nat.reduceDiv, Nat.reduceMod, Nat.reduceLT, Nat.reduceLeDiff, Nat.reduceBEq, Nat.reducePow, Int.reduceLE, Int.reduceLT, Int.reduceEq, Int.reduceNeg, Int.reduceAdd, Int.reduceToNat, h5, h3, h4, hgi, hgk, hrl, hfi, hfk, hri, hrk, hla, hlb])
                refine ⟨⟨j + 1, m5, f5, by omega, by rw [hstep]; exact hF5, by rw [hstep]; exact hS5⟩, by simp only; omega, ?_⟩
                refine Weak_toX ?_ ?_ (fun id o ho => ?_) ?_
                · simp only [go_sem, reduceIte, reduceCtorEq, Nat.reduceEqDiff, Nat.reduceAdd, Nat.reduceSub, Nat.reduceMul, Nat.reduceDiv, Nat.reduceMod, Nat.reduceLT, Nat.reduceLeDiff, Nat.reduceBEq, Nat.reducePow, Int.reduceLE, Int.reduceLT, Int.reduceEq, Int.reduceNeg, Int.reduceAdd, Int.reduceToNat]
                · simp only [go_sem, reduceIte, reduceCtorEq, Nat.reduceEqDiff, Nat.reduceAdd, Nat.reduceSub, Nat.reduceMul, Nat.reduceDiv, Nat.reduceMod, Nat.reduceLT, Nat.reduceLeDiff, Nat.reduceBEq, Nat.reducePow, Int.reduceLE, Int.reduceLT, Int.reduceEq, Int.reduceNeg, Int.reduceAdd, Int.reduceToNat]
                · have ht := (hF5).tg id o ho
                  obtain ⟨aT, bT⟩ := id
                  obtain rfl : aT = 31024 := ht
                  try (simp only [go_sem, reduceIte, reduceCtorEq, Nat.reduceEqDiff, Nat.reduceAdd, Nat.reduceSub, Nat.reduceMul, Nat.reduceDiv, Nat.reduceMod, Nat.reduceLT, Nat.reduceLeDiff, Nat.reduceBEq, Nat.reducePow, Int.reduceLE, Int.reduceLT, Int.reduceEq, Int.reduceNeg, Int.reduceAdd, Int.reduceToNat] at ho)
                  simp only [go_sem, reduceIte, reduceCtorEq, Nat.reduceEqDiff, Nat.reduceAdd, Nat.reduceSub, Nat.reduceMul, Nat.reduceDiv, Nat.reduceMod, Nat.reduceLT, Nat.reduceLeDiff, Nat.reduceBEq, Nat.reducePow, Int.reduceLE, Int.reduceLT, Int.reduceEq, Int.reduceNeg, Int.reduceAdd, Int.reduceToNat]
                  exact ho
                · simp only [go_sem, reduceIte, reduceCtorEq, Nat.reduceEqDiff, Nat.reduceAdd, Nat.reduceSub, Nat.reduceMul, Nat.reduceDiv, Nat.reduceMod, Nat.reduceLT, Nat.reduceLeDiff, Nat.reduceBEq, Nat.reducePow, Int.reduceLE, Int.reduceLT, Int.reduceEq, Int.reduceNeg, Int.reduceAdd, Int.reduceToNat]
              · have e : stepM k i B j = setM B i j := by unfold stepM; rw [hb1, hb2]; rfl
                rw [e] at hstep
                rw [hb1] at hri
                rw [hb2] at hrk
                repeat' (first | refine ReqK.i (by omega) fun _ => ?_ | simp only [go_sem, reduceIte, reduceCtorEq, Nat.reduceEqDiff, Nat.reduceAdd, Nat.reduceSub, Nat.reduceMul, Nat.reduceDiv, Nat.reduceMod, Nat.reduceLT, Nat.reduceLeDiff, Nat.reduceBEq, Nat.reducePow, Int.reduceLE, Int.reduceLT, Int.reduceEq, Int.reduceNeg, Int.reduceAdd, Int.reduceToNat, h5, h3, h4, hgi, hgk, hrl, hfi, hfk, hri, hrk, hla, hlb, row_set'])
                refine ⟨⟨j + 1, m5, _, by omega, by rw [hstep]; exact hw1, by rw [hstep]; exact hs1⟩, by simp only; omega, ?_⟩
                refine Weak_toX ?_ ?_ (fun id o ho => ?_) ?_
                · simp only [go_sem, reduceIte, reduceCtorEq, Nat.reduceEqDiff, Nat.reduceAdd, Nat.reduceSub, Nat.reduceMul, Nat.reduceDiv, Nat.reduceMod, Nat.reduceLT, Nat.reduceLeDiff, Nat.reduceBEq, Nat.reducePow, Int.reduceLE, Int.reduceLT, Int.reduceEq, Int.reduceNeg, Int.reduceAdd, Int.reduceToNat]
                · simp only [go_sem, reduceIte, reduceCtorEq, Nat.reduceEqDiff, Nat.reduceAdd, Nat.reduceSub, Nat.reduceMul, Nat.reduceDiv, Nat.reduceMod, Nat.reduceLT, Nat.reduceLeDiff, Nat.reduceBEq, Nat.reducePow, Int.reduceLE, Int.reduceLT, Int.reduceEq, Int.reduceNeg, Int.reduceAdd, Int.reduceToNat]
                · have ht := (hw1).tg id o ho
                  obtain ⟨aT, bT⟩ := id
                  obtain rfl : aT = 31024 := ht
                  try (simp only [go_sem, reduceIte, reduceCtorEq, Nat.reduceEqDiff, Nat.reduceAdd, Nat.reduceSub, Nat.reduceMul, Nat.reduceDiv, Nat.reduceMod, Nat.reduceLT, Nat.reduceLeDiff, Nat.reduceBEq, Nat.reducePow, Int.reduceLE, Int.reduceLT, Int.reduceEq, Int.reduceNeg, Int.reduceAdd, Int.reduceToNat] at ho)
                  simp only [go_sem, reduceIte, reduceCtorEq, Nat.reduceEqDiff, Nat.reduceAdd, Nat.reduceSub, Nat.reduceMul, Nat.reduceDiv, Nat.reduceMod, Nat.reduceLT, Nat.reduceLeDiff, Nat.reduceBEq, Nat.reducePow, Int.reduceLE, Int.reduceLT, Int.reduceEq, Int.reduceNeg, Int.reduceAdd, Int.reduceToNat]
                  exact ho
                · simp only [go_sem, reduceIte, reduceCtorEq, Nat.reduceEqDiff, Nat.reduceAdd, Nat.reduceSub, Nat.reduceMul, Nat.reduceDiv, Nat.reduceMod, Nat.reduceLT, Nat.reduceLeDiff, Nat.reduceBEq, Nat.reducePow, Int.reduceLE, Int.reduceLT, Int.reduceEq, Int.reduceNeg, Int.reduceAdd, Int.reduceToNat]
          · obtain rfl : j = p := by omega
            have hr : (List.range (i + 1)).foldl (rowM j k) Bk = (List.range j).foldl (stepM k i) Bi := by
              rw [List.range_succ, List.foldl_append, ← hBi]; rfl
            repeat' (first | refine ReqK.i (by omega) fun _ => ?_ | simp only [go_sem, reduceIte, reduceCtorEq, Nat.reduceEqDiff, Nat.reduceAdd, Nat.reduceSub, Nat.reduceMul, Nat.reduceDiv, Nat.reduceMod, Nat.reduceLT, Nat.reduceLeDiff, Nat.reduceBEq, Nat.reducePow, Int.reduceLE, Int.reduceLT, Int.reduceEq, Int.reduceNeg, Int.reduceAdd, Int.reduceToNat, Nat.lt_irrefl])
            refine ⟨⟨i + 1, m5, f5, by omega, by rw [hr]; exact hF5, by rw [hr]; exact hS5⟩, by simp only; omega, ?_⟩
            refine Weak_toX ?_ ?_ (fun id o ho => ?_) ?_
            · simp only [go_sem, reduceIte, reduceCtorEq, Nat.reduceEqDiff, Nat.reduceAdd, Nat.reduceSub, Nat.reduceMul, Nat.reduceDiv, Nat.reduceMod, Nat.reduceLT, Nat.reduceLeDiff, Nat.reduceBEq, Nat.reducePow, Int.reduceLE, Int.reduceLT, Int.reduceEq, Int.reduceNeg, Int.reduceAdd, Int.reduceToNat]
            · simp only [go_sem, reduceIte, reduceCtorEq, Nat.reduceEqDiff, Nat.reduceAdd, Nat.reduceSub, Nat.reduceMul, Nat.reduceDiv, Nat.reduceMod, Nat.reduceLT, Nat.reduceLeDiff, Nat.reduceBEq, Nat.reducePow, Int.reduceLE, Int.reduceLT, Int.reduceEq, Int.reduceNeg, Int.reduceAdd, Int.reduceToNat]
            · have ht := (hF5).tg id o ho
              obtain ⟨aT, bT⟩ := id
              obtain rfl : aT = 31024 := ht
              try (simp only [go_sem, reduceIte, reduceCtorEq, Nat.reduceEqDiff, Nat.reduceAdd, Nat.reduceSub, Nat.reduceMul, Nat.reduceDiv, Nat.reduceMod, Nat.reduceLT, Nat.reduceLeDiff, Nat.reduceBEq, Nat.reducePow, Int.reduceLE, Int.reduceLT, Int.reduceEq, Int.reduceNeg, Int.reduceAdd, Int.reduceToNat] at ho)
              simp only [go_sem, reduceIte, reduceCtorEq, Nat.reduceEqDiff, Nat.reduceAdd, Nat.reduceSub, Nat.reduceMul, Nat.reduceDiv, Nat.reduceMod, Nat.reduceLT, Nat.reduceLeDiff, Nat.reduceBEq, Nat.reducePow, Int.reduceLE, Int.reduceLT, Int.reduceEq, Int.reduceNeg, Int.reduceAdd, Int.reduceToNat]
              exact ho
            · simp only [go_sem, reduceIte, reduceCtorEq, Nat.reduceEqDiff, Nat.reduceAdd, Nat.reduceSub, Nat.reduceMul, Nat.reduceDiv, Nat.reduceMod, Nat.reduceLT, Nat.reduceLeDiff, Nat.reduceBEq, Nat.reducePow, Int.reduceLE, Int.reduceLT, Int.reduceEq, Int.reduceNeg, Int.reduceAdd, Int.reduceToNat]
        · obtain rfl : i = p := by omega
          have hr : (List.range (k + 1)).foldl (allM i) B0 = (List.range i).foldl (rowM i k) Bk := by
            rw [List.range_succ, List.foldl_append, ← hBk]; rfl
          repeat' (first | refine ReqK.i (by omega) fun _ => ?_ | simp only [go_sem, reduceIte, reduceCtorEq, Nat.reduceEqDiff, Nat.reduceAdd, Nat.reduceSub, Nat.reduceMul, Nat.reduceDiv, Nat.reduceMod, Nat.reduceLT, Nat.reduceLeDiff, Nat.reduceBEq, Nat.reducePow, Int.reduceLE, Int.reduceLT, Int.reduceEq, Int.reduceNeg, Int.reduceAdd, Int.reduceToNat, Nat.lt_irrefl])
          refine ⟨⟨k + 1, m4, f4, by omega, by rw [hr]; exact hF4, by rw [hr]; exact hS4⟩, by simp only; omega, ?_⟩
          refine Weak_toX ?_ ?_ (fun id o ho => ?_) ?_
          · simp only [go_sem, reduceIte, reduceCtorEq, Nat.reduceEqDiff, Nat.reduceAdd, Nat.reduceSub, Nat.reduceMul, Nat.reduceDiv, Nat.reduceMod, Nat.reduceLT, Nat.reduceLeDiff, Nat.reduceBEq, Nat.reducePow, Int.reduceLE, Int.reduceLT, Int.reduceEq, Int.reduceNeg, Int.reduceAdd, Int.reduceToNat]
          · simp only [go_sem, reduceIte, reduceCtorEq, Nat.reduceEqDiff, Nat.reduceAdd, Nat.reduceSub, Nat.reduceMul, Nat.reduceDiv, Nat.reduceMod, Nat.reduceLT, Nat.reduceLeDiff, Nat.reduceBEq, Nat.reducePow, Int.reduceLE, Int.reduceLT, Int.reduceEq, Int.reduceNeg, Int.reduceAdd, Int.reduceToNat]
          · have ht := (hF4).tg id o ho
            obtain ⟨aT, bT⟩ := id
            obtain rfl : aT = 31024 := ht
            try (simp only [go_sem, reduceIte, reduceCtorEq, Nat.reduceEqDiff, Nat.reduceAdd, Nat.reduceSub, Nat.reduceMul, Nat.reduceDiv, Nat.reduceMod, Nat.reduceLT, Nat.reduceLeDiff, Nat.reduceBEq, Nat.reducePow, Int.reduceLE, Int.reduceLT, Int.reduceEq, Int.reduceNeg, Int.reduceAdd, Int.reduceToNat] at ho)
            simp only [go_sem, reduceIte, reduceCtorEq, Nat.reduceEqDiff, Nat.reduceAdd, Nat.reduceSub, Nat.reduceMul, Nat.reduceDiv, Nat.reduceMod, Nat.reduceLT, Nat.reduceLeDiff, Nat.reduceBEq, Nat.reducePow, Int.reduceLE, Int.reduceLT, Int.reduceEq, Int.reduceNeg, Int.reduceAdd, Int.reduceToNat]
            exact ho
          · simp only [go_sem, reduceIte, reduceCtorEq, Nat.reduceEqDiff, Nat.reduceAdd, Nat.reduceSub, Nat.reduceMul, Nat.reduceDiv, Nat.reduceMod, Nat.reduceLT, Nat.reduceLeDiff, Nat.reduceBEq, Nat.reducePow, Int.reduceLE, Int.reduceLT, Int.reduceEq, Int.reduceNeg, Int.reduceAdd, Int.reduceToNat]
      obtain rfl : p = k := by omega
      have hRe : (List.range p).foldl (allM p) B0 = reachM p l := by rw [hB0]; rfl
      obtain ⟨R, hR⟩ : ∃ R, R = reachM p l := ⟨_, rfl⟩
      rw [hRe, ← hR] at hF3 hS3
      simp only [go_sem, reduceIte, reduceCtorEq, Nat.reduceEqDiff, Nat.reduceAdd, Nat.reduceSub, Nat.reduceMul, Nat.reduceDiv, Nat.reduceMod, Nat.reduceLT, Nat.reduceLeDiff, Nat.reduceBEq, Nat.reducePow, Int.reduceLE, Int.reduceLT, Int.reduceEq, Int.reduceNeg, Int.reduceAdd, Int.reduceToNat, Nat.lt_irrefl]
      refine WK_loop hm hU5 31000 (lst []) (ι := LoopN l.length fun i => (l.take i).any (badT R) = false)
        ⟨fun q => ⟨frL [(0, .fz (.i .i64 p)), (1, .fz (enc l)), (5, .arr (31015, 0) 1 0 p), (99, .fz (enc l)), (100, .fz (.i .i64 l.length)), (101, .fz (.i .i64 q.i))],
          hpX [((31015, 0), some ⟨rowsC 31024 gs p, false, false⟩)] f3, q.m⟩, fun q => l.length - q.i⟩ ⟨0, m3, by omega, by simp⟩ (by kernel_rfl) ?_ ?_
      · refine Weak_toX ?_ ?_ (fun id o ho => ?_) ?_
        · simp only [go_sem, reduceIte, reduceCtorEq, Nat.reduceEqDiff, Nat.reduceAdd, Nat.reduceSub, Nat.reduceMul, Nat.reduceDiv, Nat.reduceMod, Nat.reduceLT, Nat.reduceLeDiff, Nat.reduceBEq, Nat.reducePow, Int.reduceLE, Int.reduceLT, Int.reduceEq, Int.reduceNeg, Int.reduceAdd, Int.reduceToNat]
        · simp only [go_sem, reduceIte, reduceCtorEq, Nat.reduceEqDiff, Nat.reduceAdd, Nat.reduceSub, Nat.reduceMul, Nat.reduceDiv, Nat.reduceMod, Nat.reduceLT, Nat.reduceLeDiff, Nat.reduceBEq, Nat.reducePow, Int.reduceLE, Int.reduceLT, Int.reduceEq, Int.reduceNeg, Int.reduceAdd, Int.reduceToNat]
        · have ht := (hF3).tg id o ho
          obtain ⟨aT, bT⟩ := id
          obtain rfl : aT = 31024 := ht
          try (simp only [go_sem, reduceIte, reduceCtorEq, Nat.reduceEqDiff, Nat.reduceAdd, Nat.reduceSub, Nat.reduceMul, Nat.reduceDiv, Nat.reduceMod, Nat.reduceLT, Nat.reduceLeDiff, Nat.reduceBEq, Nat.reducePow, Int.reduceLE, Int.reduceLT, Int.reduceEq, Int.reduceNeg, Int.reduceAdd, Int.reduceToNat] at ho)
          simp only [go_sem, reduceIte, reduceCtorEq, Nat.reduceEqDiff, Nat.reduceAdd, Nat.reduceSub, Nat.reduceMul, Nat.reduceDiv, Nat.reduceMod, Nat.reduceLT, Nat.reduceLeDiff, Nat.reduceBEq, Nat.reducePow, Int.reduceLE, Int.reduceLT, Int.reduceEq, Int.reduceNeg, Int.reduceAdd, Int.reduceToNat]
          exact ho
        · simp only [go_sem, reduceIte, reduceCtorEq, Nat.reduceEqDiff, Nat.reduceAdd, Nat.reduceSub, Nat.reduceMul, Nat.reduceDiv, Nat.reduceMod, Nat.reduceLT, Nat.reduceLeDiff, Nat.reduceBEq, Nat.reducePow, Int.reduceLE, Int.reduceLT, Int.reduceEq, Int.reduceNeg, Int.reduceAdd, Int.reduceToNat]
      rintro ⟨j, m6, hj6, hbad⟩
      have hcons : consM p l = !(l.any (badT R)) := by rw [hR]; rfl
      by_cases h6 : j < l.length
      · have hx := hin l[j] (List.getElem_mem h6)
        obtain ⟨a, ha⟩ : ∃ a : Nat, l[j].a = (a : Int) := Int.eq_ofNat_of_zero_le hx.1
        obtain ⟨b, hb⟩ : ∃ b : Nat, l[j].b = (b : Int) := Int.eq_ofNat_of_zero_le hx.2.2.1
        have hai : a < p := by have := hx.2.1; omega
        have hbi : b < p := by have := hx.2.2.2; omega
        have hga := rowsC_get (tag := 31024) (gs := gs) hai
        have hgb := rowsC_get (tag := 31024) (gs := gs) hbi
        have hfa := fam_get hF3 hS3 hai
        have hfb := fam_get hF3 hS3 hbi
        have hla := hS3.get hai
        have hlb := hS3.get hbi
        have hrb := row_get hS3 hbi hai
        have hra := row_get hS3 hai hbi
        have hstop : badT R l[j] = true → consM p l = false := fun h => by
          rw [hcons, show l.any (badT R) = true from List.any_eq_true.2 ⟨_, List.getElem_mem h6, h⟩]; rfl
        have hgo : badT R l[j] = false → (l.take (j + 1)).any (badT R) = false := fun h => by
          rw [List.take_succ_eq_append_getElem h6, List.any_append, hbad]; simp [h]
        have hbt : badT R l[j] = ((decide (l[j].kind = 1) && getM R b a) || (decide (l[j].kind = 4) && getM R a b && getM R b a)) := by
          unfold badT; rw [ha, hb]; rfl
        by_cases e1 : l[j].kind = 1
        · have e4 : ¬ l[j].kind = 4 := by omega
          rw [decide_eq_true e1, decide_eq_false e4] at hbt
          cases hu : getM R b a
          · rw [hu] at hbt hrb
            repeat' (first | refine ReqK.i (by omega) fun _ => ?_ | simp only [go_sem, reduceIte, reduceCtorEq, Nat.reduceEqDiff, Nat.reduceAdd, Nat.reduceSub, Nat.reduceMul, Nat.reduceDiv, Nat.reduceMod, Nat.reduceLT, Nat.reduceLeDiff, Nat.reduceBEq, Nat.reducePow, Int.reduceLE, Int.reduceLT, Int.reduceEq, Int.reduceNeg, Int.reduceAdd, Int.reduceToNat, h6, getD_map_lt, e1, ha, hb, hga, hgb, hrl, hfa, hfb, hla, hlb, hai, hbi, hrb, hra])
            refine ⟨⟨j + 1, m6 + 1, by omega, hgo hbt⟩, by simp only; omega, ?_⟩
            refine Weak_toX ?_ ?_ (fun id o ho => ?_) ?_
            · simp only [go_sem, reduceIte, reduceCtorEq, Nat.reduceEqDiff, Nat.reduceAdd, Nat.reduceSub, Nat.reduceMul, Nat.reduceDiv, Nat.reduceMod, Nat.reduceLT, Nat.reduceLeDiff, Nat.reduceBEq, Nat.reducePow, Int.reduceLE, Int.reduceLT, Int.reduceEq, Int.reduceNeg, Int.reduceAdd, Int.reduceToNat]
            · simp only [go_sem, reduceIte, reduceCtorEq, Nat.reduceEqDiff, Nat.reduceAdd, Nat.reduceSub, Nat.reduceMul, Nat.reduceDiv, Nat.reduceMod, Nat.reduceLT, Nat.reduceLeDiff, Nat.reduceBEq, Nat.reducePow, Int.reduceLE, Int.reduceLT, Int.reduceEq, Int.reduceNeg, Int.reduceAdd, Int.reduceToNat]
            · have ht := (hF3).tg id o ho
              obtain ⟨aT, bT⟩ := id
              obtain rfl : aT = 31024 := ht
              try (simp only [go_sem, reduceIte, reduceCtorEq, Nat.reduceEqDiff, Nat.reduceAdd, Nat.reduceSub, Nat.reduceMul, Nat.reduceDiv, Nat.reduceMod, Nat.reduceLT, Nat.reduceLeDiff, Nat.reduceBEq, Nat.reducePow, Int.reduceLE, Int.reduceLT, Int.reduceEq, Int.reduceNeg, Int.reduceAdd, Int.reduceToNat] at ho)
              simp only [go_sem, reduceIte, reduceCtorEq, Nat.reduceEqDiff, Nat.reduceAdd, Nat.reduceSub, Nat.reduceMul, Nat.reduceDiv, Nat.reduceMod, Nat.reduceLT, Nat.reduceLeDiff, Nat.reduceBEq, Nat.reducePow, Int.reduceLE, Int.reduceLT, Int.reduceEq, Int.reduceNeg, Int.reduceAdd, Int.reduceToNat]
              exact ho
            · simp only [go_sem, reduceIte, reduceCtorEq, Nat.reduceEqDiff, Nat.reduceAdd, Nat.reduceSub, Nat.reduceMul, Nat.reduceDiv, Nat.reduceMod, Nat.reduceLT, Nat.reduceLeDiff, Nat.reduceBEq, Nat.reducePow, Int.reduceLE, Int.reduceLT, Int.reduceEq, Int.reduceNeg, Int.reduceAdd, Int.reduceToNat]
          · rw [hu] at hbt hrb
            repeat' (first | refine ReqK.i (by omega) fun _ => ?_ | simp only [go_sem, reduceIte, reduceCtorEq, Nat.reduceEqDiff, Nat.reduceAdd, Nat.reduceSub, Nat.reduceMul, Nat.reduceDiv, Nat.reduceMod, Nat.reduceLT, Nat.reduceLeDiff, Nat.reduceBEq, Nat.reducePow, Int.reduceLE, Int.reduceLT, Int.reduceEq, Int.reduceNeg, Int.reduceAdd, Int.reduceToNat, h6, getD_map_lt, e1, ha, hb, hga, hgb, hrl, hfa, hfb, hla, hlb, hai, hbi, hrb, hra, Tryd.f31, hstop hbt])
        · rw [decide_eq_false e1] at hbt
          by_cases e4 : l[j].kind = 4
          · rw [decide_eq_true e4] at hbt
            cases hv : getM R a b
            · rw [hv] at hbt hra
              repeat' (first | refine ReqK.i (by omega) fun _ => ?_ | simp only [go_sem, reduceIte, reduceCtorEq, Nat.reduceEqDiff, Nat.reduceAdd, Nat.reduceSub, Nat.reduceMul, Nat.reduceDiv, Nat.reduceMod, Nat.reduceLT, Nat.reduceLeDiff, Nat.reduceBEq, Nat.reducePow, Int.reduceLE, Int.reduceLT, Int.reduceEq, Int.reduceNeg, Int.reduceAdd, Int.reduceToNat, h6, getD_map_lt, e4, ha, hb, hga, hgb, hrl, hfa, hfb, hla, hlb, hai, hbi, hrb, hra])
              refine ⟨⟨j + 1, m6 + 1, by omega, hgo hbt⟩, by simp only; omega, ?_⟩
              refine Weak_toX ?_ ?_ (fun id o ho => ?_) ?_
              · simp only [go_sem, reduceIte, reduceCtorEq, Nat.reduceEqDiff, Nat.reduceAdd, Nat.reduceSub, Nat.reduceMul, Nat.reduceDiv, Nat.reduceMod, Nat.reduceLT, Nat.reduceLeDiff, Nat.reduceBEq, Nat.reducePow, Int.reduceLE, Int.reduceLT, Int.reduceEq, Int.reduceNeg, Int.reduceAdd, Int.reduceToNat]
              · simp only [go_sem, reduceIte, reduceCtorEq, Nat.reduceEqDiff, Nat.reduceAdd, Nat.reduceSub, Nat.reduceMul, Nat.reduceDiv, Nat.reduceMod, Nat.reduceLT, Nat.reduceLeDiff, Nat.reduceBEq, Nat.reducePow, Int.reduceLE, Int.reduceLT, Int.reduceEq, Int.reduceNeg, Int.reduceAdd, Int.reduceToNat]
              · have ht := (hF3).tg id o ho
                obtain ⟨aT, bT⟩ := id
                obtain rfl : aT = 31024 := ht
                try (simp only [go_sem, reduceIte, reduceCtorEq, Nat.reduceEqDiff, Nat.reduceAdd, Nat.reduceSub, Nat.reduceMul, Nat.reduceDiv, Nat.reduceMod, Nat.reduceLT, Nat.reduceLeDiff, Nat.reduceBEq, Nat.reducePow, Int.reduceLE, Int.reduceLT, Int.reduceEq, Int.reduceNeg, Int.reduceAdd, Int.reduceToNat] at ho)
                simp only [go_sem, reduceIte, reduceCtorEq, Nat.reduceEqDiff, Nat.reduceAdd, Nat.reduceSub, Nat.reduceMul, Nat.reduceDiv, Nat.reduceMod, Nat.reduceLT, Nat.reduceLeDiff, Nat.reduceBEq, Nat.reducePow, Int.reduceLE, Int.reduceLT, Int.reduceEq, Int.reduceNeg, Int.reduceAdd, Int.reduceToNat]
                exact ho
              · simp only [go_sem, reduceIte, reduceCtorEq, Nat.reduceEqDiff, Nat.reduceAdd, Nat.reduceSub, Nat.reduceMul, Nat.reduceDiv, Nat.reduceMod, Nat.reduceLT, Nat.reduceLeDiff, Nat.reduceBEq, Nat.reducePow, Int.reduceLE, Int.reduceLT, Int.reduceEq, Int.reduceNeg, Int.reduceAdd, Int.reduceToNat]
            · cases hu : getM R b a
              · rw [hv] at hbt hra
                rw [hu] at hbt hrb
                repeat' (first | refine ReqK.i (by omega) fun _ => ?_ | simp only [go_sem, reduceIte, reduceCtorEq, Nat.reduceEqDiff, Nat.reduceAdd, Nat.reduceSub, Nat.reduceMul, Nat.reduceDiv, Nat.reduceMod, Nat.reduceLT, Nat.reduceLeDiff, Nat.reduceBEq, Nat.reducePow, Int.reduceLE, Int.reduceLT, Int.reduceEq, Int.reduceNeg, Int.reduceAdd, Int.reduceToNat, h6, getD_map_lt, e4, ha, hb, hga, hgb, hrl, hfa, hfb, hla, hlb, hai, hbi, hrb, hra])
                refine ⟨⟨j + 1, m6 + 1, by omega, hgo hbt⟩, by simp only; omega, ?_⟩
                refine Weak_toX ?_ ?_ (fun id o ho => ?_) ?_
                · simp only [go_sem, reduceIte, reduceCtorEq, Nat.reduceEqDiff, Nat.reduceAdd, Nat.reduceSub, Nat.reduceMul, Nat.reduceDiv, Nat.reduceMod, Nat.reduceLT, Nat.reduceLeDiff, Nat.reduceBEq, Nat.reducePow, Int.reduceLE, Int.reduceLT, Int.reduceEq, Int.reduceNeg, Int.reduceAdd, Int.reduceToNat]
                · simp only [go_sem, reduceIte, reduceCtorEq, Nat.reduceEqDiff, Nat.reduceAdd, Nat.reduceSub, Nat.reduceMul, Nat.reduceDiv, Nat.reduceMod, Nat.reduceLT, Nat.reduceLeDiff, Nat.reduceBEq, Nat.reducePow, Int.reduceLE, Int.reduceLT, Int.reduceEq, Int.reduceNeg, Int.reduceAdd, Int.reduceToNat]
                · have ht := (hF3).tg id o ho
                  obtain ⟨aT, bT⟩ := id
                  obtain rfl : aT = 31024 := ht
                  try (simp only [go_sem, reduceIte, reduceCtorEq, Nat.reduceEqDiff, Nat.reduceAdd, Nat.reduceSub, Nat.reduceMul, Nat.reduceDiv, Nat.reduceMod, Nat.reduceLT, Nat.reduceLeDiff, Nat.reduceBEq, Nat.reducePow, Int.reduceLE, Int.reduceLT, Int.reduceEq, Int.reduceNeg, Int.reduceAdd, Int.reduceToNat] at ho)
                  simp only [go_sem, reduceIte, reduceCtorEq, Nat.reduceEqDiff, Nat.reduceAdd, Nat.reduceSub, Nat.reduceMul, Nat.reduceDiv, Nat.reduceMod, Nat.reduceLT, Nat.reduceLeDiff, Nat.reduceBEq, Nat.reducePow, Int.reduceLE, Int.reduceLT, Int.reduceEq, Int.reduceNeg, Int.reduceAdd, Int.reduceToNat]
                  exact ho
                · simp only [go_sem, reduceIte, reduceCtorEq, Nat.reduceEqDiff, Nat.reduceAdd, Nat.reduceSub, Nat.reduceMul, Nat.reduceDiv, Nat.reduceMod, Nat.reduceLT, Nat.reduceLeDiff, Nat.reduceBEq, Nat.reducePow, Int.reduceLE, Int.reduceLT, Int.reduceEq, Int.reduceNeg, Int.reduceAdd, Int.reduceToNat]
              · rw [hv] at hbt hra
                rw [hu] at hbt hrb
                repeat' (first | refine ReqK.i (by omega) fun _ => ?_ | simp only [go_sem, reduceIte, reduceCtorEq, Nat.reduceEqDiff, Nat.reduceAdd, Nat.reduceSub, Nat.reduceMul, Nat.reduceDiv, Nat.reduceMod, Nat.reduceLT, Nat.reduceLeDiff, Nat.reduceBEq, Nat.reducePow, Int.reduceLE, Int.reduceLT, Int.reduceEq, Int.reduceNeg, Int.reduceAdd, Int.reduceToNat, h6, getD_map_lt, e4, ha, hb, hga, hgb, hrl, hfa, hfb, hla, hlb, hai, hbi, hrb, hra, Tryd.f31, hstop hbt])
          · rw [decide_eq_false e4] at hbt
            repeat' (first | refine ReqK.i (by omega) fun _ => ?_ | simp only [go_sem, reduceIte, reduceCtorEq, Nat.reduceEqDiff, Nat.reduceAdd, Nat.reduceSub, Nat.reduceMul, Nat.reduceDiv, Nat.reduceMod, Nat.reduceLT, Nat.reduceLeDiff, Nat.reduceBEq, Nat.reducePow, Int.reduceLE, Int.reduceLT, Int.reduceEq, Int.reduceNeg, Int.reduceAdd, Int.reduceToNat, h6, getD_map_lt, e1, e4, ha, hb, hga, hgb, hrl, hfa, hfb, hla, hlb, hai, hbi, hrb, hra])
            refine ⟨⟨j + 1, m6 + 1, by omega, hgo (by rw [hbt]; rfl)⟩, by simp only; omega, ?_⟩
            refine Weak_toX ?_ ?_ (fun id o ho => ?_) ?_
            · simp only [go_sem, reduceIte, reduceCtorEq, Nat.reduceEqDiff, Nat.reduceAdd, Nat.reduceSub, Nat.reduceMul, Nat.reduceDiv, Nat.reduceMod, Nat.reduceLT, Nat.reduceLeDiff, Nat.reduceBEq, Nat.reducePow, Int.reduceLE, Int.reduceLT, Int.reduceEq, Int.reduceNeg, Int.reduceAdd, Int.reduceToNat]
            · simp only [go_sem, reduceIte, reduceCtorEq, Nat.reduceEqDiff, Nat.reduceAdd, Nat.reduceSub, Nat.reduceMul, Nat.reduceDiv, Nat.reduceMod, Nat.reduceLT, Nat.reduceLeDiff, Nat.reduceBEq, Nat.reducePow, Int.reduceLE, Int.reduceLT, Int.reduceEq, Int.reduceNeg, Int.reduceAdd, Int.reduceToNat]
            · have ht := (hF3).tg id o ho
              obtain ⟨aT, bT⟩ := id
              obtain rfl : aT = 31024 := ht
              try (simp only [go_sem, reduceIte, reduceCtorEq, Nat.reduceEqDiff, Nat.reduceAdd, Nat.reduceSub, Nat.reduceMul, Nat.reduceDiv, Nat.reduceMod, Nat.reduceLT, Nat.reduceLeDiff, Nat.reduceBEq, Nat.reducePow, Int.reduceLE, Int.reduceLT, Int.reduceEq, Int.reduceNeg, Int.reduceAdd, Int.reduceToNat] at ho)
              simp only [go_sem, reduceIte, reduceCtorEq, Nat.reduceEqDiff, Nat.reduceAdd, Nat.reduceSub, Nat.reduceMul, Nat.reduceDiv, Nat.reduceMod, Nat.reduceLT, Nat.reduceLeDiff, Nat.reduceBEq, Nat.reducePow, Int.reduceLE, Int.reduceLT, Int.reduceEq, Int.reduceNeg, Int.reduceAdd, Int.reduceToNat]
              exact ho
            · simp only [go_sem, reduceIte, reduceCtorEq, Nat.reduceEqDiff, Nat.reduceAdd, Nat.reduceSub, Nat.reduceMul, Nat.reduceDiv, Nat.reduceMod, Nat.reduceLT, Nat.reduceLeDiff, Nat.reduceBEq, Nat.reducePow, Int.reduceLE, Int.reduceLT, Int.reduceEq, Int.reduceNeg, Int.reduceAdd, Int.reduceToNat]
      · have hend : consM p l = true := by
          rw [List.take_of_length_le (by omega)] at hbad
          rw [hcons, hbad]; rfl
        repeat' (first | refine ReqK.i (by omega) fun _ => ?_ | simp only [go_sem, reduceIte, reduceCtorEq, Nat.reduceEqDiff, Nat.reduceAdd, Nat.reduceSub, Nat.reduceMul, Nat.reduceDiv, Nat.reduceMod, Nat.reduceLT, Nat.reduceLeDiff, Nat.reduceBEq, Nat.reducePow, Int.reduceLE, Int.reduceLT, Int.reduceEq, Int.reduceNeg, Int.reduceAdd, Int.reduceToNat, h6, Tryd.f31, hend])
end Go.Proofs.YtbbcinpmomjbgaaDoor
