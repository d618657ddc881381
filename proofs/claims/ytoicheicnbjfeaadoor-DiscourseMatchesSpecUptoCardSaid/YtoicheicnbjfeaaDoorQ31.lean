import Derived.Test.YtoicheicnbjfeaaDoorAT
import Derived.Test.YtoicheicnbjfeaaDoorQ30
set_option linter.unusedSimpArgs false
namespace Go.Abs
open Go
/-! a frame whose values are read as immutable ones, beside any heap -/
def vEq (x d : D) : Prop := x = d ∨ D.val x = some d
def FrV (fr : Nat → D) : List (Nat × D) → Prop
  | [] => True
  | (k, d) :: l => vEq (fr k) d ∧ FrV fr l
@[go_sem] theorem FrV_nil {fr : Nat → D} : FrV fr [] = True := rfl
@[go_sem] theorem FrV_cons {fr : Nat → D} {k : Nat} {d : D} {l : List (Nat × D)} : FrV fr ((k, d) :: l) = (vEq (fr k) d ∧ FrV fr l) := rfl
@[go_sem] theorem vEq_self {d : D} : vEq d d = True := eq_true (.inl rfl)
@[go_sem] theorem vEq_ow {id : Abs.Id} {es : Nat} {xs ys : List FD} : vEq (.ow id es xs) (.fz (.sl ys)) = (xs = ys) := by
  unfold vEq; rw [val_ow]; simp
@[go_sem] theorem vEq_full {xs ys : List FD} : vEq (.full xs) (.fz (.sl ys)) = (xs = ys) := by
  unfold vEq; rw [val_full]; simp
@[go_sem] theorem vEq_fz {x y : FD} : vEq (.fz x) (.fz y) = (x = y) := by
  unfold vEq; rw [val_fz]; simp
theorem FrV.get {fr : Nat → D} : ∀ {l : List (Nat × D)}, FrV fr l → ∀ t, frL l t = fr t ∨ D.val (fr t) = some (frL l t) ∨ frL l t = .junk
  | [], _, _ => .inr (.inr rfl)
  | (k, d) :: l, h, t => by
    simp only [frL]
    split
    · rename_i e; subst e
      rcases h.1 with h1 | h1
      · exact .inl h1.symm
      · exact .inr (.inl h1)
    · exact FrV.get h.2 t
theorem Weak_toV {G : Nat → List FD} {N : Nat} {st : St} {l : List (Nat × D)} (hf : FrV st.fr l) : Weak G N st ⟨frL l, st.H, st.n⟩ := by
  intro a w L F hr
  refine ⟨L, F, ⟨hr.ok, hr.size, fun t => ?_, hr.nd⟩, Step.refl _ _ _ _ _⟩
  have := hr.fr t
  simp only
  rcases hf.get t with e | e | e
  · rw [e]; exact this
  · exact this.val e
  · rw [e]; exact trivial
end Go.Abs
namespace Go.Abs
open Go
theorem cstR_eq {f : Abs.Form} {bd l : List Str} : cstR f bd l = cstsR f.subs (if isQ f.kind then bd ++ [f.name] else bd) (f.words.foldl (fun l w => if w ∈ bd then l else putR l w) l) := by cases f; rw [cstR]; rfl
mutual
theorem cstR_len : ∀ (f : Abs.Form) (bd l : List Str), f.fit = true → (cstR f bd l).length ≤ l.length + 1000 * f.size
  | .mk k nm ws s, bd, l, h => by
    rw [Form.fit] at h
    simp only [Bool.and_eq_true, decide_eq_true_eq] at h
    rw [cstR, Form.size]
    have h1 := cstsR_len s (if isQ k then bd ++ [nm] else bd) (ws.foldl (fun l w => if w ∈ bd then l else putR l w) l) h.2
    have h2 := foldR_len bd ws l
    omega
theorem cstsR_len : ∀ (fs : List Abs.Form) (bd l : List Str), Form.fits fs = true → (cstsR fs bd l).length ≤ l.length + 1000 * Form.sizes fs
  | [], _, l, _ => by rw [cstsR]; omega
  | f :: fs, bd, l, h => by
    rw [Form.fits, Bool.and_eq_true] at h
    rw [cstsR, Form.sizes]
    have h1 := cstR_len f bd l h.1
    have h2 := cstsR_len fs bd (cstR f bd l) h.2
    omega
end
theorem fits_take : ∀ {fs : List Abs.Form} (j : Nat), Form.fits fs = true → Form.fits (fs.take j) = true
  | [], j, _ => by rw [List.take_nil, Form.fits]
  | f :: fs, 0, _ => by rw [List.take_zero, Form.fits]
  | f :: fs, j + 1, h => by
    rw [Form.fits, Bool.and_eq_true] at h
    rw [List.take_succ_cons, Form.fits, Bool.and_eq_true]
    exact ⟨h.1, fits_take j h.2⟩
end Go.Abs
namespace Go.Proofs.YtoicheicnbjfeaaDoor
open Go Go.Abs Go.Proofs

/-! ## the document's constants -/
def treeCst : Tv := (.q 0 (.q 1 (.q 3 (.r 4 (.q 5 (.br [(2, (.br [(6, (.q 7 .leaf))]))]))))))
def conPre (f : Abs.Form) (bd l : List Str) : Prop := f.fit = true ∧ bd.length + f.size ≤ 2000 ∧ l.length + 1000 * f.size ≤ 1000000
def R7 : Tbl := R6.add 169 (sp3 cstR conPre)
set_option maxRecDepth 100000 in
set_option maxHeartbeats 1000000 in
theorem hR7 : TblOk Tryd.prog GA R7 := by
  refine sp3_rec Form.size ok169 hR6 fun n hT f bd l hn hpre hw _ _ => ?_
  obtain ⟨hfit, hbl, hll⟩ := hpre
  obtain ⟨hwl, hsl, hfs⟩ := Form.fit_eq hfit
  have hszs : f.size = Form.sizes f.subs + 1 := by cases f; rw [Form.size]; rfl
  have hsz : ∀ g ∈ f.subs, g.size < n ∧ g.fit = true := fun g hg => ⟨by have := Form.size_sub hg; omega, Form.fits_mem hfs hg⟩
  obtain ⟨L, hL⟩ : ∃ L : Nat → List Str, L = fun i => (f.words.take i).foldl (fun l w => if w ∈ bd then l else putR l w) l := ⟨_, rfl⟩
  have hL0 : L 0 = l := by rw [hL]; rfl
  have hLs : ∀ i (h : i < f.words.length), L (i + 1) = if f.words[i] ∈ bd then L i else putR (L i) f.words[i] := fun i h => by
    rw [hL]; simp only [List.take_succ_eq_append_getElem h, List.foldl_append, List.foldl_cons, List.foldl_nil]
  have hLl : ∀ i, (L i).length ≤ l.length + 1000 := fun i => by
    have := foldR_len bd (f.words.take i) l
    rw [hL]; simp only; rw [List.length_take] at this; omega
  obtain ⟨bd2, hbd2⟩ : ∃ bd2, (if isQ f.kind then bd ++ [f.name] else bd) = bd2 := ⟨_, rfl⟩
  have hbl2 : bd2.length ≤ bd.length + 1 := by rw [← hbd2]; split <;> simp
  obtain ⟨lw, hlw⟩ : ∃ lw, L f.words.length = lw := ⟨_, rfl⟩
  have hlwl : lw.length ≤ l.length + 1000 := by rw [← hlw]; exact hLl _
  have hcst : cstR f bd l = cstsR f.subs bd2 lw := by rw [cstR_eq, hbd2, ← hlw, hL]; simp only [List.take_length]
  obtain ⟨M, hM⟩ : ∃ M : Nat → List Str, M = fun j => cstsR (f.subs.take j) bd2 lw := ⟨_, rfl⟩
  have hM0 : M 0 = lw := by rw [hM]; simp only [List.take_zero, cstsR]
  have hMs : ∀ j (h : j < f.subs.length), M (j + 1) = cstR f.subs[j] bd2 (M j) := fun j h => by
    rw [hM]; simp only [List.take_succ_eq_append_getElem h, cstsR_app, cstsR]
  have hMl : ∀ j (h : j < f.subs.length), conPre f.subs[j] bd2 (M j) := fun j h => by
    have h1 := cstsR_len (f.subs.take j) bd2 lw (fits_take j hfs)
    have h2 := sizes_take h
    have h3 := Form.size_mem (List.getElem_mem h)
    refine ⟨(hsz _ (List.getElem_mem h)).2, by omega, ?_⟩
    rw [hM]; simp only; omega
  have hMe : M f.subs.length = cstR f bd l := by rw [hcst, hM]; simp only [List.take_length]
  have kT := Kp.mk hT
  have kz := Kp.mk hsz
  have kL := Kp.mk hLs
  have kM := Kp.mk hMs
  have kN := Kp.mk hMl
  have kb := Kp.mk hbd2
  have kl := Kp.mk hLl
  rw [← hMe]
  clear hT hsz hLs hMs hMl hbd2 hL hM hcst hLl hw hMe hfit hfs
  refine Wcall_K (N := 56) hm kT.out 169000 (lsw [35, 39] [1000008]) ok169 Tryd.func169 rfl rfl (by simp) (by kernel_rfl) ?_
  repeat' (first | refine ReqK.i (by omega) fun _ => ?_ | simp only [go_sem, Tryd.f169, R6, R5, R4, R3, R2, R1, Q20, Q19, Q18, Q17, Q16, Q15, Q14, Q13, Q12, Q11, Q10, Q9, Q8, Q7, Q6, Q5, Q4, Q3, Q2, Q1, Tbl0])
  refine WK_weak2 (Weak_rpL (id := (169003, 0)) (t := 3) (b := true) (ys := [.i .i64 f.kind, .s f.name.l, .sl (f.words.map enc), .sl (f.subs.map enc)]) (by simp only [go_sem]) (by simp only [go_sem])) ?_
  refine WK_loop hm kT.out 169000 (lsw [35, 39] [1000008]) (ι := LoopI f.words.length fun _ => True)
    ⟨fun q => ⟨frL [(1, .fz (.sl (bd.map enc))), (2, .fz (.sl ((L q.i).map enc))), (3, .rp [.i .i64 f.kind, .s f.name.l, .sl (f.words.map enc), .sl (f.subs.map enc)]), (11, .fz (.sl (f.words.map enc))), (12, .fz (.i .i64 f.words.length)), (13, .fz (.i .i64 q.i))], hpL [], 1⟩, fun q => f.words.length - q.i⟩
    ⟨0, by omega, trivial⟩ (by kernel_rfl) ?_ ?_
  · refine Weak_to ?_ ?_ ?_ <;> simp only [go_sem, hL0]
  rintro ⟨i, hi, _⟩
  try simp only at hi
  rcases Nat.lt_or_ge i f.words.length with h1 | h1
  · have hls := kL.out i h1
    have hll2 := kl.out i
    obtain ⟨w, hwi⟩ : ∃ w, f.words[i] = w := ⟨_, rfl⟩
    rw [hwi] at hls
    by_cases hin : w ∈ bd
    · rw [if_pos hin] at hls
      repeat' (first | refine ReqK.i (by omega) fun _ => ?_ | simp only [go_sem, h1, hwi, hin, str_eta, getD_map_lt, Tryd.f169, R6, R5, R4, R3, R2, R1, Q20, Q19, Q18, Q17, Q16, Q15, Q14, Q13, Q12, Q11, Q10, Q9, Q8, Q7, Q6, Q5, Q4, Q3, Q2, Q1, Tbl0])
      refine ⟨⟨i + 1, by omega, trivial⟩, by simp only; omega, ?_⟩
      refine Weak_to ?_ ?_ ?_ <;> simp only [go_sem, hls]
    · rw [if_neg hin] at hls
      repeat' (first | refine ReqK.i (by omega) fun _ => ?_ | simp only [go_sem, h1, hwi, hin, str_eta, getD_map_lt, Tryd.f169, R6, R5, R4, R3, R2, R1, Q20, Q19, Q18, Q17, Q16, Q15, Q14, Q13, Q12, Q11, Q10, Q9, Q8, Q7, Q6, Q5, Q4, Q3, Q2, Q1, Tbl0])
      refine ⟨⟨i + 1, by omega, trivial⟩, by simp only; omega, ?_⟩
      refine Weak_to ?_ ?_ ?_ <;> simp only [go_sem, hls]
  · obtain rfl : i = f.words.length := by omega
    by_cases hq : isQ f.kind
    case' pos =>
      have hb2 := kb.out
      rw [if_pos hq] at hb2
      unfold isQ at hq
      have hq8 : ((f.kind = 8) = True ∧ (f.kind = 8) = True) ∨ ((f.kind = 8) = False ∧ (f.kind = 9) = True) := by
        rcases hq with h | h
        · exact .inl ⟨eq_true h, eq_true h⟩
        · exact .inr ⟨eq_false (by omega), eq_true h⟩
      rcases hq8 with ⟨h8, h9⟩ | ⟨h8, h9⟩
      all_goals
        repeat' (first | refine ReqK.i (by omega) fun _ => ?_ | simp only [go_sem, h8, h9, hlw, Nat.lt_irrefl, Tryd.f169, R6, R5, R4, R3, R2, R1, Q20, Q19, Q18, Q17, Q16, Q15, Q14, Q13, Q12, Q11, Q10, Q9, Q8, Q7, Q6, Q5, Q4, Q3, Q2, Q1, Tbl0])
      all_goals
        refine WK_drawV hm kT.out 169000 (lsw [35, 39] [1000008]) treeCst (by kernel_rfl) (by kernel_rfl) ?_
        repeat' (first | refine And.intro ?_ ?_ | exact True.intro | refine ReqK.i (by omega) fun _ => ?_ | refine ReqK.i (by unfold maxL; omega) fun _ => ?_ | refine ReqK.i (fits_of2 (by first | omega | (simp only [List.length_map, List.length_append, List.length_cons, List.length_nil]; omega)) (by decide)) fun _ => ?_ | simp only [go_sem, treeCst, hlw, Tryd.f169, R6, R5, R4, R3, R2, R1, Q20, Q19, Q18, Q17, Q16, Q15, Q14, Q13, Q12, Q11, Q10, Q9, Q8, Q7, Q6, Q5, Q4, Q3, Q2, Q1, Tbl0])
    case' neg =>
      have hb2 := kb.out
      rw [if_neg hq] at hb2
      unfold isQ at hq
      have h8 : (f.kind = 8) = False := eq_false fun h => hq (.inl h)
      have h9 : (f.kind = 9) = False := eq_false fun h => hq (.inr h)
      repeat' (first | refine ReqK.i (by omega) fun _ => ?_ | simp only [go_sem, h8, h9, hlw, Nat.lt_irrefl, Tryd.f169, R6, R5, R4, R3, R2, R1, Q20, Q19, Q18, Q17, Q16, Q15, Q14, Q13, Q12, Q11, Q10, Q9, Q8, Q7, Q6, Q5, Q4, Q3, Q2, Q1, Tbl0])
    all_goals
      refine WK_loop hm kT.out 169000 (lsw [35, 39] [1000008]) (ι := LoopI f.subs.length fun _ => True)
        ⟨fun q => ⟨frL [(1, .fz (.sl (bd2.map enc))), (2, .fz (.sl ((M q.i).map enc))), (3, .rp [.i .i64 f.kind, .s f.name.l, .sl (f.words.map enc), .sl (f.subs.map enc)]), (42, .fz (.i .i64 f.subs.length)), (43, .fz (.i .i64 q.i))], hpL [], 100⟩, fun q => f.subs.length - q.i⟩
        ⟨0, by omega, trivial⟩ (by kernel_rfl) ?_ ?_
      · refine Weak_then (Weak_toV (l := [(1, .fz (.sl (bd2.map enc))), (2, .fz (.sl (lw.map enc))), (3, .rp [.i .i64 f.kind, .s f.name.l, .sl (f.words.map enc), .sl (f.subs.map enc)]), (42, .fz (.i .i64 f.subs.length)), (43, .fz (.i .i64 0))]) (by simp only [go_sem, ← hb2, List.map_append])) (Weak_to ?_ ?_ ?_) <;> simp only [go_sem, hM0]
      rintro ⟨j, hj, _⟩
      try simp only at hj
      rcases Nat.lt_or_ge j f.subs.length with h2 | h2
      · have hms := kM.out j h2
        have hmn := kN.out j h2
        have hsz := (kz.out _ (List.getElem_mem h2)).1
        obtain ⟨x, hx⟩ : ∃ x, f.subs[j] = x := ⟨_, rfl⟩
        rw [hx] at hms hmn hsz
        repeat' (first | refine ReqK.i (by omega) fun _ => ?_ | refine ReqK.i ⟨hsz, hmn⟩ fun _ => ?_ | simp only [go_sem, h2, hx, hsz, getD_map_lt, Tryd.f169, R6, R5, R4, R3, R2, R1, Q20, Q19, Q18, Q17, Q16, Q15, Q14, Q13, Q12, Q11, Q10, Q9, Q8, Q7, Q6, Q5, Q4, Q3, Q2, Q1, Tbl0])
        refine ⟨⟨j + 1, by omega, trivial⟩, by simp only; omega, ?_⟩
        refine Weak_to ?_ ?_ ?_ <;> simp only [go_sem, hms]
      · obtain rfl : j = f.subs.length := by omega
        repeat' (first | refine ReqK.i (by omega) fun _ => ?_ | simp only [go_sem, Nat.lt_irrefl, Tryd.f169, R6, R5, R4, R3, R2, R1, Q20, Q19, Q18, Q17, Q16, Q15, Q14, Q13, Q12, Q11, Q10, Q9, Q8, Q7, Q6, Q5, Q4, Q3, Q2, Q1, Tbl0])

def R8 : Tbl := R7.add 91 (sp1 (fun f => cstR f [] []) fun f => f.fit = true ∧ f.size ≤ 1000)
set_option maxRecDepth 100000 in
set_option maxHeartbeats 1000000 in
theorem hR8 : TblOk Tryd.prog GA R8 := by
  refine sp1_ok ok91 hR7 fun f hpre _ => ?_
  have hp : conPre f [] [] := ⟨hpre.1, by simp only [List.length_nil]; omega, by simp only [List.length_nil]; omega⟩
  refine Wcall_K (N := 5) hm hR7 91000 (lst []) ok91 Tryd.func91 rfl rfl (by simp) (by kernel_rfl) ?_
  repeat' (first | refine ReqK.i (by omega) fun _ => ?_ | refine ReqK.i hp fun _ => ?_ | simp only [go_sem, Tryd.f91, R7, R6, R5, R4, R3, R2, R1, Q20, Q19, Q18, Q17, Q16, Q15, Q14, Q13, Q12, Q11, Q10, Q9, Q8, Q7, Q6, Q5, Q4, Q3, Q2, Q1, Tbl0])
end Go.Proofs.YtoicheicnbjfeaaDoor
