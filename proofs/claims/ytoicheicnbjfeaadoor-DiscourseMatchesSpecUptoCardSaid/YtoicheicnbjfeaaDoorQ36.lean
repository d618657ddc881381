import Derived.Test.YtoicheicnbjfeaaDoorAT
import Derived.Test.YtoicheicnbjfeaaDoorQ35
set_option linter.unusedSimpArgs false
namespace Go.Proofs.YtoicheicnbjfeaaDoor
open Go Go.Abs Go.Proofs

/-! ## formulas put together; a formula returned, if it keeps the limits -/
def doneR (f : Abs.Form) : Abs.Form := if fitsM f then wthM f [] else zeroF
def R17 : Tbl := R16.add 49 (sp1p (fun f : Abs.Form => (doneR f, doneE f)) szPre)
set_option maxRecDepth 100000 in
set_option maxHeartbeats 1000000 in
theorem hR17 : TblOk Tryd.prog GA R17 := by
  refine sp1p_ok ok49 hR16 fun f hpre hw => ?_
  cases hf : fitsM f with
  | true =>
    have h1 := of_decide_eq_true hf
    have hp : f.fit = true ∧ f.size ≤ 1000 := ⟨hpre.1, by omega⟩
    have e1 : doneR f = wthM f [] := by unfold doneR; rw [if_pos hf]
    have e2 : doneE f = ⟨0, 0⟩ := by unfold doneE; rw [if_pos hf]
    obtain ⟨c, hc⟩ : ∃ c, wthM f [] = c := ⟨_, rfl⟩
    simp only [e1, e2, hc]
    refine Wcall_K (N := 12) hm hR16 49000 (lst []) ok49 Tryd.func49 rfl rfl (by simp) (by kernel_rfl) ?_
    repeat' (first | refine ReqK.i hpre fun _ => ?_ | refine ReqK.i hp fun _ => ?_ | refine ReqK.i (by omega) fun _ => ?_ | refine ReqK.i (by unfold maxL; omega) fun _ => ?_ | simp only [go_sem, hf, hc, form_eta, Tryd.f49, R16, R15, R14, R13, R12, R11, R10, R9, R8, R7, R6, R5, R4, R3, R2, R1, Q20, Q19, Q18, Q17, Q16, Q15, Q14, Q13, Q12, Q11, Q10, Q9, Q8, Q7, Q6, Q5, Q4, Q3, Q2, Q1, Tbl0])
  | false =>
    have e1 : doneR f = zeroF := by unfold doneR; rw [if_neg (by simp [hf])]
    have e2 : doneE f = ⟨1, -1⟩ := by unfold doneE; rw [if_neg (by simp [hf])]
    simp only [e1, e2, zeroF]
    refine Wcall_K (N := 12) hm hR16 49000 (lst []) ok49 Tryd.func49 rfl rfl (by simp) (by kernel_rfl) ?_
    repeat' (first | refine ReqK.i hpre fun _ => ?_ | refine ReqK.i (by omega) fun _ => ?_ | refine ReqK.i (by unfold maxL; omega) fun _ => ?_ | simp only [go_sem, hf, form_eta, Tryd.f49, R16, R15, R14, R13, R12, R11, R10, R9, R8, R7, R6, R5, R4, R3, R2, R1, Q20, Q19, Q18, Q17, Q16, Q15, Q14, Q13, Q12, Q11, Q10, Q9, Q8, Q7, Q6, Q5, Q4, Q3, Q2, Q1, Tbl0])
def R18 : Tbl := R17.add 127 (sp1p (fun f : Abs.Form => (doneF f, doneE f)) szPre)
set_option maxRecDepth 100000 in
set_option maxHeartbeats 1000000 in
theorem hR18 : TblOk Tryd.prog GA R18 := by
  refine sp1p_ok ok127 hR17 fun f hpre hw => ?_
  cases hf : fitsM f with
  | true =>
    have h1 := of_decide_eq_true hf
    have hp : f.fit = true ∧ f.size ≤ 1000 := ⟨hpre.1, by omega⟩
    have e1 : doneF f = canonM f [] := by unfold doneF; rw [if_pos hf]
    have e2 : doneE f = ⟨0, 0⟩ := by unfold doneE; rw [if_pos hf]
    obtain ⟨c, hc⟩ : ∃ c, canonM f [] = c := ⟨_, rfl⟩
    simp only [e1, e2, hc]
    refine Wcall_K (N := 12) hm hR17 127000 (lst []) ok127 Tryd.func127 rfl rfl (by simp) (by kernel_rfl) ?_
    repeat' (first | refine ReqK.i hpre fun _ => ?_ | refine ReqK.i hp fun _ => ?_ | refine ReqK.i (by omega) fun _ => ?_ | refine ReqK.i (by unfold maxL; omega) fun _ => ?_ | simp only [go_sem, hf, hc, form_eta, Tryd.f127, R17, R16, R15, R14, R13, R12, R11, R10, R9, R8, R7, R6, R5, R4, R3, R2, R1, Q20, Q19, Q18, Q17, Q16, Q15, Q14, Q13, Q12, Q11, Q10, Q9, Q8, Q7, Q6, Q5, Q4, Q3, Q2, Q1, Tbl0])
  | false =>
    have e1 : doneF f = zeroF := by unfold doneF; rw [if_neg (by simp [hf])]
    have e2 : doneE f = ⟨1, -1⟩ := by unfold doneE; rw [if_neg (by simp [hf])]
    simp only [e1, e2, zeroF]
    refine Wcall_K (N := 12) hm hR17 127000 (lst []) ok127 Tryd.func127 rfl rfl (by simp) (by kernel_rfl) ?_
    repeat' (first | refine ReqK.i hpre fun _ => ?_ | refine ReqK.i (by omega) fun _ => ?_ | refine ReqK.i (by unfold maxL; omega) fun _ => ?_ | simp only [go_sem, hf, form_eta, Tryd.f127, R17, R16, R15, R14, R13, R12, R11, R10, R9, R8, R7, R6, R5, R4, R3, R2, R1, Q20, Q19, Q18, Q17, Q16, Q15, Q14, Q13, Q12, Q11, Q10, Q9, Q8, Q7, Q6, Q5, Q4, Q3, Q2, Q1, Tbl0])
theorem joinM_cast (k : Int) {l : List Abs.Form} {i : Nat} (h : i + 1 < l.length) : joinM k (l.take (i + 1 + 1)) = .mk k ⟨[]⟩ [] [joinM k (l.take (i + 1)), l[i + 1]] := joinM_take h
def joinPre (_ : Int) (l : List Abs.Form) : Prop := l ≠ [] ∧ l.length ≤ 1000
def R19 : Tbl := R18.add 128 (sp2 joinM joinPre)
set_option maxRecDepth 100000 in
set_option maxHeartbeats 1000000 in
theorem hR19 : TblOk Tryd.prog GA R19 := by
  refine sp2_ok ok128 hR18 fun k l hpre _ _ => ?_
  obtain ⟨hne, hll⟩ := hpre
  obtain ⟨f0, tl, rfl⟩ : ∃ f0 tl, l = f0 :: tl := by
    cases l with
    | nil => exact absurd rfl hne
    | cons a t => exact ⟨a, t, rfl⟩
  obtain ⟨J, hJ⟩ : ∃ J : Nat → Abs.Form, J = fun i => joinM k ((f0 :: tl).take (i + 1)) := ⟨_, rfl⟩
  have hJ0 : J 0 = f0 := by rw [hJ]; rfl
  have hJs : ∀ i (h : i < tl.length), J (i + 1) = .mk k ⟨[]⟩ [] [J i, tl[i]] := fun i h => by rw [hJ]; exact joinM_cast k (l := f0 :: tl) (by simpa using h)
  have hJe : joinM k (f0 :: tl) = J tl.length := by rw [hJ]; simp only [← List.length_cons (a := f0), List.take_length]
  have hcut : ∀ y, cutFD (y :: tl.map enc) (1 : Int) ((tl.length : Int) + 1) = tl.map enc := fun y => by
    unfold cutFD
    rw [show ((tl.length : Int) + 1).toNat = tl.length + 1 by omega, List.take_succ_cons, List.take_of_length_le (by rw [List.length_map]; exact Nat.le_refl _)]
    rfl
  have hq1 : (1 : Int) = (tl.length : Int) + 1 ∨ ((tl.map enc).getD 0 FD.nilf).cells.length = 4 := by
    cases tl with
    | nil => exact .inl rfl
    | cons x t => exact .inr (by show (enc x).cells.length = 4; rw [enc_form]; rfl)
  simp only [List.length_cons] at hll
  have kJ := Kp.mk hJs
  rw [hJe]
  clear hJ hJs hJe hne
  refine Wcall_K (N := 25) hm hR18 128000 (lst []) ok128 Tryd.func128 rfl rfl (by simp) (by kernel_rfl) ?_
  repeat' (first | refine ReqK.i ⟨by omega, by omega, hq1⟩ fun _ => ?_ | refine ReqK.i (by omega) fun _ => ?_ | refine ReqK.i (by unfold maxL; omega) fun _ => ?_ | simp only [go_sem, hcut, List.length_cons, Tryd.f128, R18, R17, R16, R15, R14, R13, R12, R11, R10, R9, R8, R7, R6, R5, R4, R3, R2, R1, Q20, Q19, Q18, Q17, Q16, Q15, Q14, Q13, Q12, Q11, Q10, Q9, Q8, Q7, Q6, Q5, Q4, Q3, Q2, Q1, Tbl0])
  refine WK_loop hm hR18 128000 (lst []) (ι := LoopM tl.length 2 fun _ => True)
    ⟨fun q => ⟨frL [(0, .fz (.i .i64 k)), (4, .ptr (128004, 0) 0), (5, .ptr (128005, 1) 0), (12, .fz (.sl (tl.map enc))), (13, .fz (.i .i64 tl.length)), (14, .fz (.i .i64 q.i))],
      hpL [((128004, 0), some ⟨[.fz (.i .i64 0), .fz (.s []), .full [], .full []], true, false⟩), ((128005, 1), some ⟨[.fz (.i .i64 (J q.i).kind), .fz (.s (J q.i).name.l), .fz (.sl ((J q.i).words.map enc)), .fz (.sl ((J q.i).subs.map enc))], true, false⟩)], q.m⟩, fun q => tl.length - q.i⟩
    ⟨0, 2, by omega, by omega, trivial⟩ (by kernel_rfl) ?_ ?_
  · refine Weak_to ?_ ?_ ?_ <;> simp only [go_sem, hJ0, enc_form, hcut]
    all_goals first | done | rfl | trace_state
  rintro ⟨i, m, hi, hm1, _⟩
  try simp only at hi hm1
  rcases Nat.lt_or_ge i tl.length with h2 | h2
  · have hs := kJ.out i h2
    obtain ⟨x, hx⟩ : ∃ x, tl[i] = x := ⟨_, rfl⟩
    rw [hx] at hs
    obtain ⟨y, hy⟩ : ∃ y, J i = y := ⟨_, rfl⟩
    rw [hy] at hs
    repeat' (first | refine ReqK.i (by omega) fun _ => ?_ | refine ReqK.i (by unfold maxL; omega) fun _ => ?_ | simp only [go_sem, h2, hx, hy, getD_map_lt, Tryd.f128, R18, R17, R16, R15, R14, R13, R12, R11, R10, R9, R8, R7, R6, R5, R4, R3, R2, R1, Q20, Q19, Q18, Q17, Q16, Q15, Q14, Q13, Q12, Q11, Q10, Q9, Q8, Q7, Q6, Q5, Q4, Q3, Q2, Q1, Tbl0])
    refine ⟨⟨i + 1, m + 3, by omega, by omega, trivial⟩, by simp only; omega, ?_⟩
    refine Weak_g [] [] [] ?_ ?_ ?_ ?_ ?_ <;> (try simp only [go_sem, hs])
    all_goals first | done | omega | rfl | trace_state
  · obtain rfl : i = tl.length := by omega
    repeat' (first | refine ReqK.i (by omega) fun _ => ?_ | refine ReqK.i (by unfold maxL; omega) fun _ => ?_ | simp only [go_sem, Nat.lt_irrefl, Tryd.f128, R18, R17, R16, R15, R14, R13, R12, R11, R10, R9, R8, R7, R6, R5, R4, R3, R2, R1, Q20, Q19, Q18, Q17, Q16, Q15, Q14, Q13, Q12, Q11, Q10, Q9, Q8, Q7, Q6, Q5, Q4, Q3, Q2, Q1, Tbl0])
def tree117 : Tv := (.q 0 (.q 1 (.q 2 (.q 3 (.q 4 (.q 5 (.q 6 (.q 7 (.br [(8, .leaf)])))))))))
def R20 : Tbl := R19.add 120 (sp2 joinM joinPre)
set_option maxRecDepth 100000 in
set_option maxHeartbeats 1000000 in
theorem hR20 : TblOk Tryd.prog GA R20 := by
  refine sp2_ok ok120 hR19 fun k l hpre _ _ => ?_
  obtain ⟨hne, hll⟩ := hpre
  have hl0 : 0 < l.length := List.length_pos_iff.2 hne
  obtain ⟨J, hJ⟩ : ∃ J : Nat → Abs.Form, J = fun i => joinM k (l.take (i + 1)) := ⟨_, rfl⟩
  obtain ⟨f0, hf0⟩ : ∃ f0, l[0] = f0 := ⟨_, rfl⟩
  have hJ0 : J 0 = f0 := by
    rw [hJ, ← hf0]
    cases l with
    | nil => exact absurd rfl hne
    | cons a t => rfl
  have hJs : ∀ i (h : i + 1 < l.length), J (i + 1) = .mk k ⟨[]⟩ [] [J i, l[i + 1]] := fun i h => by rw [hJ]; exact joinM_cast k h
  obtain ⟨n, hn⟩ : ∃ n, l.length = n + 1 := ⟨l.length - 1, by omega⟩
  have hJe : joinM k l = J n := by rw [hJ]; simp only [← hn, List.take_length]
  have kJ := Kp.mk hJs
  rw [hJe]
  clear hJ hJs hJe hne
  refine Wcall_K (N := 25) hm hR19 120000 (lst [1000005]) ok120 Tryd.func120 rfl rfl (by simp) (by kernel_rfl) ?_
  repeat' (first | refine ReqK.i (by omega) fun _ => ?_ | refine ReqK.i (by unfold maxL; omega) fun _ => ?_ | simp only [go_sem, hl0, hf0, getD_map_lt, Tryd.f120, R19, R18, R17, R16, R15, R14, R13, R12, R11, R10, R9, R8, R7, R6, R5, R4, R3, R2, R1, Q20, Q19, Q18, Q17, Q16, Q15, Q14, Q13, Q12, Q11, Q10, Q9, Q8, Q7, Q6, Q5, Q4, Q3, Q2, Q1, Tbl0])
  refine WK_loop hm hR19 120000 (lst [1000005]) (ι := LoopM n 2 fun _ => True)
    ⟨fun q => ⟨frL [(0, .fz (.i .i64 k)), (1, .fz (.sl (l.map enc))), (4, .ptr (120004, 0) 0), (5, .ptr (120005, 1) 0), (6, .fz (.i .i64 ((q.i + 1 : Nat) : Int)))],
      hpL [((120004, 0), some ⟨[.fz (.i .i64 0), .fz (.s []), .full [], .full []], true, false⟩), ((120005, 1), some ⟨[.fz (.i .i64 (J q.i).kind), .fz (.s (J q.i).name.l), .fz (.sl ((J q.i).words.map enc)), .fz (.sl ((J q.i).subs.map enc))], true, false⟩)], q.m⟩, fun q => n - q.i⟩
    ⟨0, 2, by omega, by omega, trivial⟩ (by kernel_rfl) ?_ ?_
  · refine Weak_to ?_ ?_ ?_ <;> simp only [go_sem, hJ0]
    all_goals first | done | rfl | trace_state
  rintro ⟨i, m, hi, hm1, _⟩
  try simp only at hi hm1
  rcases Nat.lt_or_ge i n with h2 | h2
  · have h3 : i + 1 < l.length := by omega
    have h3' : ((i : Int) + 1 < (l.length : Int)) = True := eq_true (by omega)
    have h4 : (0 ≤ (i : Int) + 1) = True := eq_true (by omega)
    have h5 : ((i : Int) + 1).toNat = i + 1 := by omega
    have hs := kJ.out i h3
    obtain ⟨x, hx⟩ : ∃ x, l[i + 1] = x := ⟨_, rfl⟩
    rw [hx] at hs
    obtain ⟨y, hy⟩ : ∃ y, J i = y := ⟨_, rfl⟩
    rw [hy] at hs
    repeat' (first | refine ReqK.i (by omega) fun _ => ?_ | refine ReqK.i (by unfold maxL; omega) fun _ => ?_ | simp only [go_sem, h4, h5, h3', h3, hx, hy, getD_map_lt, Tryd.f120, R19, R18, R17, R16, R15, R14, R13, R12, R11, R10, R9, R8, R7, R6, R5, R4, R3, R2, R1, Q20, Q19, Q18, Q17, Q16, Q15, Q14, Q13, Q12, Q11, Q10, Q9, Q8, Q7, Q6, Q5, Q4, Q3, Q2, Q1, Tbl0])
    refine WK_drawV hm hR19 120000 (lst [1000005]) tree117 (by kernel_rfl) (by kernel_rfl) ?_
    repeat' (first | refine And.intro ?_ ?_ | exact True.intro | refine ReqK.i (by omega) fun _ => ?_ | refine ReqK.i (by unfold maxL; omega) fun _ => ?_ | simp only [go_sem, tree117, h4, h5, h3', h3, hx, hy, getD_map_lt, Tryd.f120, R19, R18, R17, R16, R15, R14, R13, R12, R11, R10, R9, R8, R7, R6, R5, R4, R3, R2, R1, Q20, Q19, Q18, Q17, Q16, Q15, Q14, Q13, Q12, Q11, Q10, Q9, Q8, Q7, Q6, Q5, Q4, Q3, Q2, Q1, Tbl0])
    refine ⟨⟨i + 1, m + 3, by omega, by omega, trivial⟩, by simp only; omega, ?_⟩
    refine Weak_g [] [] [] ?_ ?_ ?_ ?_ ?_ <;> (try simp only [go_sem, hs])
    all_goals first | done | omega | rfl | trace_state
  · obtain rfl : i = n := by omega
    have h3 : ((i : Int) + 1 < (l.length : Int)) = False := eq_false (by omega)
    repeat' (first | refine ReqK.i (by omega) fun _ => ?_ | refine ReqK.i (by unfold maxL; omega) fun _ => ?_ | simp only [go_sem, h3, Tryd.f120, R19, R18, R17, R16, R15, R14, R13, R12, R11, R10, R9, R8, R7, R6, R5, R4, R3, R2, R1, Q20, Q19, Q18, Q17, Q16, Q15, Q14, Q13, Q12, Q11, Q10, Q9, Q8, Q7, Q6, Q5, Q4, Q3, Q2, Q1, Tbl0])
/-- what a group must be -/
def chkGo (at' : Int) : List Str → List Str → Fault
  | _, [] => ⟨0, 0⟩
  | pre, x :: xs => if isName x = false then ⟨10, at'⟩ else if x ∈ pre then ⟨7, at'⟩ else chkGo at' (pre ++ [x]) xs
def chkG (l : List Str) (at' : Int) : Fault := if l.length = 0 ∨ 5 < l.length then ⟨2, at'⟩ else chkGo at' [] l
theorem chkGo_step {at' : Int} {l : List Str} {i : Nat} (h : i < l.length) : chkGo at' (l.take i) (l.drop i) =
    if isName l[i] = false then ⟨10, at'⟩ else if l[i] ∈ l.take i then ⟨7, at'⟩ else chkGo at' (l.take (i + 1)) (l.drop (i + 1)) := by
  rw [List.drop_eq_getElem_cons h, chkGo, List.take_succ_eq_append_getElem h]
theorem chkGo_zero {at' : Int} : ∀ {xs pre : List Str}, (chkGo at' pre xs).code = 0 → chkGo at' pre xs = ⟨0, 0⟩ ∧ ∀ x ∈ xs, isName x = true
  | [], pre, h => by rw [chkGo]; exact ⟨rfl, by simp⟩
  | x :: xs, pre, h => by
    rw [chkGo] at h ⊢
    split at h
    · simp at h
    split at h
    · simp at h
    rename_i h1 h2
    have h3 := chkGo_zero h
    rw [if_neg h1, if_neg h2]
    refine ⟨h3.1, fun y hy => ?_⟩
    rcases List.mem_cons.1 hy with rfl | hy
    · simpa using h1
    · exact h3.2 y hy
theorem chkG_zero {l : List Str} {at' : Int} (h : (chkG l at').code = 0) : chkG l at' = ⟨0, 0⟩ ∧ 1 ≤ l.length ∧ l.length ≤ 5 ∧ ∀ x ∈ l, isName x = true := by
  unfold chkG at h ⊢
  split at h
  · simp at h
  rename_i h1
  rw [if_neg h1]
  have := chkGo_zero h
  exact ⟨this.1, by omega, by omega, this.2⟩
def R21 : Tbl := R20.add 125 (sp2 chkG fun _ _ => True)
set_option maxRecDepth 100000 in
set_option maxHeartbeats 1000000 in
theorem hR21 : TblOk Tryd.prog GA R21 := by
  refine sp2_ok ok125 hR20 fun l at' _ hl _ => ?_
  have la := Wf_sl hl
  simp only [List.length_map, maxL] at la
  refine Wcall_K (N := 38) hm hR20 125000 (lst []) ok125 Tryd.func125 rfl rfl (by simp) (by kernel_rfl) ?_
  simp only [go_sem]
  repeat' (first | refine CondK.d (fun _ => ?_) (fun _ => ?_) | refine ReqK.i (by omega) fun _ => ?_ | simp only [go_sem, Tryd.f125, *])
  · have e : chkG l at' = ⟨2, at'⟩ := by unfold chkG; rw [if_pos (by omega)]
    simp only [go_sem, e]
  · have e : chkG l at' = ⟨2, at'⟩ := by unfold chkG; rw [if_pos (by omega)]
    simp only [go_sem, e]
  · have e : chkG l at' = chkGo at' (l.take 0) (l.drop 0) := by unfold chkG; rw [if_neg (by omega)]; simp
    refine WK_loop hm hR20 125000 (lst []) (ι := LoopI l.length fun i => chkG l at' = chkGo at' (l.take i) (l.drop i))
      ⟨fun i => ⟨frL [(0, .fz (enc l)), (1, .fz (enc at')), (4, .ptr (125004, 0) 0), (17, .fz (enc l)), (18, .fz (.i .i64 l.length)), (19, .fz (.i .i64 i.i))], hpL [((125004, 0), some ⟨[.fz (.i .i64 0), .fz (.i .i64 0)], true, false⟩)], 1⟩, fun i => l.length - i.i⟩ ⟨0, by simp, e⟩ (by kernel_rfl) ?_ ?_
    · refine Weak_to ?_ ?_ ?_ <;> simp only [go_sem]
    · intro i
      have hi := i.hi
      have hp := i.hp
      simp only [go_sem]
      refine CondK.d (fun h2 => ?_) (fun h2 => ?_)
      · rw [chkGo_step h2] at hp
        simp only [go_sem, h2, getD_map_lt, R20, R19, R18, R17, R16, R15, R14, R13, R12, R11, R10, R9, R8, R7, R6, R5, R4, R3, R2, R1, Q20, Q19, Q18, Q17, Q16, Q15, Q14, Q13, Q12, Q11, Q10, Q9, Q8, Q7, Q6, Q5, Q4, Q3, Q2, Q1, Tbl0]
        refine CondK.i (fun h3 => ?_) (fun h3 => ?_)
        · rw [if_neg (by simp [h3])] at hp
          simp only [go_sem, h2, getD_map_lt, R20, R19, R18, R17, R16, R15, R14, R13, R12, R11, R10, R9, R8, R7, R6, R5, R4, R3, R2, R1, Q20, Q19, Q18, Q17, Q16, Q15, Q14, Q13, Q12, Q11, Q10, Q9, Q8, Q7, Q6, Q5, Q4, Q3, Q2, Q1, Tbl0]
          refine ReqK.i (by omega) fun _ => ?_
          simp only [go_sem, h2, getD_map_lt, R20, R19, R18, R17, R16, R15, R14, R13, R12, R11, R10, R9, R8, R7, R6, R5, R4, R3, R2, R1, Q20, Q19, Q18, Q17, Q16, Q15, Q14, Q13, Q12, Q11, Q10, Q9, Q8, Q7, Q6, Q5, Q4, Q3, Q2, Q1, Tbl0]
          refine CondK.d (fun h4 => ?_) (fun h4 => ?_)
          · rw [if_pos h4] at hp
            simp only [go_sem, Tryd.f125, hp]
          · rw [if_neg h4] at hp
            simp only [go_sem]
            refine ReqK.i (by omega) fun _ => ?_
            simp only [go_sem]
            refine ⟨⟨i.i + 1, by omega, hp⟩, by simp only; omega, ?_⟩
            refine Weak_to ?_ ?_ ?_ <;> simp only [go_sem]
        · rw [if_pos h3] at hp
          simp only [go_sem, Tryd.f125, hp]
      · have e2 : chkG l at' = ⟨0, 0⟩ := by rw [hp, List.drop_of_length_le (by omega), chkGo]
        simp only [go_sem, Tryd.f125, e2]
def R22 : Tbl := R21
theorem hR22 : TblOk Tryd.prog GA R22 := hR21
end Go.Proofs.YtoicheicnbjfeaaDoor
