import Derived.Test.YtomhobohcejocaaDoorQ39
set_option linter.unusedSimpArgs false
namespace Go.Proofs.YtomhobohcejocaaDoor
open Go Go.Abs Go.Proofs

section
variable {P : Program} {G : Nat → List FD} {T : Tbl}
/-- a recursive function of two arguments -/
theorem sp2_rec {α β ρ : Type} [Enc α] [Enc β] [Enc ρ] {f : FuncId} {g : α → β → ρ} (m : α → Nat) (hc : CallOk P f) (hT : TblOk P G T)
    (h : ∀ n, TblOk P G (T.add f (sp2 g fun a _ => m a < n)) → ∀ a b, m a = n → (enc a).Wf → (enc b).Wf → Wcall P G f [.fz (enc a), .fz (enc b)] (hpL []) 0 (fun d _ _ => D.val d = some (.fz (enc (g a b))))) : TblOk P G (T.add f (sp2 g fun _ _ => True)) := by
  have key : ∀ n, TblOk P G (T.add f (sp2 g fun a _ => m a < n)) := by
    intro n
    induction n with
    | zero => exact sp2_ok hc hT fun a _ ha => by omega
    | succ n ih =>
      refine sp2_ok hc hT fun a b ha hw hw2 => ?_
      rcases Nat.lt_or_ge (m a) n with h3 | h3
      · have h4 := ih f (sp2 g fun a _ => m a < n) [enc a, enc b] _ _ (by simp [Tbl.add]) (k_sp2) ⟨by rw [dec_enc], by rw [dec_enc], by rw [dec_enc]; exact h3⟩
        rw [dec_enc, dec_enc, H0_eq] at h4
        exact h4
      · exact h n ih a b (by omega) hw hw2
  exact sp2_ok hc hT fun a b _ hw hw2 => h (m a) (key _) a b rfl hw hw2
end
theorem form_ext {a b : Abs.Form} (h1 : a.kind = b.kind) (h2 : a.name = b.name) (h3 : a.words = b.words) (h4 : a.subs = b.subs) : a = b := by
  cases a; cases b; simp only [form_kind, form_name, form_words, form_subs] at *; subst h1 h2 h3 h4; rfl
theorem eq_of_take {α : Type} {a b : List α} (h : a.length = b.length) (h2 : a.take a.length = b.take a.length) : a = b := by
  rw [List.take_length] at h2
  rw [h, List.take_length] at h2
  exact h2
def R27 : Tbl := R26.add 41 (sp2 (fun a b : Abs.Form => decide (a = b)) fun _ _ => True)
set_option maxRecDepth 100000 in
set_option maxHeartbeats 1000000 in
theorem hR27 : TblOk Tryd.prog GA R27 := by
  refine sp2_rec Form.size ok41 hR26 fun n hT a b hn hwa hwb => ?_
  obtain ⟨Q, hQ⟩ : ∃ Q : D → Heap → Nat → Prop, Q = (fun d _ _ => D.val d = some (.fz (enc (decide (a = b))))) := ⟨_, rfl⟩
  rw [← hQ]
  have hf : a ≠ b → ∀ {H' n'}, Q (.fz (.b false)) H' n' := fun h H' n' => by rw [hQ]; show _ = some (D.fz (.b (decide (a = b)))); rw [decide_eq_false h]; rfl
  have ht : a = b → ∀ {H' n'}, Q (.fz (.b true)) H' n' := fun h H' n' => by rw [hQ]; show _ = some (D.fz (.b (decide (a = b)))); rw [decide_eq_true h]; rfl
  have hsl : a.subs.length ≤ maxL := by
    have h := Wf_agg (by have h := hwa; rw [enc_form] at h; exact h) (FD.sl (a.subs.map enc)) (by simp)
    have := Wf_sl h
    simpa using this
  unfold maxL at hsl
  have hsz : ∀ g ∈ a.subs, g.size < n := fun g hg => by have := Form.size_sub hg; omega
  have kf := Kp.mk @hf
  have kt := Kp.mk @ht
  have kz := Kp.mk hsz
  have kT := Kp.mk hT
  clear hf ht hQ hwa hwb hsz hT
  refine Wcall_K (N := 54) hm kT.out 41000 (lst []) ok41 Tryd.func41 rfl rfl (by simp) (by kernel_rfl) ?_
  repeat' (first | refine CondK.d (fun _ => ?_) (fun _ => ?_) | refine CondK.i (fun _ => ?_) (fun _ => ?_) | refine ReqK.i (by omega) fun _ => ?_ | simp only [go_sem, reduceIte, reduceCtorEq, Nat.reduceEqDiff, Nat.reduceAdd, Nat.reduceSub, Nat.reduceMul, Nat.reduceDiv, Nat.reduceMod, Nat.reduceLT, Nat.reduceLeDiff, Nat.reduceBEq, Nat.reducePow, Int.reduceLE, Int.reduceLT, Int.reduceEq, Int.reduceNeg, Int.reduceAdd, Int.reduceToNat, Tryd.f41, R26, R25, R24, R23, R22, R21, R20, R19, R18, R17, R16, R15, R14, R13, R12, R11, R10, R9, R8, R7, R6, R5, R4, R3, R2, R1, Q20, Q19, Q18, Q17, Q16, Q15, Q14, Q13, Q12, Q11, Q10, Q9, Q8, Q7, Q6, Q5, Q4, Q3, Q2, Q1, Tbl0, *])
  all_goals try (refine kf.out (fun e => ?_); subst e; contradiction)
  rename_i e1 e2 e3 e4
  have hlen : a.subs.length = b.subs.length := by omega
  refine WK_loop hm kT.out 41000 (lst []) (ι := LoopI a.subs.length fun i => a.subs.take i = b.subs.take i)
    ⟨fun q => ⟨frL [(2, .ptr (41002, 0) 0), (3, .ptr (41003, 1) 0), (37, .fz (.i .i64 a.subs.length)), (38, .fz (.i .i64 q.i))],
      hpL [((41002, 0), some ⟨[.fz (.i .i64 a.kind), .fz (.s a.name.l), .fz (.sl (a.words.map enc)), .fz (.sl (a.subs.map enc))], true, false⟩), ((41003, 1), some ⟨[.fz (.i .i64 b.kind), .fz (.s b.name.l), .fz (.sl (b.words.map enc)), .fz (.sl (b.subs.map enc))], true, false⟩)], 2⟩, fun q => a.subs.length - q.i⟩
    ⟨0, by omega, rfl⟩ (by kernel_rfl) ?_ ?_
  · refine Weak_to ?_ ?_ ?_ <;> simp only [go_sem, reduceIte, reduceCtorEq, Nat.reduceEqDiff, Nat.reduceAdd, Nat.reduceSub, Nat.reduceMul, Nat.reduceDiv, Nat.reduceMod, Nat.reduceLT, Nat.reduceLeDiff, Nat.reduceBEq, Nat.reducePow, Int.reduceLE, Int.reduceLT, Int.reduceEq, Int.reduceNeg, Int.reduceAdd, Int.reduceToNat, *]
  rintro ⟨i, hi, hpi⟩
  rcases Nat.lt_or_ge i a.subs.length with h1 | h1
  · have h2 : i < b.subs.length := by omega
    obtain ⟨x, hx⟩ : ∃ x, a.subs[i] = x := ⟨_, rfl⟩
    obtain ⟨y, hy⟩ : ∃ y, b.subs[i] = y := ⟨_, rfl⟩
    have hxs : x.size < n := kz.out x (by rw [← hx]; exact List.getElem_mem h1)
    by_cases hxy : x = y
    · repeat' (first | refine ReqK.i (by omega) fun _ => ?_ | simp only [go_sem, reduceIte, reduceCtorEq, Nat.reduceEqDiff, Nat.reduceAdd, Nat.reduceSub, Nat.reduceMul, Nat.reduceDiv, Nat.reduceMod, Nat.reduceLT, Nat.reduceLeDiff, Nat.reduceBEq, Nat.reducePow, Int.reduceLE, Int.reduceLT, Int.reduceEq, Int.reduceNeg, Int.reduceAdd, Int.reduceToNat, h1, h2, hx, hy, hxs, eq_true hxy, getD_map_lt, Tryd.f41, R26, R25, R24, R23, R22, R21, R20, R19, R18, R17, R16, R15, R14, R13, R12, R11, R10, R9, R8, R7, R6, R5, R4, R3, R2, R1, Q20, Q19, Q18, Q17, Q16, Q15, Q14, Q13, Q12, Q11, Q10, Q9, Q8, Q7, Q6, Q5, Q4, Q3, Q2, Q1, Tbl0])
      refine ⟨⟨i + 1, by omega, ?_⟩, by simp only; omega, ?_⟩
      · rw [List.take_succ_eq_append_getElem h1, List.take_succ_eq_append_getElem h2, hpi, hx, hy, hxy]
      · refine Weak_to ?_ ?_ ?_ <;> simp only [go_sem, reduceIte, reduceCtorEq, Nat.reduceEqDiff, Nat.reduceAdd, Nat.reduceSub, Nat.reduceMul, Nat.reduceDiv, Nat.reduceMod, Nat.reduceLT, Nat.reduceLeDiff, Nat.reduceBEq, Nat.reducePow, Int.reduceLE, Int.reduceLT, Int.reduceEq, Int.reduceNeg, Int.reduceAdd, Int.reduceToNat]
    · repeat' (first | refine ReqK.i (by omega) fun _ => ?_ | simp only [go_sem, reduceIte, reduceCtorEq, Nat.reduceEqDiff, Nat.reduceAdd, Nat.reduceSub, Nat.reduceMul, Nat.reduceDiv, Nat.reduceMod, Nat.reduceLT, Nat.reduceLeDiff, Nat.reduceBEq, Nat.reducePow, Int.reduceLE, Int.reduceLT, Int.reduceEq, Int.reduceNeg, Int.reduceAdd, Int.reduceToNat, h1, h2, hx, hy, hxs, eq_false hxy, getD_map_lt, Tryd.f41, R26, R25, R24, R23, R22, R21, R20, R19, R18, R17, R16, R15, R14, R13, R12, R11, R10, R9, R8, R7, R6, R5, R4, R3, R2, R1, Q20, Q19, Q18, Q17, Q16, Q15, Q14, Q13, Q12, Q11, Q10, Q9, Q8, Q7, Q6, Q5, Q4, Q3, Q2, Q1, Tbl0])
      exact kf.out fun e => hxy (by subst e; rw [← hx, ← hy])
  · have h1' : ¬ i < a.subs.length := by omega
    obtain rfl : i = a.subs.length := by omega
    repeat' (first | refine ReqK.i (by omega) fun _ => ?_ | simp only [go_sem, reduceIte, reduceCtorEq, Nat.reduceEqDiff, Nat.reduceAdd, Nat.reduceSub, Nat.reduceMul, Nat.reduceDiv, Nat.reduceMod, Nat.reduceLT, Nat.reduceLeDiff, Nat.reduceBEq, Nat.reducePow, Int.reduceLE, Int.reduceLT, Int.reduceEq, Int.reduceNeg, Int.reduceAdd, Int.reduceToNat, Nat.lt_irrefl, h1', Tryd.f41])
    exact kt.out (form_ext e1 e2 e3 (eq_of_take hlen hpi))

def twoM (k : Int) (f g : Abs.Form) : Abs.Form := .mk k ⟨[]⟩ [] [f, g]
def R28 : Tbl := R27.add 49 (sp3 twoM fun _ _ _ => True)
set_option maxRecDepth 100000 in
set_option maxHeartbeats 1000000 in
theorem hR28 : TblOk Tryd.prog GA R28 := by
  refine sp3_ok ok49 hR27 fun k f g _ _ _ _ => ?_
  simp only [twoM]
  refine Wcall_K (N := 12) hm hR27 49000 (lst []) ok49 Tryd.func49 rfl rfl (by simp) (by kernel_rfl) ?_
  repeat' (first | refine ReqK.i (by omega) fun _ => ?_ | refine ReqK.i (by unfold maxL; omega) fun _ => ?_ | simp only [go_sem, reduceIte, reduceCtorEq, Nat.reduceEqDiff, Nat.reduceAdd, Nat.reduceSub, Nat.reduceMul, Nat.reduceDiv, Nat.reduceMod, Nat.reduceLT, Nat.reduceLeDiff, Nat.reduceBEq, Nat.reducePow, Int.reduceLE, Int.reduceLT, Int.reduceEq, Int.reduceNeg, Int.reduceAdd, Int.reduceToNat, form_eta, Tryd.f49, R27, R26, R25, R24, R23, R22, R21, R20, R19, R18, R17, R16, R15, R14, R13, R12, R11, R10, R9, R8, R7, R6, R5, R4, R3, R2, R1, Q20, Q19, Q18, Q17, Q16, Q15, Q14, Q13, Q12, Q11, Q10, Q9, Q8, Q7, Q6, Q5, Q4, Q3, Q2, Q1, Tbl0])

/-! ## the law -/
theorem doneR_eq {f : Abs.Form} (h : clean f) : doneR f = doneF f := by
  unfold doneR doneF; rw [← canon_with h (by simp) (by simp)]
theorem each_clean {f : Abs.Form} {name : Str} {group : List Str} (h : (checkM false f).code = 0) (hg : ∀ x ∈ group, isName x = true) : clean (eachM f name group) := by
  refine joinM_clean 5 ((cleans_mem _).2 fun g hgm => ?_)
  obtain ⟨x, hx, rfl⟩ := List.mem_map.1 hgm
  exact canonM_clean (checkM_clean h) fun b hb => by
    obtain rfl := List.mem_singleton.1 hb
    exact name_bang (hg x hx)
theorem each_eq {f : Abs.Form} {name : Str} {group : List Str} (h : (checkM false f).code = 0) (hg : ∀ x ∈ group, isName x = true) : eachR f name group = eachM f name group := by
  unfold eachR eachM
  congr 1
  refine List.map_congr_left fun x hx => (canon_with (checkM_clean h) (by simp) fun b hb => ?_).symm
  obtain rfl := List.mem_singleton.1 hb
  exact name_bang (hg x hx)
theorem cum_clean {pred : Str} {a b : List Str} (ha : ∀ x ∈ a, isName x = true) (hb : ∀ x ∈ b, isName x = true) : clean (cumM pred a b) := by
  have hh : ∀ x y : Str, x ∈ a → y ∈ b → clean (holdsM pred x y) := fun x y hx hy => by
    simp only [holdsM, clean, cleans, List.mem_cons, List.not_mem_nil, or_false, and_true]
    rintro w (rfl | rfl)
    · exact name_bang (ha _ hx)
    · exact name_bang (hb _ hy)
  refine joinM_clean 5 ((cleans_mem _).2 fun g hg => ?_)
  rcases List.mem_append.1 hg with h | h
  · obtain ⟨x, hx, rfl⟩ := List.mem_map.1 h
    refine joinM_clean 6 ((cleans_mem _).2 fun g hg => ?_)
    obtain ⟨y, hy, rfl⟩ := List.mem_map.1 hg
    exact hh x y hx hy
  · obtain ⟨y, hy, rfl⟩ := List.mem_map.1 h
    refine joinM_clean 6 ((cleans_mem _).2 fun g hg => ?_)
    obtain ⟨x, hx, rfl⟩ := List.mem_map.1 hg
    exact hh x y hx hy
def sWalk : Str := ⟨[119, 97, 108, 107]⟩
def sKim : Str := ⟨[107, 105, 109]⟩
def sLee : Str := ⟨[108, 101, 101]⟩
def fWalk : Abs.Form := predM sWalk [sX]
def gWalk : Abs.Form := .mk 5 ⟨[]⟩ [] [predM sWalk [sKim], predM sWalk [sLee]]
theorem each_x : eachP fWalk sX [sKim, sLee] = (gWalk, ⟨0, 0⟩) := by kernel_rfl
theorem two_x : twoM 5 (predM sWalk [sKim]) (predM sWalk [sLee]) = gWalk := rfl
/-- how plural.Each can end -/
theorem each_cases (f : Abs.Form) (name : Str) (a : List Str) :
    (¬ (checkM false f).code = 0 ∧ eachP f name a = (zeroF, checkM false f)) ∨ ((checkM false f).code = 0 ∧ isName name = false ∧ eachP f name a = (zeroF, ⟨10, -2⟩)) ∨
    ((checkM false f).code = 0 ∧ isName name = true ∧ ¬ (chkG a (-3)).code = 0 ∧ eachP f name a = (zeroF, chkG a (-3))) ∨
    ((checkM false f).code = 0 ∧ isName name = true ∧ (chkG a (-3)).code = 0 ∧ eachP f name a = (doneF (eachM f name a), doneE (eachM f name a))) := by
  unfold eachP
  by_cases h1 : (checkM false f).code = 0
  · rw [if_neg (by simpa using h1)]
    cases h2 : isName name with
    | false => exact .inr (.inl ⟨h1, rfl, by rw [if_pos rfl]⟩)
    | true =>
      rw [if_neg (by simp)]
      by_cases h3 : (chkG a (-3)).code = 0
      · exact .inr (.inr (.inr ⟨h1, rfl, h3, by rw [if_neg (by simpa using h3)]⟩))
      · exact .inr (.inr (.inl ⟨h1, rfl, h3, by rw [if_pos h3]⟩))
  · exact .inl ⟨h1, by rw [if_pos h1]⟩
theorem cum_cases (pred : Str) (a b : List Str) :
    (isName pred = false ∧ cumP pred a b = (zeroF, ⟨10, -1⟩)) ∨ (isName pred = true ∧ ¬ (chkG a (-2)).code = 0 ∧ cumP pred a b = (zeroF, chkG a (-2))) ∨
    (isName pred = true ∧ (chkG a (-2)).code = 0 ∧ ¬ (chkG b (-3)).code = 0 ∧ cumP pred a b = (zeroF, chkG b (-3))) ∨
    (isName pred = true ∧ (chkG a (-2)).code = 0 ∧ (chkG b (-3)).code = 0 ∧ cumP pred a b = (doneF (cumM pred a b), doneE (cumM pred a b))) := by
  unfold cumP
  cases h1 : isName pred with
  | false => exact .inl ⟨rfl, by rw [if_pos rfl]⟩
  | true =>
    rw [if_neg (by simp)]
    by_cases h2 : (chkG a (-2)).code = 0
    · rw [if_neg (by simpa using h2)]
      by_cases h3 : (chkG b (-3)).code = 0
      · exact .inr (.inr (.inr ⟨rfl, h2, h3, by rw [if_neg (by simpa using h3)]⟩))
      · exact .inr (.inr (.inl ⟨rfl, h2, h3, by rw [if_pos h3]⟩))
    · exact .inr (.inl ⟨rfl, h2, by rw [if_pos h2]⟩)
theorem zero_mk : Abs.Form.mk 0 ⟨[]⟩ [] [] = zeroF := rfl
set_option maxRecDepth 100000 in
set_option maxHeartbeats 1000000 in
set_option maxHeartbeats 80000000 in
theorem lawF11 (hT : TblOk Tryd.prog GA R28) (f : Abs.Form) (name : Str) (a b : List Str) (_ : (enc f).Wf) (_ : (enc name).Wf) (_ : (enc a).Wf) (_ : (enc b).Wf) : Wcall Tryd.prog GA 11 [.fz (enc f), .fz (enc name), .fz (enc a), .fz (enc b)] (hpL []) 0 (fun d _ _ => d = .fz (.b true)) := by
  have dW : Str.mk [119, 97, 108, 107] = sWalk := rfl
  have dX : Str.mk [120] = sX := rfl
  have dK : Str.mk [107, 105, 109] = sKim := rfl
  have dL : Str.mk [108, 101, 101] = sLee := rfl
  have dF : predM sWalk [sX] = fWalk := rfl
  have zm := zero_mk
  refine Wcall_K (N := 122) hm hT 11000 (lst []) ok11 Tryd.func11 rfl rfl (by simp) (by kernel_rfl) ?_
  rcases each_cases f name a with ⟨h1, he⟩ | ⟨h1, h2, he⟩ | ⟨h1, h2, h3, he⟩ | ⟨h1, h2, h3, he⟩
  · rcases cum_cases name a b with ⟨k1, ke⟩ | ⟨k1, k2, ke⟩ | ⟨k1, k2, k3, ke⟩ | ⟨k1, k2, k3, ke⟩
    · repeat' (first | refine ReqK.i (by omega) fun _ => ?_ | refine ReqK.i (by unfold maxL; omega) fun _ => ?_ | refine ReqK.i ⟨rfl, rfl⟩ fun _ => ?_ | refine ReqK.i rfl fun _ => ?_ | refine ReqK.i ⟨rfl, rfl, rfl⟩ fun _ => ?_ | refine ReqK.i ⟨rfl, rfl, rfl, trivial⟩ fun _ => ?_ | simp only [go_sem, reduceIte, reduceCtorEq, Nat.reduceEqDiff, Nat.reduceAdd, Nat.reduceSub, Nat.reduceMul, Nat.reduceDiv, Nat.reduceMod, Nat.reduceLT, Nat.reduceLeDiff, Nat.reduceBEq, Nat.reducePow, Int.reduceLE, Int.reduceLT, Int.reduceEq, Int.reduceNeg, Int.reduceAdd, Int.reduceToNat, dW, dX, dK, dL, dF, each_x, two_x, zm, h1, he, k1, ke, str_eta, form_eta, GA, Tryd.f11, R28, R27, R26, R25, R24, R23, R22, R21, R20, R19, R18, R17, R16, R15, R14, R13, R12, R11, R10, R9, R8, R7, R6, R5, R4, R3, R2, R1, Q20, Q19, Q18, Q17, Q16, Q15, Q14, Q13, Q12, Q11, Q10, Q9, Q8, Q7, Q6, Q5, Q4, Q3, Q2, Q1, Tbl0])
    · repeat' (first | refine ReqK.i (by omega) fun _ => ?_ | refine ReqK.i (by unfold maxL; omega) fun _ => ?_ | refine ReqK.i ⟨rfl, rfl⟩ fun _ => ?_ | refine ReqK.i rfl fun _ => ?_ | refine ReqK.i ⟨rfl, rfl, rfl⟩ fun _ => ?_ | refine ReqK.i ⟨rfl, rfl, rfl, trivial⟩ fun _ => ?_ | simp only [go_sem, reduceIte, reduceCtorEq, Nat.reduceEqDiff, Nat.reduceAdd, Nat.reduceSub, Nat.reduceMul, Nat.reduceDiv, Nat.reduceMod, Nat.reduceLT, Nat.reduceLeDiff, Nat.reduceBEq, Nat.reducePow, Int.reduceLE, Int.reduceLT, Int.reduceEq, Int.reduceNeg, Int.reduceAdd, Int.reduceToNat, dW, dX, dK, dL, dF, each_x, two_x, zm, h1, he, k1, k2, ke, str_eta, form_eta, GA, Tryd.f11, R28, R27, R26, R25, R24, R23, R22, R21, R20, R19, R18, R17, R16, R15, R14, R13, R12, R11, R10, R9, R8, R7, R6, R5, R4, R3, R2, R1, Q20, Q19, Q18, Q17, Q16, Q15, Q14, Q13, Q12, Q11, Q10, Q9, Q8, Q7, Q6, Q5, Q4, Q3, Q2, Q1, Tbl0])
    · have k2e := (chkG_zero k2).1
      repeat' (first | refine ReqK.i (by omega) fun _ => ?_ | refine ReqK.i (by unfold maxL; omega) fun _ => ?_ | refine ReqK.i ⟨rfl, rfl⟩ fun _ => ?_ | refine ReqK.i rfl fun _ => ?_ | refine ReqK.i ⟨rfl, rfl, rfl⟩ fun _ => ?_ | refine ReqK.i ⟨rfl, rfl, rfl, trivial⟩ fun _ => ?_ | simp only [go_sem, reduceIte, reduceCtorEq, Nat.reduceEqDiff, Nat.reduceAdd, Nat.reduceSub, Nat.reduceMul, Nat.reduceDiv, Nat.reduceMod, Nat.reduceLT, Nat.reduceLeDiff, Nat.reduceBEq, Nat.reducePow, Int.reduceLE, Int.reduceLT, Int.reduceEq, Int.reduceNeg, Int.reduceAdd, Int.reduceToNat, dW, dX, dK, dL, dF, each_x, two_x, zm, h1, he, k1, k2, k2e, k3, ke, str_eta, form_eta, GA, Tryd.f11, R28, R27, R26, R25, R24, R23, R22, R21, R20, R19, R18, R17, R16, R15, R14, R13, R12, R11, R10, R9, R8, R7, R6, R5, R4, R3, R2, R1, Q20, Q19, Q18, Q17, Q16, Q15, Q14, Q13, Q12, Q11, Q10, Q9, Q8, Q7, Q6, Q5, Q4, Q3, Q2, Q1, Tbl0])
    · obtain ⟨k2e, ka1, ka5, kan⟩ := chkG_zero k2
      obtain ⟨k3e, kb1, kb5, kbn⟩ := chkG_zero k3
      have kpre : cumPre name a b := ⟨ka1, ka5, kb1, kb5⟩
      have kcl := doneR_eq (cum_clean (pred := name) kan kbn)
      have kfit : szPre (cumM name a b) := ⟨cum_fit, by have := cum_size (pred := name) ka5 kb5; omega⟩
      obtain ⟨U, hU⟩ : ∃ U, cumM name a b = U := ⟨_, rfl⟩
      rw [hU] at ke kcl kfit
      obtain ⟨u, hu⟩ : ∃ u, doneF U = u := ⟨_, rfl⟩
      rw [hu] at ke kcl
      obtain ⟨eu, heu⟩ : ∃ eu, doneE U = eu := ⟨_, rfl⟩
      rw [heu] at ke
      repeat' (first | refine ReqK.i kpre fun _ => ?_ | refine ReqK.i kfit fun _ => ?_ | refine ReqK.i (by omega) fun _ => ?_ | refine ReqK.i (by unfold maxL; omega) fun _ => ?_ | refine ReqK.i ⟨rfl, rfl⟩ fun _ => ?_ | refine ReqK.i rfl fun _ => ?_ | refine ReqK.i ⟨rfl, rfl, rfl⟩ fun _ => ?_ | refine ReqK.i ⟨rfl, rfl, rfl, trivial⟩ fun _ => ?_ | simp only [go_sem, reduceIte, reduceCtorEq, Nat.reduceEqDiff, Nat.reduceAdd, Nat.reduceSub, Nat.reduceMul, Nat.reduceDiv, Nat.reduceMod, Nat.reduceLT, Nat.reduceLeDiff, Nat.reduceBEq, Nat.reducePow, Int.reduceLE, Int.reduceLT, Int.reduceEq, Int.reduceNeg, Int.reduceAdd, Int.reduceToNat, dW, dX, dK, dL, dF, each_x, two_x, zm, h1, he, k1, k2, k2e, k3, k3e, hU, kcl, heu, ke, str_eta, form_eta, GA, Tryd.f11, R28, R27, R26, R25, R24, R23, R22, R21, R20, R19, R18, R17, R16, R15, R14, R13, R12, R11, R10, R9, R8, R7, R6, R5, R4, R3, R2, R1, Q20, Q19, Q18, Q17, Q16, Q15, Q14, Q13, Q12, Q11, Q10, Q9, Q8, Q7, Q6, Q5, Q4, Q3, Q2, Q1, Tbl0])
  · rcases cum_cases name a b with ⟨k1, ke⟩ | ⟨k1, k2, ke⟩ | ⟨k1, k2, k3, ke⟩ | ⟨k1, k2, k3, ke⟩
    · have h1e := checkM_code h1
      repeat' (first | refine ReqK.i (by omega) fun _ => ?_ | refine ReqK.i (by unfold maxL; omega) fun _ => ?_ | refine ReqK.i ⟨rfl, rfl⟩ fun _ => ?_ | refine ReqK.i rfl fun _ => ?_ | refine ReqK.i ⟨rfl, rfl, rfl⟩ fun _ => ?_ | refine ReqK.i ⟨rfl, rfl, rfl, trivial⟩ fun _ => ?_ | simp only [go_sem, reduceIte, reduceCtorEq, Nat.reduceEqDiff, Nat.reduceAdd, Nat.reduceSub, Nat.reduceMul, Nat.reduceDiv, Nat.reduceMod, Nat.reduceLT, Nat.reduceLeDiff, Nat.reduceBEq, Nat.reducePow, Int.reduceLE, Int.reduceLT, Int.reduceEq, Int.reduceNeg, Int.reduceAdd, Int.reduceToNat, dW, dX, dK, dL, dF, each_x, two_x, zm, h1, h1e, h2, he, ke, str_eta, form_eta, GA, Tryd.f11, R28, R27, R26, R25, R24, R23, R22, R21, R20, R19, R18, R17, R16, R15, R14, R13, R12, R11, R10, R9, R8, R7, R6, R5, R4, R3, R2, R1, Q20, Q19, Q18, Q17, Q16, Q15, Q14, Q13, Q12, Q11, Q10, Q9, Q8, Q7, Q6, Q5, Q4, Q3, Q2, Q1, Tbl0])
    · rw [h2] at k1; cases k1
    · rw [h2] at k1; cases k1
    · rw [h2] at k1; cases k1
  · rcases cum_cases name a b with ⟨k1, ke⟩ | ⟨k1, k2, ke⟩ | ⟨k1, k2, k3, ke⟩ | ⟨k1, k2, k3, ke⟩
    · rw [h2] at k1; cases k1
    · have h1e := checkM_code h1
      repeat' (first | refine ReqK.i (by omega) fun _ => ?_ | refine ReqK.i (by unfold maxL; omega) fun _ => ?_ | refine ReqK.i ⟨rfl, rfl⟩ fun _ => ?_ | refine ReqK.i rfl fun _ => ?_ | refine ReqK.i ⟨rfl, rfl, rfl⟩ fun _ => ?_ | refine ReqK.i ⟨rfl, rfl, rfl, trivial⟩ fun _ => ?_ | simp only [go_sem, reduceIte, reduceCtorEq, Nat.reduceEqDiff, Nat.reduceAdd, Nat.reduceSub, Nat.reduceMul, Nat.reduceDiv, Nat.reduceMod, Nat.reduceLT, Nat.reduceLeDiff, Nat.reduceBEq, Nat.reducePow, Int.reduceLE, Int.reduceLT, Int.reduceEq, Int.reduceNeg, Int.reduceAdd, Int.reduceToNat, dW, dX, dK, dL, dF, each_x, two_x, zm, h1, h1e, h2, h3, he, k2, ke, str_eta, form_eta, GA, Tryd.f11, R28, R27, R26, R25, R24, R23, R22, R21, R20, R19, R18, R17, R16, R15, R14, R13, R12, R11, R10, R9, R8, R7, R6, R5, R4, R3, R2, R1, Q20, Q19, Q18, Q17, Q16, Q15, Q14, Q13, Q12, Q11, Q10, Q9, Q8, Q7, Q6, Q5, Q4, Q3, Q2, Q1, Tbl0])
    · have h1e := checkM_code h1
      have k2e := (chkG_zero k2).1
      repeat' (first | refine ReqK.i (by omega) fun _ => ?_ | refine ReqK.i (by unfold maxL; omega) fun _ => ?_ | refine ReqK.i ⟨rfl, rfl⟩ fun _ => ?_ | refine ReqK.i rfl fun _ => ?_ | refine ReqK.i ⟨rfl, rfl, rfl⟩ fun _ => ?_ | refine ReqK.i ⟨rfl, rfl, rfl, trivial⟩ fun _ => ?_ | simp only [go_sem, reduceIte, reduceCtorEq, Nat.reduceEqDiff, Nat.reduceAdd, Nat.reduceSub, Nat.reduceMul, Nat.reduceDiv, Nat.reduceMod, Nat.reduceLT, Nat.reduceLeDiff, Nat.reduceBEq, Nat.reducePow, Int.reduceLE, Int.reduceLT, Int.reduceEq, Int.reduceNeg, Int.reduceAdd, Int.reduceToNat, dW, dX, dK, dL, dF, each_x, two_x, zm, h1, h1e, h2, h3, he, k2, k2e, k3, ke, str_eta, form_eta, GA, Tryd.f11, R28, R27, R26, R25, R24, R23, R22, R21, R20, R19, R18, R17, R16, R15, R14, R13, R12, R11, R10, R9, R8, R7, R6, R5, R4, R3, R2, R1, Q20, Q19, Q18, Q17, Q16, Q15, Q14, Q13, Q12, Q11, Q10, Q9, Q8, Q7, Q6, Q5, Q4, Q3, Q2, Q1, Tbl0])
    · have h1e := checkM_code h1
      obtain ⟨k2e, ka1, ka5, kan⟩ := chkG_zero k2
      obtain ⟨k3e, kb1, kb5, kbn⟩ := chkG_zero k3
      have kpre : cumPre name a b := ⟨ka1, ka5, kb1, kb5⟩
      have kcl := doneR_eq (cum_clean (pred := name) kan kbn)
      have kfit : szPre (cumM name a b) := ⟨cum_fit, by have := cum_size (pred := name) ka5 kb5; omega⟩
      obtain ⟨U, hU⟩ : ∃ U, cumM name a b = U := ⟨_, rfl⟩
      rw [hU] at ke kcl kfit
      obtain ⟨u, hu⟩ : ∃ u, doneF U = u := ⟨_, rfl⟩
      rw [hu] at ke kcl
      obtain ⟨eu, heu⟩ : ∃ eu, doneE U = eu := ⟨_, rfl⟩
      rw [heu] at ke
      repeat' (first | refine ReqK.i kpre fun _ => ?_ | refine ReqK.i kfit fun _ => ?_ | refine ReqK.i (by omega) fun _ => ?_ | refine ReqK.i (by unfold maxL; omega) fun _ => ?_ | refine ReqK.i ⟨rfl, rfl⟩ fun _ => ?_ | refine ReqK.i rfl fun _ => ?_ | refine ReqK.i ⟨rfl, rfl, rfl⟩ fun _ => ?_ | refine ReqK.i ⟨rfl, rfl, rfl, trivial⟩ fun _ => ?_ | simp only [go_sem, reduceIte, reduceCtorEq, Nat.reduceEqDiff, Nat.reduceAdd, Nat.reduceSub, Nat.reduceMul, Nat.reduceDiv, Nat.reduceMod, Nat.reduceLT, Nat.reduceLeDiff, Nat.reduceBEq, Nat.reducePow, Int.reduceLE, Int.reduceLT, Int.reduceEq, Int.reduceNeg, Int.reduceAdd, Int.reduceToNat, dW, dX, dK, dL, dF, each_x, two_x, zm, h1, h1e, h2, h3, he, k2, k2e, k3, k3e, hU, kcl, heu, ke, str_eta, form_eta, GA, Tryd.f11, R28, R27, R26, R25, R24, R23, R22, R21, R20, R19, R18, R17, R16, R15, R14, R13, R12, R11, R10, R9, R8, R7, R6, R5, R4, R3, R2, R1, Q20, Q19, Q18, Q17, Q16, Q15, Q14, Q13, Q12, Q11, Q10, Q9, Q8, Q7, Q6, Q5, Q4, Q3, Q2, Q1, Tbl0])
  · rcases cum_cases name a b with ⟨k1, ke⟩ | ⟨k1, k2, ke⟩ | ⟨k1, k2, k3, ke⟩ | ⟨k1, k2, k3, ke⟩
    · rw [h2] at k1; cases k1
    · have h1e := checkM_code h1
      obtain ⟨h3e, ha1, ha5, han⟩ := chkG_zero h3
      have hpre : eachPre f name a := ⟨checkM_fit h1, checkM_size h1, ha1, ha5⟩
      have heq := each_eq (name := name) h1 han
      have hcl := doneR_eq (each_clean (name := name) h1 han)
      have hfit := each_fit (name := name) h1 ha5
      rw [← heq] at he hcl hfit
      obtain ⟨E, hE⟩ : ∃ E, eachR f name a = E := ⟨_, rfl⟩
      rw [hE] at he hcl hfit
      obtain ⟨c, hc⟩ : ∃ c, doneF E = c := ⟨_, rfl⟩
      rw [hc] at he hcl
      obtain ⟨ec, hec⟩ : ∃ ec, doneE E = ec := ⟨_, rfl⟩
      rw [hec] at he
      repeat' (first | refine ReqK.i hpre fun _ => ?_ | refine ReqK.i hfit fun _ => ?_ | refine ReqK.i (by omega) fun _ => ?_ | refine ReqK.i (by unfold maxL; omega) fun _ => ?_ | refine ReqK.i ⟨rfl, rfl⟩ fun _ => ?_ | refine ReqK.i rfl fun _ => ?_ | refine ReqK.i ⟨rfl, rfl, rfl⟩ fun _ => ?_ | refine ReqK.i ⟨rfl, rfl, rfl, trivial⟩ fun _ => ?_ | simp only [go_sem, reduceIte, reduceCtorEq, Nat.reduceEqDiff, Nat.reduceAdd, Nat.reduceSub, Nat.reduceMul, Nat.reduceDiv, Nat.reduceMod, Nat.reduceLT, Nat.reduceLeDiff, Nat.reduceBEq, Nat.reducePow, Int.reduceLE, Int.reduceLT, Int.reduceEq, Int.reduceNeg, Int.reduceAdd, Int.reduceToNat, dW, dX, dK, dL, dF, each_x, two_x, zm, h1, h1e, h2, h3, h3e, hE, hcl, hec, he, k2, ke, str_eta, form_eta, GA, Tryd.f11, R28, R27, R26, R25, R24, R23, R22, R21, R20, R19, R18, R17, R16, R15, R14, R13, R12, R11, R10, R9, R8, R7, R6, R5, R4, R3, R2, R1, Q20, Q19, Q18, Q17, Q16, Q15, Q14, Q13, Q12, Q11, Q10, Q9, Q8, Q7, Q6, Q5, Q4, Q3, Q2, Q1, Tbl0])
    · have h1e := checkM_code h1
      obtain ⟨h3e, ha1, ha5, han⟩ := chkG_zero h3
      have hpre : eachPre f name a := ⟨checkM_fit h1, checkM_size h1, ha1, ha5⟩
      have heq := each_eq (name := name) h1 han
      have hcl := doneR_eq (each_clean (name := name) h1 han)
      have hfit := each_fit (name := name) h1 ha5
      rw [← heq] at he hcl hfit
      obtain ⟨E, hE⟩ : ∃ E, eachR f name a = E := ⟨_, rfl⟩
      rw [hE] at he hcl hfit
      obtain ⟨c, hc⟩ : ∃ c, doneF E = c := ⟨_, rfl⟩
      rw [hc] at he hcl
      obtain ⟨ec, hec⟩ : ∃ ec, doneE E = ec := ⟨_, rfl⟩
      rw [hec] at he
      have k2e := (chkG_zero k2).1
      repeat' (first | refine ReqK.i hpre fun _ => ?_ | refine ReqK.i hfit fun _ => ?_ | refine ReqK.i (by omega) fun _ => ?_ | refine ReqK.i (by unfold maxL; omega) fun _ => ?_ | refine ReqK.i ⟨rfl, rfl⟩ fun _ => ?_ | refine ReqK.i rfl fun _ => ?_ | refine ReqK.i ⟨rfl, rfl, rfl⟩ fun _ => ?_ | refine ReqK.i ⟨rfl, rfl, rfl, trivial⟩ fun _ => ?_ | simp only [go_sem, reduceIte, reduceCtorEq, Nat.reduceEqDiff, Nat.reduceAdd, Nat.reduceSub, Nat.reduceMul, Nat.reduceDiv, Nat.reduceMod, Nat.reduceLT, Nat.reduceLeDiff, Nat.reduceBEq, Nat.reducePow, Int.reduceLE, Int.reduceLT, Int.reduceEq, Int.reduceNeg, Int.reduceAdd, Int.reduceToNat, dW, dX, dK, dL, dF, each_x, two_x, zm, h1, h1e, h2, h3, h3e, hE, hcl, hec, he, k2, k2e, k3, ke, str_eta, form_eta, GA, Tryd.f11, R28, R27, R26, R25, R24, R23, R22, R21, R20, R19, R18, R17, R16, R15, R14, R13, R12, R11, R10, R9, R8, R7, R6, R5, R4, R3, R2, R1, Q20, Q19, Q18, Q17, Q16, Q15, Q14, Q13, Q12, Q11, Q10, Q9, Q8, Q7, Q6, Q5, Q4, Q3, Q2, Q1, Tbl0])
    · have h1e := checkM_code h1
      obtain ⟨h3e, ha1, ha5, han⟩ := chkG_zero h3
      have hpre : eachPre f name a := ⟨checkM_fit h1, checkM_size h1, ha1, ha5⟩
      have heq := each_eq (name := name) h1 han
      have hcl := doneR_eq (each_clean (name := name) h1 han)
      have hfit := each_fit (name := name) h1 ha5
      rw [← heq] at he hcl hfit
      obtain ⟨E, hE⟩ : ∃ E, eachR f name a = E := ⟨_, rfl⟩
      rw [hE] at he hcl hfit
      obtain ⟨c, hc⟩ : ∃ c, doneF E = c := ⟨_, rfl⟩
      rw [hc] at he hcl
      obtain ⟨ec, hec⟩ : ∃ ec, doneE E = ec := ⟨_, rfl⟩
      rw [hec] at he
      obtain ⟨k2e, ka1, ka5, kan⟩ := chkG_zero k2
      obtain ⟨k3e, kb1, kb5, kbn⟩ := chkG_zero k3
      have kpre : cumPre name a b := ⟨ka1, ka5, kb1, kb5⟩
      have kcl := doneR_eq (cum_clean (pred := name) kan kbn)
      have kfit : szPre (cumM name a b) := ⟨cum_fit, by have := cum_size (pred := name) ka5 kb5; omega⟩
      obtain ⟨U, hU⟩ : ∃ U, cumM name a b = U := ⟨_, rfl⟩
      rw [hU] at ke kcl kfit
      obtain ⟨u, hu⟩ : ∃ u, doneF U = u := ⟨_, rfl⟩
      rw [hu] at ke kcl
      obtain ⟨eu, heu⟩ : ∃ eu, doneE U = eu := ⟨_, rfl⟩
      rw [heu] at ke
      repeat' (first | refine ReqK.i hpre fun _ => ?_ | refine ReqK.i hfit fun _ => ?_ | refine ReqK.i kpre fun _ => ?_ | refine ReqK.i kfit fun _ => ?_ | refine ReqK.i (by omega) fun _ => ?_ | refine ReqK.i (by unfold maxL; omega) fun _ => ?_ | refine ReqK.i ⟨rfl, rfl⟩ fun _ => ?_ | refine ReqK.i rfl fun _ => ?_ | refine ReqK.i ⟨rfl, rfl, rfl⟩ fun _ => ?_ | refine ReqK.i ⟨rfl, rfl, rfl, trivial⟩ fun _ => ?_ | simp only [go_sem, reduceIte, reduceCtorEq, Nat.reduceEqDiff, Nat.reduceAdd, Nat.reduceSub, Nat.reduceMul, Nat.reduceDiv, Nat.reduceMod, Nat.reduceLT, Nat.reduceLeDiff, Nat.reduceBEq, Nat.reducePow, Int.reduceLE, Int.reduceLT, Int.reduceEq, Int.reduceNeg, Int.reduceAdd, Int.reduceToNat, dW, dX, dK, dL, dF, each_x, two_x, zm, h1, h1e, h2, h3, h3e, hE, hcl, hec, he, k2, k2e, k3, k3e, hU, kcl, heu, ke, str_eta, form_eta, GA, Tryd.f11, R28, R27, R26, R25, R24, R23, R22, R21, R20, R19, R18, R17, R16, R15, R14, R13, R12, R11, R10, R9, R8, R7, R6, R5, R4, R3, R2, R1, Q20, Q19, Q18, Q17, Q16, Q15, Q14, Q13, Q12, Q11, Q10, Q9, Q8, Q7, Q6, Q5, Q4, Q3, Q2, Q1, Tbl0])

end Go.Proofs.YtomhobohcejocaaDoor
