import Derived.Test.YtoicheicnbjfeaaDoorAT
import Derived.Test.YtoicheicnbjfeaaDoorQ36
set_option linter.unusedSimpArgs false
namespace Go.Proofs.YtoicheicnbjfeaaDoor
open Go Go.Abs Go.Proofs

section
variable {P : Program} {G : Nat → List FD} {T : Tbl}
/-- a recursive function of two arguments -/
theorem sp2_rec {α β ρ : Type} [Enc α] [Enc β] [Enc ρ] {f : FuncId} {g : α → β → ρ} (m : α → Nat) (hc : CallOk P f) (hT : TblOk P G T)
    (h : ∀ n, TblOk P G (T.add f (sp2 g fun a _ => m a < n)) → ∀ a b, m a = n → (enc a).Wf → (enc b).Wf → Wcall P G f [.fz (enc a), .fz (enc b)] (hpL []) 0 (fun d _ _ => D.val d = some (.fz (enc (g a b))))) : TblOk P G (T.add f (sp2 g fun _ _ => True)) := by
  have key : ∀ n, TblOk P G (T.add f (sp2 g fun a _ => m a < n)) := by
    intro n
    induction n with
    | zero => exact sp2_ok hc hT fun a _ ha => by omega
    | succ n ih =>
      refine sp2_ok hc hT fun a b ha hw hw2 => ?_
      rcases Nat.lt_or_ge (m a) n with h3 | h3
      · have h4 := ih f (sp2 g fun a _ => m a < n) [enc a, enc b] _ _ (by simp [Tbl.add]) (k_sp2) ⟨by rw [dec_enc], by rw [dec_enc], by rw [dec_enc]; exact h3⟩
        rw [dec_enc, dec_enc, H0_eq] at h4
        exact h4
      · exact h n ih a b (by omega) hw hw2
  exact sp2_ok hc hT fun a b _ hw hw2 => h (m a) (key _) a b rfl hw hw2
end
theorem form_ext {a b : Abs.Form} (h1 : a.kind = b.kind) (h2 : a.name = b.name) (h3 : a.words = b.words) (h4 : a.subs = b.subs) : a = b := by
  cases a; cases b; simp only [form_kind, form_name, form_words, form_subs] at *; subst h1 h2 h3 h4; rfl
theorem eq_of_take {α : Type} {a b : List α} (h : a.length = b.length) (h2 : a.take a.length = b.take a.length) : a = b := by
  rw [List.take_length] at h2
  rw [h, List.take_length] at h2
  exact h2
def R27 : Tbl := R22.add 38 (sp2 (fun a b : Abs.Form => decide (a = b)) fun _ _ => True)
set_option maxRecDepth 100000 in
set_option maxHeartbeats 1000000 in
theorem hR27 : TblOk Tryd.prog GA R27 := by
  refine sp2_rec Form.size ok38 hR22 fun n hT a b hn hwa hwb => ?_
  obtain ⟨Q, hQ⟩ : ∃ Q : D → Heap → Nat → Prop, Q = (fun d _ _ => D.val d = some (.fz (enc (decide (a = b))))) := ⟨_, rfl⟩
  rw [← hQ]
  have hf : a ≠ b → ∀ {H' n'}, Q (.fz (.b false)) H' n' := fun h H' n' => by rw [hQ]; show _ = some (D.fz (.b (decide (a = b)))); rw [decide_eq_false h]; rfl
  have ht : a = b → ∀ {H' n'}, Q (.fz (.b true)) H' n' := fun h H' n' => by rw [hQ]; show _ = some (D.fz (.b (decide (a = b)))); rw [decide_eq_true h]; rfl
  have hsl : a.subs.length ≤ maxL := by
    have h := Wf_agg (by have h := hwa; rw [enc_form] at h; exact h) (FD.sl (a.subs.map enc)) (by simp)
    have := Wf_sl h
    simpa using this
  unfold maxL at hsl
  have hsz : ∀ g ∈ a.subs, g.size < n := fun g hg => by have := Form.size_sub hg; omega
  have kf := Kp.mk @hf
  have kt := Kp.mk @ht
  have kz := Kp.mk hsz
  have kT := Kp.mk hT
  clear hf ht hQ hwa hwb hsz hT
  refine Wcall_K (N := 54) hm kT.out 38000 (lst []) ok38 Tryd.func38 rfl rfl (by simp) (by kernel_rfl) ?_
  repeat' (first | refine CondK.d (fun _ => ?_) (fun _ => ?_) | refine CondK.i (fun _ => ?_) (fun _ => ?_) | refine ReqK.i (by omega) fun _ => ?_ | simp only [go_sem, Tryd.f38, R22, R21, R20, R19, R18, R17, R16, R15, R14, R13, R12, R11, R10, R9, R8, R7, R6, R5, R4, R3, R2, R1, Q20, Q19, Q18, Q17, Q16, Q15, Q14, Q13, Q12, Q11, Q10, Q9, Q8, Q7, Q6, Q5, Q4, Q3, Q2, Q1, Tbl0, *])
  all_goals try (refine kf.out (fun e => ?_); subst e; contradiction)
  rename_i e1 e2 e3 e4
  have hlen : a.subs.length = b.subs.length := by omega
  refine WK_loop hm kT.out 38000 (lst []) (ι := LoopI a.subs.length fun i => a.subs.take i = b.subs.take i)
    ⟨fun q => ⟨frL [(2, .ptr (38002, 0) 0), (3, .ptr (38003, 1) 0), (37, .fz (.i .i64 a.subs.length)), (38, .fz (.i .i64 q.i))],
      hpL [((38002, 0), some ⟨[.fz (.i .i64 a.kind), .fz (.s a.name.l), .fz (.sl (a.words.map enc)), .fz (.sl (a.subs.map enc))], true, false⟩), ((38003, 1), some ⟨[.fz (.i .i64 b.kind), .fz (.s b.name.l), .fz (.sl (b.words.map enc)), .fz (.sl (b.subs.map enc))], true, false⟩)], 2⟩, fun q => a.subs.length - q.i⟩
    ⟨0, by omega, rfl⟩ (by kernel_rfl) ?_ ?_
  · refine Weak_to ?_ ?_ ?_ <;> simp only [go_sem, *]
  rintro ⟨i, hi, hpi⟩
  rcases Nat.lt_or_ge i a.subs.length with h1 | h1
  · have h2 : i < b.subs.length := by omega
    obtain ⟨x, hx⟩ : ∃ x, a.subs[i] = x := ⟨_, rfl⟩
    obtain ⟨y, hy⟩ : ∃ y, b.subs[i] = y := ⟨_, rfl⟩
    have hxs : x.size < n := kz.out x (by rw [← hx]; exact List.getElem_mem h1)
    by_cases hxy : x = y
    · repeat' (first | refine ReqK.i (by omega) fun _ => ?_ | simp only [go_sem, h1, h2, hx, hy, hxs, eq_true hxy, getD_map_lt, Tryd.f38, R22, R21, R20, R19, R18, R17, R16, R15, R14, R13, R12, R11, R10, R9, R8, R7, R6, R5, R4, R3, R2, R1, Q20, Q19, Q18, Q17, Q16, Q15, Q14, Q13, Q12, Q11, Q10, Q9, Q8, Q7, Q6, Q5, Q4, Q3, Q2, Q1, Tbl0])
      refine ⟨⟨i + 1, by omega, ?_⟩, by simp only; omega, ?_⟩
      · rw [List.take_succ_eq_append_getElem h1, List.take_succ_eq_append_getElem h2, hpi, hx, hy, hxy]
      · refine Weak_to ?_ ?_ ?_ <;> simp only [go_sem]
    · repeat' (first | refine ReqK.i (by omega) fun _ => ?_ | simp only [go_sem, h1, h2, hx, hy, hxs, eq_false hxy, getD_map_lt, Tryd.f38, R22, R21, R20, R19, R18, R17, R16, R15, R14, R13, R12, R11, R10, R9, R8, R7, R6, R5, R4, R3, R2, R1, Q20, Q19, Q18, Q17, Q16, Q15, Q14, Q13, Q12, Q11, Q10, Q9, Q8, Q7, Q6, Q5, Q4, Q3, Q2, Q1, Tbl0])
      exact kf.out fun e => hxy (by subst e; rw [← hx, ← hy])
  · have h1' : ¬ i < a.subs.length := by omega
    obtain rfl : i = a.subs.length := by omega
    repeat' (first | refine ReqK.i (by omega) fun _ => ?_ | simp only [go_sem, Nat.lt_irrefl, h1', Tryd.f38])
    exact kt.out (form_ext e1 e2 e3 (eq_of_take hlen hpi))

def twoM (k : Int) (f g : Abs.Form) : Abs.Form := .mk k ⟨[]⟩ [] [f, g]
def R28 : Tbl := R27.add 36 (sp3 twoM fun _ _ _ => True)
set_option maxRecDepth 100000 in
set_option maxHeartbeats 1000000 in
theorem hR28 : TblOk Tryd.prog GA R28 := by
  refine sp3_ok ok36 hR27 fun k f g _ _ _ _ => ?_
  simp only [twoM]
  refine Wcall_K (N := 12) hm hR27 36000 (lst []) ok36 Tryd.func36 rfl rfl (by simp) (by kernel_rfl) ?_
  repeat' (first | refine ReqK.i (by omega) fun _ => ?_ | refine ReqK.i (by unfold maxL; omega) fun _ => ?_ | simp only [go_sem, form_eta, Tryd.f36, R27, R22, R21, R20, R19, R18, R17, R16, R15, R14, R13, R12, R11, R10, R9, R8, R7, R6, R5, R4, R3, R2, R1, Q20, Q19, Q18, Q17, Q16, Q15, Q14, Q13, Q12, Q11, Q10, Q9, Q8, Q7, Q6, Q5, Q4, Q3, Q2, Q1, Tbl0])

def tree503 : Tv := (.q 0 (.br [(1, (.br [(2, (.br [(3, .leaf)]))])), (2, (.q 1 (.br [(3, .leaf)])))]))
theorem doneR_eq {f : Abs.Form} (h : clean f) : doneR f = doneF f := by
  unfold doneR doneF; rw [← canon_with h (by simp) (by simp)]
def sWalk : Str := ⟨[119, 97, 108, 107]⟩
def sKim : Str := ⟨[107, 105, 109]⟩
end Go.Proofs.YtoicheicnbjfeaaDoor
