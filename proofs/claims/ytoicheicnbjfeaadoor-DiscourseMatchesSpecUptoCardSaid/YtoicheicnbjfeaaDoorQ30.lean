import Derived.Test.YtoicheicnbjfeaaDoorAT
import Derived.Test.YtoicheicnbjfeaaDoorQ29
set_option linter.unusedSimpArgs false
namespace Go.Proofs.YtoicheicnbjfeaaDoor
open Go Go.Abs Go.Proofs

/-! ## the document's Put -/
def twN (l : List Str) (s : Str) : Nat := (l.takeWhile fun x => decide (x.l < s.l)).length
theorem twN_cons {x s : Str} {l : List Str} : twN (x :: l) s = if x.l < s.l then twN l s + 1 else 0 := by
  unfold twN
  by_cases h : x.l < s.l
  · rw [List.takeWhile_cons_of_pos (by simpa using h), if_pos h, List.length_cons]
  · rw [List.takeWhile_cons_of_neg (by simpa using h), if_neg h]; rfl
theorem twN_le (s : Str) : ∀ l : List Str, twN l s ≤ l.length
  | [] => Nat.le_refl _
  | x :: l => by
    rw [twN_cons]
    have := twN_le s l
    split <;> simp only [List.length_cons] <;> omega
theorem twN_lt {s : Str} : ∀ {l : List Str} {i : Nat} (h : i < l.length), i < twN l s → l[i].l < s.l
  | x :: l, 0, _, h2 => by
    rw [twN_cons] at h2
    split at h2
    · assumption
    · omega
  | x :: l, i + 1, h, h2 => by
    rw [twN_cons] at h2
    split at h2
    · exact twN_lt (l := l) (by simpa using h) (by omega)
    · omega
theorem twN_at {s : Str} : ∀ {l : List Str} {i : Nat} (h : i < l.length), i = twN l s → ¬ l[i].l < s.l
  | x :: l, 0, _, h2 => by
    rw [twN_cons] at h2
    split at h2
    · omega
    · assumption
  | x :: l, i + 1, h, h2 => by
    rw [twN_cons] at h2
    split at h2
    · exact twN_at (l := l) (by simpa using h) (by omega)
    · omega
theorem bytesLess_lt : ∀ x y : List UInt8, Op.bytesLess x y = decide (x < y)
  | [], [] => by simp [Op.bytesLess]
  | _ :: _, [] => by simp [Op.bytesLess]
  | [], _ :: _ => by simp [Op.bytesLess]
  | a :: x, b :: y => by
    rw [Op.bytesLess, bytesLess_lt x y]
    by_cases h1 : a < b <;> by_cases h2 : a = b <;> simp [h1, h2, List.cons_lt_cons_iff]
theorem cut_toM {α : Type} [Enc α] {l : List α} {i : Nat} : cutFD (l.map enc) (i : Int) (l.length : Int) = (l.drop i).map enc := by
  have h := @cut_to (l.map enc) i
  rw [List.length_map] at h; rw [h, List.map_drop]
def R6 : Tbl := R5.add 205 (sp2 putR fun l _ => l.length ≤ 1000000)
set_option maxRecDepth 100000 in
set_option maxHeartbeats 1000000 in
theorem hR6 : TblOk Tryd.prog GA R6 := by
  refine sp2_ok ok205 hR5 fun l s hl _ _ => ?_
  by_cases hin : s ∈ l
  · have e : putR l s = l := by unfold putR; rw [if_pos hin]
    rw [e]
    refine Wcall_K (N := 39) hm hR5 205000 (lsw [29, 33, 38] []) ok205 Tryd.func205 rfl rfl (by simp) (by kernel_rfl) ?_
    repeat' (first | refine ReqK.i (by omega) fun _ => ?_ | simp only [go_sem, hin, Tryd.f205, R5, R4, R3, R2, R1, Q20, Q19, Q18, Q17, Q16, Q15, Q14, Q13, Q12, Q11, Q10, Q9, Q8, Q7, Q6, Q5, Q4, Q3, Q2, Q1, Tbl0])
  · have e : putR l s = l.take (twN l s) ++ [s] ++ l.drop (twN l s) := by unfold putR; rw [if_neg hin]; rfl
    rw [e]
    clear e
    have hlt : ∀ i (h : i < l.length), i < twN l s → Op.bytesLess l[i].l s.l = true := fun i h h2 => by rw [bytesLess_lt]; exact decide_eq_true (twN_lt h h2)
    have hat : ∀ i (h : i < l.length), i = twN l s → Op.bytesLess l[i].l s.l = false := fun i h h2 => by rw [bytesLess_lt]; exact decide_eq_false (twN_at h h2)
    have htl := twN_le s l
    obtain ⟨T, hT⟩ : ∃ T, twN l s = T := ⟨_, rfl⟩
    rw [hT] at hlt hat htl ⊢
    clear hT
    have kl := Kp.mk hlt
    have ka := Kp.mk hat
    clear hlt hat
    refine Wcall_K (N := 39) hm hR5 205000 (lsw [29, 33, 38] []) ok205 Tryd.func205 rfl rfl (by simp) (by kernel_rfl) ?_
    repeat' (first | refine ReqK.i (by omega) fun _ => ?_ | simp only [go_sem, hin, Tryd.f205, R5, R4, R3, R2, R1, Q20, Q19, Q18, Q17, Q16, Q15, Q14, Q13, Q12, Q11, Q10, Q9, Q8, Q7, Q6, Q5, Q4, Q3, Q2, Q1, Tbl0])
    refine WK_loop hm hR5 205000 (lsw [29, 33, 38] []) (ι := LoopI T fun _ => True)
      ⟨fun q => ⟨frL [(0, .fz (.sl (l.map enc))), (1, .fz (.s s.l)), (5, .full []), (6, .fz (.i .i64 q.i))], hpL [], 0⟩, fun q => T - q.i⟩
      ⟨0, by omega, trivial⟩ (by kernel_rfl) ?_ ?_
    · refine Weak_to ?_ ?_ ?_ <;> simp only [go_sem]
    rintro ⟨i, hi, _⟩
    try simp only at hi
    rcases Nat.lt_or_ge i T with h1 | h1
    · have h2 : i < l.length := by omega
      have h3 := kl.out i h2 h1
      repeat' (first | refine ReqK.i (by omega) fun _ => ?_ | simp only [go_sem, h2, h3, getD_map_lt, Tryd.f205, R5, R4, R3, R2, R1, Q20, Q19, Q18, Q17, Q16, Q15, Q14, Q13, Q12, Q11, Q10, Q9, Q8, Q7, Q6, Q5, Q4, Q3, Q2, Q1, Tbl0])
      refine ⟨⟨i + 1, by omega, trivial⟩, by simp only; omega, ?_⟩
      refine Weak_to ?_ ?_ ?_ <;> simp only [go_sem]
    · obtain rfl : i = T := by omega
      have hlt : (l.take i).length = i := by rw [List.length_take]; omega
      rcases Nat.lt_or_ge i l.length with h2 | h2
      case' inl => have h3 := ka.out i h2 rfl
      case' inr => have h3 : ¬ i < l.length := by omega
      all_goals
        repeat' (first | refine ReqK.i (by omega) fun _ => ?_ | refine ReqK.i (fits_of2 (by first | omega | (simp only [List.length_map, List.length_take, List.length_drop, List.length_append, List.length_cons, List.length_nil]; omega)) (by decide)) fun _ => ?_ | refine ReqK.i (by unfold maxL; omega) fun _ => ?_ | simp only [go_sem, h2, h3, cut_toM, getD_map_lt, Tryd.f205, R5, R4, R3, R2, R1, Q20, Q19, Q18, Q17, Q16, Q15, Q14, Q13, Q12, Q11, Q10, Q9, Q8, Q7, Q6, Q5, Q4, Q3, Q2, Q1, Tbl0])
      all_goals first | done | (simp only [List.map_append, List.map_take, List.map_drop, List.map_cons, List.map_nil, enc_str]) | trace_state
end Go.Proofs.YtoicheicnbjfeaaDoor
