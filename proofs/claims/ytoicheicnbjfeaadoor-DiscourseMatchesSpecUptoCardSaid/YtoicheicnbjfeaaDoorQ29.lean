import Derived.Test.YtoicheicnbjfeaaDoorAT
import Derived.Test.YtoicheicnbjfeaaDoorQ28
set_option linter.unusedSimpArgs false
namespace Go.Proofs.YtoicheicnbjfeaaDoor
open Go Go.Abs Go.Proofs

/-! ## the document's numerals and constants -/
section
variable {P : Program} {G : Nat → List FD} {T : Tbl}
/-- a recursive function of three arguments -/
theorem sp3_rec {α β γ ρ : Type} [Enc α] [Enc β] [Enc γ] [Enc ρ] {f : FuncId} {g : α → β → γ → ρ} {pre : α → β → γ → Prop} (m : α → Nat) (hc : CallOk P f) (hT : TblOk P G T)
    (h : ∀ n, TblOk P G (T.add f (sp3 g fun a b c => m a < n ∧ pre a b c)) → ∀ a b c, m a = n → pre a b c → (enc a).Wf → (enc b).Wf → (enc c).Wf → Wcall P G f [.fz (enc a), .fz (enc b), .fz (enc c)] (hpL []) 0 (fun d _ _ => D.val d = some (.fz (enc (g a b c))))) : TblOk P G (T.add f (sp3 g pre)) := by
  have key : ∀ n, TblOk P G (T.add f (sp3 g fun a b c => m a < n ∧ pre a b c)) := by
    intro n
    induction n with
    | zero => exact sp3_ok hc hT fun a b c ha => by omega
    | succ n ih =>
      refine sp3_ok hc hT fun a b c ha hw hw2 hw3 => ?_
      rcases Nat.lt_or_ge (m a) n with h1 | h1
      · have h2 := ih f (sp3 g fun a b c => m a < n ∧ pre a b c) [enc a, enc b, enc c] _ _ (by simp [Tbl.add]) (k_sp3) ⟨by rw [dec_enc], by rw [dec_enc], by rw [dec_enc], by rw [dec_enc, dec_enc, dec_enc]; exact ⟨h1, ha.2⟩⟩
        rw [dec_enc, dec_enc, dec_enc, H0_eq] at h2
        exact h2
      · exact h n ih a b c (by omega) ha.2 hw hw2 hw3
  exact sp3_ok hc hT fun a b c ha hw hw2 hw3 => h (m a) (key _) a b c rfl ha hw hw2 hw3
end

theorem inKu8 {n : Int} (h1 : 0 ≤ n) (h2 : n ≤ 255) : inK .u8 n := ⟨h1, h2⟩
def digS (n : Int) : Str := ⟨digits n.toNat⟩
theorem digits_small {n : Nat} (h : n < 10) : digits n = [UInt8.ofNat (48 + n)] := by unfold digits; rw [Lib.decDigits, dif_pos h]
theorem digits_big {n : Nat} (h : ¬ n < 10) : digits n = digits (n / 10) ++ [UInt8.ofNat (48 + n % 10)] := by unfold digits; rw [Lib.decDigits, dif_neg h]
structure DigI (n0 : Nat) where
  n : Nat
  s : List UInt8
  hn : n ≤ n0
  h : digits n0 = digits n ++ s
  hl : s.length ≤ n0 - n
def R5 : Tbl := R4.add 112 (sp1 digS fun n => 0 ≤ n ∧ n ≤ 1000000000000)
set_option maxRecDepth 100000 in
set_option maxHeartbeats 1000000 in
theorem hR5 : TblOk Tryd.prog GA R5 := by
  refine sp1_ok ok112 hR4 fun n0 hn0 _ => ?_
  obtain ⟨k, rfl⟩ : ∃ k : Nat, n0 = (k : Int) := ⟨n0.toNat, by omega⟩
  have hd : enc (digS (k : Int)) = .s (digits k) := rfl
  rw [hd]
  refine Wcall_K (N := 17) hm hR4 112000 (lst []) ok112 Tryd.func112 rfl rfl (by simp) (by kernel_rfl) ?_
  repeat' (first | refine ReqK.i (by omega) fun _ => ?_ | simp only [go_sem, Tryd.f112, R4, R3, R2, R1, Q20, Q19, Q18, Q17, Q16, Q15, Q14, Q13, Q12, Q11, Q10, Q9, Q8, Q7, Q6, Q5, Q4, Q3, Q2, Q1, Tbl0])
  refine WK_loop hm hR4 112000 (lst []) (ι := DigI k)
    ⟨fun q => ⟨frL [(0, .fz (.i .i64 q.n)), (3, .fz (.s q.s))], hpL [], 0⟩, fun q => q.n⟩
    ⟨k, [], Nat.le_refl _, by simp, by simp⟩ (by kernel_rfl) ?_ ?_
  · refine Weak_to ?_ ?_ ?_ <;> simp only [go_sem]
  rintro ⟨n, s, hn, h, hl⟩
  try simp only at hn h hl
  have hk := hn0.2
  have hb : UInt8.ofNat (48 + (n : Int) % 10).toNat = UInt8.ofNat (48 + n % 10) := by congr 1
  have hdv : (n : Int) / 10 = ((n / 10 : Nat) : Int) := by omega
  by_cases h10 : n < 10
  · have h0 : (n : Int) / 10 = 0 := by omega
    have hmod : n % 10 = n := Nat.mod_eq_of_lt h10
    rw [digits_small h10] at h
    repeat' (first | refine ReqK.i (by omega) fun _ => ?_ | refine ReqK.i (by unfold maxL; omega) fun _ => ?_ | refine ReqK.i (inKu8 (by omega) (by omega)) fun _ => ?_ | simp only [go_sem, hb, h0, hmod, h, List.cons_append, List.nil_append, List.singleton_append, Tryd.f112, R4, R3, R2, R1, Q20, Q19, Q18, Q17, Q16, Q15, Q14, Q13, Q12, Q11, Q10, Q9, Q8, Q7, Q6, Q5, Q4, Q3, Q2, Q1, Tbl0])
  · have h0 : ¬ (n : Int) / 10 = 0 := by omega
    rw [digits_big h10] at h
    repeat' (first | refine ReqK.i (by omega) fun _ => ?_ | refine ReqK.i (by unfold maxL; omega) fun _ => ?_ | refine ReqK.i (inKu8 (by omega) (by omega)) fun _ => ?_ | simp only [go_sem, hb, h0, Tryd.f112, R4, R3, R2, R1, Q20, Q19, Q18, Q17, Q16, Q15, Q14, Q13, Q12, Q11, Q10, Q9, Q8, Q7, Q6, Q5, Q4, Q3, Q2, Q1, Tbl0])
    refine ⟨⟨n / 10, UInt8.ofNat (48 + n % 10) :: s, by omega, by (rw [h, List.append_assoc]; try rfl), (by simp only [List.length_cons]; omega)⟩, by first | omega | (simp only; omega), ?_⟩
    refine Weak_to ?_ ?_ ?_ <;> simp only [go_sem, hb, hdv]
end Go.Proofs.YtoicheicnbjfeaaDoor
