import Derived.Test.YtoicheicnbjfeaaDoorAT
import Derived.Test.YtoicheicnbjfeaaDoorQ1
import Derived.Test.YtoicheicnbjfeaaDoorAbs40
set_option linter.unusedSimpArgs false
namespace Go.Proofs.YtoicheicnbjfeaaDoor
open Go Go.Abs Go.Proofs

def Q8 : Tbl := Q7.add 198 (sp1 subsK fun _ => True)
set_option maxRecDepth 100000 in
set_option maxHeartbeats 1000000 in
theorem hQ8 : TblOk Tryd.prog G0 Q8 := by
  refine sp1_ok ok198 hQ7 fun k _ hs => ?_
  refine Wcall_K (N := 16) hm hQ7 198000 (lst []) ok198 Tryd.func198 rfl rfl (by simp) (by kernel_rfl) ?_
  repeat' (first | refine CondK.d (fun _ => ?_) (fun _ => ?_) | refine ReqK.i (by omega) fun _ => ?_ | simp only [go_sem, Tryd.f198, *])
  all_goals (unfold subsK; first | rw [if_pos (by omega)] | rw [if_neg (by omega), if_pos (by omega)] | rw [if_neg (by omega), if_neg (by omega), if_pos (by omega)] | rw [if_neg (by omega), if_neg (by omega), if_neg (by omega)])

def Q9 : Tbl := Q8.add 199 (sp1 (fun f : Abs.Form => decide (f.kind = 8 ∨ f.kind = 9)) fun _ => True)
set_option maxRecDepth 100000 in
set_option maxHeartbeats 1000000 in
theorem hQ9 : TblOk Tryd.prog G0 Q9 := by
  refine sp1_ok ok199 hQ8 fun f _ hs => ?_
  refine Wcall_K (N := 11) hm hQ8 199000 (lst []) ok199 Tryd.func199 rfl rfl (by simp) (by kernel_rfl) ?_
  repeat' (first | refine CondK.d (fun _ => ?_) (fun _ => ?_) | refine ReqK.i (by omega) fun _ => ?_ | simp only [go_sem, Tryd.f199, *])


set_option maxRecDepth 100000 in
set_option maxHeartbeats 1000000 in
theorem f197 {c a : Int} {id : Abs.Id} {H : Heap} {n : Nat} {R : D → Heap → Nat → Prop} (hid : id.2 < n) (ho : H id = some ⟨[.fz (.i .i64 a)], true, false⟩) (hR : ∀ n', n ≤ n' → R (.agg [.fz (.i .i64 c), .fz (.i .i64 a)]) H n') :
    Wcall Tryd.prog G0 197 [.fz (.i .i64 c), .ptr id 0] H n R := by
  refine Wcall_keep ok197 (fun hfr => ?_) hR
  have hne : id ≠ (197003, n) := by rintro rfl; simp at hid
  have hne' : (id = (197003, n)) = False := eq_false hne
  obtain ⟨Q, hQ⟩ : ∃ Q : D → Heap → Nat → Prop, Q = (fun d' H' n' => d' = .agg [.fz (.i .i64 c), .fz (.i .i64 a)] ∧ n ≤ n' ∧ ∀ id, id.2 < n → H' id = H id) := ⟨_, rfl⟩
  rw [← hQ]
  have e : H = hpX [] H := rfl
  rw [e]
  refine Wcall_K (N := 7) hm hQ9 197000 (lst []) ok197 Tryd.func197 rfl rfl (by simp) (by kernel_rfl) ?_
  simp only [go_sem]
  rw [if_neg hne, ho]
  simp only [go_sem, Tryd.f197]
  rw [hQ]
  refine ⟨?_, by omega, fun id hid => hpX_old (n := n) (by intro p hp; simp at hp; rcases hp with rfl | rfl <;> simp) id hid⟩
  simp only [go_sem]
end Go.Proofs.YtoicheicnbjfeaaDoor
