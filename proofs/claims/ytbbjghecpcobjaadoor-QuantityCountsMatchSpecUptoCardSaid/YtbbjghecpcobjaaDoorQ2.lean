import Derived.Test.YtbbjghecpcobjaaDoorAT
import Derived.Test.YtbbjghecpcobjaaDoorQ1
import Derived.Test.YtbbjghecpcobjaaDoorAbs40
set_option linter.unusedSimpArgs false
namespace Go.Proofs.YtbbjghecpcobjaaDoor
open Go Go.Abs Go.Proofs

def Q8 : Tbl := Q7.add 145 (sp1 subsK fun _ => True)
attribute [go_sem] Q8
set_option maxRecDepth 100000 in
set_option maxHeartbeats 1000000 in
theorem hQ8 : TblOk Tryd.prog G0 Q8 := by
  refine sp1_ok ok145 hQ7 fun k _ hs => ?_
  refine Wcall_K (N := 16) hm hQ7 145000 (lst []) ok145 Tryd.func145 rfl rfl (by simp) (by kernel_rfl) ?_
  repeat' (first | refine CondK.d (fun _ => ?_) (fun _ => ?_) | refine rq fun _ => ?_ | simp only [go_sem, Tryd.f145, *])
  all_goals (unfold subsK; first | rw [if_pos (by omega)] | rw [if_neg (by omega), if_pos (by omega)] | rw [if_neg (by omega), if_neg (by omega), if_pos (by omega)] | rw [if_neg (by omega), if_neg (by omega), if_neg (by omega)])

def Q9 : Tbl := Q8.add 129 (sp1 (fun f : Abs.Form => decide (f.kind = 8 ∨ f.kind = 9)) fun _ => True)
attribute [go_sem] Q9
set_option maxRecDepth 100000 in
set_option maxHeartbeats 1000000 in
theorem hQ9 : TblOk Tryd.prog G0 Q9 := by
  refine sp1_ok ok129 hQ8 fun f _ hs => ?_
  refine Wcall_K (N := 11) hm hQ8 129000 (lst []) ok129 Tryd.func129 rfl rfl (by simp) (by kernel_rfl) ?_
  repeat' (first | refine CondK.d (fun _ => ?_) (fun _ => ?_) | refine rq fun _ => ?_ | simp only [go_sem, Tryd.f129, *])


set_option maxRecDepth 100000 in
set_option maxHeartbeats 1000000 in
theorem f144 {c a : Int} {id : Abs.Id} {H : Heap} {n : Nat} {R : D → Heap → Nat → Prop} (hid : id.2 < n) (ho : H id = some ⟨[.fz (.i .i64 a)], true, false⟩) (hR : ∀ n', n ≤ n' → R (.agg [.fz (.i .i64 c), .fz (.i .i64 a)]) H n') :
    Wcall Tryd.prog G0 144 [.fz (.i .i64 c), .ptr id 0] H n R := by
  refine Wcall_keep ok144 (fun hfr => ?_) hR
  have hne : id ≠ (144003, n) := by rintro rfl; simp at hid
  have hne' : (id = (144003, n)) = False := eq_false hne
  obtain ⟨Q, hQ⟩ : ∃ Q : D → Heap → Nat → Prop, Q = (fun d' H' n' => d' = .agg [.fz (.i .i64 c), .fz (.i .i64 a)] ∧ n ≤ n' ∧ ∀ id, id.2 < n → H' id = H id) := ⟨_, rfl⟩
  rw [← hQ]
  have e : H = hpX [] H := rfl
  rw [e]
  refine Wcall_K (N := 7) hm hQ9 144000 (lst []) ok144 Tryd.func144 rfl rfl (by simp) (by kernel_rfl) ?_
  simp only [go_sem]
  rw [if_neg hne, ho]
  simp only [go_sem, Tryd.f144]
  rw [hQ]
  refine ⟨?_, by omega, fun id hid => hpX_old (n := n) (by intro p hp; simp at hp; rcases hp with rfl | rfl <;> simp) id hid⟩
  simp only [go_sem]
end Go.Proofs.YtbbjghecpcobjaaDoor
