import Derived.Test.YtbbjghecpcobjaaDoorAT
import Derived.Test.YtbbjghecpcobjaaDoorQ9
set_option linter.unusedSimpArgs false
namespace Go.Proofs.YtbbjghecpcobjaaDoor
open Go Go.Abs Go.Proofs

theorem hpL_app (k : List (Abs.Id × Option O)) : ∀ l : List (Abs.Id × Option O), hpL (l ++ k) = hpX l (hpL k)
  | [] => rfl
  | (i, o) :: l => by funext j; simp only [List.cons_append, hpL, hpX, hpL_app k l]
def Q21 : Tbl := Q20.add 74 (sp1 boxM fun _ => True)
attribute [go_sem] Q21
set_option maxRecDepth 100000 in
set_option maxHeartbeats 1000000 in
theorem hQ21 : TblOk Tryd.prog G0 Q21 := by
  refine sp1_ok ok74 hQ20 fun b _ hb => ?_
  refine Wcall_K (N := 10) hm hQ20 74000 (lst []) ok74 Tryd.func74 rfl rfl (by simp) (by kernel_rfl) ?_
  have h := f118 b.size b 1 200 0 5 6 [] (hpL [((74002, 1), some ⟨[.fz (.i .i64 0), .fz (.i .i64 0)], true, false⟩)]) (Nat.le_refl _) hb (by omega) (by omega) (by omega) (by simp) (by omega) (by omega) (fun id o ho => by
    simp only [hpL] at ho
    split at ho
    · rename_i e; subst e; simp
    · cases ho)
  rw [enc_box] at h
  repeat' (first | refine rq fun _ => ?_ | simp only [go_sem, Tryd.f74])
  refine WcallK.i (Wcall_hd rfl (Wcall_g (args' := [.fz (.agg [.sl (b.refs.map enc), .sl (b.conds.map enc)]), .fz (.i .i64 1), .fz (.i .i64 200), .ptr (74003, 2) 0, .ptr (74004, 3) 0, .ptr (74005, 4) 0])
    (hl := HHv 0 [] 5 ++ [((74002, 1), some ⟨[.fz (.i .i64 0), .fz (.i .i64 0)], true, false⟩)]) (n' := 6) [] [(118070, 5)] [] rfl ?_ ?_ ?_ ?_ ?_ ?_))
  case _ => omega
  case _ => simp only [go_sem]
  case _ => simp only [go_sem, HHv]; first | done | rfl | trace_state
  case _ => simp only [go_sem, HHv]; first | done | rfl | trace_state
  case _ => simp only [go_sem]; first | done | rfl | trace_state
  rw [hpL_app]
  refine Wcall_mono h ?_
  rintro d' H' n' ⟨rfl, e1, e2, e3⟩
  have b2 := e3 (74002, 1) ⟨[.fz (.i .i64 0), .fz (.i .i64 0)], true, false⟩ (by simp only [go_sem])
  rw [show H' = hpX [] H' from rfl]
  repeat' (first | refine rq fun _ => ?_ | simp only [go_sem, agg2, b2, boxM, Tryd.f74])
end Go.Proofs.YtbbjghecpcobjaaDoor
