import Derived.Test.YtbbjghecpcobjaaDoorAT
import Derived.Test.YtbbjghecpcobjaaDoorQ24
set_option linter.unusedSimpArgs false
namespace Go.Proofs.YtbbjghecpcobjaaDoor
open Go Go.Abs Go.Proofs

/-! ## folform.Constants: an own row of the constants, each once -/
def sortL (l : List Str) : List Str := (sortS (l.map (·.l))).map Str.mk
def compL (l : List Str) : List Str := (compS (l.map (·.l))).map Str.mk
theorem map_l_mk (l : List (List UInt8)) : (l.map Str.mk).map (·.l) = l := by rw [List.map_map, show ((·.l) ∘ Str.mk : List UInt8 → List UInt8) = id from rfl, List.map_id]
theorem usedM_eq (f : Abs.Form) : usedM f = compL (sortL (cst f [])) := by
  unfold usedM compL sortL; rw [map_l_mk]
theorem flat_cells (l : List Str) : flatFz (l.map enc) = strCells (l.map (·.l)) := by rw [flat_one, strCells, List.map_map]; rfl
theorem cells_flat (l : List (List UInt8)) : strCells l = flatFz ((l.map Str.mk).map enc) := by rw [flat_cells, map_l_mk]
theorem hpX_one {H : Heap} {id : Abs.Id} {o : Option O} : updH H id o = hpX [(id, o)] H := rfl
theorem sort_own {H : Heap} {id : Abs.Id} {l : List Str} {bx vt : Bool} {n : Nat} {R : D → Heap → Nat → Prop} (ho : H id = some ⟨flatFz (l.map enc), bx, vt⟩)
    (hR : R (.tup []) (hpX [(id, some ⟨flatFz ((sortL l).map enc), bx, vt⟩)] H) n) : Wcall Tryd.prog GA 130 [.arr id 1 0 l.length] H n R := by
  rw [flat_cells] at ho
  have h := Wcall_sort (G := GA) (n := n) ok130 Tryd.slices_Sort_string Tryd.slices_Sort_string_none ho
  rw [List.length_map] at h
  refine Wcall_mono h ?_
  rintro d H' n' ⟨rfl, rfl, rfl⟩
  rw [hpX_one, cells_flat]
  exact hR
theorem comp_own {H : Heap} {id : Abs.Id} {l : List Str} {bx vt : Bool} {n : Nat} {R : D → Heap → Nat → Prop} (ho : H id = some ⟨flatFz (l.map enc), bx, vt⟩)
    (hR : R (.arr id 1 0 (compL l).length) (hpX [(id, some ⟨flatFz ((compL l).map enc), bx, vt⟩)] H) n) : Wcall Tryd.prog GA 131 [.arr id 1 0 l.length] H n R := by
  rw [flat_cells] at ho
  have h := Wcall_compact (G := GA) (n := n) ok131 Tryd.slices_Compact_string Tryd.slices_Compact_string_empty ho
  rw [List.length_map] at h
  refine Wcall_mono h ?_
  rintro d H' n' ⟨rfl, rfl, rfl⟩
  rw [hpX_one, cells_flat, show (compS (l.map (·.l))).length = (compL l).length by unfold compL; rw [List.length_map]]
  exact hR
theorem sortL_len (l : List Str) : (sortL l).length = l.length := by unfold sortL; rw [List.length_map, sortS_len, List.length_map]

set_option maxRecDepth 100000 in
set_option maxHeartbeats 1000000 in
theorem f79 {f : Abs.Form} (hw : (enc f).Wf) (hl : (cst f []).length ≤ 1000000) (hs : f.size ≤ 1000000) : Wcall Tryd.prog GA 79 [.fz (enc f)] (hpL []) 0
    (fun d H n => ∃ g, g < n ∧ d = .arr (128024, g) 1 0 (usedM f).length ∧ H (128024, g) = some ⟨flatFz ((usedM f).map enc), false, (cst f []).isEmpty⟩) := by
  obtain ⟨Q, hQ⟩ : ∃ Q : D → Heap → Nat → Prop, Q = (fun d H n => ∃ g, g < n ∧ d = .arr (128024, g) 1 0 (usedM f).length ∧ H (128024, g) = some ⟨flatFz ((usedM f).map enc), false, (cst f []).isEmpty⟩) := ⟨_, rfl⟩
  rw [← hQ]
  refine Wcall_K (N := 13) hm hR1 79000 (lst []) ok79 Tryd.func79 rfl rfl (by simp) (by kernel_rfl) ?_
  have h := f128 f.size f [] [] 3 4 (fun _ => none) (Nat.le_refl _) hw (by omega) (by omega) (by simpa using hl) (by simpa using hs) (fun id o ho => by cases ho)
  rw [enc_form] at h
  repeat' (first | refine rq fun _ => ?_ | simp only [go_sem, Tryd.f79])
  refine WcallK.i (Wcall_hd rfl (Wcall_g (args' := [.fz (.agg [.i .i64 f.kind, .s f.name.l, .sl (f.words.map enc), .sl (f.subs.map enc)]), .fz (enc ([] : List Str)), .ptr (79003, 1) 0, .ptr (79004, 2) 0])
    (hl := HHk [] 3) (n' := 4) [] [(128024, 3)] [] rfl ?_ ?_ ?_ ?_ ?_ ?_))
  case _ => omega
  case _ => simp only [go_sem]
  case _ => simp only [go_sem, HHk]; first | done | rfl | trace_state
  case _ => simp only [go_sem, HHk]; first | done | rfl | trace_state
  case _ => simp only [go_sem]; first | done | rfl | trace_state
  rw [show hpL (HHk [] 3) = hpX (HHk [] 3) (fun _ => none) from rfl]
  refine Wcall_mono h ?_
  rintro d' H' n' ⟨rfl, e1, ⟨g, hg, e2⟩, _⟩
  rw [List.nil_append] at e2
  obtain ⟨C, hC⟩ : ∃ C, C = cst f [] := ⟨_, rfl⟩
  rw [← hC] at e2
  rw [usedM_eq, ← hC] at hQ
  simp only [go_sem, HHk] at e2
  obtain ⟨b1, b2, b3⟩ := e2
  rw [show H' = hpX [] H' from rfl]
  repeat' (first | refine rq fun _ => ?_ | simp only [go_sem, b1, b2, b3, Tryd.f79])
  refine WcallK.i (sort_own (l := C) (bx := false) (vt := C.isEmpty) (by simp only [go_sem, b3]) ?_)
  rw [← sortL_len C] at b1
  repeat' (first | refine rq fun _ => ?_ | simp only [go_sem, b1, b2, b3, Tryd.f79])
  refine WcallK.i (comp_own (l := sortL C) (bx := false) (vt := C.isEmpty) (by simp only [go_sem]) ?_)
  repeat' (first | refine rq fun _ => ?_ | simp only [go_sem, b1, b2, b3, Tryd.f79])
  rw [hQ]
  exact ⟨g, hg, by simp only [go_sem], by simp only [go_sem]⟩
end Go.Proofs.YtbbjghecpcobjaaDoor
