import Derived.Test.YtbbcinpmomjbgaaDoorP7
set_option linter.unusedSimpArgs false
namespace Go.Proofs.YtbbcinpmomjbgaaDoor
open Go Go.Abs Go.RowKit Go.WideShapes Go.ChangeShapes

theorem gNone : Tryd.prog.globalNamed "glosswright/glosswrightlaw2.none" = some 0 := by kernel_rfl
theorem gNoneType : (Tryd.prog.globals[0]?).map (·.type) = some 25 := by kernel_rfl

theorem glob_of_laid {W : World} (h : laidMet Tryd.prog Rows.pluralPartitionsMatchSpecUptoRow.laid W) :
    ∀ g, G1 g ≠ [] → g < W.heap.size ∧ ∃ cs T fr, W.heap[g]? = some (.cells cs T fr) ∧ ∀ j, j < (G1 g).length → ∃ v, cs[j]? = some v ∧ FRep W (Fall W) v ((G1 g).getD j .nilf) := by
  intro g hg
  have hg0 : g = 0 := by
    by_cases e : g = 0
    · exact e
    · exact absurd (by simp [G1, e]) hg
  subst hg0
  obtain ⟨ps, ⟨g', t', cs, fuel, p, q, hg', ht', hvar, hd, _, _⟩, _⟩ := h
  obtain rfl := Option.some.inj (gNone.symm.trans hg')
  obtain rfl := Option.some.inj (gNoneType.symm.trans ht')
  cases fuel with
  | zero => simp [DataW.trod] at hd
  | succ fuel =>
    simp only [DataW.trod, Tryd.underlying25] at hd
    have c25 : Tryd.prog.cellsOf 25 = 2 := by kernel_rfl
    have c3 : Tryd.prog.cellsOf 3 = 1 := by kernel_rfl
    split at hd
    case isFalse => cases hd
    rename_i hlen
    rw [c25] at hlen
    obtain ⟨u0, u1, hcs⟩ : ∃ u0 u1, cs.toList = [u0, u1] := by
      match hc : cs.toList, hlen with
      | [a, b], _ => exact ⟨a, b, rfl⟩
    rw [hcs] at hd
    simp only [List.mapM_cons, List.mapM_nil, c3, List.drop_zero, List.take_succ_cons, List.take_zero, List.drop_succ_cons, Option.map_eq_some_iff, Option.bind_eq_bind, Option.bind_eq_some_iff, Option.pure_def, Option.some.injEq, Prod.mk.injEq] at hd
    obtain ⟨xs, ⟨x0, h0, ys, ⟨x1, h1, zs, hz, rfl⟩, rfl⟩, e1, _⟩ := hd
    subst hz
    obtain ⟨n0, k0, rfl, _⟩ := DataW.trod_int Tryd.underlying3 h0
    obtain ⟨n1, k1, rfl, _⟩ := DataW.trod_int Tryd.underlying3 h1
    simp only [List.cons.injEq, and_true] at k0 k1
    subst k0
    subst k1
    simp only [List.map_cons, List.map_nil, Rows.laid_glosswright_glosswrightlaw2_none, DataW.agg.injEq, List.cons.injEq, DataW.lit.injEq, Lit.int.injEq, true_and, and_true] at e1
    obtain ⟨rfl, rfl⟩ := e1
    have hca : cs = #[.int .i64 0, .int .i64 0] := by rw [← Array.toArray_toList (xs := cs), hcs]
    subst hca
    have q0 := World.var?_cell gNone hvar 0
    have q1 := World.var?_cell gNone hvar 1
    have p0 : W.cell? ⟨0, 0, none⟩ = some (.int .i64 0) := by simpa using q0
    have p1 : W.cell? ⟨0, 1, none⟩ = some (.int .i64 0) := by simpa using q1
    obtain ⟨_, cs', T, fr, r1, r2⟩ := cell?_some p0
    obtain ⟨_, cs2, T2, fr2, r3, r4⟩ := cell?_some p1
    simp only at r1 r2 r3 r4
    rw [r1] at r3
    simp only [Option.some.injEq, Obj.cells.injEq] at r3
    obtain ⟨rfl, _, _⟩ := r3
    refine ⟨?_, cs', T, fr, r1, fun j hj => ⟨.int .i64 0, ?_, ?_⟩⟩
    · rcases Nat.lt_or_ge 0 W.heap.size with h | h
      · exact h
      · rw [Array.getElem?_eq_none h] at r1; cases r1
    · have : j = 0 ∨ j = 1 := by simp [G1] at hj; omega
      rcases this with rfl | rfl
      · exact r2
      · exact r4
    · have : j = 0 ∨ j = 1 := by simp [G1] at hj; omega
      rcases this with rfl | rfl
      · exact .i .i64 0 (by decide) (by decide)
      · exact .i .i64 0 (by decide) (by decide)
end Go.Proofs.YtbbcinpmomjbgaaDoor
