import Derived.Test.YtbbjghecpcobjaaDoorQ88
import Derived.Test.YtbbjghecpcobjaaDoorA3
import Derived.Test.YtbbjghecpcobjaaDoorCards
import Derived.Test.YtbbjghecpcobjaaDoorTie
import Derived.WalkKit
import Derived.ProofKit
import Derived.OpenShut
import Derived.Deep.DeepHandedRow
import Derived.Lib.LaidTab
import Derived.Below
import Derived.Carry
import Derived.ChangeSame
set_option linter.unusedSimpArgs false
namespace Go.Proofs.YtbbjghecpcobjaaDoor
open Go Go.Abs Go.RowKit Go.WideShapes Go.ChangeShapes

theorem bulk_len {H : Type} : ∀ (es : List (DataW H)), (∀ d ∈ es, 1 ≤ Rows.uptoBulk d) → es.length ≤ Rows.uptoBulkAll es
  | [], _ => Nat.zero_le _
  | d :: es, h => by
    have h1 := h d (by simp)
    have h2 := bulk_len es fun d hd => h d (by simp [hd])
    simp only [List.length_cons, Rows.uptoBulkAll]; omega
theorem bulk_mem {H : Type} : ∀ (es : List (DataW H)) (d : DataW H), d ∈ es → Rows.uptoBulk d ≤ Rows.uptoBulkAll es
  | [], _, h => by simp at h
  | e :: es, d, h => by
    simp only [Rows.uptoBulkAll]
    rcases List.mem_cons.1 h with rfl | h
    · omega
    · have := bulk_mem es d h; omega
theorem bulk_pos {H : Type} (d : DataW H) : 1 ≤ Rows.uptoBulk d := by
  cases d with
  | lit l => cases l <;> simp [Rows.uptoBulk]
  | _ => simp [Rows.uptoBulk]
theorem bulkOk : BulkOk (fun _ d => Rows.uptoBulk d) := by
  refine ⟨fun H b => by simp [Rows.uptoBulk], fun H es sp => ?_, fun H es sp d hd => ?_, fun H ps d hd => ?_⟩
  · have := bulk_len es fun d _ => bulk_pos d
    simp only [Rows.uptoBulk]; omega
  · have := bulk_mem es d hd
    simp only [Rows.uptoBulk]; omega
  · have := bulk_mem ps d hd
    simp only [Rows.uptoBulk]; omega

section
variable {H : Type} {en : TypeId × Value → H} {P : Program}
theorem post_of_below {f : Func} {s : ChangeSpec} {apart fresh handsOn again : Bool} {W W' : World} {args : Array Value} {v : Value} {ds gs : List (DataW H)} {before pa pv : List MemPlace}
    (hW : DataW.Whole en P f.params.toList s.vars apart W args.toList ds gs before)
    (hres : ∀ (b : Nat) (sp : Nat → Bool) (hd : Bool), DataW.TrodAll en P W' b sp hd f.resultTypes.toList (v.resultList f.resultTypes.size) (s.fn H (ds ++ gs)).results [])
    (hargs : ∀ sp : Nat → Bool, (∀ p ∈ before, sp p.block = true) → DataW.TrodAll en P W' 0 sp true f.params.toList args.toList (s.fn H (ds ++ gs)).args pa)
    (hvars : ∀ sp : Nat → Bool, (∀ p ∈ before, sp p.block = true) → DataW.TrodVars en P W' sp s.vars (s.fn H (ds ++ gs)).vars pv)
    (hps : before = pa ++ pv) (hb : Below W.heap.size W W')
    (hok : ∀ (j : Nat) (t : TypeId) (r : Value), f.resultTypes[j]? = some t → (v.resultList f.resultTypes.size)[j]? = some r → Value.okWide P W' .any 0 t r) :
    s.post en P f apart fresh handsOn again W args v W' := by
  have hlt : ∀ p ∈ before, p.block < W.heap.size := fun p hp => hW.lt p hp
  have hold : ∀ p ∈ before, (fun b => decide (b < W.heap.size)) p.block = true := fun p hp => by simpa using hlt p hp
  refine ⟨ds, gs, before, [], pa, pv, hW, hres _ _ _, hargs _ hold, hvars _ hold, World.keptBut_mono (fun p hp => ⟨hp, ?_⟩) (hb.frame (· ∈ before)), fun _ => ?_⟩
  · rw [hps, List.mem_append] at hp
    exact Or.inr hp
  · obtain ⟨_, _, _, _, _, hz, hn⟩ := hW
    refine ⟨hok, _, _, ([] ++ pa) ++ pv, ⟨[] ++ pa, pv, trodAll_append (hargs _ (fun _ _ => rfl)) (hres _ _ _), hvars _ (fun _ _ => rfl), rfl, ?_, ?_⟩, ?_⟩
    · intro b off hp
      have hin : MemPlace.cell b off ∈ before := by rw [hps]; simpa using hp
      rw [hb.frozen (hlt _ hin)]
      exact hz b off hin
    · intro ha
      have := hn ha
      rw [hps] at this
      simpa using this
    · intro p hp _
      rw [hps]
      simpa using hp
end

theorem laidOut : laidOutB Tryd.prog = true := by kernel_rfl

theorem gNone : Tryd.prog.globalNamed "glosswright/glosswrightlaw2.none" = some 0 := by kernel_rfl
theorem gNoneType : (Tryd.prog.globals[0]?).map (·.type) = some 31 := by kernel_rfl

theorem var_heap {P : Program} {W : World} {n : String} {g : Nat} {cs : Array Value} (hg : P.globalNamed n = some g) (h : W.var? P n = some cs) : ∃ T fr, W.heap[g]? = some (.cells cs T fr) := by
  simp only [World.var?, hg, Option.bind_some] at h
  split at h
  · rename_i c t fr hb
    cases h
    exact ⟨t, fr, hb⟩
  · cases h
theorem glob_of_laid {W : World} (h : laidMet Tryd.prog Rows.quantityCountsMatchSpecUptoRow.laid W) :
    ∀ g, G1 g ≠ [] → g < W.heap.size ∧ ∃ cs T fr, W.heap[g]? = some (.cells cs T fr) ∧ cs.size = (G1 g).length ∧ ∀ j, j < (G1 g).length → ∃ v, cs[j]? = some v ∧ FRep W (Fall W) v ((G1 g).getD j .nilf) := by
  intro g hg
  have hg0 : g = 0 := by
    by_cases e : g = 0
    · exact e
    · exact absurd (by simp [G1, e]) hg
  subst hg0
  obtain ⟨ps, ⟨g', t', cs, fuel, p, q, hg', ht', hvar, hd, _, _⟩, _⟩ := h
  obtain rfl := Option.some.inj (gNone.symm.trans hg')
  obtain rfl := Option.some.inj (gNoneType.symm.trans ht')
  cases fuel with
  | zero => simp [DataW.trod] at hd
  | succ fuel =>
    simp only [DataW.trod, Tryd.underlying31] at hd
    have c25 : Tryd.prog.cellsOf 31 = 2 := by kernel_rfl
    have c3 : Tryd.prog.cellsOf 3 = 1 := by kernel_rfl
    split at hd
    case isFalse => cases hd
    rename_i hlen
    rw [c25] at hlen
    obtain ⟨u0, u1, hcs⟩ : ∃ u0 u1, cs.toList = [u0, u1] := by
      match hc : cs.toList, hlen with
      | [a, b], _ => exact ⟨a, b, rfl⟩
    rw [hcs] at hd
    simp only [List.mapM_cons, List.mapM_nil, c3, List.drop_zero, List.take_succ_cons, List.take_zero, List.drop_succ_cons, Option.map_eq_some_iff, Option.bind_eq_bind, Option.bind_eq_some_iff, Option.pure_def, Option.some.injEq, Prod.mk.injEq] at hd
    obtain ⟨xs, ⟨x0, h0, ys, ⟨x1, h1, zs, hz, rfl⟩, rfl⟩, e1, _⟩ := hd
    subst hz
    obtain ⟨n0, k0, rfl, _⟩ := DataW.trod_int Tryd.underlying3 h0
    obtain ⟨n1, k1, rfl, _⟩ := DataW.trod_int Tryd.underlying3 h1
    simp only [List.cons.injEq, and_true] at k0 k1
    subst k0
    subst k1
    simp only [List.map_cons, List.map_nil, Rows.laid_glosswright_glosswrightlaw2_none, DataW.agg.injEq, List.cons.injEq, DataW.lit.injEq, Lit.int.injEq, true_and, and_true] at e1
    obtain ⟨rfl, rfl⟩ := e1
    have hca : cs = #[.int .i64 0, .int .i64 0] := by rw [← Array.toArray_toList (xs := cs), hcs]
    subst hca
    have q0 := World.var?_cell gNone hvar 0
    have q1 := World.var?_cell gNone hvar 1
    have p0 : W.cell? ⟨0, 0, none⟩ = some (.int .i64 0) := by simpa using q0
    have p1 : W.cell? ⟨0, 1, none⟩ = some (.int .i64 0) := by simpa using q1
    obtain ⟨_, cs', T, fr, r1, r2⟩ := cell?_some p0
    obtain ⟨_, cs2, T2, fr2, r3, r4⟩ := cell?_some p1
    simp only at r1 r2 r3 r4
    rw [r1] at r3
    simp only [Option.some.injEq, Obj.cells.injEq] at r3
    obtain ⟨rfl, _, _⟩ := r3
    obtain ⟨T5, fr5, r5⟩ := var_heap gNone hvar
    rw [r1] at r5
    simp only [Option.some.injEq, Obj.cells.injEq] at r5
    refine ⟨?_, cs', T, fr, r1, by rw [r5.1]; rfl, fun j hj => ⟨.int .i64 0, ?_, ?_⟩⟩
    · rcases Nat.lt_or_ge 0 W.heap.size with h | h
      · exact h
      · rw [Array.getElem?_eq_none h] at r1; cases r1
    · have : j = 0 ∨ j = 1 := by simp [G1] at hj; omega
      rcases this with rfl | rfl
      · exact r2
      · exact r4
    · have : j = 0 ∨ j = 1 := by simp [G1] at hj; omega
      rcases this with rfl | rfl
      · exact .i .i64 0 (by decide) (by decide)
      · exact .i .i64 0 (by decide) (by decide)
open Go.ChangeAt in
theorem bulk_app {H : Type} : ∀ (ds gs : List (DataW H)), Rows.uptoBulkAll ds ≤ Rows.uptoBulkAll (ds ++ gs)
  | [], _ => Nat.zero_le _
  | d :: ds, gs => by
    have := bulk_app ds gs
    simp only [List.cons_append, Rows.uptoBulkAll]; omega
theorem own : ownKnob Tryd.prog.godebug = none := by kernel_rfl
noncomputable def laidWorld (os : Os) : World :=
  { World.holding Tryd.prog os ⟨#[], #[], []⟩ with heap := (World.holding Tryd.prog os ⟨#[], #[], []⟩).heap.modify 0 fun
      | .cells _ t frozen => .cells #[.int .i64 0, .int .i64 0] t frozen
      | o => o }

end Go.Proofs.YtbbjghecpcobjaaDoor
