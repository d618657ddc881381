/- Of two points the relations of the closure are each other's (TimelineClosureIsSymmetric), for inputs within the bound of the statement's second form; no conditions. -/
import Derived.Test.YtbbcinpmomjbgaaDoorP24
set_option linter.unusedSimpArgs false
namespace Go.Proofs.YtbbcinpmomjbgaaDoor
open Go Go.Abs Go.RowKit Go.WideShapes Go.ChangeShapes Go.ChangeAt

theorem rd_time {blk : (H : Type) → DataW H → Nat} : Rd blk Tryd.prog 38 Time := by
  intro H en w base spare held fuel cs x hd _
  cases fuel with
  | zero => simp [DataW.trod] at hd
  | succ fuel =>
    simp only [DataW.trod, Tryd.underlying38] at hd
    have c38 : Tryd.prog.cellsOf 38 = 3 := by kernel_rfl
    have c3 : Tryd.prog.cellsOf 3 = 1 := by kernel_rfl
    split at hd
    case isFalse => cases hd
    rename_i hlen
    rw [c38] at hlen
    obtain ⟨u0, u1, u2, rfl⟩ : ∃ u0 u1 u2, cs = [u0, u1, u2] := by
      match cs, hlen with
      | [a, b, c], _ => exact ⟨a, b, c, rfl⟩
    simp only [List.mapM_cons, List.mapM_nil, c3, List.drop_zero, List.take_succ_cons, List.take_zero, List.drop_succ_cons, Option.map_eq_some_iff, Option.bind_eq_bind, Option.bind_eq_some_iff, Option.pure_def, Option.some.injEq] at hd
    obtain ⟨xs, ⟨x0, h0, ys, ⟨x1, h1, zs, ⟨x2, h2, ws, hw, rfl⟩, rfl⟩, rfl⟩, _⟩ := hd
    obtain ⟨n0, k0, _, w0⟩ := DataW.trod_int Tryd.underlying3 h0
    obtain ⟨n1, k1, _, w1⟩ := DataW.trod_int Tryd.underlying3 h1
    obtain ⟨n2, k2, _, w2⟩ := DataW.trod_int Tryd.underlying3 h2
    simp only [List.cons.injEq, and_true] at k0 k1 k2
    subst k0 k1 k2
    have b0 : IntKind.min .i64 ≤ n0 ∧ n0 ≤ IntKind.max .i64 := by simpa [Lit.wf] using w0
    have b1 : IntKind.min .i64 ≤ n1 ∧ n1 ≤ IntKind.max .i64 := by simpa [Lit.wf] using w1
    have b2 : IntKind.min .i64 ≤ n2 ∧ n2 ≤ IntKind.max .i64 := by simpa [Lit.wf] using w2
    refine ⟨⟨n0, n1, n2⟩, rfl, fun j hj => ?_⟩
    have : j = 0 ∨ j = 1 ∨ j = 2 := by simp at hj; omega
    rcases this with rfl | rfl | rfl
    · exact .i .i64 n0 b0.1 b0.2
    · exact .i .i64 n1 b1.1 b1.2
    · exact .i .i64 n2 b2.1 b2.2

abbrev Glob (W : World) : Prop := ∀ g, G1 g ≠ [] → g < W.heap.size ∧ ∃ cs T fr, W.heap[g]? = some (.cells cs T fr) ∧ ∀ j, j < (G1 g).length → ∃ v, cs[j]? = some v ∧ FRep W (Fall W) v ((G1 g).getD j .nilf)

theorem contract5 (hT : TblOk Tryd.prog G1 U12) (H : Type) (en : TypeId × Value → H) (W : World) (base : Nat) (args : Array Value) (ds gs : List (DataW H)) (before : List MemPlace)
    (hval : ∀ (j : Nat) t v, Tryd.f5.params[j]? = some t → args[j]? = some v → Value.okWide Tryd.prog W .any base t v)
    (hW : DataW.Whole en Tryd.prog Tryd.f5.params.toList Rows.timelineClosureIsSymmetricSpec.vars false W args.toList ds gs before)
    (hglob : Glob W) (hbk : Rows.uptoBulkAll ds ≤ 1048576) :
    Calls Tryd.prog 5 args W fun e W' => ∃ v, e = .returned v ∧ Rows.timelineClosureIsSymmetricSpec.post en Tryd.prog Tryd.f5 false true false false W args v W' := by
  have hW' := hW
  obtain ⟨p, q, hA0, hV, rfl, hfz, hnd⟩ := hW
  have hA : DataW.TrodAll en Tryd.prog W 0 (fun _ => true) true Tryd.f5.params.toList args.toList ds p := hA0
  rw [Tryd.params5] at hA hval
  obtain ⟨v0, vs0, d0, ds0, p0, q0, hargs, rfl, rfl, h0, r0⟩ := trodAll_cons hA
  obtain ⟨v1, vs1, d1, ds1, p1, q1, rfl, rfl, rfl, h1, r1⟩ := trodAll_cons r0
  obtain ⟨rfl, rfl, rfl⟩ := trodAll_nil r1
  obtain rfl : args = #[v0, v1] := by cases args; simp_all
  obtain ⟨rfl, rfl⟩ := trodVars_none hV
  obtain ⟨n, rfl, _, _, wf⟩ := open_int Tryd.underlying3 (hval 0 3 v0 rfl rfl) h0
  obtain ⟨a1, len, cap, rfl⟩ := okWide_slice Tryd.underlying33 (hval 1 33 v1 rfl rfl)
  have h0k := h0
  have h1k := h1
  obtain ⟨fuel, hf⟩ := h0
  obtain ⟨fuel1, hf1⟩ := h1
  clear hA0
  simp only [List.append_nil] at hW'
  have hlt : ∀ x ∈ p0 ++ p1, x.block < W.heap.size := fun x hx => by simpa using hW'.lt x (by simpa using hx)
  obtain ⟨l, l1, l2⟩ := rd_slice (α := Time) bulkOk Tryd.underlying33 (by rw [show Tryd.prog.cellsOf 38 = 3 by kernel_rfl]; decide) rd_time hf1 (by simp only [Rows.uptoBulkAll] at hbk; show Rows.uptoBulk d1 ≤ 1048576; omega)
  obtain ⟨m, m1, m2⟩ := rd_int (blk := fun _ d => Rows.uptoBulk d) Tryd.underlying3 hf (by simp only [Rows.uptoBulkAll] at hbk; show Rows.uptoBulk d0 ≤ 1048576; omega)
  have hrep0 : FRep W (Fall W) (.int .i64 n) (enc m) := m2 0 (by simp [Value.cells])
  have hrep1 : FRep W (Fall W) (.slice a1 len cap) (enc l) := l2 0 (by simp [Value.cells])
  have hcall := calls_of_wcall (vs := [.int .i64 n, .slice a1 len cap]) (xs := [enc m, enc l]) (W := W) (lawF5 hT m l hrep0.wf hrep1.wf) hglob rfl (fun j hj => by
    have : j = 0 ∨ j = 1 := by simp at hj; omega
    rcases this with rfl | rfl
    · exact hrep0
    · exact hrep1)
  refine hcall.mono fun e W' ⟨he, hs⟩ => ?_
  subst he
  have hb : Below W.heap.size W W' := ⟨hs.os, hs.tape, hs.output, hs.size, hs.heap⟩
  refine ⟨_, rfl, post_of_below (pa := p0 ++ p1) (pv := []) hW' (fun _ _ _ => trodAll_cons_mk (shut_bool Tryd.underlying4 _) trodAll_mk0) (fun sp hsp => ?_) (fun _ _ => rfl) (by simp) hb (ok_one (by kernel_rfl) rfl (okWide_bool_mk Tryd.underlying4 _))⟩
  have hst0 : DataW.Trod en Tryd.prog W' 0 sp true 3 (Value.int .i64 n) d0 p0 := WideElems.Trod_stays laidOut (by kernel_rfl) (of_decide_eq_true (by kernel_rfl)) h0k (fun x hx => hb.same (hlt x (List.mem_append_left _ hx))) (fun x hx => hsp x (by simp [hx]))
  have hst1 : DataW.Trod en Tryd.prog W' 0 sp true 33 (Value.slice a1 len cap) d1 p1 := WideElems.Trod_stays laidOut (by kernel_rfl) (of_decide_eq_true (by kernel_rfl)) h1k (fun x hx => hb.same (hlt x (List.mem_append_right _ hx))) (fun x hx => hsp x (by simp [hx]))
  have := trodAll_cons_mk hst0 (trodAll_cons_mk hst1 (trodAll_mk0 (enc := en) (P := Tryd.prog) (w := W') (base := 0) (spare := sp) (held := true)))
  rw [List.append_nil] at this
  rw [Tryd.params5]
  exact this

theorem laid_met5 (os : Os) : laidMet Tryd.prog Rows.timelineClosureIsSymmetricUptoRow.laid ((laidWorld os).forCall (fun _ _ => 0) ⟨#[], #[.int .i64 0, .slice none 0 0], []⟩).memory :=
  laidMet_of_run' 8 (by kernel_rfl) (by kernel_rfl)
theorem reads5 (os : Os) {H : Type} (en : TypeId × Value → H) : ∃ places, DataW.whole en Tryd.prog ((laidWorld os).forCall (fun _ _ => 0) ⟨#[], #[.int .i64 0, .slice none 0 0], []⟩).memory Tryd.f5.params.toList Rows.timelineClosureIsSymmetricSpec.vars false #[Value.int .i64 0, Value.slice none 0 0].toList 8 = some ([.lit (.int .i64 0), .nil], [], places) :=
  ⟨[], by kernel_rfl⟩

set_option maxRecDepth 100000 in
theorem liftedUpto5 (hT : Abs.TblOk Tryd.prog G1 U12) (os : Os) (started : os.Started) (H : Type) (en : TypeId × Value → H) (F : Stop.Interp) :
    ReturnsInHanded {} Tryd.checked os 5 .any ((Rows.OpenSpec.upto Rows.timelineClosureIsSymmetricSpec).preRow en Tryd.prog Tryd.f5 Rows.timelineClosureIsSymmetricUptoRow.domain false Rows.timelineClosureIsSymmetricUptoRow.laid) (((Rows.OpenSpec.upto Rows.timelineClosureIsSymmetricSpec).at F).post en Tryd.prog Tryd.f5 false true false false) := by
  obtain ⟨places, hx⟩ := reads5 os en
  refine returnsInHanded_of_row (C := Tryd.checked) (s := Rows.OpenSpec.upto Rows.timelineClosureIsSymmetricSpec) own started (by kernel_rfl) Tryd.func5
    (witness_row_at (enc := en) (C := Tryd.checked) false (laidWorld os) #[.int .i64 0, .slice none 0 0] rfl (by kernel_rfl) (by kernel_rfl) (by kernel_rfl)
      (OpenSpec.preRow_of_cond 8 hx (by kernel_rfl) (fun k hk => by cases hk; kernel_rfl) (by kernel_rfl) (laid_met5 os))) ?_
  intro W base args ds gs before hval hW _ hc _ hL _ _
  have hL' : laidMet Tryd.prog Rows.timelineClosureIsSymmetricUptoRow.laid W := hL
  have hb : Rows.uptoBulkAll (ds ++ gs) ≤ 1048576 := of_decide_eq_true (hc _ rfl)
  exact contract5 hT H en W base args ds gs before hval hW (glob_of_laid hL') (Nat.le_trans (bulk_app ds gs) hb)

set_option maxRecDepth 100000 in
theorem saidUpto5 (hT : Abs.TblOk Tryd.prog G1 U12) : Rows.TimelineClosureIsSymmetricUptoSaid :=
  OpenClaim.holds_of_cond 5 Tryd.f5 rfl rfl rfl rfl rfl rfl rfl ⟨rfl, rfl, rfl, rfl, rfl⟩ rfl rfl rfl rfl rfl (by kernel_rfl) Tryd.func5 (by kernel_rfl)
    (of_decide_eq_true (by kernel_rfl)) (by unfold Func.isWrapper; first | (rw [if_pos (by decide +kernel)]; kernel_rfl) | (rw [if_neg (by decide +kernel)]; exact ⟨rfl, rfl⟩))
    (fun os started H en _ F => by rw [OpenClaim.pre_eq_preRow]; exact liftedUpto5 hT os started H en F)
theorem plain5 (f : FuncId) (fn : Func) (hf : Tryd.pinned.checked.prog.funcNamed "glosswright/glosswrightlaw2.TimelineClosureIsSymmetric" = some f) (hfn : Tryd.pinned.checked.prog.funcs[f]? = some fn) :
    false = Tryd.pinned.checked.prog.looks [] ∧ ∀ (j : Nat) t, fn.params[j]? = some t → Tryd.pinned.checked.prog.wantsStandIn t = false := by
  obtain rfl : f = 5 := Option.some.inj ((show Tryd.prog.funcNamed "glosswright/glosswrightlaw2.TimelineClosureIsSymmetric" = some 5 by kernel_rfl).symm.trans hf) |>.symm
  obtain rfl : fn = Tryd.f5 := (Option.some.inj (Tryd.func5.symm.trans hfn)).symm
  refine ⟨by kernel_rfl, fun j t ht => ?_⟩
  rw [Tryd.params5] at ht
  have hm : t = 3 ∨ t = 33 := by simpa using Array.mem_of_getElem? ht
  rcases hm with rfl | rfl
  · exact (show Tryd.prog.wantsStandIn 3 = false by kernel_rfl)
  · exact (show Tryd.prog.wantsStandIn 33 = false by kernel_rfl)
theorem cardUpto5 (hT : Abs.TblOk Tryd.prog G1 U12) : Rows.TimelineClosureIsSymmetricUptoCardSaid :=
  Claim7.holds_tied_plain_at .later [] _ _ _ _ (saidUpto5 hT) (fun _ h => by cases h) (by kernel_rfl) (fun _ h => by cases h) timelineClosureIsSymmetricUpto_row_tie rfl ⟨rfl, rfl⟩ (by kernel_rfl) rfl plain5 (by kernel_rfl)
theorem symmetricCard : Rows.TimelineClosureIsSymmetricUptoCardSaid := cardUpto5 (TblOk_glob hU12)
#print axioms symmetricCard
end Go.Proofs.YtbbcinpmomjbgaaDoor
