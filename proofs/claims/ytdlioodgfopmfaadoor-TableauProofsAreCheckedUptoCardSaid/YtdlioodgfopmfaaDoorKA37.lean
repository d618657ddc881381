/- What Prove returns is accepted by Check (TableauProofsAreChecked), for inputs within the bound of the statement's second form; no conditions. -/
import Derived.Test.YtdlioodgfopmfaaDoorPJF
import Derived.Test.YtdlioodgfopmfaaDoorQ138
set_option linter.unusedSimpArgs false
namespace Go.Proofs.YtdlioodgfopmfaaDoor
open Go Go.Abs Go.RowKit Go.WideShapes Go.ChangeShapes Go.ChangeAt
theorem gol5 {W : World} (h : laidMet Tryd.prog Rows.tableauProofsAreCheckedUptoRow.laid W) : ∀ g, GA g ≠ [] → g < W.heap.size ∧ ∃ cs T fr, W.heap[g]? = some (.cells cs T fr) ∧ cs.size = (GA g).length ∧ ∀ j, j < (GA g).length → ∃ v, cs[j]? = some v ∧ FRep W (Fall W) v ((GA g).getD j .nilf) :=
  glob_of_laidA h (.tail _ (.tail _ (.tail _ (.head _)))) (.tail _ (.tail _ (.head _)))

set_option maxRecDepth 100000 in
theorem contract5 (hT : TblOk Tryd.prog GA Z8) (H : Type) (en : TypeId × Value → H) (W : World) (base : Nat) (args : Array Value) (ds gs : List (DataW H)) (before : List MemPlace)
    (hval : ∀ (j : Nat) t v, Tryd.f5.params[j]? = some t → args[j]? = some v → Value.okWide Tryd.prog W .any base t v)
    (hW : DataW.Whole en Tryd.prog Tryd.f5.params.toList Rows.tableauProofsAreCheckedSpec.vars false W args.toList ds gs before)
    (hglob : GlobOk GA W (Fall W)) (hbk : Rows.uptoBulkAll ds ≤ 1048576) :
    Calls Tryd.prog 5 args W fun e W' => ∃ v, e = .returned v ∧ Rows.tableauProofsAreCheckedSpec.post en Tryd.prog Tryd.f5 false true false false W args v W' := by
  have hW' := hW
  obtain ⟨p, q, hA0, hV, rfl, hfz, hnd⟩ := hW
  have hA : DataW.TrodAll en Tryd.prog W 0 (fun _ => true) true Tryd.f5.params.toList args.toList ds p := hA0
  rw [Tryd.params5] at hA hval
  obtain ⟨v0, vs0, d0, ds0, p0, q0, hargs, rfl, rfl, h0, r0⟩ := trodAll_cons hA
  obtain ⟨v1, vs1, d1, ds1, p1, q1, rfl, rfl, rfl, h1, r1⟩ := trodAll_cons r0
  obtain ⟨v2, vs2, d2, ds2, p2, q2, rfl, rfl, rfl, h2, r2⟩ := trodAll_cons r1
  obtain ⟨rfl, rfl, rfl⟩ := trodAll_nil r2
  obtain rfl : args = #[v0, v1, v2] := by cases args; simp_all
  obtain ⟨rfl, rfl⟩ := trodVars_none hV
  obtain ⟨a0, len0, cap0, rfl⟩ := okWide_slice Tryd.underlying22 (hval 0 22 v0 rfl rfl)
  obtain ⟨n1, rfl, _⟩ := okWide_struct Tryd.underlying25 (hval 1 25 v1 rfl rfl)
  obtain ⟨n2, rfl, _, _, wf2⟩ := open_int Tryd.underlying3 (hval 2 3 v2 rfl rfl) h2
  have h0k := h0
  have h1k := h1
  have h2k := h2
  obtain ⟨fuel0, hf0⟩ := h0
  obtain ⟨fuel1, hf1⟩ := h1
  obtain ⟨fuel2, hf2⟩ := h2
  clear hA0
  simp only [List.append_nil] at hW'
  have hlt : ∀ x ∈ p0 ++ (p1 ++ p2), x.block < W.heap.size := fun x hx => by simpa using hW'.lt x (by simpa using hx)
  obtain ⟨x0, l0⟩ := ((rdn_slice (α := Abs.Form) bulkOk Tryd.underlying22 (by rw [show Tryd.prog.cellsOf 25 = 4 by kernel_rfl]; decide) (rdn_form)) : RdN (SizeOf.sizeOf d0 + 1) (fun _ d => Rows.uptoBulk d) Tryd.prog 22 (List Abs.Form)) hf0 (Nat.lt_succ_self _) (by simp only [Rows.uptoBulkAll] at hbk; show Rows.uptoBulk d0 ≤ 1048576; omega)
  have hrep0 : FRep W (Fall W) (.slice a0 len0 cap0) (enc x0) := l0.one_inv
  obtain ⟨x1, l1⟩ := ((rdn_form) : RdN (SizeOf.sizeOf d1 + 1) (fun _ d => Rows.uptoBulk d) Tryd.prog 25 Abs.Form) hf1 (Nat.lt_succ_self _) (by simp only [Rows.uptoBulkAll] at hbk; show Rows.uptoBulk d1 ≤ 1048576; omega)
  have hrep1 : FRep W (Fall W) (.agg n1) (enc x1) := by have h := l1.agg; rw [enc_form] at h ⊢; exact h
  obtain ⟨x2, l2⟩ := ((rdn_int rfl Tryd.underlying3) : RdN (SizeOf.sizeOf d2 + 1) (fun _ d => Rows.uptoBulk d) Tryd.prog 3 Int) hf2 (Nat.lt_succ_self _) (by simp only [Rows.uptoBulkAll] at hbk; show Rows.uptoBulk d2 ≤ 1048576; omega)
  have hrep2 : FRep W (Fall W) (.int .i64 n2) (enc x2) := l2.one_inv
  have hcall := calls_of_wcall (vs := [(.slice a0 len0 cap0), (.agg n1), (.int .i64 n2)]) (xs := [enc x0, enc x1, enc x2]) (W := W) (lawChecked hT x0 x1 x2 hrep0.wf hrep1.wf hrep2.wf) hglob rfl (fun j hj => by
    have : j = 0 ∨ j = 1 ∨ j = 2 := by simp at hj; omega
    rcases this with rfl | rfl | rfl
    · exact hrep0
    · exact hrep1
    · exact hrep2)
  refine hcall.mono fun e W' ⟨he, hs⟩ => ?_
  subst he
  have hb : Below W.heap.size W W' := ⟨hs.os, hs.tape, hs.output, hs.size, hs.heap⟩
  refine ⟨_, rfl, post_of_below (pa := p0 ++ (p1 ++ p2)) (pv := []) hW' (fun _ _ _ => trodAll_cons_mk (shut_bool Tryd.underlying4 _) trodAll_mk0) (fun sp hsp => ?_) (fun _ _ => rfl) (by simp) hb (ok_one (by kernel_rfl) rfl (okWide_bool_mk Tryd.underlying4 _))⟩
  have hst0 : DataW.Trod en Tryd.prog W' 0 sp true 22 (.slice a0 len0 cap0) d0 p0 := WideElems.Trod_stays laidOut (by kernel_rfl) (of_decide_eq_true (by kernel_rfl)) h0k (fun x hx => hb.same (hlt x (by simp [hx]))) (fun x hx => hsp x (by simp [hx]))
  have hst1 : DataW.Trod en Tryd.prog W' 0 sp true 25 (.agg n1) d1 p1 := WideElems.Trod_stays laidOut (by kernel_rfl) (of_decide_eq_true (by kernel_rfl)) h1k (fun x hx => hb.same (hlt x (by simp [hx]))) (fun x hx => hsp x (by simp [hx]))
  have hst2 : DataW.Trod en Tryd.prog W' 0 sp true 3 (.int .i64 n2) d2 p2 := WideElems.Trod_stays laidOut (by kernel_rfl) (of_decide_eq_true (by kernel_rfl)) h2k (fun x hx => hb.same (hlt x (by simp [hx]))) (fun x hx => hsp x (by simp [hx]))
  have := trodAll_cons_mk hst0 (trodAll_cons_mk hst1 (trodAll_cons_mk hst2 (trodAll_mk0 (enc := en) (P := Tryd.prog) (w := W') (base := 0) (spare := sp) (held := true))))
  rw [List.append_nil] at this
  rw [Tryd.params5]
  exact this

theorem laid_met5 (os : Os) : laidMet Tryd.prog Rows.tableauProofsAreCheckedUptoRow.laid ((laidWorld os).forCall (fun _ _ => 0) ⟨#[], #[.slice none 0 0, .agg #[.int .i64 0, .string ⟨#[]⟩, .slice none 0 0, .slice none 0 0], .int .i64 0], []⟩).memory :=
  laidMet_of_run' 8 (by kernel_rfl) (by kernel_rfl)
theorem reads5 (os : Os) {H : Type} (en : TypeId × Value → H) : ∃ places, DataW.whole en Tryd.prog ((laidWorld os).forCall (fun _ _ => 0) ⟨#[], #[.slice none 0 0, .agg #[.int .i64 0, .string ⟨#[]⟩, .slice none 0 0, .slice none 0 0], .int .i64 0], []⟩).memory Tryd.f5.params.toList Rows.tableauProofsAreCheckedSpec.vars false #[Value.slice none 0 0, Value.agg #[.int .i64 0, .string ⟨#[]⟩, .slice none 0 0, .slice none 0 0], Value.int .i64 0].toList 8 = some ([.nil, .agg [.lit (.int .i64 0), .lit (.string []), .nil, .nil], .lit (.int .i64 0)], [], places) :=
  ⟨[], by kernel_rfl⟩

set_option maxRecDepth 100000 in
theorem liftedUpto5 (hT : Abs.TblOk Tryd.prog GA Z8) (os : Os) (started : os.Started) (H : Type) (en : TypeId × Value → H) (F : Stop.Interp) :
    ReturnsInHanded {} Tryd.checked os 5 .any ((Rows.OpenSpec.upto Rows.tableauProofsAreCheckedSpec).preRow en Tryd.prog Tryd.f5 Rows.tableauProofsAreCheckedUptoRow.domain false Rows.tableauProofsAreCheckedUptoRow.laid) (((Rows.OpenSpec.upto Rows.tableauProofsAreCheckedSpec).at F).post en Tryd.prog Tryd.f5 false true false false) := by
  obtain ⟨places, hx⟩ := reads5 os en
  refine returnsInHanded_of_row (C := Tryd.checked) (s := Rows.OpenSpec.upto Rows.tableauProofsAreCheckedSpec) own started (by kernel_rfl) Tryd.func5
    (witness_row_at (enc := en) (C := Tryd.checked) false (laidWorld os) #[.slice none 0 0, .agg #[.int .i64 0, .string ⟨#[]⟩, .slice none 0 0, .slice none 0 0], .int .i64 0] rfl (by kernel_rfl) (by kernel_rfl) (by kernel_rfl)
      (OpenSpec.preRow_of_cond 8 hx (by kernel_rfl) (fun k hk => by cases hk; kernel_rfl) (by kernel_rfl) (laid_met5 os))) ?_
  intro W base args ds gs before hval hW _ hc _ hL _ _
  have hL' : laidMet Tryd.prog Rows.tableauProofsAreCheckedUptoRow.laid W := hL
  have hb : Rows.uptoBulkAll (ds ++ gs) ≤ 1048576 := of_decide_eq_true (hc _ rfl)
  exact contract5 hT H en W base args ds gs before hval hW (glob_cells (gol5 hL')) (Nat.le_trans (bulk_app ds gs) hb)


set_option maxRecDepth 100000 in
theorem jPlace5 : (Rows.tableauProofsAreCheckedUptoRow.inPlace == Tryd.pinned.checked.prog.inPlace 5) = true := by kernel_rfl
set_option maxRecDepth 100000 in
theorem jUnf5 : (Rows.tableauProofsAreCheckedUptoRow.unfollowed == Tryd.pinned.checked.prog.unfollowed 5) = true := by kernel_rfl
set_option maxRecDepth 100000 in
theorem jRec5 : (Rows.tableauProofsAreCheckedUptoRow.recurses == Tryd.pinned.checked.prog.recurses 5) = true := by kernel_rfl
set_option maxRecDepth 100000 in
theorem jNamed5 : (Rows.tableauProofsAreCheckedUptoRow.named == Tryd.pinned.checked.prog.varsNamed 5) = true := by kernel_rfl
set_option maxRecDepth 100000 in
theorem jGoes5 : false = Rows.tableauProofsAreCheckedUptoRow.goesBy Tryd.pinned.checked.prog := by kernel_rfl
set_option maxRecDepth 100000 in
theorem jWf5 : Rows.tableauProofsAreCheckedUptoRow.wfByText (Rows.OpenSpec.upto Rows.tableauProofsAreCheckedSpec) = true := by kernel_rfl
set_option maxRecDepth 100000 in
theorem jFn5 : Tryd.pinned.checked.prog.funcNamed "glosswright/glosswrightlaw2.TableauProofsAreChecked" = some 5 := by kernel_rfl
set_option maxRecDepth 100000 in
theorem joined5 : joinedFacts Tryd.pinned.checked.prog 5 Tryd.f5 (Rows.OpenSpec.upto Rows.tableauProofsAreCheckedSpec).bare Rows.tableauProofsAreCheckedUptoRow = true := by
  unfold joinedFacts
  exact (am (am (am (am (am (am (am (am (am (am (am (am (am (am (am (am (am (am (am (am (am (am (am (am (am (am (am (am (am (am (am (by kernel_rfl) jLaidOut) jMaps) (by kernel_rfl)) (by kernel_rfl)) (by kernel_rfl)) jStops) (by kernel_rfl)) jKnobs) jPlace5) jUnf5) jRec5) jNamed5) (by kernel_rfl)) (by kernel_rfl)) (by kernel_rfl)) (by kernel_rfl)) (by kernel_rfl)) (by kernel_rfl)) (by kernel_rfl)) (by kernel_rfl)) (by kernel_rfl)) jKeys) (by kernel_rfl)) jHeard) jEnter) jLifts) jMake) (by kernel_rfl)) (by kernel_rfl)) (by kernel_rfl)) (by kernel_rfl))
set_option maxRecDepth 100000 in
theorem saidUpto5 (hT : Abs.TblOk Tryd.prog GA Z8) : Rows.TableauProofsAreCheckedUptoSaid :=
  OpenClaim.holds_of_cond 5 Tryd.f5 rfl rfl rfl rfl rfl rfl rfl ⟨rfl, rfl, rfl, rfl, rfl⟩ rfl rfl rfl rfl rfl jFn5 Tryd.func5 joined5
    (of_decide_eq_true (by kernel_rfl)) (by unfold Func.isWrapper; first | (rw [if_pos (by decide +kernel)]; kernel_rfl) | (rw [if_neg (by decide +kernel)]; exact ⟨rfl, rfl⟩))
    (fun os started H en _ F => by rw [OpenClaim.pre_eq_preRow]; exact liftedUpto5 hT os started H en F)
theorem plain5 (f : FuncId) (fn : Func) (hf : Tryd.pinned.checked.prog.funcNamed "glosswright/glosswrightlaw2.TableauProofsAreChecked" = some f) (hfn : Tryd.pinned.checked.prog.funcs[f]? = some fn) :
    false = Tryd.pinned.checked.prog.looks [] ∧ ∀ (j : Nat) t, fn.params[j]? = some t → Tryd.pinned.checked.prog.wantsStandIn t = false := by
  obtain rfl : f = 5 := Option.some.inj ((show Tryd.prog.funcNamed "glosswright/glosswrightlaw2.TableauProofsAreChecked" = some 5 from jFn5).symm.trans hf) |>.symm
  obtain rfl : fn = Tryd.f5 := (Option.some.inj (Tryd.func5.symm.trans hfn)).symm
  refine ⟨jLooks, fun j t ht => ?_⟩
  rw [Tryd.params5] at ht
  have hm : t = 22 ∨ t = 25 ∨ t = 3 := by simpa using Array.mem_of_getElem? ht
  rcases hm with rfl | rfl | rfl
  · exact (show Tryd.prog.wantsStandIn 22 = false by kernel_rfl)
  · exact (show Tryd.prog.wantsStandIn 25 = false by kernel_rfl)
  · exact (show Tryd.prog.wantsStandIn 3 = false by kernel_rfl)
theorem cardUpto5 (hT : Abs.TblOk Tryd.prog GA Z8) : Rows.TableauProofsAreCheckedUptoCardSaid :=
  Claim7.holds_tied_plain_at .later [] _ _ _ _ (saidUpto5 hT) (fun _ h => by cases h) jWf5 (fun _ h => by cases h) tableauProofsAreCheckedUpto_row_tie rfl ⟨rfl, rfl⟩ (by kernel_rfl) rfl plain5 jGoes5
theorem proofsCheckedCard : Rows.TableauProofsAreCheckedUptoCardSaid := cardUpto5 (hZ8)
#print axioms proofsCheckedCard
end Go.Proofs.YtdlioodgfopmfaaDoor
