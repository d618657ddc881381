/- From returns what the document says (ScopeFromMatchesSpec), for inputs within the bound of the statement's second form; no conditions. -/
import Derived.Test.YtoicheicnbjfeaaDoorPJF
import Derived.Test.YtoicheicnbjfeaaDoorZQ66Q682
set_option linter.unusedSimpArgs false
namespace Go.Proofs.YtoicheicnbjfeaaDoor
open Go Go.Abs Go.RowKit Go.WideShapes Go.ChangeShapes Go.ChangeAt
theorem gol9 {W : World} (h : laidMet Tryd.prog Rows.scopeFromMatchesSpecUptoRow.laid W) : ∀ g, GA g ≠ [] → g < W.heap.size ∧ ∃ cs T fr, W.heap[g]? = some (.cells cs T fr) ∧ cs.size = (GA g).length ∧ ∀ j, j < (GA g).length → ∃ v, cs[j]? = some v ∧ FRep W (Fall W) v ((GA g).getD j .nilf) :=
  glob_of_laidA h (.tail _ (.tail _ (.tail _ (.head _)))) (.tail _ (.tail _ (.head _)))

set_option maxRecDepth 100000 in
theorem contract9 (hT : TblOk Tryd.prog GA X36) (H : Type) (en : TypeId × Value → H) (W : World) (base : Nat) (args : Array Value) (ds gs : List (DataW H)) (before : List MemPlace)
    (hval : ∀ (j : Nat) t v, Tryd.f9.params[j]? = some t → args[j]? = some v → Value.okWide Tryd.prog W .any base t v)
    (hW : DataW.Whole en Tryd.prog Tryd.f9.params.toList Rows.scopeFromMatchesSpecSpec.vars false W args.toList ds gs before)
    (hglob : GlobOk GA W (Fall W)) (hbk : Rows.uptoBulkAll ds ≤ 1048576) :
    Calls Tryd.prog 9 args W fun e W' => ∃ v, e = .returned v ∧ Rows.scopeFromMatchesSpecSpec.post en Tryd.prog Tryd.f9 false true false false W args v W' := by
  have hW' := hW
  obtain ⟨p, q, hA0, hV, rfl, hfz, hnd⟩ := hW
  have hA : DataW.TrodAll en Tryd.prog W 0 (fun _ => true) true Tryd.f9.params.toList args.toList ds p := hA0
  rw [Tryd.params9] at hA hval
  obtain ⟨v0, vs0, d0, ds0, p0, q0, hargs, rfl, rfl, h0, r0⟩ := trodAll_cons hA
  obtain ⟨rfl, rfl, rfl⟩ := trodAll_nil r0
  obtain rfl : args = #[v0] := by cases args; simp_all
  obtain ⟨rfl, rfl⟩ := trodVars_none hV
  obtain ⟨n0, rfl, _⟩ := okWide_struct Tryd.underlying48 (hval 0 48 v0 rfl rfl)
  have h0k := h0
  obtain ⟨fuel0, hf0⟩ := h0
  clear hA0
  simp only [List.append_nil] at hW'
  have hlt : ∀ x ∈ p0, x.block < W.heap.size := fun x hx => by simpa using hW'.lt x (by simpa using hx)
  obtain ⟨x0, l0⟩ := ((rdn_form) : RdN (SizeOf.sizeOf d0 + 1) (fun _ d => Rows.uptoBulk d) Tryd.prog 48 Abs.Form) hf0 (Nat.lt_succ_self _) (by simp only [Rows.uptoBulkAll] at hbk; show Rows.uptoBulk d0 ≤ 1048576; omega)
  have hrep0 : FRep W (Fall W) (.agg n0) (enc x0) := by have h := l0.agg; rw [enc_form] at h ⊢; exact h
  have hcall := calls_of_wcall (vs := [(.agg n0)]) (xs := [enc x0]) (W := W) (lawF14 hT x0 hrep0.wf) hglob rfl (fun j hj => by
    have : j = 0 := by simp at hj; omega
    rcases this with rfl
    · exact hrep0)
  refine hcall.mono fun e W' ⟨he, hs⟩ => ?_
  subst he
  have hb : Below W.heap.size W W' := ⟨hs.os, hs.tape, hs.output, hs.size, hs.heap⟩
  refine ⟨_, rfl, post_of_below (pa := p0) (pv := []) hW' (fun _ _ _ => trodAll_cons_mk (shut_bool Tryd.underlying4 _) trodAll_mk0) (fun sp hsp => ?_) (fun _ _ => rfl) (by simp) hb (ok_one (by kernel_rfl) rfl (okWide_bool_mk Tryd.underlying4 _))⟩
  have hst0 : DataW.Trod en Tryd.prog W' 0 sp true 48 (.agg n0) d0 p0 := WideElems.Trod_stays laidOut (by kernel_rfl) (of_decide_eq_true (by kernel_rfl)) h0k (fun x hx => hb.same (hlt x (by simp [hx]))) (fun x hx => hsp x (by simp [hx]))
  have := trodAll_cons_mk hst0 (trodAll_mk0 (enc := en) (P := Tryd.prog) (w := W') (base := 0) (spare := sp) (held := true))
  rw [List.append_nil] at this
  rw [Tryd.params9]
  exact this

theorem laid_met9 (os : Os) : laidMet Tryd.prog Rows.scopeFromMatchesSpecUptoRow.laid ((laidWorld os).forCall (fun _ _ => 0) ⟨#[], #[.agg #[.int .i64 0, .string ⟨#[]⟩, .slice none 0 0, .slice none 0 0]], []⟩).memory :=
  laidMet_of_run' 8 (by kernel_rfl) (by kernel_rfl)
theorem reads9 (os : Os) {H : Type} (en : TypeId × Value → H) : ∃ places, DataW.whole en Tryd.prog ((laidWorld os).forCall (fun _ _ => 0) ⟨#[], #[.agg #[.int .i64 0, .string ⟨#[]⟩, .slice none 0 0, .slice none 0 0]], []⟩).memory Tryd.f9.params.toList Rows.scopeFromMatchesSpecSpec.vars false #[Value.agg #[.int .i64 0, .string ⟨#[]⟩, .slice none 0 0, .slice none 0 0]].toList 8 = some ([.agg [.lit (.int .i64 0), .lit (.string []), .nil, .nil]], [], places) :=
  ⟨[], by kernel_rfl⟩

set_option maxRecDepth 100000 in
theorem liftedUpto9 (hT : Abs.TblOk Tryd.prog GA X36) (os : Os) (started : os.Started) (H : Type) (en : TypeId × Value → H) (F : Stop.Interp) :
    ReturnsInHanded {} Tryd.checked os 9 .any ((Rows.OpenSpec.upto Rows.scopeFromMatchesSpecSpec).preRow en Tryd.prog Tryd.f9 Rows.scopeFromMatchesSpecUptoRow.domain false Rows.scopeFromMatchesSpecUptoRow.laid) (((Rows.OpenSpec.upto Rows.scopeFromMatchesSpecSpec).at F).post en Tryd.prog Tryd.f9 false true false false) := by
  obtain ⟨places, hx⟩ := reads9 os en
  refine returnsInHanded_of_row (C := Tryd.checked) (s := Rows.OpenSpec.upto Rows.scopeFromMatchesSpecSpec) own started (by kernel_rfl) Tryd.func9
    (witness_row_at (enc := en) (C := Tryd.checked) false (laidWorld os) #[.agg #[.int .i64 0, .string ⟨#[]⟩, .slice none 0 0, .slice none 0 0]] rfl (by kernel_rfl) (by kernel_rfl) (by kernel_rfl)
      (OpenSpec.preRow_of_cond 8 hx (by kernel_rfl) (fun k hk => by cases hk; kernel_rfl) (by kernel_rfl) (laid_met9 os))) ?_
  intro W base args ds gs before hval hW _ hc _ hL _ _
  have hL' : laidMet Tryd.prog Rows.scopeFromMatchesSpecUptoRow.laid W := hL
  have hb : Rows.uptoBulkAll (ds ++ gs) ≤ 1048576 := of_decide_eq_true (hc _ rfl)
  exact contract9 hT H en W base args ds gs before hval hW (glob_cells (gol9 hL')) (Nat.le_trans (bulk_app ds gs) hb)


set_option maxRecDepth 100000 in
theorem jPlace9 : (Rows.scopeFromMatchesSpecUptoRow.inPlace == Tryd.pinned.checked.prog.inPlace 9) = true := by kernel_rfl
set_option maxRecDepth 100000 in
theorem jUnf9 : (Rows.scopeFromMatchesSpecUptoRow.unfollowed == Tryd.pinned.checked.prog.unfollowed 9) = true := by kernel_rfl
set_option maxRecDepth 100000 in
theorem jRec9 : (Rows.scopeFromMatchesSpecUptoRow.recurses == Tryd.pinned.checked.prog.recurses 9) = true := by kernel_rfl
set_option maxRecDepth 100000 in
theorem jNamed9 : (Rows.scopeFromMatchesSpecUptoRow.named == Tryd.pinned.checked.prog.varsNamed 9) = true := by kernel_rfl
set_option maxRecDepth 100000 in
theorem jGoes9 : false = Rows.scopeFromMatchesSpecUptoRow.goesBy Tryd.pinned.checked.prog := by kernel_rfl
set_option maxRecDepth 100000 in
theorem jWf9 : Rows.scopeFromMatchesSpecUptoRow.wfByText (Rows.OpenSpec.upto Rows.scopeFromMatchesSpecSpec) = true := by kernel_rfl
set_option maxRecDepth 100000 in
theorem jFn9 : Tryd.pinned.checked.prog.funcNamed "glosswright/glosswrightlaw2.ScopeFromMatchesSpec" = some 9 := by kernel_rfl
set_option maxRecDepth 100000 in
theorem joined9 : joinedFacts Tryd.pinned.checked.prog 9 Tryd.f9 (Rows.OpenSpec.upto Rows.scopeFromMatchesSpecSpec).bare Rows.scopeFromMatchesSpecUptoRow = true := by
  unfold joinedFacts
  exact (am (am (am (am (am (am (am (am (am (am (am (am (am (am (am (am (am (am (am (am (am (am (am (am (am (am (am (am (am (am (am (by kernel_rfl) jLaidOut) jMaps) (by kernel_rfl)) (by kernel_rfl)) (by kernel_rfl)) jStops) (by kernel_rfl)) jKnobs) jPlace9) jUnf9) jRec9) jNamed9) (by kernel_rfl)) (by kernel_rfl)) (by kernel_rfl)) (by kernel_rfl)) (by kernel_rfl)) (by kernel_rfl)) (by kernel_rfl)) (by kernel_rfl)) (by kernel_rfl)) jKeys) (by kernel_rfl)) jHeard) jEnter) jLifts) jMake) (by kernel_rfl)) (by kernel_rfl)) (by kernel_rfl)) (by kernel_rfl))
set_option maxRecDepth 100000 in
theorem saidUpto9 (hT : Abs.TblOk Tryd.prog GA X36) : Rows.ScopeFromMatchesSpecUptoSaid :=
  OpenClaim.holds_of_cond 9 Tryd.f9 rfl rfl rfl rfl rfl rfl rfl ⟨rfl, rfl, rfl, rfl, rfl⟩ rfl rfl rfl rfl rfl jFn9 Tryd.func9 joined9
    (of_decide_eq_true (by kernel_rfl)) (by unfold Func.isWrapper; first | (rw [if_pos (by decide +kernel)]; kernel_rfl) | (rw [if_neg (by decide +kernel)]; exact ⟨rfl, rfl⟩))
    (fun os started H en _ F => by rw [OpenClaim.pre_eq_preRow]; exact liftedUpto9 hT os started H en F)
theorem plain9 (f : FuncId) (fn : Func) (hf : Tryd.pinned.checked.prog.funcNamed "glosswright/glosswrightlaw2.ScopeFromMatchesSpec" = some f) (hfn : Tryd.pinned.checked.prog.funcs[f]? = some fn) :
    false = Tryd.pinned.checked.prog.looks [] ∧ ∀ (j : Nat) t, fn.params[j]? = some t → Tryd.pinned.checked.prog.wantsStandIn t = false := by
  obtain rfl : f = 9 := Option.some.inj ((show Tryd.prog.funcNamed "glosswright/glosswrightlaw2.ScopeFromMatchesSpec" = some 9 from jFn9).symm.trans hf) |>.symm
  obtain rfl : fn = Tryd.f9 := (Option.some.inj (Tryd.func9.symm.trans hfn)).symm
  refine ⟨jLooks, fun j t ht => ?_⟩
  rw [Tryd.params9] at ht
  have hm : t = 48 := by simpa using Array.mem_of_getElem? ht
  rcases hm with rfl
  · exact (show Tryd.prog.wantsStandIn 48 = false by kernel_rfl)
theorem cardUpto9 (hT : Abs.TblOk Tryd.prog GA X36) : Rows.ScopeFromMatchesSpecUptoCardSaid :=
  Claim7.holds_tied_plain_at .later [] _ _ _ _ (saidUpto9 hT) (fun _ h => by cases h) jWf9 (fun _ h => by cases h) scopeFromMatchesSpecUpto_row_tie rfl ⟨rfl, rfl⟩ (by kernel_rfl) rfl plain9 jGoes9
theorem scopeFromCard : Rows.ScopeFromMatchesSpecUptoCardSaid := cardUpto9 (hX36)
#print axioms scopeFromCard
end Go.Proofs.YtoicheicnbjfeaaDoor
