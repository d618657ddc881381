/- Form returns what the document says of a box (DiscourseMatchesSpec), for inputs within the bound of the statement's second form; no conditions. -/
import Derived.Test.YtoicheicnbjfeaaDoorPJF
import Derived.Test.YtoicheicnbjfeaaDoorPRB
import Derived.Test.YtoicheicnbjfeaaDoorZQ91Q943
set_option linter.unusedSimpArgs false
namespace Go.Proofs.YtoicheicnbjfeaaDoor
open Go Go.Abs Go.RowKit Go.WideShapes Go.ChangeShapes Go.ChangeAt
theorem gol12 {W : World} (h : laidMet Tryd.prog Rows.discourseMatchesSpecUptoRow.laid W) : ∀ g, GA g ≠ [] → g < W.heap.size ∧ ∃ cs T fr, W.heap[g]? = some (.cells cs T fr) ∧ cs.size = (GA g).length ∧ ∀ j, j < (GA g).length → ∃ v, cs[j]? = some v ∧ FRep W (Fall W) v ((GA g).getD j .nilf) :=
  glob_of_laidA h (.tail _ (.tail _ (.tail _ (.head _)))) (.tail _ (.tail _ (.head _)))

set_option maxRecDepth 100000 in
theorem contract12 (hT : TblOk Tryd.prog GA J8) (H : Type) (en : TypeId × Value → H) (W : World) (base : Nat) (args : Array Value) (ds gs : List (DataW H)) (before : List MemPlace)
    (hval : ∀ (j : Nat) t v, Tryd.f12.params[j]? = some t → args[j]? = some v → Value.okWide Tryd.prog W .any base t v)
    (hW : DataW.Whole en Tryd.prog Tryd.f12.params.toList Rows.discourseMatchesSpecSpec.vars false W args.toList ds gs before)
    (hglob : GlobOk GA W (Fall W)) (hbk : Rows.uptoBulkAll ds ≤ 1048576) :
    Calls Tryd.prog 12 args W fun e W' => ∃ v, e = .returned v ∧ Rows.discourseMatchesSpecSpec.post en Tryd.prog Tryd.f12 false true false false W args v W' := by
  have hW' := hW
  obtain ⟨p, q, hA0, hV, rfl, hfz, hnd⟩ := hW
  have hA : DataW.TrodAll en Tryd.prog W 0 (fun _ => true) true Tryd.f12.params.toList args.toList ds p := hA0
  rw [Tryd.params12] at hA hval
  obtain ⟨v0, vs0, d0, ds0, p0, q0, hargs, rfl, rfl, h0, r0⟩ := trodAll_cons hA
  obtain ⟨rfl, rfl, rfl⟩ := trodAll_nil r0
  obtain rfl : args = #[v0] := by cases args; simp_all
  obtain ⟨rfl, rfl⟩ := trodVars_none hV
  obtain ⟨n0, rfl, _⟩ := okWide_struct Tryd.underlying25 (hval 0 25 v0 rfl rfl)
  have h0k := h0
  obtain ⟨fuel0, hf0⟩ := h0
  clear hA0
  simp only [List.append_nil] at hW'
  have hlt : ∀ x ∈ p0, x.block < W.heap.size := fun x hx => by simpa using hW'.lt x (by simpa using hx)
  obtain ⟨x0, l0⟩ := ((rdn_box) : RdN (SizeOf.sizeOf d0 + 1) (fun _ d => Rows.uptoBulk d) Tryd.prog 25 Abs.Box) hf0 (Nat.lt_succ_self _) (by simp only [Rows.uptoBulkAll] at hbk; show Rows.uptoBulk d0 ≤ 1048576; omega)
  have hrep0 : FRep W (Fall W) (.agg n0) (enc x0) := by have h := l0.agg; rw [enc_box] at h ⊢; exact h
  have hcall := calls_of_wcall (vs := [(.agg n0)]) (xs := [enc x0]) (W := W) (lawDisc hT x0 hrep0.wf) hglob rfl (fun j hj => by
    have : j = 0 := by simp at hj; omega
    rcases this with rfl
    · exact hrep0)
  refine hcall.mono fun e W' ⟨he, hs⟩ => ?_
  subst he
  have hb : Below W.heap.size W W' := ⟨hs.os, hs.tape, hs.output, hs.size, hs.heap⟩
  refine ⟨_, rfl, post_of_below (pa := p0) (pv := []) hW' (fun _ _ _ => trodAll_cons_mk (shut_bool Tryd.underlying4 _) trodAll_mk0) (fun sp hsp => ?_) (fun _ _ => rfl) (by simp) hb (ok_one (by kernel_rfl) rfl (okWide_bool_mk Tryd.underlying4 _))⟩
  have hst0 : DataW.Trod en Tryd.prog W' 0 sp true 25 (.agg n0) d0 p0 := WideElems.Trod_stays laidOut (by kernel_rfl) (of_decide_eq_true (by kernel_rfl)) h0k (fun x hx => hb.same (hlt x (by simp [hx]))) (fun x hx => hsp x (by simp [hx]))
  have := trodAll_cons_mk hst0 (trodAll_mk0 (enc := en) (P := Tryd.prog) (w := W') (base := 0) (spare := sp) (held := true))
  rw [List.append_nil] at this
  rw [Tryd.params12]
  exact this

theorem laid_met12 (os : Os) : laidMet Tryd.prog Rows.discourseMatchesSpecUptoRow.laid ((laidWorld os).forCall (fun _ _ => 0) ⟨#[], #[.agg #[.slice none 0 0, .slice none 0 0]], []⟩).memory :=
  laidMet_of_run' 8 (by kernel_rfl) (by kernel_rfl)
theorem reads12 (os : Os) {H : Type} (en : TypeId × Value → H) : ∃ places, DataW.whole en Tryd.prog ((laidWorld os).forCall (fun _ _ => 0) ⟨#[], #[.agg #[.slice none 0 0, .slice none 0 0]], []⟩).memory Tryd.f12.params.toList Rows.discourseMatchesSpecSpec.vars false #[Value.agg #[.slice none 0 0, .slice none 0 0]].toList 8 = some ([.agg [.nil, .nil]], [], places) :=
  ⟨[], by kernel_rfl⟩

set_option maxRecDepth 100000 in
theorem liftedUpto12 (hT : Abs.TblOk Tryd.prog GA J8) (os : Os) (started : os.Started) (H : Type) (en : TypeId × Value → H) (F : Stop.Interp) :
    ReturnsInHanded {} Tryd.checked os 12 .any ((Rows.OpenSpec.upto Rows.discourseMatchesSpecSpec).preRow en Tryd.prog Tryd.f12 Rows.discourseMatchesSpecUptoRow.domain false Rows.discourseMatchesSpecUptoRow.laid) (((Rows.OpenSpec.upto Rows.discourseMatchesSpecSpec).at F).post en Tryd.prog Tryd.f12 false true false false) := by
  obtain ⟨places, hx⟩ := reads12 os en
  refine returnsInHanded_of_row (C := Tryd.checked) (s := Rows.OpenSpec.upto Rows.discourseMatchesSpecSpec) own started (by kernel_rfl) Tryd.func12
    (witness_row_at (enc := en) (C := Tryd.checked) false (laidWorld os) #[.agg #[.slice none 0 0, .slice none 0 0]] rfl (by kernel_rfl) (by kernel_rfl) (by kernel_rfl)
      (OpenSpec.preRow_of_cond 8 hx (by kernel_rfl) (fun k hk => by cases hk; kernel_rfl) (by kernel_rfl) (laid_met12 os))) ?_
  intro W base args ds gs before hval hW _ hc _ hL _ _
  have hL' : laidMet Tryd.prog Rows.discourseMatchesSpecUptoRow.laid W := hL
  have hb : Rows.uptoBulkAll (ds ++ gs) ≤ 1048576 := of_decide_eq_true (hc _ rfl)
  exact contract12 hT H en W base args ds gs before hval hW (glob_cells (gol12 hL')) (Nat.le_trans (bulk_app ds gs) hb)


set_option maxRecDepth 100000 in
theorem jPlace12 : (Rows.discourseMatchesSpecUptoRow.inPlace == Tryd.pinned.checked.prog.inPlace 12) = true := by kernel_rfl
set_option maxRecDepth 100000 in
theorem jUnf12 : (Rows.discourseMatchesSpecUptoRow.unfollowed == Tryd.pinned.checked.prog.unfollowed 12) = true := by kernel_rfl
set_option maxRecDepth 100000 in
theorem jRec12 : (Rows.discourseMatchesSpecUptoRow.recurses == Tryd.pinned.checked.prog.recurses 12) = true := by kernel_rfl
set_option maxRecDepth 100000 in
theorem jNamed12 : (Rows.discourseMatchesSpecUptoRow.named == Tryd.pinned.checked.prog.varsNamed 12) = true := by kernel_rfl
set_option maxRecDepth 100000 in
theorem jGoes12 : false = Rows.discourseMatchesSpecUptoRow.goesBy Tryd.pinned.checked.prog := by kernel_rfl
set_option maxRecDepth 100000 in
theorem jWf12 : Rows.discourseMatchesSpecUptoRow.wfByText (Rows.OpenSpec.upto Rows.discourseMatchesSpecSpec) = true := by kernel_rfl
set_option maxRecDepth 100000 in
theorem jFn12 : Tryd.pinned.checked.prog.funcNamed "glosswright/glosswrightlaw2.DiscourseMatchesSpec" = some 12 := by kernel_rfl
set_option maxRecDepth 100000 in
theorem joined12 : joinedFacts Tryd.pinned.checked.prog 12 Tryd.f12 (Rows.OpenSpec.upto Rows.discourseMatchesSpecSpec).bare Rows.discourseMatchesSpecUptoRow = true := by
  unfold joinedFacts
  exact (am (am (am (am (am (am (am (am (am (am (am (am (am (am (am (am (am (am (am (am (am (am (am (am (am (am (am (am (am (am (am (by kernel_rfl) jLaidOut) jMaps) (by kernel_rfl)) (by kernel_rfl)) (by kernel_rfl)) jStops) (by kernel_rfl)) jKnobs) jPlace12) jUnf12) jRec12) jNamed12) (by kernel_rfl)) (by kernel_rfl)) (by kernel_rfl)) (by kernel_rfl)) (by kernel_rfl)) (by kernel_rfl)) (by kernel_rfl)) (by kernel_rfl)) (by kernel_rfl)) jKeys) (by kernel_rfl)) jHeard) jEnter) jLifts) jMake) (by kernel_rfl)) (by kernel_rfl)) (by kernel_rfl)) (by kernel_rfl))
set_option maxRecDepth 100000 in
theorem saidUpto12 (hT : Abs.TblOk Tryd.prog GA J8) : Rows.DiscourseMatchesSpecUptoSaid :=
  OpenClaim.holds_of_cond 12 Tryd.f12 rfl rfl rfl rfl rfl rfl rfl ⟨rfl, rfl, rfl, rfl, rfl⟩ rfl rfl rfl rfl rfl jFn12 Tryd.func12 joined12
    (of_decide_eq_true (by kernel_rfl)) (by unfold Func.isWrapper; first | (rw [if_pos (by decide +kernel)]; kernel_rfl) | (rw [if_neg (by decide +kernel)]; exact ⟨rfl, rfl⟩))
    (fun os started H en _ F => by rw [OpenClaim.pre_eq_preRow]; exact liftedUpto12 hT os started H en F)
theorem plain12 (f : FuncId) (fn : Func) (hf : Tryd.pinned.checked.prog.funcNamed "glosswright/glosswrightlaw2.DiscourseMatchesSpec" = some f) (hfn : Tryd.pinned.checked.prog.funcs[f]? = some fn) :
    false = Tryd.pinned.checked.prog.looks [] ∧ ∀ (j : Nat) t, fn.params[j]? = some t → Tryd.pinned.checked.prog.wantsStandIn t = false := by
  obtain rfl : f = 12 := Option.some.inj ((show Tryd.prog.funcNamed "glosswright/glosswrightlaw2.DiscourseMatchesSpec" = some 12 from jFn12).symm.trans hf) |>.symm
  obtain rfl : fn = Tryd.f12 := (Option.some.inj (Tryd.func12.symm.trans hfn)).symm
  refine ⟨jLooks, fun j t ht => ?_⟩
  rw [Tryd.params12] at ht
  have hm : t = 25 := by simpa using Array.mem_of_getElem? ht
  rcases hm with rfl
  · exact (show Tryd.prog.wantsStandIn 25 = false by kernel_rfl)
theorem cardUpto12 (hT : Abs.TblOk Tryd.prog GA J8) : Rows.DiscourseMatchesSpecUptoCardSaid :=
  Claim7.holds_tied_plain_at .later [] _ _ _ _ (saidUpto12 hT) (fun _ h => by cases h) jWf12 (fun _ h => by cases h) discourseMatchesSpecUpto_row_tie rfl ⟨rfl, rfl⟩ (by kernel_rfl) rfl plain12 jGoes12
theorem discourseCard : Rows.DiscourseMatchesSpecUptoCardSaid := cardUpto12 (hJ8)
#print axioms discourseCard
end Go.Proofs.YtoicheicnbjfeaaDoor
