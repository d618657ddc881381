/- What Prove proves is true in each model in which all axioms are (TableauIsSound), for inputs within the bound of the statement's second form; no conditions. -/
import Derived.Test.YtdlioodgfopmfaaDoorPJMA
import Derived.Test.YtdlioodgfopmfaaDoorQ140
set_option maxRecDepth 100000
set_option linter.unusedSimpArgs false
namespace Go.Proofs.YtdlioodgfopmfaaDoor
open Go Go.Abs Go.RowKit Go.WideShapes Go.ChangeShapes Go.ChangeAt
theorem gol6 {W : World} (h : laidMet Tryd.prog Rows.tableauIsSoundUptoRow.laid W) : ∀ g, GA g ≠ [] → g < W.heap.size ∧ ∃ cs T fr, W.heap[g]? = some (.cells cs T fr) ∧ cs.size = (GA g).length ∧ ∀ j, j < (GA g).length → ∃ v, cs[j]? = some v ∧ FRep W (Fall W) v ((GA g).getD j .nilf) :=
  glob_of_laidA h (.tail _ (.tail _ (.tail _ (.head _)))) (.tail _ (.tail _ (.head _)))

theorem contract6 (hT : TblOk Tryd.prog GA Z9) (H : Type) (en : TypeId × Value → H) (W : World) (base : Nat) (args : Array Value) (ds gs : List (DataW H)) (before : List MemPlace)
    (hval : ∀ (j : Nat) t v, Tryd.f6.params[j]? = some t → args[j]? = some v → Value.okWide Tryd.prog W .any base t v)
    (hW : DataW.Whole en Tryd.prog Tryd.f6.params.toList Rows.tableauIsSoundSpec.vars false W args.toList ds gs before)
    (hglob : GlobOk GA W (Fall W)) (hbk : Rows.uptoBulkAll ds ≤ 1048576) :
    Calls Tryd.prog 6 args W fun e W' => ∃ v, e = .returned v ∧ Rows.tableauIsSoundSpec.post en Tryd.prog Tryd.f6 false true false false W args v W' := by
  have hW' := hW
  obtain ⟨p, q, hA0, hV, rfl, hfz, hnd⟩ := hW
  have hA : DataW.TrodAll en Tryd.prog W 0 (fun _ => true) true Tryd.f6.params.toList args.toList ds p := hA0
  rw [Tryd.params6] at hA hval
  obtain ⟨v0, vs0, d0, ds0, p0, q0, hargs, rfl, rfl, h0, r0⟩ := trodAll_cons hA
  obtain ⟨v1, vs1, d1, ds1, p1, q1, rfl, rfl, rfl, h1, r1⟩ := trodAll_cons r0
  obtain ⟨v2, vs2, d2, ds2, p2, q2, rfl, rfl, rfl, h2, r2⟩ := trodAll_cons r1
  obtain ⟨v3, vs3, d3, ds3, p3, q3, rfl, rfl, rfl, h3, r3⟩ := trodAll_cons r2
  obtain ⟨rfl, rfl, rfl⟩ := trodAll_nil r3
  obtain rfl : args = #[v0, v1, v2, v3] := by cases args; simp_all
  obtain ⟨rfl, rfl⟩ := trodVars_none hV
  obtain ⟨a0, len0, cap0, rfl⟩ := okWide_slice Tryd.underlying22 (hval 0 22 v0 rfl rfl)
  obtain ⟨n1, rfl, _⟩ := okWide_struct Tryd.underlying25 (hval 1 25 v1 rfl rfl)
  obtain ⟨n2, rfl, _, _, wf2⟩ := open_int Tryd.underlying3 (hval 2 3 v2 rfl rfl) h2
  obtain ⟨n3, rfl, _⟩ := okWide_struct Tryd.underlying46 (hval 3 46 v3 rfl rfl)
  have h0k := h0
  have h1k := h1
  have h2k := h2
  have h3k := h3
  obtain ⟨fuel0, hf0⟩ := h0
  obtain ⟨fuel1, hf1⟩ := h1
  obtain ⟨fuel2, hf2⟩ := h2
  obtain ⟨fuel3, hf3⟩ := h3
  clear hA0
  simp only [List.append_nil] at hW'
  have hlt : ∀ x ∈ p0 ++ (p1 ++ (p2 ++ p3)), x.block < W.heap.size := fun x hx => by simpa using hW'.lt x (by simpa using hx)
  obtain ⟨x0, l0⟩ := ((rdn_slice (α := Abs.Form) bulkOk Tryd.underlying22 (by rw [show Tryd.prog.cellsOf 25 = 4 by kernel_rfl]; decide) (rdn_form)) : RdN (SizeOf.sizeOf d0 + 1) (fun _ d => Rows.uptoBulk d) Tryd.prog 22 (List Abs.Form)) hf0 (Nat.lt_succ_self _) (by simp only [Rows.uptoBulkAll] at hbk; show Rows.uptoBulk d0 ≤ 1048576; omega)
  have hrep0 : FRep W (Fall W) (.slice a0 len0 cap0) (enc x0) := l0.one_inv
  obtain ⟨x1, l1⟩ := ((rdn_form) : RdN (SizeOf.sizeOf d1 + 1) (fun _ d => Rows.uptoBulk d) Tryd.prog 25 Abs.Form) hf1 (Nat.lt_succ_self _) (by simp only [Rows.uptoBulkAll] at hbk; show Rows.uptoBulk d1 ≤ 1048576; omega)
  have hrep1 : FRep W (Fall W) (.agg n1) (enc x1) := by have h := l1.agg; rw [enc_form] at h ⊢; exact h
  obtain ⟨x2, l2⟩ := ((rdn_int rfl Tryd.underlying3) : RdN (SizeOf.sizeOf d2 + 1) (fun _ d => Rows.uptoBulk d) Tryd.prog 3 Int) hf2 (Nat.lt_succ_self _) (by simp only [Rows.uptoBulkAll] at hbk; show Rows.uptoBulk d2 ≤ 1048576; omega)
  have hrep2 : FRep W (Fall W) (.int .i64 n2) (enc x2) := l2.one_inv
  obtain ⟨x3, l3⟩ := ((rdn_model) : RdN (SizeOf.sizeOf d3 + 1) (fun _ d => Rows.uptoBulk d) Tryd.prog 46 Model) hf3 (Nat.lt_succ_self _) (by simp only [Rows.uptoBulkAll] at hbk; show Rows.uptoBulk d3 ≤ 1048576; omega)
  have hrep3 : FRep W (Fall W) (.agg n3) (enc x3) := by have h := l3.agg; rw [enc_model] at h ⊢; exact h
  have hcall := calls_of_wcall (vs := [(.slice a0 len0 cap0), (.agg n1), (.int .i64 n2), (.agg n3)]) (xs := [enc x0, enc x1, enc x2, enc x3]) (W := W) (lawSound hT x0 x1 x2 x3 hrep0.wf hrep1.wf hrep2.wf hrep3.wf) hglob rfl (fun j hj => by
    have : j = 0 ∨ j = 1 ∨ j = 2 ∨ j = 3 := by simp at hj; omega
    rcases this with rfl | rfl | rfl | rfl
    · exact hrep0
    · exact hrep1
    · exact hrep2
    · exact hrep3)
  refine hcall.mono fun e W' ⟨he, hs⟩ => ?_
  subst he
  have hb : Below W.heap.size W W' := ⟨hs.os, hs.tape, hs.output, hs.size, hs.heap⟩
  refine ⟨_, rfl, post_of_below (pa := p0 ++ (p1 ++ (p2 ++ p3))) (pv := []) hW' (fun _ _ _ => trodAll_cons_mk (shut_bool Tryd.underlying4 _) trodAll_mk0) (fun sp hsp => ?_) (fun _ _ => rfl) (by simp) hb (ok_one (by kernel_rfl) rfl (okWide_bool_mk Tryd.underlying4 _))⟩
  have hst0 : DataW.Trod en Tryd.prog W' 0 sp true 22 (.slice a0 len0 cap0) d0 p0 := WideElems.Trod_stays laidOut (by kernel_rfl) (of_decide_eq_true (by kernel_rfl)) h0k (fun x hx => hb.same (hlt x (by simp [hx]))) (fun x hx => hsp x (by simp [hx]))
  have hst1 : DataW.Trod en Tryd.prog W' 0 sp true 25 (.agg n1) d1 p1 := WideElems.Trod_stays laidOut (by kernel_rfl) (of_decide_eq_true (by kernel_rfl)) h1k (fun x hx => hb.same (hlt x (by simp [hx]))) (fun x hx => hsp x (by simp [hx]))
  have hst2 : DataW.Trod en Tryd.prog W' 0 sp true 3 (.int .i64 n2) d2 p2 := WideElems.Trod_stays laidOut (by kernel_rfl) (of_decide_eq_true (by kernel_rfl)) h2k (fun x hx => hb.same (hlt x (by simp [hx]))) (fun x hx => hsp x (by simp [hx]))
  have hst3 : DataW.Trod en Tryd.prog W' 0 sp true 46 (.agg n3) d3 p3 := WideElems.Trod_stays laidOut (by kernel_rfl) (of_decide_eq_true (by kernel_rfl)) h3k (fun x hx => hb.same (hlt x (by simp [hx]))) (fun x hx => hsp x (by simp [hx]))
  have := trodAll_cons_mk hst0 (trodAll_cons_mk hst1 (trodAll_cons_mk hst2 (trodAll_cons_mk hst3 (trodAll_mk0 (enc := en) (P := Tryd.prog) (w := W') (base := 0) (spare := sp) (held := true)))))
  rw [List.append_nil] at this
  rw [Tryd.params6]
  exact this

theorem laid_met6 (os : Os) : laidMet Tryd.prog Rows.tableauIsSoundUptoRow.laid ((laidWorld os).forCall (fun _ _ => 0) ⟨#[], #[.slice none 0 0, .agg #[.int .i64 0, .string ⟨#[]⟩, .slice none 0 0, .slice none 0 0], .int .i64 0, .agg #[.int .i64 0, .slice none 0 0, .slice none 0 0]], []⟩).memory :=
  laidMet_of_run' 8 (by kernel_rfl) (by kernel_rfl)
theorem reads6 (os : Os) {H : Type} (en : TypeId × Value → H) : ∃ places, DataW.whole en Tryd.prog ((laidWorld os).forCall (fun _ _ => 0) ⟨#[], #[.slice none 0 0, .agg #[.int .i64 0, .string ⟨#[]⟩, .slice none 0 0, .slice none 0 0], .int .i64 0, .agg #[.int .i64 0, .slice none 0 0, .slice none 0 0]], []⟩).memory Tryd.f6.params.toList Rows.tableauIsSoundSpec.vars false #[Value.slice none 0 0, Value.agg #[.int .i64 0, .string ⟨#[]⟩, .slice none 0 0, .slice none 0 0], Value.int .i64 0, Value.agg #[.int .i64 0, .slice none 0 0, .slice none 0 0]].toList 8 = some ([.nil, .agg [.lit (.int .i64 0), .lit (.string []), .nil, .nil], .lit (.int .i64 0), .agg [.lit (.int .i64 0), .nil, .nil]], [], places) :=
  ⟨[], by kernel_rfl⟩

theorem liftedUpto6 (hT : Abs.TblOk Tryd.prog GA Z9) (os : Os) (started : os.Started) (H : Type) (en : TypeId × Value → H) (F : Stop.Interp) :
    ReturnsInHanded {} Tryd.checked os 6 .any ((Rows.OpenSpec.upto Rows.tableauIsSoundSpec).preRow en Tryd.prog Tryd.f6 Rows.tableauIsSoundUptoRow.domain false Rows.tableauIsSoundUptoRow.laid) (((Rows.OpenSpec.upto Rows.tableauIsSoundSpec).at F).post en Tryd.prog Tryd.f6 false true false false) := by
  obtain ⟨places, hx⟩ := reads6 os en
  refine returnsInHanded_of_row (C := Tryd.checked) (s := Rows.OpenSpec.upto Rows.tableauIsSoundSpec) own started (by kernel_rfl) Tryd.func6
    (witness_row_at (enc := en) (C := Tryd.checked) false (laidWorld os) #[.slice none 0 0, .agg #[.int .i64 0, .string ⟨#[]⟩, .slice none 0 0, .slice none 0 0], .int .i64 0, .agg #[.int .i64 0, .slice none 0 0, .slice none 0 0]] rfl (by kernel_rfl) (by kernel_rfl) (by kernel_rfl)
      (OpenSpec.preRow_of_cond 8 hx (by kernel_rfl) (fun k hk => by cases hk; kernel_rfl) (by kernel_rfl) (laid_met6 os))) ?_
  intro W base args ds gs before hval hW _ hc _ hL _ _
  have hL' : laidMet Tryd.prog Rows.tableauIsSoundUptoRow.laid W := hL
  have hb : Rows.uptoBulkAll (ds ++ gs) ≤ 1048576 := of_decide_eq_true (hc _ rfl)
  exact contract6 hT H en W base args ds gs before hval hW (glob_cells (gol6 hL')) (Nat.le_trans (bulk_app ds gs) hb)


theorem jPlace6 : (Rows.tableauIsSoundUptoRow.inPlace == Tryd.pinned.checked.prog.inPlace 6) = true := by kernel_rfl
theorem jUnf6 : (Rows.tableauIsSoundUptoRow.unfollowed == Tryd.pinned.checked.prog.unfollowed 6) = true := by kernel_rfl
theorem jRec6 : (Rows.tableauIsSoundUptoRow.recurses == Tryd.pinned.checked.prog.recurses 6) = true := by kernel_rfl
theorem jNamed6 : (Rows.tableauIsSoundUptoRow.named == Tryd.pinned.checked.prog.varsNamed 6) = true := by kernel_rfl
theorem jGoes6 : false = Rows.tableauIsSoundUptoRow.goesBy Tryd.pinned.checked.prog := by kernel_rfl
theorem jWf6 : Rows.tableauIsSoundUptoRow.wfByText (Rows.OpenSpec.upto Rows.tableauIsSoundSpec) = true := by kernel_rfl
theorem jFn6 : Tryd.pinned.checked.prog.funcNamed "glosswright/glosswrightlaw2.TableauIsSound" = some 6 := by kernel_rfl
theorem joined6 : joinedFacts Tryd.pinned.checked.prog 6 Tryd.f6 (Rows.OpenSpec.upto Rows.tableauIsSoundSpec).bare Rows.tableauIsSoundUptoRow = true := by
  unfold joinedFacts
  exact (am (am (am (am (am (am (am (am (am (am (am (am (am (am (am (am (am (am (am (am (am (am (am (am (am (am (am (am (am (am (am (by kernel_rfl) jLaidOut) jMaps) (by kernel_rfl)) (by kernel_rfl)) (by kernel_rfl)) jStops) (by kernel_rfl)) jKnobs) jPlace6) jUnf6) jRec6) jNamed6) (by kernel_rfl)) (by kernel_rfl)) (by kernel_rfl)) (by kernel_rfl)) (by kernel_rfl)) (by kernel_rfl)) (by kernel_rfl)) (by kernel_rfl)) (by kernel_rfl)) jKeys) (by kernel_rfl)) jHeard) jEnter) jLifts) jMake) (by kernel_rfl)) (by kernel_rfl)) (by kernel_rfl)) (by kernel_rfl))
theorem saidUpto6 (hT : Abs.TblOk Tryd.prog GA Z9) : Rows.TableauIsSoundUptoSaid :=
  OpenClaim.holds_of_cond 6 Tryd.f6 rfl rfl rfl rfl rfl rfl rfl ⟨rfl, rfl, rfl, rfl, rfl⟩ rfl rfl rfl rfl rfl jFn6 Tryd.func6 joined6
    (of_decide_eq_true (by kernel_rfl)) (by unfold Func.isWrapper; first | (rw [if_pos (by decide +kernel)]; kernel_rfl) | (rw [if_neg (by decide +kernel)]; exact ⟨rfl, rfl⟩))
    (fun os started H en _ F => by rw [OpenClaim.pre_eq_preRow]; exact liftedUpto6 hT os started H en F)
theorem plain6 (f : FuncId) (fn : Func) (hf : Tryd.pinned.checked.prog.funcNamed "glosswright/glosswrightlaw2.TableauIsSound" = some f) (hfn : Tryd.pinned.checked.prog.funcs[f]? = some fn) :
    false = Tryd.pinned.checked.prog.looks [] ∧ ∀ (j : Nat) t, fn.params[j]? = some t → Tryd.pinned.checked.prog.wantsStandIn t = false := by
  obtain rfl : f = 6 := Option.some.inj ((show Tryd.prog.funcNamed "glosswright/glosswrightlaw2.TableauIsSound" = some 6 from jFn6).symm.trans hf) |>.symm
  obtain rfl : fn = Tryd.f6 := (Option.some.inj (Tryd.func6.symm.trans hfn)).symm
  refine ⟨jLooks, fun j t ht => ?_⟩
  rw [Tryd.params6] at ht
  have hm : t = 22 ∨ t = 25 ∨ t = 3 ∨ t = 46 := by simpa using Array.mem_of_getElem? ht
  rcases hm with rfl | rfl | rfl | rfl
  · exact (show Tryd.prog.wantsStandIn 22 = false by kernel_rfl)
  · exact (show Tryd.prog.wantsStandIn 25 = false by kernel_rfl)
  · exact (show Tryd.prog.wantsStandIn 3 = false by kernel_rfl)
  · exact (show Tryd.prog.wantsStandIn 46 = false by kernel_rfl)
theorem cardUpto6 (hT : Abs.TblOk Tryd.prog GA Z9) : Rows.TableauIsSoundUptoCardSaid :=
  Claim7.holds_tied_plain_at .later [] _ _ _ _ (saidUpto6 hT) (fun _ h => by cases h) jWf6 (fun _ h => by cases h) tableauIsSoundUpto_row_tie rfl ⟨rfl, rfl⟩ (by kernel_rfl) rfl plain6 jGoes6
theorem soundCard : Rows.TableauIsSoundUptoCardSaid := cardUpto6 (hZ9)
#print axioms soundCard
end Go.Proofs.YtdlioodgfopmfaaDoor
