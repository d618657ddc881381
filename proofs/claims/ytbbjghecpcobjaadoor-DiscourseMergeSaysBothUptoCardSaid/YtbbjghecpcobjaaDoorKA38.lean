/- In a model in which what a merged box says is true, what each of two boxes says is true (DiscourseMergeSaysBoth), for inputs within the bound of the statement's second form; no conditions. -/
import Derived.Test.YtbbjghecpcobjaaDoorPJMA
import Derived.Test.YtbbjghecpcobjaaDoorPRB
import Derived.Test.YtbbjghecpcobjaaDoorQ104
set_option linter.unusedSimpArgs false
namespace Go.Proofs.YtbbjghecpcobjaaDoor
open Go Go.Abs Go.RowKit Go.WideShapes Go.ChangeShapes Go.ChangeAt
theorem gol8 {W : World} (h : laidMet Tryd.prog Rows.discourseMergeSaysBothUptoRow.laid W) : ∀ g, GA g ≠ [] → g < W.heap.size ∧ ∃ cs T fr, W.heap[g]? = some (.cells cs T fr) ∧ cs.size = (GA g).length ∧ ∀ j, j < (GA g).length → ∃ v, cs[j]? = some v ∧ FRep W (Fall W) v ((GA g).getD j .nilf) :=
  glob_of_laidA h (.tail _ (.tail _ (.tail _ (.head _)))) (.tail _ (.tail _ (.head _)))

set_option maxRecDepth 100000 in
theorem contract8 (hT : TblOk Tryd.prog GA K1) (H : Type) (en : TypeId × Value → H) (W : World) (base : Nat) (args : Array Value) (ds gs : List (DataW H)) (before : List MemPlace)
    (hval : ∀ (j : Nat) t v, Tryd.f8.params[j]? = some t → args[j]? = some v → Value.okWide Tryd.prog W .any base t v)
    (hW : DataW.Whole en Tryd.prog Tryd.f8.params.toList Rows.discourseMergeSaysBothSpec.vars false W args.toList ds gs before)
    (hglob : GlobOk GA W (Fall W)) (hbk : Rows.uptoBulkAll ds ≤ 1048576) :
    Calls Tryd.prog 8 args W fun e W' => ∃ v, e = .returned v ∧ Rows.discourseMergeSaysBothSpec.post en Tryd.prog Tryd.f8 false true false false W args v W' := by
  have hW' := hW
  obtain ⟨p, q, hA0, hV, rfl, hfz, hnd⟩ := hW
  have hA : DataW.TrodAll en Tryd.prog W 0 (fun _ => true) true Tryd.f8.params.toList args.toList ds p := hA0
  rw [Tryd.params8] at hA hval
  obtain ⟨v0, vs0, d0, ds0, p0, q0, hargs, rfl, rfl, h0, r0⟩ := trodAll_cons hA
  obtain ⟨v1, vs1, d1, ds1, p1, q1, rfl, rfl, rfl, h1, r1⟩ := trodAll_cons r0
  obtain ⟨v2, vs2, d2, ds2, p2, q2, rfl, rfl, rfl, h2, r2⟩ := trodAll_cons r1
  obtain ⟨rfl, rfl, rfl⟩ := trodAll_nil r2
  obtain rfl : args = #[v0, v1, v2] := by cases args; simp_all
  obtain ⟨rfl, rfl⟩ := trodVars_none hV
  obtain ⟨n0, rfl, _⟩ := okWide_struct Tryd.underlying25 (hval 0 25 v0 rfl rfl)
  obtain ⟨n1, rfl, _⟩ := okWide_struct Tryd.underlying66 (hval 1 66 v1 rfl rfl)
  obtain ⟨n2, rfl, _⟩ := okWide_struct Tryd.underlying66 (hval 2 66 v2 rfl rfl)
  have h0k := h0
  have h1k := h1
  have h2k := h2
  obtain ⟨fuel0, hf0⟩ := h0
  obtain ⟨fuel1, hf1⟩ := h1
  obtain ⟨fuel2, hf2⟩ := h2
  clear hA0
  simp only [List.append_nil] at hW'
  have hlt : ∀ x ∈ p0 ++ (p1 ++ p2), x.block < W.heap.size := fun x hx => by simpa using hW'.lt x (by simpa using hx)
  obtain ⟨x0, l0⟩ := ((rdn_model) : RdN (SizeOf.sizeOf d0 + 1) (fun _ d => Rows.uptoBulk d) Tryd.prog 25 Model) hf0 (Nat.lt_succ_self _) (by simp only [Rows.uptoBulkAll] at hbk; show Rows.uptoBulk d0 ≤ 1048576; omega)
  have hrep0 : FRep W (Fall W) (.agg n0) (enc x0) := by have h := l0.agg; rw [enc_model] at h ⊢; exact h
  obtain ⟨x1, l1⟩ := ((rdn_box) : RdN (SizeOf.sizeOf d1 + 1) (fun _ d => Rows.uptoBulk d) Tryd.prog 66 Abs.Box) hf1 (Nat.lt_succ_self _) (by simp only [Rows.uptoBulkAll] at hbk; show Rows.uptoBulk d1 ≤ 1048576; omega)
  have hrep1 : FRep W (Fall W) (.agg n1) (enc x1) := by have h := l1.agg; rw [enc_box] at h ⊢; exact h
  obtain ⟨x2, l2⟩ := ((rdn_box) : RdN (SizeOf.sizeOf d2 + 1) (fun _ d => Rows.uptoBulk d) Tryd.prog 66 Abs.Box) hf2 (Nat.lt_succ_self _) (by simp only [Rows.uptoBulkAll] at hbk; show Rows.uptoBulk d2 ≤ 1048576; omega)
  have hrep2 : FRep W (Fall W) (.agg n2) (enc x2) := by have h := l2.agg; rw [enc_box] at h ⊢; exact h
  have hcall := calls_of_wcall (vs := [(.agg n0), (.agg n1), (.agg n2)]) (xs := [enc x0, enc x1, enc x2]) (W := W) (lawBoth hT x0 x1 x2 hrep0.wf hrep1.wf hrep2.wf) hglob rfl (fun j hj => by
    have : j = 0 ∨ j = 1 ∨ j = 2 := by simp at hj; omega
    rcases this with rfl | rfl | rfl
    · exact hrep0
    · exact hrep1
    · exact hrep2)
  refine hcall.mono fun e W' ⟨he, hs⟩ => ?_
  subst he
  have hb : Below W.heap.size W W' := ⟨hs.os, hs.tape, hs.output, hs.size, hs.heap⟩
  refine ⟨_, rfl, post_of_below (pa := p0 ++ (p1 ++ p2)) (pv := []) hW' (fun _ _ _ => trodAll_cons_mk (shut_bool Tryd.underlying4 _) trodAll_mk0) (fun sp hsp => ?_) (fun _ _ => rfl) (by simp) hb (ok_one (by kernel_rfl) rfl (okWide_bool_mk Tryd.underlying4 _))⟩
  have hst0 : DataW.Trod en Tryd.prog W' 0 sp true 25 (.agg n0) d0 p0 := WideElems.Trod_stays laidOut (by kernel_rfl) (of_decide_eq_true (by kernel_rfl)) h0k (fun x hx => hb.same (hlt x (by simp [hx]))) (fun x hx => hsp x (by simp [hx]))
  have hst1 : DataW.Trod en Tryd.prog W' 0 sp true 66 (.agg n1) d1 p1 := WideElems.Trod_stays laidOut (by kernel_rfl) (of_decide_eq_true (by kernel_rfl)) h1k (fun x hx => hb.same (hlt x (by simp [hx]))) (fun x hx => hsp x (by simp [hx]))
  have hst2 : DataW.Trod en Tryd.prog W' 0 sp true 66 (.agg n2) d2 p2 := WideElems.Trod_stays laidOut (by kernel_rfl) (of_decide_eq_true (by kernel_rfl)) h2k (fun x hx => hb.same (hlt x (by simp [hx]))) (fun x hx => hsp x (by simp [hx]))
  have := trodAll_cons_mk hst0 (trodAll_cons_mk hst1 (trodAll_cons_mk hst2 (trodAll_mk0 (enc := en) (P := Tryd.prog) (w := W') (base := 0) (spare := sp) (held := true))))
  rw [List.append_nil] at this
  rw [Tryd.params8]
  exact this

theorem laid_met8 (os : Os) : laidMet Tryd.prog Rows.discourseMergeSaysBothUptoRow.laid ((laidWorld os).forCall (fun _ _ => 0) ⟨#[], #[.agg #[.int .i64 0, .slice none 0 0, .slice none 0 0], .agg #[.slice none 0 0, .slice none 0 0], .agg #[.slice none 0 0, .slice none 0 0]], []⟩).memory :=
  laidMet_of_run' 8 (by kernel_rfl) (by kernel_rfl)
theorem reads8 (os : Os) {H : Type} (en : TypeId × Value → H) : ∃ places, DataW.whole en Tryd.prog ((laidWorld os).forCall (fun _ _ => 0) ⟨#[], #[.agg #[.int .i64 0, .slice none 0 0, .slice none 0 0], .agg #[.slice none 0 0, .slice none 0 0], .agg #[.slice none 0 0, .slice none 0 0]], []⟩).memory Tryd.f8.params.toList Rows.discourseMergeSaysBothSpec.vars false #[Value.agg #[.int .i64 0, .slice none 0 0, .slice none 0 0], Value.agg #[.slice none 0 0, .slice none 0 0], Value.agg #[.slice none 0 0, .slice none 0 0]].toList 8 = some ([.agg [.lit (.int .i64 0), .nil, .nil], .agg [.nil, .nil], .agg [.nil, .nil]], [], places) :=
  ⟨[], by kernel_rfl⟩

set_option maxRecDepth 100000 in
theorem liftedUpto8 (hT : Abs.TblOk Tryd.prog GA K1) (os : Os) (started : os.Started) (H : Type) (en : TypeId × Value → H) (F : Stop.Interp) :
    ReturnsInHanded {} Tryd.checked os 8 .any ((Rows.OpenSpec.upto Rows.discourseMergeSaysBothSpec).preRow en Tryd.prog Tryd.f8 Rows.discourseMergeSaysBothUptoRow.domain false Rows.discourseMergeSaysBothUptoRow.laid) (((Rows.OpenSpec.upto Rows.discourseMergeSaysBothSpec).at F).post en Tryd.prog Tryd.f8 false true false false) := by
  obtain ⟨places, hx⟩ := reads8 os en
  refine returnsInHanded_of_row (C := Tryd.checked) (s := Rows.OpenSpec.upto Rows.discourseMergeSaysBothSpec) own started (by kernel_rfl) Tryd.func8
    (witness_row_at (enc := en) (C := Tryd.checked) false (laidWorld os) #[.agg #[.int .i64 0, .slice none 0 0, .slice none 0 0], .agg #[.slice none 0 0, .slice none 0 0], .agg #[.slice none 0 0, .slice none 0 0]] rfl (by kernel_rfl) (by kernel_rfl) (by kernel_rfl)
      (OpenSpec.preRow_of_cond 8 hx (by kernel_rfl) (fun k hk => by cases hk; kernel_rfl) (by kernel_rfl) (laid_met8 os))) ?_
  intro W base args ds gs before hval hW _ hc _ hL _ _
  have hL' : laidMet Tryd.prog Rows.discourseMergeSaysBothUptoRow.laid W := hL
  have hb : Rows.uptoBulkAll (ds ++ gs) ≤ 1048576 := of_decide_eq_true (hc _ rfl)
  exact contract8 hT H en W base args ds gs before hval hW (glob_cells (gol8 hL')) (Nat.le_trans (bulk_app ds gs) hb)


set_option maxRecDepth 100000 in
theorem jPlace8 : (Rows.discourseMergeSaysBothUptoRow.inPlace == Tryd.pinned.checked.prog.inPlace 8) = true := by kernel_rfl
set_option maxRecDepth 100000 in
theorem jUnf8 : (Rows.discourseMergeSaysBothUptoRow.unfollowed == Tryd.pinned.checked.prog.unfollowed 8) = true := by kernel_rfl
set_option maxRecDepth 100000 in
theorem jRec8 : (Rows.discourseMergeSaysBothUptoRow.recurses == Tryd.pinned.checked.prog.recurses 8) = true := by kernel_rfl
set_option maxRecDepth 100000 in
theorem jNamed8 : (Rows.discourseMergeSaysBothUptoRow.named == Tryd.pinned.checked.prog.varsNamed 8) = true := by kernel_rfl
set_option maxRecDepth 100000 in
theorem jGoes8 : false = Rows.discourseMergeSaysBothUptoRow.goesBy Tryd.pinned.checked.prog := by kernel_rfl
set_option maxRecDepth 100000 in
theorem jWf8 : Rows.discourseMergeSaysBothUptoRow.wfByText (Rows.OpenSpec.upto Rows.discourseMergeSaysBothSpec) = true := by kernel_rfl
set_option maxRecDepth 100000 in
theorem jFn8 : Tryd.pinned.checked.prog.funcNamed "glosswright/glosswrightlaw2.DiscourseMergeSaysBoth" = some 8 := by kernel_rfl
set_option maxRecDepth 100000 in
theorem joined8 : joinedFacts Tryd.pinned.checked.prog 8 Tryd.f8 (Rows.OpenSpec.upto Rows.discourseMergeSaysBothSpec).bare Rows.discourseMergeSaysBothUptoRow = true := by
  unfold joinedFacts
  exact (am (am (am (am (am (am (am (am (am (am (am (am (am (am (am (am (am (am (am (am (am (am (am (am (am (am (am (am (am (am (am (by kernel_rfl) jLaidOut) jMaps) (by kernel_rfl)) (by kernel_rfl)) (by kernel_rfl)) jStops) (by kernel_rfl)) jKnobs) jPlace8) jUnf8) jRec8) jNamed8) (by kernel_rfl)) (by kernel_rfl)) (by kernel_rfl)) (by kernel_rfl)) (by kernel_rfl)) (by kernel_rfl)) (by kernel_rfl)) (by kernel_rfl)) (by kernel_rfl)) jKeys) (by kernel_rfl)) jHeard) jEnter) jLifts) jMake) (by kernel_rfl)) (by kernel_rfl)) (by kernel_rfl)) (by kernel_rfl))
set_option maxRecDepth 100000 in
theorem saidUpto8 (hT : Abs.TblOk Tryd.prog GA K1) : Rows.DiscourseMergeSaysBothUptoSaid :=
  OpenClaim.holds_of_cond 8 Tryd.f8 rfl rfl rfl rfl rfl rfl rfl ⟨rfl, rfl, rfl, rfl, rfl⟩ rfl rfl rfl rfl rfl jFn8 Tryd.func8 joined8
    (of_decide_eq_true (by kernel_rfl)) (by unfold Func.isWrapper; first | (rw [if_pos (by decide +kernel)]; kernel_rfl) | (rw [if_neg (by decide +kernel)]; exact ⟨rfl, rfl⟩))
    (fun os started H en _ F => by rw [OpenClaim.pre_eq_preRow]; exact liftedUpto8 hT os started H en F)
theorem plain8 (f : FuncId) (fn : Func) (hf : Tryd.pinned.checked.prog.funcNamed "glosswright/glosswrightlaw2.DiscourseMergeSaysBoth" = some f) (hfn : Tryd.pinned.checked.prog.funcs[f]? = some fn) :
    false = Tryd.pinned.checked.prog.looks [] ∧ ∀ (j : Nat) t, fn.params[j]? = some t → Tryd.pinned.checked.prog.wantsStandIn t = false := by
  obtain rfl : f = 8 := Option.some.inj ((show Tryd.prog.funcNamed "glosswright/glosswrightlaw2.DiscourseMergeSaysBoth" = some 8 from jFn8).symm.trans hf) |>.symm
  obtain rfl : fn = Tryd.f8 := (Option.some.inj (Tryd.func8.symm.trans hfn)).symm
  refine ⟨jLooks, fun j t ht => ?_⟩
  rw [Tryd.params8] at ht
  have hm : t = 25 ∨ t = 66 ∨ t = 66 := by simpa using Array.mem_of_getElem? ht
  rcases hm with rfl | rfl | rfl
  · exact (show Tryd.prog.wantsStandIn 25 = false by kernel_rfl)
  · exact (show Tryd.prog.wantsStandIn 66 = false by kernel_rfl)
  · exact (show Tryd.prog.wantsStandIn 66 = false by kernel_rfl)
theorem cardUpto8 (hT : Abs.TblOk Tryd.prog GA K1) : Rows.DiscourseMergeSaysBothUptoCardSaid :=
  Claim7.holds_tied_plain_at .later [] _ _ _ _ (saidUpto8 hT) (fun _ h => by cases h) jWf8 (fun _ h => by cases h) discourseMergeSaysBothUpto_row_tie rfl ⟨rfl, rfl⟩ (by kernel_rfl) rfl plain8 jGoes8
theorem mergeSaysCard : Rows.DiscourseMergeSaysBothUptoCardSaid := cardUpto8 (hK1)
#print axioms mergeSaysCard
end Go.Proofs.YtbbjghecpcobjaaDoor
