import Derived.Test.YtbbcinpmomjbgaaDoorP8
set_option linter.unusedSimpArgs false
namespace Go.Proofs.YtbbcinpmomjbgaaDoor
open Go Go.ChangeShapes Go.WideShapes Go.ChangeAt Go.RowKit

theorem bulk_app {H : Type} : ∀ (ds gs : List (DataW H)), Rows.uptoBulkAll ds ≤ Rows.uptoBulkAll (ds ++ gs)
  | [], _ => Nat.zero_le _
  | d :: ds, gs => by
    have := bulk_app ds gs
    simp only [List.cons_append, Rows.uptoBulkAll]; omega
theorem own : ownKnob Tryd.prog.godebug = none := by kernel_rfl
noncomputable def laidWorld (os : Os) : World :=
  { World.holding Tryd.prog os ⟨#[], #[], []⟩ with heap := (World.holding Tryd.prog os ⟨#[], #[], []⟩).heap.modify 0 fun
      | .cells _ t frozen => .cells #[.int .i64 0, .int .i64 0] t frozen
      | o => o }
theorem laid_met (os : Os) : laidMet Tryd.prog Rows.pluralPartitionsMatchSpecUptoRow.laid ((laidWorld os).forCall (fun _ _ => 0) ⟨#[], #[.slice none 0 0], []⟩).memory :=
  laidMet_of_run' 8 (by kernel_rfl) (by kernel_rfl)
theorem reads (os : Os) {H : Type} (en : TypeId × Value → H) : ∃ places, DataW.whole en Tryd.prog ((laidWorld os).forCall (fun _ _ => 0) ⟨#[], #[.slice none 0 0], []⟩).memory Tryd.f3.params.toList Rows.pluralPartitionsMatchSpecSpec.vars false #[Value.slice none 0 0].toList 8 = some ([.nil], [], places) :=
  ⟨[], by kernel_rfl⟩

set_option maxRecDepth 100000 in
theorem liftedUpto (hT : Abs.TblOk Tryd.prog G1 T12) (os : Os) (started : os.Started) (H : Type) (en : TypeId × Value → H) (F : Stop.Interp) :
    ReturnsInHanded {} Tryd.checked os 3 .any ((Rows.OpenSpec.upto Rows.pluralPartitionsMatchSpecSpec).preRow en Tryd.prog Tryd.f3 Rows.pluralPartitionsMatchSpecUptoRow.domain false Rows.pluralPartitionsMatchSpecUptoRow.laid) (((Rows.OpenSpec.upto Rows.pluralPartitionsMatchSpecSpec).at F).post en Tryd.prog Tryd.f3 false true false false) := by
  obtain ⟨places, hx⟩ := reads os en
  refine returnsInHanded_of_row (C := Tryd.checked) (s := Rows.OpenSpec.upto Rows.pluralPartitionsMatchSpecSpec) own started (by kernel_rfl) Tryd.func3
    (witness_row_at (enc := en) (C := Tryd.checked) false (laidWorld os) #[.slice none 0 0] rfl (by kernel_rfl) (by kernel_rfl) (by kernel_rfl)
      (OpenSpec.preRow_of_cond 8 hx (by kernel_rfl) (fun k hk => by cases hk; kernel_rfl) (by kernel_rfl) (laid_met os))) ?_
  intro W base args ds gs before hval hW _ hc _ hL _ _
  have hL' : laidMet Tryd.prog Rows.pluralPartitionsMatchSpecUptoRow.laid W := hL
  have hb : Rows.uptoBulkAll (ds ++ gs) ≤ 1048576 := of_decide_eq_true (hc _ rfl)
  exact contract3 hT H en W base args ds gs before hval hW (glob_of_laid hL') (Nat.le_trans (bulk_app ds gs) hb)

set_option maxRecDepth 100000 in
theorem saidUpto (hT : Abs.TblOk Tryd.prog G1 T12) : Rows.PluralPartitionsMatchSpecUptoSaid :=
  OpenClaim.holds_of_cond 3 Tryd.f3 rfl rfl rfl rfl rfl rfl rfl ⟨rfl, rfl, rfl, rfl, rfl⟩ rfl rfl rfl rfl rfl (by kernel_rfl) Tryd.func3 (by kernel_rfl)
    (of_decide_eq_true (by kernel_rfl)) (by unfold Func.isWrapper; first | (rw [if_pos (by decide +kernel)]; kernel_rfl) | (rw [if_neg (by decide +kernel)]; exact ⟨rfl, rfl⟩))
    (fun os started H en _ F => by rw [OpenClaim.pre_eq_preRow]; exact liftedUpto hT os started H en F)
theorem plain (f : FuncId) (fn : Func) (hf : Tryd.pinned.checked.prog.funcNamed "glosswright/glosswrightlaw2.PluralPartitionsMatchSpec" = some f) (hfn : Tryd.pinned.checked.prog.funcs[f]? = some fn) :
    false = Tryd.pinned.checked.prog.looks [] ∧ ∀ (j : Nat) t, fn.params[j]? = some t → Tryd.pinned.checked.prog.wantsStandIn t = false := by
  obtain rfl : f = 3 := Option.some.inj ((show Tryd.prog.funcNamed "glosswright/glosswrightlaw2.PluralPartitionsMatchSpec" = some 3 by kernel_rfl).symm.trans hf) |>.symm
  obtain rfl : fn = Tryd.f3 := (Option.some.inj (Tryd.func3.symm.trans hfn)).symm
  refine ⟨by kernel_rfl, fun j t ht => ?_⟩
  rw [Tryd.params3] at ht
  obtain rfl : t = 22 := by simpa using Array.mem_of_getElem? ht
  exact (show Tryd.prog.wantsStandIn 22 = false by kernel_rfl)
theorem cardUpto (hT : Abs.TblOk Tryd.prog G1 T12) : Rows.PluralPartitionsMatchSpecUptoCardSaid :=
  Claim7.holds_tied_plain_at .later [] _ _ _ _ (saidUpto hT) (fun _ h => by cases h) (by kernel_rfl) (fun _ h => by cases h) pluralPartitionsMatchSpecUpto_row_tie rfl ⟨rfl, rfl⟩ (by kernel_rfl) rfl plain (by kernel_rfl)
end Go.Proofs.YtbbcinpmomjbgaaDoor
