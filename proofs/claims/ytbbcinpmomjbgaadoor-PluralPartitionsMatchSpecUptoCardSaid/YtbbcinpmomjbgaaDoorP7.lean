import Derived.Test.YtbbcinpmomjbgaaDoorP6
import Derived.Test.YtbbcinpmomjbgaaDoorA3
import Derived.Test.YtbbcinpmomjbgaaDoorCards
import Derived.Test.YtbbcinpmomjbgaaDoorTie
import Derived.WalkKit
import Derived.ProofKit
import Derived.OpenShut
import Derived.Deep.DeepHandedRow
import Derived.Lib.LaidTab
import Derived.Below
import Derived.Carry
import Derived.ChangeSame
set_option linter.unusedSimpArgs false
namespace Go.Proofs.YtbbcinpmomjbgaaDoor
open Go Go.Abs Go.RowKit Go.WideShapes Go.ChangeShapes

theorem bulk_len {H : Type} : ∀ (es : List (DataW H)), (∀ d ∈ es, 1 ≤ Rows.uptoBulk d) → es.length ≤ Rows.uptoBulkAll es
  | [], _ => Nat.zero_le _
  | d :: es, h => by
    have h1 := h d (by simp)
    have h2 := bulk_len es fun d hd => h d (by simp [hd])
    simp only [List.length_cons, Rows.uptoBulkAll]; omega
theorem bulk_mem {H : Type} : ∀ (es : List (DataW H)) (d : DataW H), d ∈ es → Rows.uptoBulk d ≤ Rows.uptoBulkAll es
  | [], _, h => by simp at h
  | e :: es, d, h => by
    simp only [Rows.uptoBulkAll]
    rcases List.mem_cons.1 h with rfl | h
    · omega
    · have := bulk_mem es d h; omega
theorem bulk_pos {H : Type} (d : DataW H) : 1 ≤ Rows.uptoBulk d := by
  cases d with
  | lit l => cases l <;> simp [Rows.uptoBulk]
  | _ => simp [Rows.uptoBulk]
theorem bulkOk : BulkOk (fun _ d => Rows.uptoBulk d) := by
  refine ⟨fun H b => by simp [Rows.uptoBulk], fun H es sp => ?_, fun H es sp d hd => ?_, fun H ps d hd => ?_⟩
  · have := bulk_len es fun d _ => bulk_pos d
    simp only [Rows.uptoBulk]; omega
  · have := bulk_mem es d hd
    simp only [Rows.uptoBulk]; omega
  · have := bulk_mem ps d hd
    simp only [Rows.uptoBulk]; omega

section
variable {H : Type} {en : TypeId × Value → H} {P : Program}
theorem post_of_below {f : Func} {s : ChangeSpec} {apart fresh handsOn again : Bool} {W W' : World} {args : Array Value} {v : Value} {ds gs : List (DataW H)} {before pa pv : List MemPlace}
    (hW : DataW.Whole en P f.params.toList s.vars apart W args.toList ds gs before)
    (hres : ∀ (b : Nat) (sp : Nat → Bool) (hd : Bool), DataW.TrodAll en P W' b sp hd f.resultTypes.toList (v.resultList f.resultTypes.size) (s.fn H (ds ++ gs)).results [])
    (hargs : ∀ sp : Nat → Bool, (∀ p ∈ before, sp p.block = true) → DataW.TrodAll en P W' 0 sp true f.params.toList args.toList (s.fn H (ds ++ gs)).args pa)
    (hvars : ∀ sp : Nat → Bool, (∀ p ∈ before, sp p.block = true) → DataW.TrodVars en P W' sp s.vars (s.fn H (ds ++ gs)).vars pv)
    (hps : before = pa ++ pv) (hb : Below W.heap.size W W')
    (hok : ∀ (j : Nat) (t : TypeId) (r : Value), f.resultTypes[j]? = some t → (v.resultList f.resultTypes.size)[j]? = some r → Value.okWide P W' .any 0 t r) :
    s.post en P f apart fresh handsOn again W args v W' := by
  have hlt : ∀ p ∈ before, p.block < W.heap.size := fun p hp => hW.lt p hp
  have hold : ∀ p ∈ before, (fun b => decide (b < W.heap.size)) p.block = true := fun p hp => by simpa using hlt p hp
  refine ⟨ds, gs, before, [], pa, pv, hW, hres _ _ _, hargs _ hold, hvars _ hold, World.keptBut_mono (fun p hp => ⟨hp, ?_⟩) (hb.frame (· ∈ before)), fun _ => ?_⟩
  · rw [hps, List.mem_append] at hp
    exact Or.inr hp
  · obtain ⟨_, _, _, _, _, hz, hn⟩ := hW
    refine ⟨hok, _, _, ([] ++ pa) ++ pv, ⟨[] ++ pa, pv, trodAll_append (hargs _ (fun _ _ => rfl)) (hres _ _ _), hvars _ (fun _ _ => rfl), rfl, ?_, ?_⟩, ?_⟩
    · intro b off hp
      have hin : MemPlace.cell b off ∈ before := by rw [hps]; simpa using hp
      rw [hb.frozen (hlt _ hin)]
      exact hz b off hin
    · intro ha
      have := hn ha
      rw [hps] at this
      simpa using this
    · intro p hp _
      rw [hps]
      simpa using hp
end

theorem laidOut : laidOutB Tryd.prog = true := by kernel_rfl

theorem contract3 (hT : TblOk Tryd.prog G1 T12) (H : Type) (en : TypeId × Value → H) (W : World) (base : Nat) (args : Array Value) (ds gs : List (DataW H)) (before : List MemPlace)
    (hval : ∀ (j : Nat) t v, Tryd.f3.params[j]? = some t → args[j]? = some v → Value.okWide Tryd.prog W .any base t v)
    (hW : DataW.Whole en Tryd.prog Tryd.f3.params.toList Rows.pluralPartitionsMatchSpecSpec.vars false W args.toList ds gs before)
    (hglob : ∀ g, G1 g ≠ [] → g < W.heap.size ∧ ∃ cs T fr, W.heap[g]? = some (.cells cs T fr) ∧ ∀ j, j < (G1 g).length → ∃ v, cs[j]? = some v ∧ FRep W (Fall W) v ((G1 g).getD j .nilf))
    (hbk : Rows.uptoBulkAll ds ≤ 1048576) :
    Calls Tryd.prog 3 args W fun e W' => ∃ v, e = .returned v ∧ Rows.pluralPartitionsMatchSpecSpec.post en Tryd.prog Tryd.f3 false true false false W args v W' := by
  have hW' := hW
  obtain ⟨p, q, hA0, hV, rfl, hfz, hnd⟩ := hW
  have hA : DataW.TrodAll en Tryd.prog W 0 (fun _ => true) true Tryd.f3.params.toList args.toList ds p := hA0
  rw [Tryd.params3] at hA hval
  obtain ⟨v0, vs0, d0, ds0, p0, q0, hargs, rfl, rfl, h0, r0⟩ := trodAll_cons hA
  obtain ⟨rfl, rfl, rfl⟩ := trodAll_nil r0
  obtain rfl : args = #[v0] := by cases args; simp_all
  obtain ⟨rfl, rfl⟩ := trodVars_none hV
  obtain ⟨a0, len, cap, rfl⟩ := okWide_slice Tryd.underlying22 (hval 0 22 v0 rfl rfl)
  have h0k := h0
  obtain ⟨fuel, hf⟩ := h0
  clear hA0
  simp only [List.append_nil] at hW'
  have hlt : ∀ x ∈ p0, x.block < W.heap.size := fun x hx => by simpa using hW'.lt x (by simpa using hx)
  obtain ⟨l, l1, l2⟩ := rd_slice (α := Str) bulkOk Tryd.underlying22 (by rw [show Tryd.prog.cellsOf 9 = 1 by kernel_rfl]; decide) (rd_str bulkOk Tryd.underlying9) hf (by simpa [Rows.uptoBulkAll] using hbk)
  have hrep : FRep W (Fall W) (.slice a0 len cap) (enc l) := l2 0 (by simp [Value.cells])
  have hcall := calls_of_wcall (vs := [.slice a0 len cap]) (xs := [enc l]) (W := W) (lawF3 hT l hrep.wf) hglob rfl (fun j hj => by
    obtain rfl : j = 0 := by simp at hj; omega
    exact hrep)
  refine hcall.mono fun e W' ⟨he, hs⟩ => ?_
  subst he
  have hb : Below W.heap.size W W' := ⟨hs.os, hs.tape, hs.output, hs.size, hs.heap⟩
  refine ⟨_, rfl, post_of_below (pa := p0) (pv := []) hW' (fun _ _ _ => trodAll_cons_mk (shut_bool Tryd.underlying4 _) trodAll_mk0) (fun sp hsp => ?_) (fun _ _ => rfl) (by simp) hb (ok_one (by kernel_rfl) rfl (okWide_bool_mk Tryd.underlying4 _))⟩
  have hst : DataW.Trod en Tryd.prog W' 0 sp true 22 (Value.slice a0 len cap) d0 p0 := WideElems.Trod_stays laidOut (by kernel_rfl) (of_decide_eq_true (by kernel_rfl)) h0k (fun x hx => hb.same (hlt x hx)) hsp
  have := trodAll_cons_mk hst (trodAll_mk0 (enc := en) (P := Tryd.prog) (w := W') (base := 0) (spare := sp) (held := true))
  rw [List.append_nil] at this
  rw [Tryd.params3]
  exact this
end Go.Proofs.YtbbcinpmomjbgaaDoor
