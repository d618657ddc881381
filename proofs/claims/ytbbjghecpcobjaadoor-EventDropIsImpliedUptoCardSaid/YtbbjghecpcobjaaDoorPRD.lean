import Derived.Test.YtbbjghecpcobjaaDoorPRF
import Derived.Test.YtbbjghecpcobjaaDoorLW
set_option linter.unusedSimpArgs false
namespace Go.Proofs.YtbbjghecpcobjaaDoor
open Go Go.Abs

/-! ## formulas whose depth is bounded by the bulk that was read -/
def FormD (k : Nat) : Type := {f : Abs.Form // f.depth ≤ k + 1}
instance {k : Nat} : Enc (FormD k) := ⟨fun f => enc f.1, fun x => if h : (dec x : Abs.Form).depth ≤ k + 1 then ⟨dec x, h⟩ else ⟨.mk 0 ⟨[]⟩ [] [], by rw [Form.depth, Form.depths]; omega⟩, fun f => by
  have e : (dec (enc f.1) : Abs.Form) = f.1 := dec_enc f.1
  show (if h : (dec (enc f.1) : Abs.Form).depth ≤ k + 1 then (⟨dec (enc f.1), h⟩ : {f : Abs.Form // f.depth ≤ k + 1}) else _) = f
  rw [dif_pos (by rw [e]; exact f.2)]
  exact Subtype.ext e⟩
theorem enc_formD {k : Nat} {f : FormD k} : enc f = .agg [.i .i64 f.1.kind, .s f.1.name.l, .sl (f.1.words.map enc), .sl (f.1.subs.map enc)] := enc_form (f := f.1)
def blkD (k : Nat) (H : Type) (d : DataW H) : Nat := Rows.uptoBulk d + (1048576 - k)
theorem bulkOkD (k : Nat) : BulkOk (blkD k) := by
  refine ⟨fun H b => ?_, fun H es sp => ?_, fun H es sp d hd => ?_, fun H ps d hd => ?_⟩
  · have := bulkOk.s H b; unfold blkD; omega
  · have := bulkOk.sl H es sp; unfold blkD; omega
  · have := bulkOk.el H es sp d hd; unfold blkD; omega
  · have := bulkOk.ag H ps d hd; unfold blkD; omega
theorem rdn_fldB {n : Nat} {blk : (H : Type) → DataW H → Nat} {P : Program} {H : Type} {en : TypeId × Value → H} {w : World} {base : Nat} {spare : Nat → Bool} {held : Bool} {k : Nat} {cs : List Value} {ps : List (DataW H)} {fs : Array Field} {α : Type} [Enc α]
    (hf : ∀ f ∈ fs.toList, ∃ y, DataW.trod en P w base spare held k f.type ((cs.drop f.offset).take (P.cellsOf f.type)) = some y ∧ y.1 ∈ ps) (i : Nat) {f : Field} (hi : fs[i]? = some f) {o s : Nat} (ho : f.offset = o) {ty : TypeId} (hty : f.type = ty) (hs : P.cellsOf ty = s)
    (hr : RdN n blk P ty α) (hsz : SizeOf.sizeOf (DataW.agg ps) < n) (hb : ∀ d ∈ ps, blk H d ≤ 1048576) : ∃ a : α, CR w ((cs.drop o).take s) (enc a).cells := by
  have hm : f ∈ fs.toList := by
    rw [← Array.getElem?_toList] at hi
    exact List.mem_of_getElem? hi
  obtain ⟨y, h1, h2⟩ := hf f hm
  have q1 := List.sizeOf_lt_of_mem h2
  simp only [DataW.agg.sizeOf_spec] at hsz
  subst hty
  obtain ⟨a, ha⟩ := hr h1 (by omega) (hb _ h2)
  rw [ho, hs] at ha
  exact ⟨a, ha⟩
theorem depths_le {k : Nat} : ∀ l : List (FormD k), Form.depths (l.map (·.1)) ≤ k + 1
  | [] => by rw [List.map_nil, Form.depths]; omega
  | f :: l => by
    rw [List.map_cons, Form.depths]
    have := depths_le l
    have := f.2
    omega
theorem rdn_strsD {k n : Nat} : RdN n (blkD k) Tryd.prog 26 (List Str) :=
  rdn_slice (α := Str) (bulkOkD k) Tryd.underlying26 (by rw [c9]; decide) (RdN.of (rd_str (bulkOkD k) Tryd.underlying9))
theorem rdn_formD : ∀ {k n : Nat}, k ≤ 1048576 → RdN n (blkD k) Tryd.prog 29 (FormD k) := by
  intro k
  induction k with
  | zero =>
    intro n _ H en w base spare held fuel cs x hd hsz hbk
    obtain ⟨_, ps, _, hx, _⟩ := trod_struct Tryd.underlying29 hd
    rw [hx] at hbk
    unfold blkD at hbk
    simp only [Rows.uptoBulk] at hbk
    omega
  | succ k ih =>
    intro n hk H en w base spare held fuel cs x hd hsz hbk
    obtain ⟨hlen, ps, k2, hx, hf⟩ := trod_struct Tryd.underlying29 hd
    obtain ⟨x1, x2⟩ := x
    obtain rfl : x1 = .agg ps := hx
    rw [c57] at hlen
    have hb : ∀ d ∈ ps, blkD k H d ≤ 1048576 := fun d hd => by
      have := bulk_mem ps d hd
      unfold blkD at hbk ⊢
      simp only [Rows.uptoBulk] at hbk
      omega
    obtain ⟨a0, r0⟩ := rdn_fldB (n := n) (blk := blkD k) (α := Int) (o := 0) (s := 1) hf 0 rfl rfl rfl (by kernel_rfl) (rdn_int rfl Tryd.underlying3) hsz hb
    obtain ⟨a1, r1⟩ := rdn_fldB (n := n) (blk := blkD k) (α := Str) (o := 1) (s := 1) hf 1 rfl rfl rfl (by kernel_rfl) (RdN.of (rd_str (bulkOkD k) Tryd.underlying9)) hsz hb
    obtain ⟨a2, r2⟩ := rdn_fldB (n := n) (blk := blkD k) (α := List Str) (o := 2) (s := 1) hf 2 rfl rfl rfl (by kernel_rfl) rdn_strsD hsz hb
    obtain ⟨a3, r3⟩ := rdn_fldB (n := n) (blk := blkD k) (α := List (FormD k)) (o := 3) (s := 1) hf 3 rfl rfl rfl (by kernel_rfl) (rdn_slice (α := FormD k) (bulkOkD k) Tryd.underlying27 (by rw [c57]; decide) (ih (by omega))) hsz hb
    refine ⟨⟨.mk a0 a1 a2 (a3.map (·.1)), by rw [Form.depth]; have := depths_le a3; omega⟩, ?_⟩
    show CR w cs (enc (Abs.Form.mk a0 a1 a2 (a3.map (·.1)))).cells
    rw [enc_form]
    have e3 : (enc a3 : FD) = .sl ((a3.map (·.1)).map enc) := by
      show FD.sl (a3.map enc) = _
      rw [List.map_map]; rfl
    rw [e3] at r3
    exact CR.part (o := 0) r0 (CR.part r1 (CR.part r2 (CR.part r3 (CR.fin hlen))))
/-- the depth of a formula that is read is bounded -/
theorem rdn_formT {n : Nat} : RdN n (fun _ d => Rows.uptoBulk d) Tryd.prog 29 (FormD 1048576) := by
  intro H en w base spare held fuel cs x hd hsz hbk
  exact rdn_formD (Nat.le_refl _) hd hsz (by unfold blkD; omega)
end Go.Proofs.YtbbjghecpcobjaaDoor
