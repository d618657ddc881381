import Derived.Test.YtdlioodgfopmfaaDoorPRF
import Derived.Test.YtdlioodgfopmfaaDoorTR
set_option linter.unusedSimpArgs false
namespace Go.Proofs.YtdlioodgfopmfaaDoor
open Go Go.Abs

theorem cInt : Tryd.prog.cellsOf 3 = 1 := by kernel_rfl
theorem cInts : Tryd.prog.cellsOf 52 = 1 := by kernel_rfl
theorem cConst : Tryd.prog.cellsOf 105 = 2 := by kernel_rfl
theorem cRel : Tryd.prog.cellsOf 109 = 3 := by kernel_rfl
theorem cModel : Tryd.prog.cellsOf 46 = 3 := by kernel_rfl
theorem rdn_ints {n : Nat} : RdN n (fun _ d => Rows.uptoBulk d) Tryd.prog 52 (List Int) :=
  rdn_slice (α := Int) bulkOk Tryd.underlying52 (by rw [cInt]; decide) (rdn_int rfl Tryd.underlying3)
theorem rdn_const {n : Nat} : RdN n (fun _ d => Rows.uptoBulk d) Tryd.prog 105 Const := by
  cases n with
  | zero => intro H en w base spare held fuel cs x hd hsz hbk; omega
  | succ n =>
    intro H en w base spare held fuel cs x hd hsz hbk
    obtain ⟨hlen, ps, k, hx, hf⟩ := trod_struct Tryd.underlying105 hd
    obtain ⟨x1, x2⟩ := x
    obtain rfl : x1 = .agg ps := hx
    rw [cConst] at hlen
    obtain ⟨a0, r0⟩ := rdn_fld (n := n) (α := Str) (o := 0) (s := 1) bulkOk hf 0 rfl rfl rfl (by kernel_rfl) (RdN.of (rd_str bulkOk Tryd.underlying9)) hsz hbk
    obtain ⟨a1, r1⟩ := rdn_fld (n := n) (α := Int) (o := 1) (s := 1) bulkOk hf 1 rfl rfl rfl (by kernel_rfl) (rdn_int rfl Tryd.underlying3) hsz hbk
    refine ⟨⟨a0, a1⟩, ?_⟩
    rw [enc_const]
    exact CR.part (o := 0) r0 (CR.part r1 (CR.fin hlen))
theorem rdn_rel {n : Nat} : RdN n (fun _ d => Rows.uptoBulk d) Tryd.prog 109 MRel := by
  cases n with
  | zero => intro H en w base spare held fuel cs x hd hsz hbk; omega
  | succ n =>
    intro H en w base spare held fuel cs x hd hsz hbk
    obtain ⟨hlen, ps, k, hx, hf⟩ := trod_struct Tryd.underlying109 hd
    obtain ⟨x1, x2⟩ := x
    obtain rfl : x1 = .agg ps := hx
    rw [cRel] at hlen
    obtain ⟨a0, r0⟩ := rdn_fld (n := n) (α := Str) (o := 0) (s := 1) bulkOk hf 0 rfl rfl rfl (by kernel_rfl) (RdN.of (rd_str bulkOk Tryd.underlying9)) hsz hbk
    obtain ⟨a1, r1⟩ := rdn_fld (n := n) (α := Int) (o := 1) (s := 1) bulkOk hf 1 rfl rfl rfl (by kernel_rfl) (rdn_int rfl Tryd.underlying3) hsz hbk
    obtain ⟨a2, r2⟩ := rdn_fld (n := n) (α := List (List Int)) (o := 2) (s := 1) bulkOk hf 2 rfl rfl rfl (by kernel_rfl) (rdn_slice (α := List Int) bulkOk Tryd.underlying107 (by rw [cInts]; decide) rdn_ints) hsz hbk
    refine ⟨⟨a0, a1, a2⟩, ?_⟩
    rw [enc_rel]
    exact CR.part (o := 0) r0 (CR.part r1 (CR.part r2 (CR.fin hlen)))
theorem rdn_model {n : Nat} : RdN n (fun _ d => Rows.uptoBulk d) Tryd.prog 46 Model := by
  cases n with
  | zero => intro H en w base spare held fuel cs x hd hsz hbk; omega
  | succ n =>
    intro H en w base spare held fuel cs x hd hsz hbk
    obtain ⟨hlen, ps, k, hx, hf⟩ := trod_struct Tryd.underlying46 hd
    obtain ⟨x1, x2⟩ := x
    obtain rfl : x1 = .agg ps := hx
    rw [cModel] at hlen
    obtain ⟨a0, r0⟩ := rdn_fld (n := n) (α := Int) (o := 0) (s := 1) bulkOk hf 0 rfl rfl rfl (by kernel_rfl) (rdn_int rfl Tryd.underlying3) hsz hbk
    obtain ⟨a1, r1⟩ := rdn_fld (n := n) (α := List Const) (o := 1) (s := 1) bulkOk hf 1 rfl rfl rfl (by kernel_rfl) (rdn_slice (α := Const) bulkOk Tryd.underlying43 (by rw [cConst]; decide) rdn_const) hsz hbk
    obtain ⟨a2, r2⟩ := rdn_fld (n := n) (α := List MRel) (o := 2) (s := 1) bulkOk hf 2 rfl rfl rfl (by kernel_rfl) (rdn_slice (α := MRel) bulkOk Tryd.underlying44 (by rw [cRel]; decide) rdn_rel) hsz hbk
    refine ⟨⟨a0, a1, a2⟩, ?_⟩
    rw [enc_model]
    exact CR.part (o := 0) r0 (CR.part r1 (CR.part r2 (CR.fin hlen)))
end Go.Proofs.YtdlioodgfopmfaaDoor
