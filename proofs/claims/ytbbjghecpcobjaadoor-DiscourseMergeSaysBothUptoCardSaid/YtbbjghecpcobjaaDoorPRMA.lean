import Derived.Test.YtbbjghecpcobjaaDoorPRF
import Derived.Test.YtbbjghecpcobjaaDoorTR
set_option linter.unusedSimpArgs false
namespace Go.Proofs.YtbbjghecpcobjaaDoor
open Go Go.Abs

theorem cInt : Tryd.prog.cellsOf 3 = 1 := by kernel_rfl
theorem cInts : Tryd.prog.cellsOf 80 = 1 := by kernel_rfl
theorem cConst : Tryd.prog.cellsOf 79 = 2 := by kernel_rfl
theorem cRel : Tryd.prog.cellsOf 83 = 3 := by kernel_rfl
theorem cModel : Tryd.prog.cellsOf 25 = 3 := by kernel_rfl
theorem rdn_ints {n : Nat} : RdN n (fun _ d => Rows.uptoBulk d) Tryd.prog 80 (List Int) :=
  rdn_slice (α := Int) bulkOk Tryd.underlying80 (by rw [cInt]; decide) (rdn_int rfl Tryd.underlying3)
theorem rdn_const {n : Nat} : RdN n (fun _ d => Rows.uptoBulk d) Tryd.prog 79 Const := by
  cases n with
  | zero => intro H en w base spare held fuel cs x hd hsz hbk; omega
  | succ n =>
    intro H en w base spare held fuel cs x hd hsz hbk
    obtain ⟨hlen, ps, k, hx, hf⟩ := trod_struct Tryd.underlying79 hd
    obtain ⟨x1, x2⟩ := x
    obtain rfl : x1 = .agg ps := hx
    rw [cConst] at hlen
    obtain ⟨a0, r0⟩ := rdn_fld (n := n) (α := Str) (o := 0) (s := 1) bulkOk hf 0 rfl rfl rfl (by kernel_rfl) (RdN.of (rd_str bulkOk Tryd.underlying9)) hsz hbk
    obtain ⟨a1, r1⟩ := rdn_fld (n := n) (α := Int) (o := 1) (s := 1) bulkOk hf 1 rfl rfl rfl (by kernel_rfl) (rdn_int rfl Tryd.underlying3) hsz hbk
    refine ⟨⟨a0, a1⟩, ?_⟩
    rw [enc_const]
    exact CR.part (o := 0) r0 (CR.part r1 (CR.fin hlen))
theorem rdn_rel {n : Nat} : RdN n (fun _ d => Rows.uptoBulk d) Tryd.prog 83 MRel := by
  cases n with
  | zero => intro H en w base spare held fuel cs x hd hsz hbk; omega
  | succ n =>
    intro H en w base spare held fuel cs x hd hsz hbk
    obtain ⟨hlen, ps, k, hx, hf⟩ := trod_struct Tryd.underlying83 hd
    obtain ⟨x1, x2⟩ := x
    obtain rfl : x1 = .agg ps := hx
    rw [cRel] at hlen
    obtain ⟨a0, r0⟩ := rdn_fld (n := n) (α := Str) (o := 0) (s := 1) bulkOk hf 0 rfl rfl rfl (by kernel_rfl) (RdN.of (rd_str bulkOk Tryd.underlying9)) hsz hbk
    obtain ⟨a1, r1⟩ := rdn_fld (n := n) (α := Int) (o := 1) (s := 1) bulkOk hf 1 rfl rfl rfl (by kernel_rfl) (rdn_int rfl Tryd.underlying3) hsz hbk
    obtain ⟨a2, r2⟩ := rdn_fld (n := n) (α := List (List Int)) (o := 2) (s := 1) bulkOk hf 2 rfl rfl rfl (by kernel_rfl) (rdn_slice (α := List Int) bulkOk Tryd.underlying81 (by rw [cInts]; decide) rdn_ints) hsz hbk
    refine ⟨⟨a0, a1, a2⟩, ?_⟩
    rw [enc_rel]
    exact CR.part (o := 0) r0 (CR.part r1 (CR.part r2 (CR.fin hlen)))
theorem rdn_model {n : Nat} : RdN n (fun _ d => Rows.uptoBulk d) Tryd.prog 25 Model := by
  cases n with
  | zero => intro H en w base spare held fuel cs x hd hsz hbk; omega
  | succ n =>
    intro H en w base spare held fuel cs x hd hsz hbk
    obtain ⟨hlen, ps, k, hx, hf⟩ := trod_struct Tryd.underlying25 hd
    obtain ⟨x1, x2⟩ := x
    obtain rfl : x1 = .agg ps := hx
    rw [cModel] at hlen
    obtain ⟨a0, r0⟩ := rdn_fld (n := n) (α := Int) (o := 0) (s := 1) bulkOk hf 0 rfl rfl rfl (by kernel_rfl) (rdn_int rfl Tryd.underlying3) hsz hbk
    obtain ⟨a1, r1⟩ := rdn_fld (n := n) (α := List Const) (o := 1) (s := 1) bulkOk hf 1 rfl rfl rfl (by kernel_rfl) (rdn_slice (α := Const) bulkOk Tryd.underlying22 (by rw [cConst]; decide) rdn_const) hsz hbk
    obtain ⟨a2, r2⟩ := rdn_fld (n := n) (α := List MRel) (o := 2) (s := 1) bulkOk hf 2 rfl rfl rfl (by kernel_rfl) (rdn_slice (α := MRel) bulkOk Tryd.underlying23 (by rw [cRel]; decide) rdn_rel) hsz hbk
    refine ⟨⟨a0, a1, a2⟩, ?_⟩
    rw [enc_model]
    exact CR.part (o := 0) r0 (CR.part r1 (CR.part r2 (CR.fin hlen)))
end Go.Proofs.YtbbjghecpcobjaaDoor
