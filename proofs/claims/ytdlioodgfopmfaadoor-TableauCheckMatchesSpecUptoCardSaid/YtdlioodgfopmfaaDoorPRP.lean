import Derived.Test.YtdlioodgfopmfaaDoorPRF
import Derived.Test.YtdlioodgfopmfaaDoorPF
set_option linter.unusedSimpArgs false
namespace Go.Proofs.YtdlioodgfopmfaaDoor
open Go Go.Abs

theorem cPrf : Tryd.prog.cellsOf 28 = 5 := by kernel_rfl
theorem rdn_prf : ∀ {n : Nat}, RdN n (fun _ d => Rows.uptoBulk d) Tryd.prog 28 Prf := by
  intro n
  induction n with
  | zero => intro H en w base spare held fuel cs x hd hsz hbk; omega
  | succ n ih =>
    intro H en w base spare held fuel cs x hd hsz hbk
    obtain ⟨hlen, ps, k, hx, hf⟩ := trod_struct Tryd.underlying28 hd
    obtain ⟨x1, x2⟩ := x
    obtain rfl : x1 = .agg ps := hx
    rw [cPrf] at hlen
    obtain ⟨a0, r0⟩ := rdn_fld (n := n) (α := Int) (o := 0) (s := 1) bulkOk hf 0 rfl rfl rfl (by kernel_rfl) (rdn_int rfl Tryd.underlying3) hsz hbk
    obtain ⟨a1, r1⟩ := rdn_fld (n := n) (α := Int) (o := 1) (s := 1) bulkOk hf 1 rfl rfl rfl (by kernel_rfl) (rdn_int rfl Tryd.underlying3) hsz hbk
    obtain ⟨a2, r2⟩ := rdn_fld (n := n) (α := Int) (o := 2) (s := 1) bulkOk hf 2 rfl rfl rfl (by kernel_rfl) (rdn_int rfl Tryd.underlying3) hsz hbk
    obtain ⟨a3, r3⟩ := rdn_fld (n := n) (α := Str) (o := 3) (s := 1) bulkOk hf 3 rfl rfl rfl (by kernel_rfl) (RdN.of (rd_str bulkOk Tryd.underlying9)) hsz hbk
    obtain ⟨a4, r4⟩ := rdn_fld (n := n) (α := List Prf) (o := 4) (s := 1) bulkOk hf 4 rfl rfl rfl (by kernel_rfl) (rdn_slice (α := Prf) bulkOk Tryd.underlying26 (by rw [cPrf]; decide) ih) hsz hbk
    refine ⟨.mk a0 a1 a2 a3 a4, ?_⟩
    rw [enc_prf]
    exact CR.part (o := 0) r0 (CR.part r1 (CR.part r2 (CR.part r3 (CR.part r4 (CR.fin hlen)))))
end Go.Proofs.YtdlioodgfopmfaaDoor
