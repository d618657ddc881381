import Derived.Test.YtbbcinpmomjbgaaDoorPC
import Derived.Test.YtbbcinpmomjbgaaDoorP20
import Derived.Test.YtbbcinpmomjbgaaDoorAbs39
set_option linter.unusedSimpArgs false
namespace Go.Proofs.YtbbcinpmomjbgaaDoor
open Go Go.Abs

theorem rdn_time {n : Nat} : RdN n (fun _ d => Rows.uptoBulk d) Tryd.prog 38 Time := by
  intro H en w base spare held fuel cs x hd hsz hbk
  obtain ⟨hlen, ps, k, hx, hf⟩ := trod_struct Tryd.underlying38 hd
  obtain ⟨x1, x2⟩ := x
  obtain rfl : x1 = .agg ps := hx
  rw [show Tryd.prog.cellsOf 38 = 3 by kernel_rfl] at hlen
  cases n with
  | zero => omega
  | succ n =>
    obtain ⟨a0, r0⟩ := rdn_fld (n := n) (α := Int) (o := 0) (s := 1) bulkOk hf 0 rfl rfl rfl (by kernel_rfl) (rdn_int rfl Tryd.underlying3) hsz hbk
    obtain ⟨a1, r1⟩ := rdn_fld (n := n) (α := Int) (o := 1) (s := 1) bulkOk hf 1 rfl rfl rfl (by kernel_rfl) (rdn_int rfl Tryd.underlying3) hsz hbk
    obtain ⟨a2, r2⟩ := rdn_fld (n := n) (α := Int) (o := 2) (s := 1) bulkOk hf 2 rfl rfl rfl (by kernel_rfl) (rdn_int rfl Tryd.underlying3) hsz hbk
    exact ⟨⟨a0, a1, a2⟩, CR.part (o := 0) r0 (CR.part r1 (CR.part r2 (CR.fin hlen)))⟩
end Go.Proofs.YtbbcinpmomjbgaaDoor
