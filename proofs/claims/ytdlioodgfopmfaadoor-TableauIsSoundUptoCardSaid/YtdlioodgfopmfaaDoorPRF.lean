import Derived.Test.YtdlioodgfopmfaaDoorPG
import Derived.Test.YtdlioodgfopmfaaDoorY0
set_option linter.unusedSimpArgs false
namespace Go.Proofs.YtdlioodgfopmfaaDoor
open Go Go.Abs

theorem c9 : Tryd.prog.cellsOf 9 = 1 := by kernel_rfl
theorem c57 : Tryd.prog.cellsOf 25 = 4 := by kernel_rfl
theorem rdn_strs {n : Nat} : RdN n (fun _ d => Rows.uptoBulk d) Tryd.prog 23 (List Str) :=
  rdn_slice (α := Str) bulkOk Tryd.underlying23 (by rw [c9]; decide) (RdN.of (rd_str bulkOk Tryd.underlying9))
theorem rdn_form : ∀ {n : Nat}, RdN n (fun _ d => Rows.uptoBulk d) Tryd.prog 25 Abs.Form := by
  intro n
  induction n with
  | zero => intro H en w base spare held fuel cs x hd hsz hbk; omega
  | succ n ih =>
    intro H en w base spare held fuel cs x hd hsz hbk
    obtain ⟨hlen, ps, k, hx, hf⟩ := trod_struct Tryd.underlying25 hd
    obtain ⟨x1, x2⟩ := x
    obtain rfl : x1 = .agg ps := hx
    rw [c57] at hlen
    obtain ⟨a0, r0⟩ := rdn_fld (n := n) (α := Int) (o := 0) (s := 1) bulkOk hf 0 rfl rfl rfl (by kernel_rfl) (rdn_int rfl Tryd.underlying3) hsz hbk
    obtain ⟨a1, r1⟩ := rdn_fld (n := n) (α := Str) (o := 1) (s := 1) bulkOk hf 1 rfl rfl rfl (by kernel_rfl) (RdN.of (rd_str bulkOk Tryd.underlying9)) hsz hbk
    obtain ⟨a2, r2⟩ := rdn_fld (n := n) (α := List Str) (o := 2) (s := 1) bulkOk hf 2 rfl rfl rfl (by kernel_rfl) rdn_strs hsz hbk
    obtain ⟨a3, r3⟩ := rdn_fld (n := n) (α := List Abs.Form) (o := 3) (s := 1) bulkOk hf 3 rfl rfl rfl (by kernel_rfl) (rdn_slice (α := Abs.Form) bulkOk Tryd.underlying22 (by rw [c57]; decide) ih) hsz hbk
    refine ⟨.mk a0 a1 a2 a3, ?_⟩
    rw [enc_form]
    exact CR.part (o := 0) r0 (CR.part r1 (CR.part r2 (CR.part r3 (CR.fin hlen))))
end Go.Proofs.YtdlioodgfopmfaaDoor
