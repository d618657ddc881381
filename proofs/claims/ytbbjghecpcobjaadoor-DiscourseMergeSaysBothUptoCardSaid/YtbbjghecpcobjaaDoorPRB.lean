import Derived.Test.YtbbjghecpcobjaaDoorPRF
import Derived.Test.YtbbjghecpcobjaaDoorBX
set_option linter.unusedSimpArgs false
namespace Go.Proofs.YtbbjghecpcobjaaDoor
open Go Go.Abs

theorem rdn_bc : ∀ {n : Nat}, RdN n (fun _ d => Rows.uptoBulk d) Tryd.prog 66 Abs.Box ∧ RdN n (fun _ d => Rows.uptoBulk d) Tryd.prog 70 Abs.Cond := by
  intro n
  induction n with
  | zero => exact ⟨fun {H en w base spare held fuel cs x} hd hsz hbk => by omega, fun {H en w base spare held fuel cs x} hd hsz hbk => by omega⟩
  | succ n ih =>
    constructor
    · intro H en w base spare held fuel cs x hd hsz hbk
      obtain ⟨hlen, ps, k, hx, hf⟩ := trod_struct Tryd.underlying66 hd
      obtain ⟨x1, x2⟩ := x
      obtain rfl : x1 = .agg ps := hx
      rw [c25] at hlen
      obtain ⟨a0, r0⟩ := rdn_fld (n := n) (α := List Str) (o := 0) (s := 1) bulkOk hf 0 rfl rfl rfl (by kernel_rfl) rdn_strs hsz hbk
      obtain ⟨a1, r1⟩ := rdn_fld (n := n) (α := List Abs.Cond) (o := 1) (s := 1) bulkOk hf 1 rfl rfl rfl (by kernel_rfl) (rdn_slice (α := Abs.Cond) bulkOk Tryd.underlying64 (by rw [c107]; decide) ih.2) hsz hbk
      refine ⟨.mk a0 a1, ?_⟩
      rw [enc_box]
      exact CR.part (o := 0) r0 (CR.part r1 (CR.fin hlen))
    · intro H en w base spare held fuel cs x hd hsz hbk
      obtain ⟨hlen, ps, k, hx, hf⟩ := trod_struct Tryd.underlying70 hd
      obtain ⟨x1, x2⟩ := x
      obtain rfl : x1 = .agg ps := hx
      rw [c107] at hlen
      obtain ⟨a0, r0⟩ := rdn_fld (n := n) (α := Int) (o := 0) (s := 1) bulkOk hf 0 rfl rfl rfl (by kernel_rfl) (rdn_int rfl Tryd.underlying3) hsz hbk
      obtain ⟨a1, r1⟩ := rdn_fld (n := n) (α := Str) (o := 1) (s := 1) bulkOk hf 1 rfl rfl rfl (by kernel_rfl) (RdN.of (rd_str bulkOk Tryd.underlying9)) hsz hbk
      obtain ⟨a2, r2⟩ := rdn_fld (n := n) (α := Abs.Form) (o := 2) (s := 4) bulkOk hf 2 rfl rfl rfl (by kernel_rfl) rdn_form hsz hbk
      obtain ⟨a3, r3⟩ := rdn_fld (n := n) (α := List Abs.Box) (o := 6) (s := 1) bulkOk hf 3 rfl rfl rfl (by kernel_rfl) (rdn_slice (α := Abs.Box) bulkOk Tryd.underlying68 (by rw [c25]; decide) ih.1) hsz hbk
      refine ⟨.mk a0 a1 a2 a3, ?_⟩
      rw [enc_form] at r2
      rw [enc_cond]
      exact CR.part (o := 0) r0 (CR.part r1 (CR.part r2 (CR.part r3 (CR.fin hlen))))
theorem rdn_box {n : Nat} : RdN n (fun _ d => Rows.uptoBulk d) Tryd.prog 66 Abs.Box := rdn_bc.1
end Go.Proofs.YtbbjghecpcobjaaDoor
