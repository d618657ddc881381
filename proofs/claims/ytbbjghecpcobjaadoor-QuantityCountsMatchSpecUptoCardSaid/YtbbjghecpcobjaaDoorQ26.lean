import Derived.Test.YtbbjghecpcobjaaDoorAT
import Derived.Test.YtbbjghecpcobjaaDoorQ25
set_option linter.unusedSimpArgs false
namespace Go.Proofs.YtbbjghecpcobjaaDoor
open Go Go.Abs Go.Proofs

/-! ## folform.canon's next name -/
/-- the counter and the names that are used -/
def HHn (k : Nat) (used : List Str) (ga gb : Nat) : List (Abs.Id × Option O) :=
  [((125010, ga), some ⟨[.fz (.i .i64 k)], true, false⟩), ((125005, gb), some ⟨[.fz (.sl (used.map enc))], true, false⟩)]
structure NextI (used : List Str) (k : Nat) where
  j : Nat
  h1 : k ≤ j
  h2 : j ≤ k + used.length
  h3 : nextM used k = nextM used j

set_option maxRecDepth 100000 in
set_option maxHeartbeats 1000000 in
theorem f150 {used : List Str} {k n ga gb : Nat} {X : Heap} (_ : ga < n) (_ : gb < n) (hk : k + used.length ≤ 999999999999)
    (hX : ∀ id o, X id = some o → id.2 < n ∧ id.1 ≠ 125010 ∧ id.1 ≠ 125005) :
    Wcall Tryd.prog GA 150 [.ptr (125010, ga) 0, .ptr (125005, gb) 0] (hpX (HHn k used ga gb) X) n
      (fun d' H' n' => d' = .fz (enc (vg used k).1) ∧ n ≤ n' ∧ HpOk H' (HHn (vg used k).2 used ga gb) ∧ ∀ id o, X id = some o → H' id = some o) := by
  obtain ⟨Q, hQ⟩ : ∃ Q : D → Heap → Nat → Prop, Q = (fun d' H' n' => d' = .fz (enc (vg used k).1) ∧ n ≤ n' ∧ HpOk H' (HHn (vg used k).2 used ga gb) ∧ ∀ id o, X id = some o → H' id = some o) := ⟨_, rfl⟩
  rw [← hQ]
  have hX' : ∀ {l : List (Abs.Id × Option O)} (id o), X id = some o → (id.2 < n ∧ id.1 ≠ 125010 ∧ id.1 ≠ 125005 → apartL id l) → hpX l X id = some o := fun id o h1 h2 => (hpX_pass (h2 (hX id o h1))).trans h1
  have kX := Kp.mk @hX'
  have kQ := Kp.mk hQ
  clear hX' hQ hX
  refine Wcall_K (N := 14) hm hR1 150000 (lst []) ok150 Tryd.func150 rfl rfl (by simp) (by kernel_rfl) ?_
  repeat' (first | refine rq fun _ => ?_ | simp only [go_sem, HHn, Tryd.f150])
  refine WK_loop hm hR1 150000 (lst []) (ι := NextI used k)
    ⟨fun q => ⟨frL [(0, .ptr (125010, ga) 0), (1, .ptr (125005, gb) 0)], hpX (HHn q.j used ga gb) X, n⟩, fun q => k + used.length + 1 - q.j⟩
    ⟨k, by omega, by omega, rfl⟩ (by kernel_rfl) ?_ ?_
  · refine Weak_toX ?_ ?_ (fun id o ho => ?_) ?_
    · simp only [go_sem]
    · simp only [go_sem, HHn]
    · refine kX.out id o ho fun h1 => ?_
      ((repeat' (first | exact trivial | apply And.intro)) <;> (rintro rfl; simp only at h1; omega))
    · simp only [go_sem]
  rintro ⟨j, h1, h2, h3⟩
  try simp only at h1 h2 h3
  have hs := nextM_spec used k
  have hdl := digits_len j
  by_cases hin : vnum j ∈ used
  · have hin' : (⟨118 :: digits j⟩ : Str) ∈ used := hin
    have h4 := nextM_in hin
    have h5 := (nextM_spec used (j + 1)).1
    repeat' (first | refine rq fun _ => ?_ | refine ReqK.i ⟨by omega, by omega⟩ fun _ => ?_ | simp only [go_sem, HHn, hin', itoaS_nat, Tryd.f150])
    refine ⟨⟨j + 1, by omega, by omega, by rw [h3, h4]⟩, by simp only; omega, ?_⟩
    refine Weak_toX ?_ ?_ (fun id o ho => ?_) ?_
    · simp only [go_sem]
    · simp only [go_sem, HHn, Int.natCast_add, Int.cast_ofNat_Int]
    · refine kX.out id o ho fun h1 => ?_
      ((repeat' (first | exact trivial | apply And.intro)) <;> (rintro rfl; simp only at h1; omega))
    · simp only [go_sem]
  · have hin' : (⟨118 :: digits j⟩ : Str) ∉ used := hin
    have h4 := nextM_out hin
    repeat' (first | refine rq fun _ => ?_ | refine ReqK.i ⟨by omega, by omega⟩ fun _ => ?_ | simp only [go_sem, HHn, hin', itoaS_nat, Tryd.f150])
    rw [kQ.out]
    have e1 : vg used k = (vnum j, j + 1) := by unfold vg; rw [h3, h4]
    rw [e1]
    refine ⟨rfl, Nat.le_refl _, by simp only [go_sem, HHn, Int.natCast_add, Int.cast_ofNat_Int], fun id o ho => kX.out id o ho fun h1 => ?_⟩
    ((repeat' (first | exact trivial | apply And.intro)) <;> (rintro rfl; simp only at h1; omega))
end Go.Proofs.YtbbjghecpcobjaaDoor
