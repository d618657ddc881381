import Derived.Test.YtbbjghecpcobjaaDoorAT
import Derived.Test.YtbbjghecpcobjaaDoorY5
import Derived.Test.YtbbjghecpcobjaaDoorVP
set_option linter.unusedSimpArgs false
namespace Go.Proofs.YtbbjghecpcobjaaDoor
open Go Go.Abs Go.Proofs
section
variable {G : Nat → List FD}
/-! ## quantity.Most -/
theorem numP_ok {m : Model} {name : Str} {f : Abs.Form} (h : (numP m name f).2.code = 0) : (modelM m).code = 0 ∧ isName name = true ∧ (qfM m name f (-3)).code = 0 ∧ numP m name f = (((cntM (valsM m name f) : Nat) : Int), ⟨0, 0⟩) := by
  unfold numP at h ⊢
  by_cases h1 : (modelM m).code = 0
  · rw [if_neg (by simp [h1])] at h ⊢
    by_cases h2 : isName name = false
    · rw [if_pos h2] at h; exact absurd h (by decide)
    · rw [if_neg h2] at h ⊢
      by_cases h3 : (qfM m name f (-3)).code = 0
      · rw [if_neg (by simp [h3])]; exact ⟨h1, by simpa using h2, h3, rfl⟩
      · rw [if_pos h3] at h; exact absurd h h3
  · rw [if_pos h1] at h; exact absurd h h1
def B25 : Tbl := B24.add 12 (sp4p mostP fun _ _ _ _ => True)
attribute [go_sem] B25
end
def oneM : Model := ⟨2, [⟨⟨[107, 105, 109]⟩, 0⟩, ⟨⟨[108, 101, 101]⟩, 1⟩], [⟨⟨[100, 111, 103]⟩, 1, [[0]]⟩]⟩
section
variable {G : Nat → List FD}
def B26 : Tbl := B25.add 10 (sp0 oneM)
attribute [go_sem] B26
def B27 : Tbl := B26
attribute [go_sem] B27
end
/-! ## the law QuantityOfSame -/
def G1 : Nat → List FD := fun g => if g = 0 then [.i .i64 0, .i .i64 0] else []
def sQD : Str := ⟨[100, 111, 103]⟩
def sQX : Str := ⟨[120]⟩
def fQD : Abs.Form := predM sQD [sQX]
def tree745 : Tv := (.q 0 (.q 1 (.q 2 (.q 3 (.q 4 (.q 5 (.q 6 (.q 7 (.q 8 (.br [(9, (.q 10 (.br [(11, .leaf)])))]))))))))))
end Go.Proofs.YtbbjghecpcobjaaDoor
