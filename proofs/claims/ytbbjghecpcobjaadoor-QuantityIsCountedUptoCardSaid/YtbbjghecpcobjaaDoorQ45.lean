import Derived.Test.YtbbjghecpcobjaaDoorQ44
set_option linter.unusedSimpArgs false
namespace Go.Abs
open Go
mutual
theorem mapF_clean {σ : Str → Str} {p : Str → Prop} (h : ∀ w, p w → ¬ bang (σ w)) : ∀ f : Abs.Form, allW p f → clean (mapF σ f)
  | .mk k nm ws s, hf => by
    rw [allW] at hf
    rw [mapF, clean]
    refine ⟨fun w hw => ?_, mapFs_clean h s hf.2.2⟩
    obtain ⟨x, hx, rfl⟩ := List.mem_map.1 hw
    exact h x (hf.1 x hx)
theorem mapFs_clean {σ : Str → Str} {p : Str → Prop} (h : ∀ w, p w → ¬ bang (σ w)) : ∀ fs : List Abs.Form, allWs p fs → cleans (mapFs σ fs)
  | [], _ => by rw [mapFs, cleans]; trivial
  | f :: fs, hf => by rw [allWs] at hf; rw [mapFs, cleans]; exact ⟨mapF_clean h f hf.1, mapFs_clean h fs hf.2⟩
end
end Go.Abs
namespace Go.Proofs.YtbbjghecpcobjaaDoor
open Go Go.Abs Go.Proofs

/-! ## the law -/
def sV0 : Str := ⟨[118, 48]⟩
def fDog : Abs.Form := predM sDog [sX]
def gDog : Abs.Form := .mk 9 sV0 [] [predM sDog [sV0]]
theorem put_dog : canonM fDog [⟨sX, qn 0⟩] = predM sDog [qn 0] := by
  have h : lkp [⟨sX, qn 0⟩] sX = qn 0 := by
    have := lkp_snoc [] ⟨sX, qn 0⟩ sX
    rw [List.nil_append] at this
    rw [this, if_pos rfl]
  unfold canonM fDog predM
  rw [ren, if_neg (by decide), rens]
  simp only [List.map_cons, List.map_nil, h]
theorem least_dog : leastP fDog sX 1 = .mk 9 (qn 0) [] [predM sDog [qn 0]] := by
  have : leastP fDog sX 1 = .mk 9 (qn 0) [] [canonM fDog [⟨sX, qn 0⟩]] := rfl
  rw [this, put_dog]
theorem chk_dog : checkQ 1 sX fDog = ⟨0, 0⟩ := by kernel_rfl
def tree1015 : Tv := (.q 0 (.q 1 (.q 2 (.q 3 (.q 4 (.q 5 (.q 6 (.q 7 (.q 8 (.q 9 (.br [(10, (.br [(11, (.br [(12, (.br [(13, .leaf)]))]))])), (11, (.br [(10, (.br [(12, (.br [(13, .leaf)]))]))]))])))))))))))
theorem all_bad {n : Int} {name : Str} {f : Abs.Form} {e : Fault} (h : checkQ n name f = e) (hc : e.code ≠ 0) : alP n name f = (zeroF, e) ∧ amP n name f = (zeroF, e) ∧ exP n name f = (zeroF, e) := by
  unfold alP amP exP
  rw [h, if_pos hc, if_pos hc, if_pos hc]
  exact ⟨rfl, rfl, rfl⟩
end Go.Proofs.YtbbjghecpcobjaaDoor
