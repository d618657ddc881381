import Derived.Test.YtalbdmcklgglbaaDoorA3
open Go Go.Abs
attribute [go_sem_proc] reduceIte reduceCtorEq Nat.reduceEqDiff Nat.reduceAdd Nat.reduceSub Nat.reduceMul Nat.reduceDiv Nat.reduceMod Nat.reduceLT Nat.reduceLeDiff Nat.reduceBEq Nat.reducePow Int.reduceLE Int.reduceLT Int.reduceEq Int.reduceNeg Int.reduceAdd Int.reduceToNat
theorem Go.Abs.rq {p q:Prop}(k:p→q)(h:p:=by first|omega|(unfold Go.Abs.zaZ;omega)|exact rfl|exact⟨rfl,rfl⟩|exact⟨rfl,rfl,rfl⟩|exact⟨rfl,rfl,rfl,rfl⟩|exact⟨rfl,rfl,trivial⟩|exact⟨rfl,rfl,rfl,trivial⟩|exact⟨rfl,rfl,rfl,rfl,trivial⟩|exact trivial|exact⟨by decide,by decide,rfl⟩):@Go.Abs.zaH p ⟨q⟩:=Go.Abs.zaH.i h k
theorem Go.Abs.rf {n b:Nat}{q:Prop}(k:fits n b→q)(h:n≤1000000000:=by first|omega|(simp only[List.length_map,List.length_take,List.length_append,List.length_cons,List.length_nil];omega)) (hb:b≤256:=by decide):@Go.Abs.zaH (fits n b) ⟨q⟩:=by
 have h1:n≤zaZ:=Nat.le_trans h (by unfold zaZ;decide)
 refine Go.Abs.zaH.i ⟨h1,Nat.le_trans (Nat.mul_le_mul_left _ hb) ?_⟩ k
 omega
attribute [go_sem] Go.Abs.zev
