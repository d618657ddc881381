import Derived.Test.YtdlioodgfopmfaaDoorA3
attribute [go_sem_proc] reduceIte reduceCtorEq Nat.reduceEqDiff Nat.reduceAdd Nat.reduceSub Nat.reduceMul Nat.reduceDiv Nat.reduceMod Nat.reduceLT Nat.reduceLeDiff Nat.reduceBEq Nat.reducePow Int.reduceLE Int.reduceLT Int.reduceEq Int.reduceNeg Int.reduceAdd Int.reduceToNat
theorem Go.Abs.rq {p q : Prop} (k : p → q) (h : p := by first | omega | (unfold Go.Abs.maxL; omega) | exact rfl | exact ⟨rfl, rfl⟩ | exact ⟨rfl, rfl, rfl⟩ | exact ⟨rfl, rfl, rfl, rfl⟩ | exact ⟨rfl, rfl, trivial⟩ | exact ⟨rfl, rfl, rfl, trivial⟩ | exact ⟨rfl, rfl, rfl, rfl, trivial⟩ | exact trivial) : @Go.Abs.ReqK p ⟨q⟩ := Go.Abs.ReqK.i h k
attribute [go_sem] Go.Abs.Tbl0
