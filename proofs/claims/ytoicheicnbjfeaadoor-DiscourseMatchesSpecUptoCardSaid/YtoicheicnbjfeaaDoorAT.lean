import Derived.Test.YtoicheicnbjfeaaDoorA3
attribute [go_sem_proc] reduceIte reduceCtorEq Nat.reduceEqDiff Nat.reduceAdd Nat.reduceSub Nat.reduceMul Nat.reduceDiv Nat.reduceMod Nat.reduceLT Nat.reduceLeDiff Nat.reduceBEq Nat.reducePow Int.reduceLE Int.reduceLT Int.reduceEq Int.reduceNeg Int.reduceAdd Int.reduceToNat
