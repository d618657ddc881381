import Derived.Test.YtkkffhphodngkaaDoorVS
set_option linter.unusedSimpArgs false
namespace Go.Abs
open Go
mutual
theorem zv4 (g:Nat→Str×Nat):∀(f:zac) (env:List zbI) (n:Nat),vok f→vok (ren g f env n).1
 | .mk k nm ws s,env,n,h=>by
  rw[vok]at h
  rw[ren]
  split
  ·rw[vok,List.length_map,zdW]
   exact⟨h.1,h.2.1,h.2.2.1,h.2.2.2.1,h.2.2.2.2.1,h.2.2.2.2.2.1,zjW g s _ _ h.2.2.2.2.2.2⟩
  ·rw[vok,List.length_map,zdW]
   exact⟨h.1,h.2.1,h.2.2.1,h.2.2.2.1,h.2.2.2.2.1,h.2.2.2.2.2.1,zjW g s _ _ h.2.2.2.2.2.2⟩
theorem zjW (g:Nat→Str×Nat):∀(fs:List zac) (env:List zbI) (n:Nat),zj7 fs→zj7 (zbK g fs env n).1
 |[],env,n,_=>by rw[zbK,zj7];trivial
 |f::fs,env,n,h=>by
  rw[zj7]at h
  rw[zbK,zj7]
  exact⟨zv4 g f env n h.1,zjW g fs env _ h.2⟩
end
end Go.Abs
