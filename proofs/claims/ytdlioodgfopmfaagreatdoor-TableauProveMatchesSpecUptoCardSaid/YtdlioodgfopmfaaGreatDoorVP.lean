import Derived.Test.YtdlioodgfopmfaaGreatDoorVS
set_option linter.unusedSimpArgs false
namespace Go.Abs
open Go
mutual
theorem ztM (g:Nat→Str×Nat):∀(f:zac) (env:List zaR) (n:Nat),vok f→vok (ren g f env n).1
 | .mk k nm ws s,env,n,h=>by
  rw[vok]at h
  rw[ren]
  split
  ·rw[vok,List.length_map,zdk]
   exact⟨h.1,h.2.1,h.2.2.1,h.2.2.2.1,h.2.2.2.2.1,h.2.2.2.2.2.1,zlh g s _ _ h.2.2.2.2.2.2⟩
  ·rw[vok,List.length_map,zdk]
   exact⟨h.1,h.2.1,h.2.2.1,h.2.2.2.1,h.2.2.2.2.1,h.2.2.2.2.2.1,zlh g s _ _ h.2.2.2.2.2.2⟩
theorem zlh (g:Nat→Str×Nat):∀(fs:List zac) (env:List zaR) (n:Nat),zkc fs→zkc (za5 g fs env n).1
 |[],env,n,_=>by rw[za5,zkc];trivial
 |f::fs,env,n,h=>by
  rw[zkc]at h
  rw[za5,zkc]
  exact⟨ztM g f env n h.1,zlh g fs env _ h.2⟩
end
theorem zlP {f:zac}{env:List zaR}(h:vok f):vok (zau f env):=ztM _ f env 0 h
end Go.Abs
