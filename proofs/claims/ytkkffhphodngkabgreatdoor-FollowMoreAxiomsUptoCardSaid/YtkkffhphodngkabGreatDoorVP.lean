import Derived.Test.YtkkffhphodngkabGreatDoorVS
set_option linter.unusedSimpArgs false
namespace Go.Abs
open Go
mutual
theorem zvV (g:Nat→Str×Nat):∀(f:zac) (env:List za4) (n:Nat),vok f→vok (ren g f env n).1
 | .mk k nm ws s,env,n,h=>by
  rw[vok]at h
  rw[ren]
  split
  ·rw[vok,List.length_map,zd6]
   exact⟨h.1,h.2.1,h.2.2.1,h.2.2.2.1,h.2.2.2.2.1,h.2.2.2.2.2.1,zl4 g s _ _ h.2.2.2.2.2.2⟩
  ·rw[vok,List.length_map,zd6]
   exact⟨h.1,h.2.1,h.2.2.1,h.2.2.2.1,h.2.2.2.2.1,h.2.2.2.2.2.1,zl4 g s _ _ h.2.2.2.2.2.2⟩
theorem zl4 (g:Nat→Str×Nat):∀(fs:List zac) (env:List za4) (n:Nat),ziu fs→ziu (zbj g fs env n).1
 |[],env,n,_=>by rw[zbj,ziu];trivial
 |f::fs,env,n,h=>by
  rw[ziu]at h
  rw[zbj,ziu]
  exact⟨zvV g f env n h.1,zl4 g fs env _ h.2⟩
end
theorem ziJ {f:zac}{env:List za4}(h:vok f):vok (zaC f env):=zvV _ f env 0 h
end Go.Abs
