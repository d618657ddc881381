import Derived.Test.YtkkffhphodngkaaDoorVS
set_option linter.unusedSimpArgs false
namespace Go.Abs
open Go
mutual
theorem zxl (g:Nat→Str×Nat):∀(f:zaf) (env:List zbU) (n:Nat),vok f→vok (ren g f env n).1
 | .mk k nm ws s,env,n,h=>by
  rw[vok]at h
  rw[ren]
  split
  ·rw[vok,List.length_map,zeh]
   exact⟨h.1,h.2.1,h.2.2.1,h.2.2.2.1,h.2.2.2.2.1,h.2.2.2.2.2.1,zkE g s _ _ h.2.2.2.2.2.2⟩
  ·rw[vok,List.length_map,zeh]
   exact⟨h.1,h.2.1,h.2.2.1,h.2.2.2.1,h.2.2.2.2.1,h.2.2.2.2.2.1,zkE g s _ _ h.2.2.2.2.2.2⟩
theorem zkE (g:Nat→Str×Nat):∀(fs:List zaf) (env:List zbU) (n:Nat),zkO fs→zkO (zbX g fs env n).1
 |[],env,n,_=>by rw[zbX,zkO];trivial
 |f::fs,env,n,h=>by
  rw[zkO]at h
  rw[zbX,zkO]
  exact⟨zxl g f env n h.1,zkE g fs env _ h.2⟩
end
end Go.Abs
