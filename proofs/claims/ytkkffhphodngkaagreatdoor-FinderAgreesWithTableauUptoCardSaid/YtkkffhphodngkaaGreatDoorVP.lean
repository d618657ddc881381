import Derived.Test.YtkkffhphodngkaaGreatDoorVS
set_option linter.unusedSimpArgs false
namespace Go.Abs
open Go
mutual
theorem zu2 (g:Nat→Str×Nat):∀(f:zab) (env:List za3) (n:Nat),vok f→vok (ren g f env n).1
 | .mk k nm ws s,env,n,h=>by
  rw[vok]at h
  rw[ren]
  split
  ·rw[vok,List.length_map,zdV]
   exact⟨h.1,h.2.1,h.2.2.1,h.2.2.2.1,h.2.2.2.2.1,h.2.2.2.2.2.1,zlv g s _ _ h.2.2.2.2.2.2⟩
  ·rw[vok,List.length_map,zdV]
   exact⟨h.1,h.2.1,h.2.2.1,h.2.2.2.1,h.2.2.2.2.1,h.2.2.2.2.2.1,zlv g s _ _ h.2.2.2.2.2.2⟩
theorem zlv (g:Nat→Str×Nat):∀(fs:List zab) (env:List za3) (n:Nat),zhA fs→zhA (zbb g fs env n).1
 |[],env,n,_=>by rw[zbb,zhA];trivial
 |f::fs,env,n,h=>by
  rw[zhA]at h
  rw[zbb,zhA]
  exact⟨zu2 g f env n h.1,zlv g fs env _ h.2⟩
end
theorem zid {f:zab}{env:List za3}(h:vok f):vok (zaD f env):=zu2 _ f env 0 h
end Go.Abs
