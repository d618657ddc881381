import Derived.Test.YtkkffhphodngkaaGreatDoorY14
set_option linter.unusedSimpArgs false
namespace Go.Abs
open Go
structure acP (f:zab):Prop where
 ft:f.fit=true
 s:f.size≤1000
 n:(zjg f [] []).length≤2400
mutual
theorem ztI:∀(f:zab) (bd l:List Str),shp false f→(zjg f bd l).length≤l.length+3*f.size
 | .mk k nm ws s,bd,l,h=>by
  rw[shp]at h
  have hw:ws.length≤3:=by
   have h2:=h.1.2.1
   unfold zdk at h2
   rw[zah,zct]at h2
   split at h2
   ·exact of_decide_eq_true h2
   ·split at h2
    ·have:=of_decide_eq_true h2;omega
    ·have:=of_decide_eq_true h2;omega
  rw[zjg,zab.size]
  have h1:=zjM s (if isQ k then bd++[nm]else bd) (ws.foldl (fun l w=>if w∈bd then l else zka l w) l) h.2
  have h2:=zgi bd ws l
  omega
theorem zjM:∀(fs:List zab) (bd l:List Str),zeS false fs→(zdM fs bd l).length≤l.length+3*zab.sizes fs
 |[],_,l,_=>by rw[zdM];omega
 |f::fs,bd,l,h=>by
  rw[zeS]at h
  rw[zdM,zab.sizes]
  have h1:=ztI f bd l h.1
  have h2:=zjM fs bd (zjg f bd l) h.2
  omega
end
theorem zwA {f:zab}(h:(zaw false f).code=0):(zaP f).length≤1000000∧(cst f []).length≤1000000:=by
 have h1:=zd0 f [] (zb3 h)
 have h2:=za7 h
 have h3:=zfn f
 omega
end Go.Abs
