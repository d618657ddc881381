import Derived.Test.YtkkffhphodngkabGreatDoorY14
set_option linter.unusedSimpArgs false
namespace Go.Abs
open Go
structure acP (f:zac):Prop where
 ft:f.fit=true
 s:f.size≤1000
 n:(zwT f [] []).length≤2400
mutual
theorem zuz:∀(f:zac) (bd l:List Str),shp false f→(zwT f bd l).length≤l.length+3*f.size
 | .mk k nm ws s,bd,l,h=>by
  rw[shp]at h
  have hw:ws.length≤3:=by
   have h2:=h.1.2.1
   unfold zdq at h2
   rw[zai,zce]at h2
   split at h2
   ·exact of_decide_eq_true h2
   ·split at h2
    ·have:=of_decide_eq_true h2;omega
    ·have:=of_decide_eq_true h2;omega
  rw[zwT,zac.size]
  have h1:=zkn s (if isQ k then bd++[nm]else bd) (ws.foldl (fun l w=>if w∈bd then l else zvM l w) l) h.2
  have h2:=zi3 bd ws l
  omega
theorem zkn:∀(fs:List zac) (bd l:List Str),ze9 false fs→(ziS fs bd l).length≤l.length+3*zac.sizes fs
 |[],_,l,_=>by rw[ziS];omega
 |f::fs,bd,l,h=>by
  rw[ze9]at h
  rw[ziS,zac.sizes]
  have h1:=zuz f bd l h.1
  have h2:=zkn fs bd (zwT f bd l) h.2
  omega
end
theorem zxF {f:zac}(h:(zaz false f).code=0):(zaP f).length≤1000000∧(cst f []).length≤1000000:=by
 have h1:=zdJ f [] (zbW h)
 have h2:=zaY h
 have h3:=zeF f
 omega
end Go.Abs
