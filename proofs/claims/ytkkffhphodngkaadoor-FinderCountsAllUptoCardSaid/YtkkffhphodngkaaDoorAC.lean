import Derived.Test.YtkkffhphodngkaaDoorY11
set_option linter.unusedSimpArgs false
namespace Go.Abs
open Go
structure acP (f:zac):Prop where
 ft:f.fit=true
 s:f.size≤1000
 n:(zji f [] []).length≤2400
mutual
theorem zqD:∀(f:zac) (bd l:List Str),shp false f→(zji f bd l).length≤l.length+3*f.size
 | .mk k nm ws s,bd,l,h=>by
  rw[shp]at h
  have hw:ws.length≤3:=by
   have h2:=h.1.2.1
   unfold zda at h2
   rw[zax,zdD]at h2
   split at h2
   ·exact of_decide_eq_true h2
   ·split at h2
    ·have:=of_decide_eq_true h2;omega
    ·have:=of_decide_eq_true h2;omega
  rw[zji,zac.size]
  have h1:=ziw s (if isQ k then bd++[nm]else bd) (ws.foldl (fun l w=>if w∈bd then l else ziR l w) l) h.2
  have h2:=zfq bd ws l
  omega
theorem ziw:∀(fs:List zac) (bd l:List Str),zer false fs→(zdd fs bd l).length≤l.length+3*zac.sizes fs
 |[],_,l,_=>by rw[zdd];omega
 |f::fs,bd,l,h=>by
  rw[zer]at h
  rw[zdd,zac.sizes]
  have h1:=zqD f bd l h.1
  have h2:=ziw fs bd (zji f bd l) h.2
  omega
end
theorem zsN {f:zac}(h:(zaz false f).code=0):(zbv f).length≤1000000∧(cst f []).length≤1000000:=by
 have h1:=zfX f [] (zb1 h)
 have h2:=zaZ h
 have h3:=zfJ f
 omega
end Go.Abs
