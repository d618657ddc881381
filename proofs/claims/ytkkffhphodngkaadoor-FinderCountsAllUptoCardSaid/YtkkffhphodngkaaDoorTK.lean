import Derived.Test.YtkkffhphodngkaaDoorTA
import Derived.Test.YtkkffhphodngkaaDoorVP
import Derived.Test.YtkkffhphodngkaaDoorPF
set_option linter.unusedSimpArgs false
namespace Go.Abs
open Go
def zxI (f:zac)(name:Str):zac:=zb0 (zfR f) [⟨f.name,name⟩]
def zyc (q:zac)(turned:Bool)(name:Str):zac:=if turned then ngg (zxI q name)else zxI q name
def zGf (l:List zac)(name:Str):Bool:=l.any fun f=>decide (name∈zbv f)
def zzt (f:zac)(nm:Str):Str:=if f.words.getD 0 ⟨[]⟩=nm then f.words.getD 1 ⟨[]⟩else f.words.getD 0 ⟨[]⟩
def inL (l:List zac)(i:Int):Bool:=decide (0≤i)&&decide (i<l.length)
def atL (l:List zac)(i:Int):zac:=l.getD i.toNat zgF
def zxR (l:List zac)(f g:zac):Bool:=decide (ngg f=g)||decide (g.kind=4)&&zBf (zDo l) f (zfR g)
def zFt (k fo ot:Int)(nm:Str)(cs:List (List zac→Bool))(l:List zac):Bool:=
 if inL l fo=false then false
 else if k=1 then decide (cs.length=0)&&inL l ot&&(if ot=fo then zFx (zDo l) (atL l fo)else zxR l (atL l fo) (atL l ot))
 else if k=2 then decide ((zep (atL l fo)).1=1)&&decide (cs.length=1)&&cs.getD 0 (fun _=>false) (l++(zep (atL l fo)).2.1)
 else if k=3 then decide ((zep (atL l fo)).1=2)&&decide (cs.length=2)&&cs.getD 0 (fun _=>false) (l++[(zep (atL l fo)).2.1.getD 0 zgF])&&cs.getD 1 (fun _=>false) (l++[(zep (atL l fo)).2.1.getD 1 zgF])
 else if k=4 then decide ((zep (atL l fo)).1=3)&&zaq nm&&decide (cs.length=1)&&cs.getD 0 (fun _=>false) (l++[zyc (zep (atL l fo)).2.2.1 (zep (atL l fo)).2.2.2 nm])
 else if k=5 then decide ((zep (atL l fo)).1=4)&&zaq nm&& !zGf l nm&&decide (cs.length=1)&&cs.getD 0 (fun _=>false) (l++[zyc (zep (atL l fo)).2.2.1 (zep (atL l fo)).2.2.2 nm])
 else if k=6 then decide ((atL l fo).kind=3)&&inL l ot&&decide (cs.length=1)&&decide (nm∈(atL l fo).words)&&cs.getD 0 (fun _=>false) (l++[zb0 (atL l ot) [⟨nm,zzt (atL l fo) nm⟩]])
 else false
mutual
def zFs:Prf→List zac→Bool
 | .mk k fo ot nm s,l=>zFt k fo ot nm (zxP s) l
def zxP:List Prf→List (List zac→Bool)
 |[]=>[]
 |p::ps=>zFs p::zxP ps
end
end Go.Abs
