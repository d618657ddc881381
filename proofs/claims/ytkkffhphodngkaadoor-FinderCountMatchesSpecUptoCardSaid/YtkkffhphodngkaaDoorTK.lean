import Derived.Test.YtkkffhphodngkaaDoorTA
import Derived.Test.YtkkffhphodngkaaDoorVP
import Derived.Test.YtkkffhphodngkaaDoorPF
set_option linter.unusedSimpArgs false
namespace Go.Abs
open Go
def zyT (f:zaf)(name:Str):zaf:=zcc (zgo f) [⟨f.name,name⟩]
def zzp (q:zaf)(turned:Bool)(name:Str):zaf:=if turned then ngg (zyT q name)else zyT q name
def zHF (l:List zaf)(name:Str):Bool:=l.any fun f=>decide (name∈zbH f)
def zAJ (f:zaf)(nm:Str):Str:=if f.words.getD 0 ⟨[]⟩=nm then f.words.getD 1 ⟨[]⟩else f.words.getD 0 ⟨[]⟩
def inL (l:List zaf)(i:Int):Bool:=decide (0≤i)&&decide (i<l.length)
def atL (l:List zaf)(i:Int):zaf:=l.getD i.toNat zhj
def zy2 (l:List zaf)(f g:zaf):Bool:=decide (ngg f=g)||decide (g.kind=4)&&zCu (zEH l) f (zgo g)
def zGR (k fo ot:Int)(nm:Str)(cs:List (List zaf→Bool))(l:List zaf):Bool:=
 if inL l fo=false then false
 else if k=1 then decide (cs.length=0)&&inL l ot&&(if ot=fo then zGV (zEH l) (atL l fo)else zy2 l (atL l fo) (atL l ot))
 else if k=2 then decide ((zeL (atL l fo)).1=1)&&decide (cs.length=1)&&cs.getD 0 (fun _=>false) (l++(zeL (atL l fo)).2.1)
 else if k=3 then decide ((zeL (atL l fo)).1=2)&&decide (cs.length=2)&&cs.getD 0 (fun _=>false) (l++[(zeL (atL l fo)).2.1.getD 0 zhj])&&cs.getD 1 (fun _=>false) (l++[(zeL (atL l fo)).2.1.getD 1 zhj])
 else if k=4 then decide ((zeL (atL l fo)).1=3)&&zax nm&&decide (cs.length=1)&&cs.getD 0 (fun _=>false) (l++[zzp (zeL (atL l fo)).2.2.1 (zeL (atL l fo)).2.2.2 nm])
 else if k=5 then decide ((zeL (atL l fo)).1=4)&&zax nm&& !zHF l nm&&decide (cs.length=1)&&cs.getD 0 (fun _=>false) (l++[zzp (zeL (atL l fo)).2.2.1 (zeL (atL l fo)).2.2.2 nm])
 else if k=6 then decide ((atL l fo).kind=3)&&inL l ot&&decide (cs.length=1)&&decide (nm∈(atL l fo).words)&&cs.getD 0 (fun _=>false) (l++[zcc (atL l ot) [⟨nm,zAJ (atL l fo) nm⟩]])
 else false
mutual
def zGQ:Prf→List zaf→Bool
 | .mk k fo ot nm s,l=>zGR k fo ot nm (zy0 s) l
def zy0:List Prf→List (List zaf→Bool)
 |[]=>[]
 |p::ps=>zGQ p::zy0 ps
end
end Go.Abs
