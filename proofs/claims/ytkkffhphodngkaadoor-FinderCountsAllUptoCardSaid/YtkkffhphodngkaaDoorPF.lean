import Derived.Test.YtkkffhphodngkaaDoorLW
set_option linter.unusedSimpArgs false
namespace Go.Abs
open Go
inductive Prf where
 |mk (kind form other:Int) (name:Str) (subs:List Prf)
namespace Prf
def kind:Prf→Int|mk k _ _ _ _=>k
def form:Prf→Int|mk _ f _ _ _=>f
def other:Prf→Int|mk _ _ o _ _=>o
def name:Prf→Str|mk _ _ _ n _=>n
def subs:Prf→List Prf|mk _ _ _ _ s=>s
end Prf
@[go_sem] theorem zAT {k f o n s}:(Prf.mk k f o n s).kind=k:=rfl
@[go_sem] theorem zAS {k f o n s}:(Prf.mk k f o n s).form=f:=rfl
@[go_sem] theorem zzg {k f o n s}:(Prf.mk k f o n s).other=o:=rfl
@[go_sem] theorem zAU {k f o n s}:(Prf.mk k f o n s).name=n:=rfl
@[go_sem] theorem zAV {k f o n s}:(Prf.mk k f o n s).subs=s:=rfl
@[go_sem] theorem zCU {p:Prf}:Prf.mk p.kind p.form p.other p.name p.subs=p:=by cases p;rfl
mutual
def zwJ:Prf→FD
 | .mk k f o n s=> .agg [.i .i64 k,.i .i64 f,.i .i64 o,.s n.l,.sl (zoU s)]
def zoU:List Prf→List FD
 |[]=>[]
 |f::fs=>zwJ f::zoU fs
end
mutual
def zh9:FD→Prf
 | .agg [.i _ k,.i _ f,.i _ o,.s n,.sl s]=> .mk k f o ⟨n⟩ (zoM s)
 |_=> .mk 0 0 0 ⟨[]⟩ []
def zoM:List FD→List Prf
 |[]=>[]
 |x::xs=>zh9 x::zoM xs
end
mutual
theorem zky:∀f,zh9 (zwJ f)=f
 | .mk k f o n s=>by simp only[zwJ,zh9,zhj s]
theorem zhj:∀s,zoM (zoU s)=s
 |[]=>rfl
 |f::fs=>by simp only[zoU,zoM,zky f,zhj fs]
end
instance:Enc Prf:=⟨zwJ,zh9,zky⟩
theorem zkG:∀s:List Prf,zoU s=s.map enc
 |[]=>rfl
 |f::fs=>by rw[zoU,zkG fs];rfl
theorem zkz:∀s:List FD,zoM s=dec (α:=List Prf) (.sl s)
 |[]=>rfl
 |f::fs=>by rw[zoM,zkz fs];rfl
@[go_sem] theorem zqQ {p:Prf}:enc p= .agg [.i .i64 p.kind,.i .i64 p.form,.i .i64 p.other,.s p.name.l,.sl (p.subs.map enc)]:=by
 cases p with
 |mk k f o n s=>show zwJ _=_;rw[zwJ,zkG];rfl
@[go_sem] theorem zBp {i j h k f o n s}:dec (α:=Prf) (.agg [.i i k,.i j f,.i h o,.s n,.sl s])= .mk k f o ⟨n⟩ (dec (.sl s)):=by
 show zh9 _=_;rw[zh9,zkz]
instance:Kc Prf 5:=⟨fun f=>by rw[zqQ];rfl⟩
@[go_sem] theorem zyZ {l:List Prf}:zbi (l.map enc) 5=True:=eq_true (zdo l)
@[go_sem] theorem zwO {l:List Prf}:(zad (l.map enc)).all zcF=true:=by
 rw[List.all_eq_true]
 intro d hd
 simp only[zad,List.mem_flatMap,List.mem_map]at hd
 obtain⟨_,⟨a,_,rfl⟩,x,hx,rfl⟩:=hd
 simp only[zqQ,FD.cells,List.mem_cons,List.not_mem_nil,or_false]at hx
 rcases hx with rfl|rfl|rfl|rfl|rfl<;>rfl
mutual
def Prf.size:Prf→Nat
 | .mk _ _ _ _ s=>Prf.sizes s+1
def Prf.sizes:List Prf→Nat
 |[]=>0
 |f::fs=>f.size+Prf.sizes fs
end
theorem Prf.size_mem:∀{l:List Prf} {f:Prf},f∈l→f.size≤Prf.sizes l
 |g::l,f,h=>by
  rw[Prf.sizes]
  rcases List.mem_cons.1 h with rfl|h
  ·omega
  ·have:=Prf.size_mem h;omega
theorem Prf.size_sub {f g:Prf}(h:g∈f.subs):g.size<f.size:=by
 cases f with
 |mk k f o n w=>rw[Prf.size];have:=Prf.size_mem (show g∈w from h);omega
mutual
def zxS:Prf→Int→Int
 | .mk _ _ _ _ s,n=>zoD s (n+1)
def zoD:List Prf→Int→Int
 |[],n=>n
 |x::xs,n=>if 2000<n then n else zoD xs (zxS x n)
end
mutual
theorem zu4:∀(p:Prf) (n:Int),n≤2000→n+1≤zxS p n∧zxS p n≤2001
 | .mk k f o nm s,n,h=>by
  rw[zxS]
  have:=znl s (n+1) (by omega)
  omega
theorem znl:∀(s:List Prf) (n:Int),n≤2001→n≤zoD s n∧zoD s n≤2001
 |[],n,h=>by rw[zoD];omega
 |x::xs,n,h=>by
  rw[zoD]
  split
  ·omega
  ·have h1:=zu4 x n (by omega)
   have h2:=znl xs (zxS x n) h1.2
   omega
end
end Go.Abs
