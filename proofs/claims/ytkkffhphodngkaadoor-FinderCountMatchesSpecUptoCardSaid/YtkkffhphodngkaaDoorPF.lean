import Derived.Test.YtkkffhphodngkaaDoorLW
set_option linter.unusedSimpArgs false
namespace Go.Abs
open Go
inductive Prf where
 |mk (kind form other:Int) (name:Str) (subs:List Prf)
namespace Prf
def kind:Prf→Int|mk k _ _ _ _=>k
def form:Prf→Int|mk _ f _ _ _=>f
def other:Prf→Int|mk _ _ o _ _=>o
def name:Prf→Str|mk _ _ _ n _=>n
def subs:Prf→List Prf|mk _ _ _ _ s=>s
end Prf
@[go_sem] theorem zCa {k f o n s}:(Prf.mk k f o n s).kind=k:=rfl
@[go_sem] theorem zB9 {k f o n s}:(Prf.mk k f o n s).form=f:=rfl
@[go_sem] theorem zAs {k f o n s}:(Prf.mk k f o n s).other=o:=rfl
@[go_sem] theorem zCb {k f o n s}:(Prf.mk k f o n s).name=n:=rfl
@[go_sem] theorem zCc {k f o n s}:(Prf.mk k f o n s).subs=s:=rfl
@[go_sem] theorem zEe {p:Prf}:Prf.mk p.kind p.form p.other p.name p.subs=p:=by cases p;rfl
mutual
def zxX:Prf→FD
 | .mk k f o n s=> .agg [.i .i64 k,.i .i64 f,.i .i64 o,.s n.l,.sl (zpO s)]
def zpO:List Prf→List FD
 |[]=>[]
 |f::fs=>zxX f::zpO fs
end
mutual
def ziO:FD→Prf
 | .agg [.i _ k,.i _ f,.i _ o,.s n,.sl s]=> .mk k f o ⟨n⟩ (zpG s)
 |_=> .mk 0 0 0 ⟨[]⟩ []
def zpG:List FD→List Prf
 |[]=>[]
 |x::xs=>ziO x::zpG xs
end
mutual
theorem zlh:∀f,ziO (zxX f)=f
 | .mk k f o n s=>by simp only[zxX,ziO,zhY s]
theorem zhY:∀s,zpG (zpO s)=s
 |[]=>rfl
 |f::fs=>by simp only[zpO,zpG,zlh f,zhY fs]
end
instance:Enc Prf:=⟨zxX,ziO,zlh⟩
theorem zlp:∀s:List Prf,zpO s=s.map enc
 |[]=>rfl
 |f::fs=>by rw[zpO,zlp fs];rfl
theorem zli:∀s:List FD,zpG s=dec (α:=List Prf) (.sl s)
 |[]=>rfl
 |f::fs=>by rw[zpG,zli fs];rfl
@[go_sem] theorem zrH {p:Prf}:enc p= .agg [.i .i64 p.kind,.i .i64 p.form,.i .i64 p.other,.s p.name.l,.sl (p.subs.map enc)]:=by
 cases p with
 |mk k f o n s=>show zxX _=_;rw[zxX,zlp];rfl
@[go_sem] theorem zCE {i j h k f o n s}:dec (α:=Prf) (.agg [.i i k,.i j f,.i h o,.s n,.sl s])= .mk k f o ⟨n⟩ (dec (.sl s)):=by
 show ziO _=_;rw[ziO,zli]
instance:Kc Prf 5:=⟨fun f=>by rw[zrH];rfl⟩
@[go_sem] theorem zAb {l:List Prf}:zbs (l.map enc) 5=True:=eq_true (zdF l)
@[go_sem] theorem zx2 {l:List Prf}:(zae (l.map enc)).all zcx=true:=by
 rw[List.all_eq_true]
 intro d hd
 simp only[zae,List.mem_flatMap,List.mem_map]at hd
 obtain⟨_,⟨a,_,rfl⟩,x,hx,rfl⟩:=hd
 simp only[zrH,FD.cells,List.mem_cons,List.not_mem_nil,or_false]at hx
 rcases hx with rfl|rfl|rfl|rfl|rfl<;>rfl
mutual
def Prf.size:Prf→Nat
 | .mk _ _ _ _ s=>Prf.sizes s+1
def Prf.sizes:List Prf→Nat
 |[]=>0
 |f::fs=>f.size+Prf.sizes fs
end
theorem Prf.size_mem:∀{l:List Prf} {f:Prf},f∈l→f.size≤Prf.sizes l
 |g::l,f,h=>by
  rw[Prf.sizes]
  rcases List.mem_cons.1 h with rfl|h
  ·omega
  ·have:=Prf.size_mem h;omega
theorem Prf.size_sub {f g:Prf}(h:g∈f.subs):g.size<f.size:=by
 cases f with
 |mk k f o n w=>rw[Prf.size];have:=Prf.size_mem (show g∈w from h);omega
mutual
def zy3:Prf→Int→Int
 | .mk _ _ _ _ s,n=>zpx s (n+1)
def zpx:List Prf→Int→Int
 |[],n=>n
 |x::xs,n=>if 2000<n then n else zpx xs (zy3 x n)
end
mutual
theorem zwi:∀(p:Prf) (n:Int),n≤2000→n+1≤zy3 p n∧zy3 p n≤2001
 | .mk k f o nm s,n,h=>by
  rw[zy3]
  have:=zof s (n+1) (by omega)
  omega
theorem zof:∀(s:List Prf) (n:Int),n≤2001→n≤zpx s n∧zpx s n≤2001
 |[],n,h=>by rw[zpx];omega
 |x::xs,n,h=>by
  rw[zpx]
  split
  ·omega
  ·have h1:=zwi x n (by omega)
   have h2:=zof xs (zy3 x n) h1.2
   omega
end
end Go.Abs
