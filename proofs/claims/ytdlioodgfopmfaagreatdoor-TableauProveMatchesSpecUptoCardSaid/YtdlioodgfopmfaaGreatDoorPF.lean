import Derived.Test.YtdlioodgfopmfaaGreatDoorLW
set_option linter.unusedSimpArgs false
namespace Go.Abs
open Go
inductive Prf where
 |mk (kind form other:Int) (name:Str) (subs:List Prf)
namespace Prf
def kind:Prf→Int|mk k _ _ _ _=>k
def form:Prf→Int|mk _ f _ _ _=>f
def other:Prf→Int|mk _ _ o _ _=>o
def name:Prf→Str|mk _ _ _ n _=>n
def subs:Prf→List Prf|mk _ _ _ _ s=>s
end Prf
@[go_sem] theorem zfv {k f o n s}:(Prf.mk k f o n s).kind=k:=rfl
@[go_sem] theorem zfu {k f o n s}:(Prf.mk k f o n s).form=f:=rfl
@[go_sem] theorem zeg {k f o n s}:(Prf.mk k f o n s).other=o:=rfl
@[go_sem] theorem zpu {k f o n s}:(Prf.mk k f o n s).name=n:=rfl
@[go_sem] theorem zfw {k f o n s}:(Prf.mk k f o n s).subs=s:=rfl
@[go_sem] theorem zam {p:Prf}:Prf.mk p.kind p.form p.other p.name p.subs=p:=by cases p;rfl
mutual
def zzG:Prf→FD
 | .mk k f o n s=> .agg [.i .i64 k,.i .i64 f,.i .i64 o,.s n.l,.sl (zqv s)]
def zqv:List Prf→List FD
 |[]=>[]
 |f::fs=>zzG f::zqv fs
end
mutual
def zzB:FD→Prf
 | .agg [.i _ k,.i _ f,.i _ o,.s n,.sl s]=> .mk k f o ⟨n⟩ (zqn s)
 |_=> .mk 0 0 0 ⟨[]⟩ []
def zqn:List FD→List Prf
 |[]=>[]
 |x::xs=>zzB x::zqn xs
end
mutual
theorem zl8:∀f,zzB (zzG f)=f
 | .mk k f o n s=>by simp only[zzG,zzB,zix s]
theorem zix:∀s,zqn (zqv s)=s
 |[]=>rfl
 |f::fs=>by simp only[zqv,zqn,zl8 f,zix fs]
end
instance:Enc Prf:=⟨zzG,zzB,zl8⟩
theorem zmf:∀s:List Prf,zqv s=s.map enc
 |[]=>rfl
 |f::fs=>by rw[zqv,zmf fs];rfl
theorem zl9:∀s:List FD,zqn s=dec (α:=List Prf) (.sl s)
 |[]=>rfl
 |f::fs=>by rw[zqn,zl9 fs];rfl
@[go_sem] theorem zaU {p:Prf}:enc p= .agg [.i .i64 p.kind,.i .i64 p.form,.i .i64 p.other,.s p.name.l,.sl (p.subs.map enc)]:=by
 cases p with
 |mk k f o n s=>show zzG _=_;rw[zzG,zmf];rfl
@[go_sem] theorem zEh {i j h k f o n s}:dec (α:=Prf) (.agg [.i i k,.i j f,.i h o,.s n,.sl s])= .mk k f o ⟨n⟩ (dec (.sl s)):=by
 show zzB _=_;rw[zzB,zl9]
instance:Kc Prf 5:=⟨fun f=>by rw[zaU];rfl⟩
@[go_sem] theorem zBM {l:List Prf}:zbC (l.map enc) 5=True:=eq_true (zdW l)
@[go_sem] theorem zzL {l:List Prf}:(zaf (l.map enc)).all zcL=true:=by
 rw[List.all_eq_true]
 intro d hd
 simp only[zaf,List.mem_flatMap,List.mem_map]at hd
 obtain⟨_,⟨a,_,rfl⟩,x,hx,rfl⟩:=hd
 simp only[zaU,FD.cells,List.mem_cons,List.not_mem_nil,or_false]at hx
 rcases hx with rfl|rfl|rfl|rfl|rfl<;>rfl
mutual
def Prf.size:Prf→Nat
 | .mk _ _ _ _ s=>Prf.sizes s+1
def Prf.sizes:List Prf→Nat
 |[]=>0
 |f::fs=>f.size+Prf.sizes fs
end
theorem Prf.size_mem:∀{l:List Prf} {f:Prf},f∈l→f.size≤Prf.sizes l
 |g::l,f,h=>by
  rw[Prf.sizes]
  rcases List.mem_cons.1 h with rfl|h
  ·omega
  ·have:=Prf.size_mem h;omega
theorem Prf.size_sub {f g:Prf}(h:g∈f.subs):g.size<f.size:=by
 cases f with
 |mk k f o n w=>rw[Prf.size];have:=Prf.size_mem (show g∈w from h);omega
mutual
def zvo:Prf→Int→Int
 | .mk _ _ _ _ s,n=>zjk s (n+1)
def zjk:List Prf→Int→Int
 |[],n=>n
 |x::xs,n=>if 2000<n then n else zjk xs (zvo x n)
end
mutual
theorem zya:∀(p:Prf) (n:Int),n≤2000→n+1≤zvo p n∧zvo p n≤2001
 | .mk k f o nm s,n,h=>by
  rw[zvo]
  have:=zo3 s (n+1) (by omega)
  omega
theorem zo3:∀(s:List Prf) (n:Int),n≤2001→n≤zjk s n∧zjk s n≤2001
 |[],n,h=>by rw[zjk];omega
 |x::xs,n,h=>by
  rw[zjk]
  split
  ·omega
  ·have h1:=zya x n (by omega)
   have h2:=zo3 xs (zvo x n) h1.2
   omega
end
end Go.Abs
