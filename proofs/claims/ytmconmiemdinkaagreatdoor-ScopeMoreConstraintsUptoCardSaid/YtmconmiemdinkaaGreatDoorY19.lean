/- several texts of this proof in one; no conditions -/
import Derived.Test.YtmconmiemdinkaaGreatDoorY15
import Derived.Test.YtmconmiemdinkaaGreatDoorY18
import Derived.Test.YtmconmiemdinkaaGreatDoorY17
set_option linter.unusedSimpArgs false
namespace Go.Abs
open Go
theorem zjw (m:zdh)(ev:List zcK)(nm:Str)(v:Int)(w:Str):zf5 m (ev++[(⟨nm,v⟩:zcK)]) w=if nm=w then v else zf5 m ev w:=by
 unfold zf5
 rw[zqp]
 show(match(if nm=w then some v else zfg ev w)with|some v=>v|none=>zwf m w)=_
 by_cases h:nm=w
 ·rw[if_pos h,if_pos h]
 ·rw[if_neg h,if_neg h];rfl
mutual
theorem zyc (m:zdh){used U:List Str}:∀(f:zab) (env:List za8) (bd:List Str) (n:Nat) (ev ev':List zcK),vok f→
  (∀w,w∈bd∨w∈U→zf5 m ev w=zf5 m ev' (lkp env w)∧(lkp env w∈used∨∃j,j<n∧lkp env w=zeW j))→(∀x∈cst f bd,x∈U)→zyA m (ren (vg used) f env n).1 ev'=zyA m f ev
 | .mk k nm ws s,env,bd,n,ev,ev',hv,he,hc=>by
  rw[vok]at hv
  rw[cst]at hc
  have hw1:∀w∈ws,zf5 m ev w=zf5 m ev' (lkp env w):=fun w hw=>by
   refine(he w ?_).1
   by_cases hb:w∈bd
   ·exact .inl hb
   ·exact .inr (hc w (List.mem_append_left _ (List.mem_filter.2 ⟨hw,by simpa using hb⟩)))
  have hw:(ws.map (lkp env)).map (zf5 m ev')=ws.map (zf5 m ev):=by
   rw[List.map_map]
   exact List.map_congr_left fun w hw=>(hw1 w hw).symm
  have hl:(ws.map (lkp env)).length=ws.length:=List.length_map _
  by_cases hq:isQ k
  ·have hs:∀v:Int,zec m (za5 (vg used) s (env++[(⟨nm,(vg used n).1⟩:za8)]) (vg used n).2).1 (ev'++[(⟨(vg used n).1,v⟩:zcK)])=zec m s (ev++[(⟨nm,v⟩:zcK)]):=fun v=>by
    obtain⟨a1,_,a3,_⟩:=zba used n
    rw[if_pos hq]at hc
    refine zkC m s _ (bd++[nm]) _ _ _ hv.2.2.2.2.2.2 (fun w hw2=>?_) fun x hx=>hc x (List.mem_append_right _ hx)
    rw[zcj,zjw,zjw]
    have hvg:(vg used n).1=zeW (zb8 used n):=rfl
    have hvg2:(vg used n).2=zb8 used n+1:=rfl
    by_cases e:nm=w
    ·rw[if_pos e,if_pos e]
     exact⟨(if_pos rfl).symm,.inr ⟨zb8 used n,by omega,hvg⟩⟩
    ·rw[if_neg e,if_neg e]
     have hw3:w∈bd∨w∈U:=by
      rcases hw2 with h|h
      ·rcases List.mem_append.1 h with h|h
       ·exact .inl h
       ·exact absurd (List.mem_singleton.1 h).symm e
      ·exact .inr h
     obtain⟨h1,h2⟩:=he w hw3
     refine⟨?_,?_⟩
     ·rw[if_neg (fun h=>?_)]
      ·exact h1
      ·rw[hvg]at h
       rcases h2 with h2|⟨j,hj,h2⟩
       ·exact a3 (by rw[h];exact h2)
       ·have:=zkX (h.trans h2);omega
     ·rcases h2 with h2|⟨j,hj,h2⟩
      ·exact .inl h2
      ·exact .inr ⟨j,by omega,h2⟩
   rw[ren,if_pos hq]
   rw[zyA,zyA]
   rcases hq with rfl|rfl<;>simp only[hs,reduceIte,show¬((8:Int)=1) by decide,show¬((8:Int)=2) by decide,show¬((8:Int)=3) by decide,show¬((8:Int)=4) by decide,show¬((8:Int)=5) by decide,show¬((8:Int)=6) by decide,show¬((8:Int)=7) by decide,
    show¬((9:Int)=1) by decide,show¬((9:Int)=2) by decide,show¬((9:Int)=3) by decide,show¬((9:Int)=4) by decide,show¬((9:Int)=5) by decide,show¬((9:Int)=6) by decide,show¬((9:Int)=7) by decide,show¬((9:Int)=8) by decide,if_false,if_true]
  ·rw[if_neg hq]at hc
   have hs:=zkC m s env bd n ev ev' hv.2.2.2.2.2.2 he fun x hx=>hc x (List.mem_append_right _ hx)
   have h8:¬k=8:=fun e=>hq (.inl e)
   have h9:¬k=9:=fun e=>hq (.inr e)
   rw[ren,if_neg hq]
   rw[zyA,zyA]
   simp only[hs,h8,h9,if_false,hw,hl]
   by_cases h3:k=3
   ·have h2:=hv.2.2.2.1 h3
    obtain⟨a,b,rfl⟩:∃a b,ws=[a,b]:=by
     match ws,h2 with
     |[a,b],_=>exact⟨a,b,rfl⟩
    subst h3
    have e0:=hw1 a (by simp)
    have e1:=hw1 b (by simp)
    simp only[List.map_cons,List.map_nil,List.getD_cons_zero,List.getD_cons_succ]
    rw[e0,e1]
   ·simp only[h3,if_false]
theorem zkC (m:zdh){used U:List Str}:∀(fs:List zab) (env:List za8) (bd:List Str) (n:Nat) (ev ev':List zcK),zgX fs→
  (∀w,w∈bd∨w∈U→zf5 m ev w=zf5 m ev' (lkp env w)∧(lkp env w∈used∨∃j,j<n∧lkp env w=zeW j))→(∀x∈zbR fs bd,x∈U)→zec m (za5 (vg used) fs env n).1 ev'=zec m fs ev
 |[],env,bd,n,ev,ev',hv,he,hc=>by rw[za5,zec,zec]
 |f::fs,env,bd,n,ev,ev',hv,he,hc=>by
  rw[zgX]at hv
  rw[zbR]at hc
  rw[za5]
  simp only
  rw[zec,zec,zyc m f env bd n ev ev' hv.1 he fun x hx=>hc x (List.mem_append_left _ hx),
   zkC m fs env bd _ ev ev' hv.2 (fun w hw=>?_) fun x hx=>hc x (List.mem_append_right _ hx)]
  obtain⟨h1,h2⟩:=he w hw
  refine⟨h1,?_⟩
  rcases h2 with h2|⟨j,hj,h2⟩
  ·exact .inl h2
  ·have:=((zmu (zqX used)).1 f env n).1
   exact .inr ⟨j,by omega,h2⟩
end
mutual
theorem zue:∀(f f':zab) (E:PE),Aeq E f f'→zmd f=zmd f'
 | .mk k nm ws s,.mk k' nm' ws' s',E,h=>by
  rw[Aeq]at h
  obtain⟨rfl,_,_,h4⟩:=h
  rw[zmd,zmd,zk8 s s' _ h4]
theorem zk8:∀(f f':List zab) (E:PE),zcg E f f'→zfV f=zfV f'
 |[],[],_,_=>rfl
 |f::fs,f'::fs',E,h=>by
  rw[zcg]at h
  rw[zfV,zfV,zue f f' E h.1,zk8 fs fs' E h.2]
 |[],_::_,_,h=>by rw[zcg]at h;exact h.elim
 |_::_,[],_,h=>by rw[zcg]at h;exact h.elim
end
mutual
theorem zud (m:zdh):∀(f f':zab) (E:PE),Aeq E f f'→zAn m f=zAn m f'
 | .mk k nm ws s,.mk k' nm' ws' s',E,h=>by
  rw[Aeq]at h
  obtain⟨rfl,h2,h3,h4⟩:=h
  rw[zAn,zAn,zk7 m s s' _ h4,zga h3]
  by_cases hk:k=2
  ·rw[h2 (by rw[hk];decide)]
  ·simp[hk]
theorem zk7 (m:zdh):∀(f f':List zab) (E:PE),zcg E f f'→zqk m f=zqk m f'
 |[],[],_,_=>rfl
 |f::fs,f'::fs',E,h=>by
  rw[zcg]at h
  rw[zqk,zqk,zud m f f' E h.1,zk7 m fs fs' E h.2]
 |[],_::_,_,h=>by rw[zcg]at h;exact h.elim
 |_::_,[],_,h=>by rw[zcg]at h;exact h.elim
end
theorem zrH (f:zab):cst (zat f []) []=cst f []:=(zm8 f _ [] [] [] (zlc f) fun w w' hw=>⟨by simp,fun _=>hw⟩).symm
end Go.Abs
namespace Go.Abs
open Go
def cnn (f:zab):zab:=zat f []
def ngg (f:zab):zab:=zat (zsT f) []
def ze6 (f:zab):zab:=f.subs.getD 0 (.mk 0 ⟨[]⟩ [] [])
def zzD (f:zab):zab:=f.subs.getD 1 (.mk 0 ⟨[]⟩ [] [])
def zeA (f:zab):Int×List zab×zab×Bool:=
 if f.kind=5 then(1,[cnn (ze6 f),cnn (zzD f)],zfq,false)
 else if f.kind=6 then(2,[cnn (ze6 f),cnn (zzD f)],zfq,false)
 else if f.kind=7 then(2,[ngg (ze6 f),cnn (zzD f)],zfq,false)
 else if f.kind=8 then(3,[],f,false)
 else if f.kind=9 then(4,[],f,false)
 else if f.kind=4 then
  if(ze6 f).kind=4 then(1,[cnn (ze6 (ze6 f))],zfq,false)
  else if(ze6 f).kind=5 then(2,[ngg (ze6 (ze6 f)),ngg (zzD (ze6 f))],zfq,false)
  else if(ze6 f).kind=6 then(1,[ngg (ze6 (ze6 f)),ngg (zzD (ze6 f))],zfq,false)
  else if(ze6 f).kind=7 then(1,[cnn (ze6 (ze6 f)),ngg (zzD (ze6 f))],zfq,false)
  else if(ze6 f).kind=8 then(4,[],ze6 f,true)
  else if(ze6 f).kind=9 then(3,[],ze6 f,true)
  else(0,[],zfq,false)
 else(0,[],zfq,false)
structure brF (f:zab):Prop where
 v:vok f
 ft:f.fit=true
 s:f.size≤800
theorem brF.sub {f g:zab}(h:brF f)(hg:g∈f.subs):brF g:=by
 have hv:=h.v
 obtain⟨k,nm,ws,s⟩:=f
 rw[vok]at hv
 have hf:=h.ft
 rw[zab.fit]at hf
 simp only[Bool.and_eq_true]at hf
 exact⟨(zkY s).1 hv.2.2.2.2.2.2 g hg,zab.fits_mem hf.2 hg,by have:=zab.size_sub hg;have:=h.s;omega⟩
def zmz (c:List za8)(w:Str):Str:=c.foldl (fun r l=>if r=l.fr then l.to else r) w
structure wfC (c:List za8):Prop where
 d:∀i j (hi:i<c.length) (hj:j<c.length),j<i→c[j].fr≠c[i].fr
 t:∀i j (hi:i<c.length) (hj:j<c.length),j≤i→c[j].fr≠c[i].to
def zIG (c:List za8)(f:zab):List za8:=
 if f.kind≠3 then c
 else if zmz c (f.words.getD 0 ⟨[]⟩)=zmz c (f.words.getD 1 ⟨[]⟩)then c
 else c++[⟨zmz c (f.words.getD 0 ⟨[]⟩),zmz c (f.words.getD 1 ⟨[]⟩)⟩]
def zFu (l:List zab):List za8:=l.foldl zIG []
def zDt (c:List za8)(f g:zab):Bool:=decide (f.kind=2)&&decide (g.kind=2)&&decide (f.name=g.name)&&decide (f.words.map (zmz c)=g.words.map (zmz c))
def zHE (c:List za8)(f:zab):Bool:=decide (f.kind=4)&&(decide ((ze6 f).kind=1)||decide ((ze6 f).kind=3)&&decide (zmz c ((ze6 f).words.getD 0 ⟨[]⟩)=zmz c ((ze6 f).words.getD 1 ⟨[]⟩)))
end Go.Abs
namespace Go.Abs
open Go
mutual
theorem zs7 (g:Nat→Str×Nat):∀(f:zab) (env:List za8) (n:Nat),vok f→vok (ren g f env n).1
 | .mk k nm ws s,env,n,h=>by
  rw[vok]at h
  rw[ren]
  split
  ·rw[vok,List.length_map,zcB]
   exact⟨h.1,h.2.1,h.2.2.1,h.2.2.2.1,h.2.2.2.2.1,h.2.2.2.2.2.1,zkD g s _ _ h.2.2.2.2.2.2⟩
  ·rw[vok,List.length_map,zcB]
   exact⟨h.1,h.2.1,h.2.2.1,h.2.2.2.1,h.2.2.2.2.1,h.2.2.2.2.2.1,zkD g s _ _ h.2.2.2.2.2.2⟩
theorem zkD (g:Nat→Str×Nat):∀(fs:List zab) (env:List za8) (n:Nat),zgX fs→zgX (za5 g fs env n).1
 |[],env,n,_=>by rw[za5,zgX];trivial
 |f::fs,env,n,h=>by
  rw[zgX]at h
  rw[za5,zgX]
  exact⟨zs7 g f env n h.1,zkD g fs env _ h.2⟩
end
theorem zld {f:zab}{env:List za8}(h:vok f):vok (zat f env):=zs7 _ f env 0 h
end Go.Abs
namespace Go.Abs
open Go
inductive Prf where
 |mk (kind form other:Int) (name:Str) (subs:List Prf)
namespace Prf
def kind:Prf→Int|mk k _ _ _ _=>k
def form:Prf→Int|mk _ f _ _ _=>f
def other:Prf→Int|mk _ _ o _ _=>o
def name:Prf→Str|mk _ _ _ n _=>n
def subs:Prf→List Prf|mk _ _ _ _ s=>s
end Prf
@[go_sem] theorem zC6 {k f o n s}:(Prf.mk k f o n s).kind=k:=rfl
@[go_sem] theorem zC5 {k f o n s}:(Prf.mk k f o n s).form=f:=rfl
@[go_sem] theorem zBo {k f o n s}:(Prf.mk k f o n s).other=o:=rfl
@[go_sem] theorem zC7 {k f o n s}:(Prf.mk k f o n s).name=n:=rfl
@[go_sem] theorem zC8 {k f o n s}:(Prf.mk k f o n s).subs=s:=rfl
@[go_sem] theorem zE8 {p:Prf}:Prf.mk p.kind p.form p.other p.name p.subs=p:=by cases p;rfl
mutual
def zyU:Prf→FD
 | .mk k f o n s=> .agg [.i .i64 k,.i .i64 f,.i .i64 o,.s n.l,.sl (zpX s)]
def zpX:List Prf→List FD
 |[]=>[]
 |f::fs=>zyU f::zpX fs
end
mutual
def zyN:FD→Prf
 | .agg [.i _ k,.i _ f,.i _ o,.s n,.sl s]=> .mk k f o ⟨n⟩ (zpO s)
 |_=> .mk 0 0 0 ⟨[]⟩ []
def zpO:List FD→List Prf
 |[]=>[]
 |x::xs=>zyN x::zpO xs
end
mutual
theorem zlx:∀f,zyN (zyU f)=f
 | .mk k f o n s=>by simp only[zyU,zyN,zhL s]
theorem zhL:∀s,zpO (zpX s)=s
 |[]=>rfl
 |f::fs=>by simp only[zpX,zpO,zlx f,zhL fs]
end
instance:Enc Prf:=⟨zyU,zyN,zlx⟩
theorem zlE:∀s:List Prf,zpX s=s.map enc
 |[]=>rfl
 |f::fs=>by rw[zpX,zlE fs];rfl
theorem zly:∀s:List FD,zpO s=dec (α:=List Prf) (.sl s)
 |[]=>rfl
 |f::fs=>by rw[zpO,zly fs];rfl
@[go_sem] theorem zr7 {p:Prf}:enc p= .agg [.i .i64 p.kind,.i .i64 p.form,.i .i64 p.other,.s p.name.l,.sl (p.subs.map enc)]:=by
 cases p with
 |mk k f o n s=>show zyU _=_;rw[zyU,zlE];rfl
@[go_sem] theorem zDC {i j h k f o n s}:dec (α:=Prf) (.agg [.i i k,.i j f,.i h o,.s n,.sl s])= .mk k f o ⟨n⟩ (dec (.sl s)):=by
 show zyN _=_;rw[zyN,zly]
instance:Kc Prf 5:=⟨fun f=>by rw[zr7];rfl⟩
@[go_sem] theorem zBa {l:List Prf}:zbB (l.map enc) 5=True:=eq_true (zdt l)
@[go_sem] theorem zyZ {l:List Prf}:(zaf (l.map enc)).all zcf=true:=by
 rw[List.all_eq_true]
 intro d hd
 simp only[zaf,List.mem_flatMap,List.mem_map]at hd
 obtain⟨_,⟨a,_,rfl⟩,x,hx,rfl⟩:=hd
 simp only[zr7,FD.cells,List.mem_cons,List.not_mem_nil,or_false]at hx
 rcases hx with rfl|rfl|rfl|rfl|rfl<;>rfl
mutual
def Prf.size:Prf→Nat
 | .mk _ _ _ _ s=>Prf.sizes s+1
def Prf.sizes:List Prf→Nat
 |[]=>0
 |f::fs=>f.size+Prf.sizes fs
end
theorem Prf.size_mem:∀{l:List Prf} {f:Prf},f∈l→f.size≤Prf.sizes l
 |g::l,f,h=>by
  rw[Prf.sizes]
  rcases List.mem_cons.1 h with rfl|h
  ·omega
  ·have:=Prf.size_mem h;omega
theorem Prf.size_sub {f g:Prf}(h:g∈f.subs):g.size<f.size:=by
 cases f with
 |mk k f o n w=>rw[Prf.size];have:=Prf.size_mem (show g∈w from h);omega
mutual
def zzY:Prf→Int→Int
 | .mk _ _ _ _ s,n=>zpG s (n+1)
def zpG:List Prf→Int→Int
 |[],n=>n
 |x::xs,n=>if 2000<n then n else zpG xs (zzY x n)
end
mutual
theorem zw4:∀(p:Prf) (n:Int),n≤2000→n+1≤zzY p n∧zzY p n≤2001
 | .mk k f o nm s,n,h=>by
  rw[zzY]
  have:=zov s (n+1) (by omega)
  omega
theorem zov:∀(s:List Prf) (n:Int),n≤2001→n≤zpG s n∧zpG s n≤2001
 |[],n,h=>by rw[zpG];omega
 |x::xs,n,h=>by
  rw[zpG]
  split
  ·omega
  ·have h1:=zw4 x n (by omega)
   have h2:=zov xs (zzY x n) h1.2
   omega
end
end Go.Abs
namespace Go.Abs
open Go
def zzR (f:zab)(name:Str):zab:=zat (ze6 f) [⟨f.name,name⟩]
def zAp (q:zab)(turned:Bool)(name:Str):zab:=if turned then ngg (zzR q name)else zzR q name
def zIK (l:List zab)(name:Str):Bool:=l.any fun f=>decide (name∈zbX f)
def zBD (f:zab)(nm:Str):Str:=if f.words.getD 0 ⟨[]⟩=nm then f.words.getD 1 ⟨[]⟩else f.words.getD 0 ⟨[]⟩
def inL (l:List zab)(i:Int):Bool:=decide (0≤i)&&decide (i<l.length)
def atL (l:List zab)(i:Int):zab:=l.getD i.toNat zfq
def zzX (l:List zab)(f g:zab):Bool:=decide (ngg f=g)||decide (g.kind=4)&&zDt (zFu l) f (ze6 g)
def zHC (k fo ot:Int)(nm:Str)(cs:List (List zab→Bool))(l:List zab):Bool:=
 if inL l fo=false then false
 else if k=1 then decide (cs.length=0)&&inL l ot&&(if ot=fo then zHE (zFu l) (atL l fo)else zzX l (atL l fo) (atL l ot))
 else if k=2 then decide ((zeA (atL l fo)).1=1)&&decide (cs.length=1)&&cs.getD 0 (fun _=>false) (l++(zeA (atL l fo)).2.1)
 else if k=3 then decide ((zeA (atL l fo)).1=2)&&decide (cs.length=2)&&cs.getD 0 (fun _=>false) (l++[(zeA (atL l fo)).2.1.getD 0 zfq])&&cs.getD 1 (fun _=>false) (l++[(zeA (atL l fo)).2.1.getD 1 zfq])
 else if k=4 then decide ((zeA (atL l fo)).1=3)&&zaq nm&&decide (cs.length=1)&&cs.getD 0 (fun _=>false) (l++[zAp (zeA (atL l fo)).2.2.1 (zeA (atL l fo)).2.2.2 nm])
 else if k=5 then decide ((zeA (atL l fo)).1=4)&&zaq nm&& !zIK l nm&&decide (cs.length=1)&&cs.getD 0 (fun _=>false) (l++[zAp (zeA (atL l fo)).2.2.1 (zeA (atL l fo)).2.2.2 nm])
 else if k=6 then decide ((atL l fo).kind=3)&&inL l ot&&decide (cs.length=1)&&decide (nm∈(atL l fo).words)&&cs.getD 0 (fun _=>false) (l++[zat (atL l ot) [⟨nm,zBD (atL l fo) nm⟩]])
 else false
mutual
def zHB:Prf→List zab→Bool
 | .mk k fo ot nm s,l=>zHC k fo ot nm (zzW s) l
def zzW:List Prf→List (List zab→Bool)
 |[]=>[]
 |p::ps=>zHB p::zzW ps
end
theorem brF.cn {f:zab}(h:brF f){env:List za8}:brF (zat f env):=⟨zld h.v,by rw[zgc];exact h.ft,by rw[zc4];exact h.s⟩
theorem brF.ng {f:zab}(h:brF f)(hs:f.size+1≤800):brF (ngg f):=by
 unfold ngg
 refine⟨zld ?_,?_,?_⟩
 ·unfold zsT
  rw[vok,zgX,zgX]
  exact⟨by decide,by decide,fun e=>absurd e (by decide),fun e=>absurd e (by decide),fun _=>rfl,fun e=>by omega,h.v,trivial⟩
 ·rw[zgc];simp[zsT,zab.fit,zab.fits,h.ft]
 ·rw[zc4];simp only[zsT,zab.size,zab.sizes];omega
theorem zvy {f a:zab}(h:f.subs=[a]):f.size=a.size+1:=by
 cases f with
 |mk k nm ws s=>rw[zaR]at h;subst h;rw[zab.size,zab.sizes,zab.sizes]
theorem zo4 {f a b:zab}(h:f.subs=[a,b]):f.size=a.size+b.size+1:=by
 cases f with
 |mk k nm ws s=>rw[zaR]at h;subst h;rw[zab.size,zab.sizes,zab.sizes,zab.sizes];rfl
end Go.Abs
namespace Go.Abs
open Go
def jn (sep:List UInt8):List Str→List UInt8
 |[]=>[]
 |w::ws=>w.l++ws.flatMap fun v=>sep++v.l
def txN (k:Int)(nm:Str)(ws:List Str)(ts:List (List UInt8)):List UInt8:=
 if k=1 then[116,114,117,101]
 else if k=2 then nm.l++[40]++jn [44] ws++[41]
 else if k=3 then nm.l++[40]++jn [32,61,32] ws++[41]
 else if k=4 then 45::ts.getD 0 []
 else if k=8 then[97,108,108,32]++nm.l++[32]++ts.getD 0 []
 else if k=9 then[115,111,109,101,32]++nm.l++[32]++ts.getD 0 []
 else[40]++ts.getD 0 []++(if k=5 then[32,38,32]else if k=6 then[32,124,32]else[32,62,32])++ts.getD 1 []++[41]
mutual
def txt:zab→List UInt8
 | .mk k nm ws s=>txN k nm ws (ztC s)
def ztC:List zab→List (List UInt8)
 |[]=>[]
 |f::fs=>txt f::ztC fs
end
theorem zBK {f:zab}(h:f.kind=1):txt f=[116,114,117,101]:=by
 obtain⟨k,nm,ws,s⟩:=f
 rw[zae]at h;subst h;rw[txt];rfl
theorem zyt {f:zab}(h:f.kind=2):txt f=f.name.l++[40]++jn [44] f.words++[41]:=by
 obtain⟨k,nm,ws,s⟩:=f
 rw[zae]at h;subst h;rw[txt];rfl
theorem zyu {f:zab}(h:f.kind=3):txt f=f.name.l++[40]++jn [32,61,32] f.words++[41]:=by
 obtain⟨k,nm,ws,s⟩:=f
 rw[zae]at h;subst h;rw[txt];rfl
theorem zvP {f a:zab}(h:f.kind=4)(hs:f.subs=[a]):txt f=45::txt a:=by
 obtain⟨k,nm,ws,s⟩:=f
 rw[zae]at h;subst h
 rw[zaR]at hs;subst hs;rw[txt,ztC,ztC];rfl
theorem zvQ {f a:zab}(h:f.kind=8)(hs:f.subs=[a]):txt f=[97,108,108,32]++f.name.l++[32]++txt a:=by
 obtain⟨k,nm,ws,s⟩:=f
 rw[zae]at h;subst h
 rw[zaR]at hs;subst hs;rw[txt,ztC,ztC];rfl
theorem zvR {f a:zab}(h:f.kind=9)(hs:f.subs=[a]):txt f=[115,111,109,101,32]++f.name.l++[32]++txt a:=by
 obtain⟨k,nm,ws,s⟩:=f
 rw[zae]at h;subst h
 rw[zaR]at hs;subst hs;rw[txt,ztC,ztC];rfl
def sgn (k:Int):List UInt8:=if k=5 then[32,38,32]else if k=6 then[32,124,32]else[32,62,32]
theorem zqW {f a b:zab}(h:f.kind=5∨f.kind=6∨f.kind=7)(hs:f.subs=[a,b]):txt f=[40]++txt a++sgn f.kind++txt b++[41]:=by
 obtain⟨k,nm,ws,s⟩:=f
 rw[zae]at h
 rw[zaR]at hs;subst hs;rw[txt,ztC,ztC,ztC]
 unfold txN
 rw[if_neg (by omega),if_neg (by omega),if_neg (by omega),if_neg (by omega),if_neg (by omega),if_neg (by omega)]
 rfl
def txS (f:zab):Str:=⟨txt f⟩
structure txP (f:zab):Prop where
 v:vok f
 ft:f.fit=true
 l:(txt f).length≤1000000000
theorem txP.sub {f g:zab}(h:txP f)(hg:g∈f.subs)(hl:(txt g).length≤(txt f).length):txP g:=by
 have hv:=h.v
 obtain⟨k,nm,ws,s⟩:=f
 rw[vok]at hv
 have hf:=h.ft
 rw[zab.fit]at hf
 simp only[Bool.and_eq_true]at hf
 exact⟨(zkY s).1 hv.2.2.2.2.2.2 g hg,zab.fits_mem hf.2 hg,Nat.le_trans hl h.l⟩
theorem ztA {f:zab}(h:txP f)(hk:f.kind=4∨f.kind=8∨f.kind=9):∃a,f.subs=[a]∧txP a∧a.size<f.size:=by
 have h1:=(zpl.1 h.v).2.2.2.2.1 hk
 match hs:f.subs,h1 with
 |[a],_=>
  refine⟨a,rfl,h.sub (by rw[hs];simp) ?_,by rw[zvy hs];omega⟩
  rcases hk with hk|hk|hk
  ·rw[zvP hk hs];simp
  ·rw[zvQ hk hs];simp;omega
  ·rw[zvR hk hs];simp;omega
theorem ztB {f:zab}(h:txP f)(hk:f.kind=5∨f.kind=6∨f.kind=7):∃a b,f.subs=[a,b]∧txP a∧txP b∧a.size<f.size∧b.size<f.size∧(txt a).length+(txt b).length+5≤1000000000:=by
 have h1:=(zpl.1 h.v).2.2.2.2.2.1 hk
 match hs:f.subs,h1 with
 |[a,b],_=>
  have ht:=zqW hk hs
  have hg:(sgn f.kind).length=3:=by unfold sgn;split<;>(try split)<;>rfl
  have hl:(txt f).length=(txt a).length+(txt b).length+5:=by rw[ht];simp[hg];omega
  have:=h.l
  refine⟨a,b,rfl,h.sub (by rw[hs];simp) (by omega),h.sub (by rw[hs];simp) (by omega),?_,?_,by omega⟩
  ·rw[zo4 hs];omega
  ·rw[zo4 hs];omega
end Go.Abs
namespace Go.Abs
open Go
structure Brn where
 list:List zab
 used:List Bool
 seen:List (List Str)
 rounds:Int
def zM5 (b:Brn):FD:= .agg [.sl (b.list.map enc),.sl (b.used.map enc),.sl (b.seen.map enc),.i .i64 b.rounds]
def zM4:FD→Brn
 | .agg [l,u,s,.i _ r]=>⟨dec l,dec u,dec s,r⟩
 |_=>⟨[],[],[],0⟩
theorem zMG (b:Brn):zM4 (zM5 b)=b:=by
 have h1:dec (.sl (b.list.map enc))=b.list:=dec_enc b.list
 have h2:dec (.sl (b.used.map enc))=b.used:=dec_enc b.used
 have h3:dec (.sl (b.seen.map enc))=b.seen:=dec_enc b.seen
 unfold zM4 zM5
 simp only[h1,h2,h3]
instance:Enc Brn:=⟨zM5,zM4,zMG⟩
@[go_sem] theorem zNn {b:Brn}:enc b= .agg [.sl (b.list.map enc),.sl (b.used.map enc),.sl (b.seen.map enc),.i .i64 b.rounds]:=rfl
@[go_sem] theorem zNm {l u s:FD}{i:IntKind}{r:Int}:dec (α:=Brn) (.agg [l,u,s,.i i r])=⟨dec l,dec u,dec s,r⟩:=rfl
@[go_sem] theorem zNi {l u s r}:(Brn.mk l u s r).list=l:=rfl
@[go_sem] theorem zNk {l u s r}:(Brn.mk l u s r).used=u:=rfl
@[go_sem] theorem zNj {l u s r}:(Brn.mk l u s r).seen=s:=rfl
@[go_sem] theorem zNa {l u s r}:(Brn.mk l u s r).rounds=r:=rfl
@[go_sem] theorem zNl {b:Brn}:Brn.mk b.list b.used b.seen b.rounds=b:=by cases b;rfl
def zNq (b:Brn)(fs:List zab):Brn:=⟨b.list++fs,b.used++List.replicate fs.length false,b.seen++List.replicate fs.length [],b.rounds⟩
structure Res where
 p:Prf
 ok:Bool
 lim:Bool
 added:Int
def zNc (b:Brn)(i:Nat):Brn:=⟨b.list,b.used.set i true,b.seen,b.rounds⟩
structure GS where
 c:Brn
 steps:List Prf
 added:Int
inductive GR where
 |lim (a:Int)
 |go (s:GS)
def saw (c:Brn)(i:Nat)(w:Str):Brn:=⟨c.list,c.used,c.seen.set i (c.seen.getD i []++[w]),c.rounds⟩
def GR.bind (r:GR)(k:GS→GR):GR:=match r with
 | .lim a=> .lim a
 | .go s=>k s
section
variable {r1 r2:Brn→Int→Res}
end
end Go.Abs
namespace Go.Abs
open Go
def zt0 (l:List Str):Prop:=l.Pairwise fun a b=>a.l<b.l
theorem zeM {a b c:List UInt8}(h1:a<b)(h2:b<c):a<c:=List.lt_trans h1 h2
theorem zek {a:List UInt8}:¬a<a:=List.lt_irrefl a
theorem zlb {a b:List UInt8}(h1:¬a<b)(h2:a≠b):b<a:=by
 have h3:b≤a:=List.not_lt.1 h1
 rcases List.le_iff_lt_or_eq.1 h3 with h|h
 ·exact h
 ·exact absurd h.symm h2
theorem zBB {a b:Str}(h:a≠b):a.l≠b.l:=fun e=>h (by cases a;cases b;exact congrArg Str.mk e)
theorem ztn:∀{a b:List Str},zt0 a→zt0 b→(∀x,x∈a↔x∈b)→a=b
 |[],[],_,_,_=>rfl
 |[],y::b,_,_,h=>absurd ((h y).2 (by simp)) (by simp)
 |x::a,[],_,_,h=>absurd ((h x).1 (by simp)) (by simp)
 |x::a,y::b,ha,hb,h=>by
  have ha':=List.pairwise_cons.1 ha
  have hb':=List.pairwise_cons.1 hb
  have e:x=y:=by
   refine Classical.byContradiction fun hne=>?_
   have h1:x∈b:=by
    rcases List.mem_cons.1 ((h x).1 (by simp))with h1|h1
    ·exact absurd h1 hne
    ·exact h1
   have h2:y∈a:=by
    rcases List.mem_cons.1 ((h y).2 (by simp))with h2|h2
    ·exact absurd h2.symm hne
    ·exact h2
   exact zek (zeM (ha'.1 y h2) (hb'.1 x h1))
  subst e
  rw[ztn ha'.2 hb'.2 fun z=>?_]
  have hz:=h z
  simp only[List.mem_cons]at hz
  constructor
  ·intro hza
   rcases hz.1 (.inr hza)with e|h1
   ·rw[e]at hza;exact absurd (ha'.1 x hza) zek
   ·exact h1
  ·intro hzb
   rcases hz.2 (.inr hzb)with e|h1
   ·rw[e]at hzb;exact absurd (hb'.1 x hzb) zek
   ·exact h1
theorem zdp {p:Str→Bool}:∀{l:List Str} {x:Str},x∈l.take (l.takeWhile p).length→p x=true
 |[],x,h=>by simp at h
 |y::l,x,h=>by
  rw[List.takeWhile_cons]at h
  by_cases hp:p y=true
  ·rw[if_pos hp,List.length_cons,List.take_succ_cons]at h
   rcases List.mem_cons.1 h with rfl|h
   ·exact hp
   ·exact zdp h
  ·rw[if_neg hp]at h;simp at h
theorem zc5 {p:Str→Bool}:∀{l:List Str},l.drop (l.takeWhile p).length=[]∨∃y t,l.drop (l.takeWhile p).length=y::t∧p y=false
 |[]=> .inl (by simp)
 |y::l=>by
  rw[List.takeWhile_cons]
  by_cases hp:p y=true
  ·rw[if_pos hp,List.length_cons,List.drop_succ_cons]
   exact zc5
  ·rw[if_neg hp]
   exact .inr ⟨y,l,rfl,by simpa using hp⟩
theorem zyi {l:List Str}(h:zt0 l)(s:Str):zt0 (zhm l s):=by
 unfold zhm
 split
 ·exact h
 ·rename_i hn
  obtain⟨p,hp⟩:∃p:Str→Bool,p=fun x=>decide (x.l<s.l):=⟨_,rfl⟩
  rw[←hp]
  have hT:∀x∈l.take (l.takeWhile p).length,x.l<s.l:=fun x hx=>by
   have:=zdp hx
   rw[hp]at this
   exact of_decide_eq_true this
  have hsp:zt0 (l.take (l.takeWhile p).length++l.drop (l.takeWhile p).length):=by rw[List.take_append_drop];exact h
  have hsp':=List.pairwise_append.1 hsp
  have hD:∀x∈l.drop (l.takeWhile p).length,s.l<x.l:=fun x hx=>by
   rcases zc5 (p:=p) (l:=l)with e|⟨y,t,e,hy⟩
   ·rw[e]at hx;cases hx
   ·rw[hp]at hy
    have hy2:¬y.l<s.l:=of_decide_eq_false hy
    have hym:y∈l:=List.mem_of_mem_drop (by rw[e];simp:y∈l.drop (l.takeWhile p).length)
    have hlt:s.l<y.l:=zlb hy2 (zBB fun e2=>hn (e2▸hym))
    rw[e]at hx hsp'
    rcases List.mem_cons.1 hx with rfl|hx
    ·exact hlt
    ·exact zeM hlt ((List.pairwise_cons.1 hsp'.2.1).1 x hx)
  unfold zt0
  rw[List.append_assoc]
  refine List.pairwise_append.2 ⟨hsp'.1,List.pairwise_append.2 ⟨List.pairwise_singleton _ _,hsp'.2.1,fun a ha b hb=>?_⟩,fun a ha b hb=>?_⟩
  ·rw[List.mem_singleton.1 ha];exact hD b hb
  ·rcases List.mem_append.1 hb with hb|hb
   ·rw[List.mem_singleton.1 hb];exact hT a ha
   ·exact hsp'.2.2 a ha b hb
theorem zvE:∀(ws l:List Str),zt0 l→zt0 (ws.foldl zhm l)
 |[],_,h=>h
 |w::ws,l,h=>zvE ws (zhm l w) (zyi h w)
end Go.Abs
namespace Go.Abs
open Go
structure Pd where
 name:Str
 arity:Int
 deriving DecidableEq
instance:Inhabited Pd:=⟨⟨⟨[]⟩,0⟩⟩
instance:Enc Pd:=⟨fun c=> .agg [.s c.name.l,.i .i64 c.arity],fun x=>match x with| .agg [.s a,.i _ n]=>⟨⟨a⟩,n⟩|_=>default,fun c=>by cases c;rfl⟩
@[go_sem] theorem zNr {c:Pd}:enc c= .agg [.s c.name.l,.i .i64 c.arity]:=rfl
instance:Kc Pd 2:=⟨fun _=>rfl⟩
def ltP (a b:Pd):Prop:=a.name.l<b.name.l∨(a.name=b.name∧a.arity<b.arity)
instance (a b:Pd):Decidable (ltP a b):=by unfold ltP;exact inferInstance
def zNy (l:List Pd):Prop:=l.Pairwise ltP
mutual
def pds:zab→List Pd
 | .mk k nm ws s=>(if k=2 then[⟨nm,(ws.length:Int)⟩]else[])++zNe s
def zNe:List zab→List Pd
 |[]=>[]
 |f::fs=>pds f++zNe fs
end
end Go.Abs
namespace Go.Abs
open Go
structure zMx (uses:Int)(b:Brn)(a:Int):Prop where
 br:∀f∈b.list,brF f
 ll:(b.list.length:Int)≤41+a
 ul:b.used.length=b.list.length
 sl:b.seen.length=b.list.length
 ss:∀s∈b.seen,(s.length:Int)≤a
 r0:0≤b.rounds
 r1:b.rounds≤uses
 u:uses≤1000
 a0:0≤a
 a1:a≤300
section
variable {uses:Int} {b:Brn} {a:Int}
theorem zMx.mono (h:zMx uses b a){a':Int}(h1:a≤a')(h2:a'≤300):zMx uses b a':=
 ⟨h.br,by have:=h.ll;omega,h.ul,h.sl,fun s hs=>by have:=h.ss s hs;omega,h.r0,h.r1,h.u,by have:=h.a0;omega,h2⟩
theorem zMx.mark (h:zMx uses b a)(i:Nat):zMx uses (zNc b i) a:=
 ⟨h.br,h.ll,by unfold zNc;simp only[List.length_set];exact h.ul,h.sl,h.ss,h.r0,h.r1,h.u,h.a0,h.a1⟩
theorem zMx.add (h:zMx uses b a){fs:List zab}(hf:∀f∈fs,brF f){a':Int}(ha:a'=a+fs.length)(h2:a'≤300):zMx uses (zNq b fs) a':=by
 subst ha
 have hll:=h.ll
 have ha0:=h.a0
 refine⟨fun f hf'=>?_,?_,?_,?_,fun s hs=>?_,h.r0,h.r1,h.u,by omega,h2⟩
 ·rcases List.mem_append.1 hf' with h1|h1
  ·exact h.br f h1
  ·exact hf f h1
 ·show((b.list++fs).length:Int)≤_
  rw[List.length_append];omega
 ·show(b.used++List.replicate fs.length false).length=(b.list++fs).length
  rw[List.length_append,List.length_append,List.length_replicate,h.ul]
 ·show(b.seen++List.replicate fs.length []).length=(b.list++fs).length
  rw[List.length_append,List.length_append,List.length_replicate,h.sl]
 ·rcases List.mem_append.1 hs with h1|h1
  ·have:=h.ss s h1;omega
  ·rw[(List.mem_replicate.1 h1).2];simp only[List.length_nil];omega
theorem zMx.saw (h:zMx uses b a){i:Nat}{w:Str}{I:zab}(hi:i<b.seen.length)(hI:brF I)(h2:a+1≤300):zMx uses (zNq (saw b i w) [I]) (a+1):=by
 have hll:=h.ll
 have ha0:=h.a0
 refine⟨fun f hf'=>?_,?_,?_,?_,fun s hs=>?_,h.r0,h.r1,h.u,by omega,h2⟩
 ·rcases List.mem_append.1 hf' with h1|h1
  ·exact h.br f h1
  ·rw[List.mem_singleton.1 h1];exact hI
 ·show((b.list++[I]).length:Int)≤_
  rw[List.length_append,List.length_singleton];omega
 ·show(b.used++List.replicate 1 false).length=(b.list++[I]).length
  rw[List.length_append,List.length_append,List.length_replicate,h.ul];rfl
 ·show(b.seen.set i (b.seen.getD i []++[w])++List.replicate 1 []).length=(b.list++[I]).length
  rw[List.length_append,List.length_append,List.length_replicate,List.length_set,h.sl];rfl
 ·rcases List.mem_append.1 hs with h1|h1
  ·rcases List.mem_or_eq_of_mem_set h1 with h3|h3
   ·have:=h.ss s h3;omega
   ·have hm:b.seen.getD i []∈b.seen:=by
     rw[List.getD_eq_getElem?_getD,List.getElem?_eq_getElem hi];exact List.getElem_mem hi
    have h4:=h.ss _ hm
    rw[h3,List.length_append,List.length_singleton]
    omega
  ·rw[(List.mem_replicate.1 h1).2];simp only[List.length_nil];omega
end
end Go.Abs
namespace Go.Abs
open Go
structure zNx (names:List Str)(ps:List Pd)(size:Nat):Prop where
 nm:zt0 names
 pd:zNy ps
 ar:∀p∈ps,0≤p.arity∧p.arity≤3
 s1:1≤size
 s4:size≤4
 ln:names.length≤10000000
 lp:ps.length≤300
end Go.Abs
namespace Go.Abs
open Go
end Go.Abs
namespace Go.Abs
open Go
mutual
theorem zNd:∀(f:zab),vok f→∀p∈pds f,0≤p.arity∧p.arity≤3
 | .mk k nm ws s,h,p,hp=>by
  rw[vok]at h
  rw[pds]at hp
  rcases List.mem_append.1 hp with hp|hp
  ·split at hp
   ·rename_i hk
    have:=h.2.2.1 hk
    rw[List.mem_singleton.1 hp]
    exact⟨by simp only;omega,by simp only;omega⟩
   ·simp at hp
  ·exact zMW s h.2.2.2.2.2.2 p hp
theorem zMW:∀(fs:List zab),zgX fs→∀p∈zNe fs,0≤p.arity∧p.arity≤3
 |[],_,p,hp=>by simp[zNe]at hp
 |f::fs,h,p,hp=>by
  rw[zgX]at h
  rw[zNe]at hp
  rcases List.mem_append.1 hp with hp|hp
  ·exact zNd f h.1 p hp
  ·exact zMW fs h.2 p hp
end
end Go.Abs
namespace Go.Abs
open Go
structure acP (f:zab):Prop where
 ft:f.fit=true
 s:f.size≤1000
 n:(zyJ f [] []).length≤2400
theorem zMO:∀(ws l:List Str),(ws.foldl zhm l).length≤l.length+ws.length
 |[],l=>by simp
 |w::ws,l=>by
  rw[List.foldl_cons]
  have:=zMO ws (zhm l w)
  have:=zvo l w
  rw[List.length_cons];omega
theorem zMC (x:Str):∀(ws l:List Str),x∈ws.foldl zhm l↔x∈l∨x∈ws
 |[],l=>by simp
 |w::ws,l=>by
  rw[List.foldl_cons,zMC x ws,zve,List.mem_cons,or_assoc]
mutual
theorem zMU:∀(f:zab) (bd l:List Str),shp false f→(zyJ f bd l).length≤l.length+3*f.size
 | .mk k nm ws s,bd,l,h=>by
  rw[shp]at h
  have hw:ws.length≤3:=by
   have h2:=h.1.2.1
   unfold zdf at h2
   rw[zae,zbJ]at h2
   split at h2
   ·exact of_decide_eq_true h2
   ·split at h2
    ·have:=of_decide_eq_true h2;omega
    ·have:=of_decide_eq_true h2;omega
  rw[zyJ,zab.size]
  have h1:=zMz s (if isQ k then bd++[nm]else bd) (ws.foldl (fun l w=>if w∈bd then l else zhm l w) l) h.2
  have h2:=zlP bd ws l
  omega
theorem zMz:∀(fs:List zab) (bd l:List Str),zdy false fs→(zln fs bd l).length≤l.length+3*zab.sizes fs
 |[],_,l,_=>by rw[zln];omega
 |f::fs,bd,l,h=>by
  rw[zdy]at h
  rw[zln,zab.sizes]
  have h1:=zMU f bd l h.1
  have h2:=zMz fs bd (zyJ f bd l) h.2
  omega
end
end Go.Abs
