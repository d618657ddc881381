/- several texts of this proof in one; no conditions -/
import Derived.Test.YtmconmiemdinkaaGreatDoorY15
import Derived.Test.YtmconmiemdinkaaGreatDoorY18
import Derived.Test.YtmconmiemdinkaaGreatDoorY17
set_option linter.unusedSimpArgs false
namespace Go.Abs
open Go
theorem zks (m:zdg)(ev:List zc8)(nm:Str)(v:Int)(w:Str):zgE m (ev++[(⟨nm,v⟩:zc8)]) w=if nm=w then v else zgE m ev w:=by
 unfold zgE
 rw[zrn]
 show(match(if nm=w then some v else zfO ev w)with|some v=>v|none=>zxq m w)=_
 by_cases h:nm=w
 ·rw[if_pos h,if_pos h]
 ·rw[if_neg h,if_neg h];rfl
mutual
theorem zzv (m:zdg){used U:List Str}:∀(f:zac) (env:List zbg) (bd:List Str) (n:Nat) (ev ev':List zc8),vok f→
  (∀w,w∈bd∨w∈U→zgE m ev w=zgE m ev' (lkp env w)∧(lkp env w∈used∨∃j,j<n∧lkp env w=zew j))→(∀x∈cst f bd,x∈U)→zzU m (ren (vg used) f env n).1 ev'=zzU m f ev
 | .mk k nm ws s,env,bd,n,ev,ev',hv,he,hc=>by
  rw[vok]at hv
  rw[cst]at hc
  have hw1:∀w∈ws,zgE m ev w=zgE m ev' (lkp env w):=fun w hw=>by
   refine(he w ?_).1
   by_cases hb:w∈bd
   ·exact .inl hb
   ·exact .inr (hc w (List.mem_append_left _ (List.mem_filter.2 ⟨hw,by simpa using hb⟩)))
  have hw:(ws.map (lkp env)).map (zgE m ev')=ws.map (zgE m ev):=by
   rw[List.map_map]
   exact List.map_congr_left fun w hw=>(hw1 w hw).symm
  have hl:(ws.map (lkp env)).length=ws.length:=List.length_map _
  by_cases hq:isQ k
  ·have hs:∀v:Int,zeD m (zbd (vg used) s (env++[(⟨nm,(vg used n).1⟩:zbg)]) (vg used n).2).1 (ev'++[(⟨(vg used n).1,v⟩:zc8)])=zeD m s (ev++[(⟨nm,v⟩:zc8)]):=fun v=>by
    obtain⟨a1,_,a3,_⟩:=za9 used n
    rw[if_pos hq]at hc
    refine zlA m s _ (bd++[nm]) _ _ _ hv.2.2.2.2.2.2 (fun w hw2=>?_) fun x hx=>hc x (List.mem_append_right _ hx)
    rw[zdM,zks,zks]
    have hvg:(vg used n).1=zew (zbX used n):=rfl
    have hvg2:(vg used n).2=zbX used n+1:=rfl
    by_cases e:nm=w
    ·rw[if_pos e,if_pos e]
     exact⟨(if_pos rfl).symm,.inr ⟨zbX used n,by omega,hvg⟩⟩
    ·rw[if_neg e,if_neg e]
     have hw3:w∈bd∨w∈U:=by
      rcases hw2 with h|h
      ·rcases List.mem_append.1 h with h|h
       ·exact .inl h
       ·exact absurd (List.mem_singleton.1 h).symm e
      ·exact .inr h
     obtain⟨h1,h2⟩:=he w hw3
     refine⟨?_,?_⟩
     ·rw[if_neg (fun h=>?_)]
      ·exact h1
      ·rw[hvg]at h
       rcases h2 with h2|⟨j,hj,h2⟩
       ·exact a3 (by rw[h];exact h2)
       ·have:=zlQ (h.trans h2);omega
     ·rcases h2 with h2|⟨j,hj,h2⟩
      ·exact .inl h2
      ·exact .inr ⟨j,by omega,h2⟩
   rw[ren,if_pos hq]
   rw[zzU,zzU]
   rcases hq with rfl|rfl<;>simp only[hs,reduceIte,show¬((8:Int)=1) by decide,show¬((8:Int)=2) by decide,show¬((8:Int)=3) by decide,show¬((8:Int)=4) by decide,show¬((8:Int)=5) by decide,show¬((8:Int)=6) by decide,show¬((8:Int)=7) by decide,
    show¬((9:Int)=1) by decide,show¬((9:Int)=2) by decide,show¬((9:Int)=3) by decide,show¬((9:Int)=4) by decide,show¬((9:Int)=5) by decide,show¬((9:Int)=6) by decide,show¬((9:Int)=7) by decide,show¬((9:Int)=8) by decide,if_false,if_true]
  ·rw[if_neg hq]at hc
   have hs:=zlA m s env bd n ev ev' hv.2.2.2.2.2.2 he fun x hx=>hc x (List.mem_append_right _ hx)
   have h8:¬k=8:=fun e=>hq (.inl e)
   have h9:¬k=9:=fun e=>hq (.inr e)
   rw[ren,if_neg hq]
   rw[zzU,zzU]
   simp only[hs,h8,h9,if_false,hw,hl]
   by_cases h3:k=3
   ·have h2:=hv.2.2.2.1 h3
    obtain⟨a,b,rfl⟩:∃a b,ws=[a,b]:=by
     match ws,h2 with
     |[a,b],_=>exact⟨a,b,rfl⟩
    subst h3
    have e0:=hw1 a (by simp)
    have e1:=hw1 b (by simp)
    simp only[List.map_cons,List.map_nil,List.getD_cons_zero,List.getD_cons_succ]
    rw[e0,e1]
   ·simp only[h3,if_false]
theorem zlA (m:zdg){used U:List Str}:∀(fs:List zac) (env:List zbg) (bd:List Str) (n:Nat) (ev ev':List zc8),zh2 fs→
  (∀w,w∈bd∨w∈U→zgE m ev w=zgE m ev' (lkp env w)∧(lkp env w∈used∨∃j,j<n∧lkp env w=zew j))→(∀x∈zb9 fs bd,x∈U)→zeD m (zbd (vg used) fs env n).1 ev'=zeD m fs ev
 |[],env,bd,n,ev,ev',hv,he,hc=>by rw[zbd,zeD,zeD]
 |f::fs,env,bd,n,ev,ev',hv,he,hc=>by
  rw[zh2]at hv
  rw[zb9]at hc
  rw[zbd]
  simp only
  rw[zeD,zeD,zzv m f env bd n ev ev' hv.1 he fun x hx=>hc x (List.mem_append_left _ hx),
   zlA m fs env bd _ ev ev' hv.2 (fun w hw=>?_) fun x hx=>hc x (List.mem_append_right _ hx)]
  obtain⟨h1,h2⟩:=he w hw
  refine⟨h1,?_⟩
  rcases h2 with h2|⟨j,hj,h2⟩
  ·exact .inl h2
  ·have:=((zht (zuT used)).1 f env n).1
   exact .inr ⟨j,by omega,h2⟩
end
mutual
theorem zvq:∀(f f':zac) (E:PE),Aeq E f f'→zm8 f=zm8 f'
 | .mk k nm ws s,.mk k' nm' ws' s',E,h=>by
  rw[Aeq]at h
  obtain⟨rfl,_,_,h4⟩:=h
  rw[zm8,zm8,zl2 s s' _ h4]
theorem zl2:∀(f f':List zac) (E:PE),zcq E f f'→zgq f=zgq f'
 |[],[],_,_=>rfl
 |f::fs,f'::fs',E,h=>by
  rw[zcq]at h
  rw[zgq,zgq,zvq f f' E h.1,zl2 fs fs' E h.2]
 |[],_::_,_,h=>by rw[zcq]at h;exact h.elim
 |_::_,[],_,h=>by rw[zcq]at h;exact h.elim
end
mutual
theorem zvp (m:zdg):∀(f f':zac) (E:PE),Aeq E f f'→zyP m f=zyP m f'
 | .mk k nm ws s,.mk k' nm' ws' s',E,h=>by
  rw[Aeq]at h
  obtain⟨rfl,h2,h3,h4⟩:=h
  rw[zyP,zyP,zl1 m s s' _ h4,zgI h3]
  by_cases hk:k=2
  ·rw[h2 (by rw[hk];decide)]
  ·simp[hk]
theorem zl1 (m:zdg):∀(f f':List zac) (E:PE),zcq E f f'→zk9 m f=zk9 m f'
 |[],[],_,_=>rfl
 |f::fs,f'::fs',E,h=>by
  rw[zcq]at h
  rw[zk9,zk9,zvp m f f' E h.1,zl1 m fs fs' E h.2]
 |[],_::_,_,h=>by rw[zcq]at h;exact h.elim
 |_::_,[],_,h=>by rw[zcq]at h;exact h.elim
end
end Go.Abs
namespace Go.Abs
open Go
def cnn (f:zac):zac:=zaN f []
def ngg (f:zac):zac:=zaN (zKt f) []
def zgN (f:zac):zac:=f.subs.getD 0 (.mk 0 ⟨[]⟩ [] [])
def zAV (f:zac):zac:=f.subs.getD 1 (.mk 0 ⟨[]⟩ [] [])
def ze4 (f:zac):Int×List zac×zac×Bool:=
 if f.kind=5 then(1,[cnn (zgN f),cnn (zAV f)],zhP,false)
 else if f.kind=6 then(2,[cnn (zgN f),cnn (zAV f)],zhP,false)
 else if f.kind=7 then(2,[ngg (zgN f),cnn (zAV f)],zhP,false)
 else if f.kind=8 then(3,[],f,false)
 else if f.kind=9 then(4,[],f,false)
 else if f.kind=4 then
  if(zgN f).kind=4 then(1,[cnn (zgN (zgN f))],zhP,false)
  else if(zgN f).kind=5 then(2,[ngg (zgN (zgN f)),ngg (zAV (zgN f))],zhP,false)
  else if(zgN f).kind=6 then(1,[ngg (zgN (zgN f)),ngg (zAV (zgN f))],zhP,false)
  else if(zgN f).kind=7 then(1,[cnn (zgN (zgN f)),ngg (zAV (zgN f))],zhP,false)
  else if(zgN f).kind=8 then(4,[],zgN f,true)
  else if(zgN f).kind=9 then(3,[],zgN f,true)
  else(0,[],zhP,false)
 else(0,[],zhP,false)
structure brF (f:zac):Prop where
 v:vok f
 ft:f.fit=true
 s:f.size≤800
theorem brF.sub {f g:zac}(h:brF f)(hg:g∈f.subs):brF g:=by
 have hv:=h.v
 obtain⟨k,nm,ws,s⟩:=f
 rw[vok]at hv
 have hf:=h.ft
 rw[zac.fit]at hf
 simp only[Bool.and_eq_true]at hf
 exact⟨(zlR s).1 hv.2.2.2.2.2.2 g hg,zac.fits_mem hf.2 hg,by have:=zac.size_sub hg;have:=h.s;omega⟩
def znu (c:List zbg)(w:Str):Str:=c.foldl (fun r l=>if r=l.fr then l.to else r) w
structure wfC (c:List zbg):Prop where
 d:∀i j (hi:i<c.length) (hj:j<c.length),j<i→c[j].fr≠c[i].fr
 t:∀i j (hi:i<c.length) (hj:j<c.length),j≤i→c[j].fr≠c[i].to
def zKp (c:List zbg)(f:zac):List zbg:=
 if f.kind≠3 then c
 else if znu c (f.words.getD 0 ⟨[]⟩)=znu c (f.words.getD 1 ⟨[]⟩)then c
 else c++[⟨znu c (f.words.getD 0 ⟨[]⟩),znu c (f.words.getD 1 ⟨[]⟩)⟩]
def zG1 (l:List zac):List zbg:=l.foldl zKp []
def zEX (c:List zbg)(f g:zac):Bool:=decide (f.kind=2)&&decide (g.kind=2)&&decide (f.name=g.name)&&decide (f.words.map (znu c)=g.words.map (znu c))
def zJp (c:List zbg)(f:zac):Bool:=decide (f.kind=4)&&(decide ((zgN f).kind=1)||decide ((zgN f).kind=3)&&decide (znu c ((zgN f).words.getD 0 ⟨[]⟩)=znu c ((zgN f).words.getD 1 ⟨[]⟩)))
end Go.Abs
namespace Go.Abs
open Go
mutual
theorem zzw (g:Nat→Str×Nat):∀(f:zac) (env:List zbg) (n:Nat),vok f→vok (ren g f env n).1
 | .mk k nm ws s,env,n,h=>by
  rw[vok]at h
  rw[ren]
  split
  ·rw[vok,List.length_map,zdj]
   exact⟨h.1,h.2.1,h.2.2.1,h.2.2.2.1,h.2.2.2.2.1,h.2.2.2.2.2.1,zlB g s _ _ h.2.2.2.2.2.2⟩
  ·rw[vok,List.length_map,zdj]
   exact⟨h.1,h.2.1,h.2.2.1,h.2.2.2.1,h.2.2.2.2.1,h.2.2.2.2.2.1,zlB g s _ _ h.2.2.2.2.2.2⟩
theorem zlB (g:Nat→Str×Nat):∀(fs:List zac) (env:List zbg) (n:Nat),zh2 fs→zh2 (zbd g fs env n).1
 |[],env,n,_=>by rw[zbd,zh2];trivial
 |f::fs,env,n,h=>by
  rw[zh2]at h
  rw[zbd,zh2]
  exact⟨zzw g f env n h.1,zlB g fs env _ h.2⟩
end
end Go.Abs
namespace Go.Abs
open Go
inductive Prf where
 |mk (kind form other:Int) (name:Str) (subs:List Prf)
namespace Prf
def kind:Prf→Int|mk k _ _ _ _=>k
def form:Prf→Int|mk _ f _ _ _=>f
def other:Prf→Int|mk _ _ o _ _=>o
def name:Prf→Str|mk _ _ _ n _=>n
def subs:Prf→List Prf|mk _ _ _ _ s=>s
end Prf
@[go_sem] theorem zEA {k f o n s}:(Prf.mk k f o n s).kind=k:=rfl
@[go_sem] theorem zEz {k f o n s}:(Prf.mk k f o n s).form=f:=rfl
@[go_sem] theorem zCS {k f o n s}:(Prf.mk k f o n s).other=o:=rfl
@[go_sem] theorem zEB {k f o n s}:(Prf.mk k f o n s).name=n:=rfl
@[go_sem] theorem zEC {k f o n s}:(Prf.mk k f o n s).subs=s:=rfl
@[go_sem] theorem zGF {p:Prf}:Prf.mk p.kind p.form p.other p.name p.subs=p:=by cases p;rfl
mutual
def zAc:Prf→FD
 | .mk k f o n s=> .agg [.i .i64 k,.i .i64 f,.i .i64 o,.s n.l,.sl (zq0 s)]
def zq0:List Prf→List FD
 |[]=>[]
 |f::fs=>zAc f::zq0 fs
end
mutual
def zz5:FD→Prf
 | .agg [.i _ k,.i _ f,.i _ o,.s n,.sl s]=> .mk k f o ⟨n⟩ (zqT s)
 |_=> .mk 0 0 0 ⟨[]⟩ []
def zqT:List FD→List Prf
 |[]=>[]
 |x::xs=>zz5 x::zqT xs
end
mutual
theorem zml:∀f,zz5 (zAc f)=f
 | .mk k f o n s=>by simp only[zAc,zz5,zis s]
theorem zis:∀s,zqT (zq0 s)=s
 |[]=>rfl
 |f::fs=>by simp only[zq0,zqT,zml f,zis fs]
end
instance:Enc Prf:=⟨zAc,zz5,zml⟩
theorem zmt:∀s:List Prf,zq0 s=s.map enc
 |[]=>rfl
 |f::fs=>by rw[zq0,zmt fs];rfl
theorem zmm:∀s:List FD,zqT s=dec (α:=List Prf) (.sl s)
 |[]=>rfl
 |f::fs=>by rw[zqT,zmm fs];rfl
@[go_sem] theorem zs7 {p:Prf}:enc p= .agg [.i .i64 p.kind,.i .i64 p.form,.i .i64 p.other,.s p.name.l,.sl (p.subs.map enc)]:=by
 cases p with
 |mk k f o n s=>show zAc _=_;rw[zAc,zmt];rfl
@[go_sem] theorem zE7 {i j h k f o n s}:dec (α:=Prf) (.agg [.i i k,.i j f,.i h o,.s n,.sl s])= .mk k f o ⟨n⟩ (dec (.sl s)):=by
 show zz5 _=_;rw[zz5,zmm]
instance:Kc Prf 5:=⟨fun f=>by rw[zs7];rfl⟩
@[go_sem] theorem zCz {l:List Prf}:zbC (l.map enc) 5=True:=eq_true (zdS l)
@[go_sem] theorem zAh {l:List Prf}:(zaf (l.map enc)).all zcp=true:=by
 rw[List.all_eq_true]
 intro d hd
 simp only[zaf,List.mem_flatMap,List.mem_map]at hd
 obtain⟨_,⟨a,_,rfl⟩,x,hx,rfl⟩:=hd
 simp only[zs7,FD.cells,List.mem_cons,List.not_mem_nil,or_false]at hx
 rcases hx with rfl|rfl|rfl|rfl|rfl<;>rfl
mutual
def Prf.size:Prf→Nat
 | .mk _ _ _ _ s=>Prf.sizes s+1
def Prf.sizes:List Prf→Nat
 |[]=>0
 |f::fs=>f.size+Prf.sizes fs
end
theorem Prf.size_mem:∀{l:List Prf} {f:Prf},f∈l→f.size≤Prf.sizes l
 |g::l,f,h=>by
  rw[Prf.sizes]
  rcases List.mem_cons.1 h with rfl|h
  ·omega
  ·have:=Prf.size_mem h;omega
theorem Prf.size_sub {f g:Prf}(h:g∈f.subs):g.size<f.size:=by
 cases f with
 |mk k f o n w=>rw[Prf.size];have:=Prf.size_mem (show g∈w from h);omega
mutual
def zBk:Prf→Int→Int
 | .mk _ _ _ _ s,n=>zqM s (n+1)
def zqM:List Prf→Int→Int
 |[],n=>n
 |x::xs,n=>if 2000<n then n else zqM xs (zBk x n)
end
mutual
theorem zyk:∀(p:Prf) (n:Int),n≤2000→n+1≤zBk p n∧zBk p n≤2001
 | .mk k f o nm s,n,h=>by
  rw[zBk]
  have:=zps s (n+1) (by omega)
  omega
theorem zps:∀(s:List Prf) (n:Int),n≤2001→n≤zqM s n∧zqM s n≤2001
 |[],n,h=>by rw[zqM];omega
 |x::xs,n,h=>by
  rw[zqM]
  split
  ·omega
  ·have h1:=zyk x n (by omega)
   have h2:=zps xs (zBk x n) h1.2
   omega
end
end Go.Abs
namespace Go.Abs
open Go
def zBc (f:zac)(name:Str):zac:=zaN (zgN f) [⟨f.name,name⟩]
def zBM (q:zac)(turned:Bool)(name:Str):zac:=if turned then ngg (zBc q name)else zBc q name
def zKu (l:List zac)(name:Str):Bool:=l.any fun f=>decide (name∈zcy f)
def zC4 (f:zac)(nm:Str):Str:=if f.words.getD 0 ⟨[]⟩=nm then f.words.getD 1 ⟨[]⟩else f.words.getD 0 ⟨[]⟩
def inL (l:List zac)(i:Int):Bool:=decide (0≤i)&&decide (i<l.length)
def atL (l:List zac)(i:Int):zac:=l.getD i.toNat zhP
def zBj (l:List zac)(f g:zac):Bool:=decide (ngg f=g)||decide (g.kind=4)&&zEX (zG1 l) f (zgN g)
def zJn (k fo ot:Int)(nm:Str)(cs:List (List zac→Bool))(l:List zac):Bool:=
 if inL l fo=false then false
 else if k=1 then decide (cs.length=0)&&inL l ot&&(if ot=fo then zJp (zG1 l) (atL l fo)else zBj l (atL l fo) (atL l ot))
 else if k=2 then decide ((ze4 (atL l fo)).1=1)&&decide (cs.length=1)&&cs.getD 0 (fun _=>false) (l++(ze4 (atL l fo)).2.1)
 else if k=3 then decide ((ze4 (atL l fo)).1=2)&&decide (cs.length=2)&&cs.getD 0 (fun _=>false) (l++[(ze4 (atL l fo)).2.1.getD 0 zhP])&&cs.getD 1 (fun _=>false) (l++[(ze4 (atL l fo)).2.1.getD 1 zhP])
 else if k=4 then decide ((ze4 (atL l fo)).1=3)&&zav nm&&decide (cs.length=1)&&cs.getD 0 (fun _=>false) (l++[zBM (ze4 (atL l fo)).2.2.1 (ze4 (atL l fo)).2.2.2 nm])
 else if k=5 then decide ((ze4 (atL l fo)).1=4)&&zav nm&& !zKu l nm&&decide (cs.length=1)&&cs.getD 0 (fun _=>false) (l++[zBM (ze4 (atL l fo)).2.2.1 (ze4 (atL l fo)).2.2.2 nm])
 else if k=6 then decide ((atL l fo).kind=3)&&inL l ot&&decide (cs.length=1)&&decide (nm∈(atL l fo).words)&&cs.getD 0 (fun _=>false) (l++[zaN (atL l ot) [⟨nm,zC4 (atL l fo) nm⟩]])
 else false
mutual
def zJm:Prf→List zac→Bool
 | .mk k fo ot nm s,l=>zJn k fo ot nm (zBi s) l
def zBi:List Prf→List (List zac→Bool)
 |[]=>[]
 |p::ps=>zJm p::zBi ps
end
theorem zwL {f a:zac}(h:f.subs=[a]):f.size=a.size+1:=by
 cases f with
 |mk k nm ws s=>rw[zaU]at h;subst h;rw[zac.size,zac.sizes,zac.sizes]
theorem zp7 {f a b:zac}(h:f.subs=[a,b]):f.size=a.size+b.size+1:=by
 cases f with
 |mk k nm ws s=>rw[zaU]at h;subst h;rw[zac.size,zac.sizes,zac.sizes,zac.sizes];rfl
end Go.Abs
namespace Go.Abs
open Go
def jn (sep:List UInt8):List Str→List UInt8
 |[]=>[]
 |w::ws=>w.l++ws.flatMap fun v=>sep++v.l
theorem ztw {sep:List UInt8}{ws:List Str}{i:Nat}(h:i<ws.length):jn sep (ws.take (i+1))=if i=0 then ws[i].l else jn sep (ws.take i)++sep++ws[i].l:=by
 cases ws with
 |nil=>simp at h
 |cons w ws=>
  cases i with
  |zero=>simp[jn]
  |succ i=>
   have h2:i<ws.length:=by simpa using h
   rw[if_neg (by omega),List.take_succ_cons,List.take_succ_cons,jn,jn,List.take_succ_eq_append_getElem h2,List.flatMap_append]
   simp
theorem ziG {sep:List UInt8}{ws:List Str}{i:Nat}:(jn sep (ws.take i)).length≤(jn sep ws).length:=by
 cases ws with
 |nil=>simp
 |cons w ws=>
  cases i with
  |zero=>simp[jn]
  |succ i=>
   rw[List.take_succ_cons,jn,jn,List.length_append,List.length_append]
   have:=congrArg (fun l=>(l.flatMap fun v=>sep++Str.l v).length) (List.take_append_drop i ws)
   simp only[List.flatMap_append,List.length_append]at this
   omega
def txN (k:Int)(nm:Str)(ws:List Str)(ts:List (List UInt8)):List UInt8:=
 if k=1 then[116,114,117,101]
 else if k=2 then nm.l++[40]++jn [44] ws++[41]
 else if k=3 then nm.l++[40]++jn [32,61,32] ws++[41]
 else if k=4 then 45::ts.getD 0 []
 else if k=8 then[97,108,108,32]++nm.l++[32]++ts.getD 0 []
 else if k=9 then[115,111,109,101,32]++nm.l++[32]++ts.getD 0 []
 else[40]++ts.getD 0 []++(if k=5 then[32,38,32]else if k=6 then[32,124,32]else[32,62,32])++ts.getD 1 []++[41]
mutual
def txt:zac→List UInt8
 | .mk k nm ws s=>txN k nm ws (zuL s)
def zuL:List zac→List (List UInt8)
 |[]=>[]
 |f::fs=>txt f::zuL fs
end
theorem zDc {f:zac}(h:f.kind=1):txt f=[116,114,117,101]:=by
 obtain⟨k,nm,ws,s⟩:=f
 rw[zaG]at h;subst h;rw[txt];rfl
theorem zzN {f:zac}(h:f.kind=2):txt f=f.name.l++[40]++jn [44] f.words++[41]:=by
 obtain⟨k,nm,ws,s⟩:=f
 rw[zaG]at h;subst h;rw[txt];rfl
theorem zzO {f:zac}(h:f.kind=3):txt f=f.name.l++[40]++jn [32,61,32] f.words++[41]:=by
 obtain⟨k,nm,ws,s⟩:=f
 rw[zaG]at h;subst h;rw[txt];rfl
theorem zw2 {f a:zac}(h:f.kind=4)(hs:f.subs=[a]):txt f=45::txt a:=by
 obtain⟨k,nm,ws,s⟩:=f
 rw[zaG]at h;subst h
 rw[zaU]at hs;subst hs;rw[txt,zuL,zuL];rfl
theorem zw3 {f a:zac}(h:f.kind=8)(hs:f.subs=[a]):txt f=[97,108,108,32]++f.name.l++[32]++txt a:=by
 obtain⟨k,nm,ws,s⟩:=f
 rw[zaG]at h;subst h
 rw[zaU]at hs;subst hs;rw[txt,zuL,zuL];rfl
theorem zw4 {f a:zac}(h:f.kind=9)(hs:f.subs=[a]):txt f=[115,111,109,101,32]++f.name.l++[32]++txt a:=by
 obtain⟨k,nm,ws,s⟩:=f
 rw[zaG]at h;subst h
 rw[zaU]at hs;subst hs;rw[txt,zuL,zuL];rfl
def sgn (k:Int):List UInt8:=if k=5 then[32,38,32]else if k=6 then[32,124,32]else[32,62,32]
theorem zrT {f a b:zac}(h:f.kind=5∨f.kind=6∨f.kind=7)(hs:f.subs=[a,b]):txt f=[40]++txt a++sgn f.kind++txt b++[41]:=by
 obtain⟨k,nm,ws,s⟩:=f
 rw[zaG]at h
 rw[zaU]at hs;subst hs;rw[txt,zuL,zuL,zuL]
 unfold txN
 rw[if_neg (by omega),if_neg (by omega),if_neg (by omega),if_neg (by omega),if_neg (by omega),if_neg (by omega)]
 rfl
def txS (f:zac):Str:=⟨txt f⟩
structure txP (f:zac):Prop where
 v:vok f
 ft:f.fit=true
 l:(txt f).length≤1000000000
theorem txP.sub {f g:zac}(h:txP f)(hg:g∈f.subs)(hl:(txt g).length≤(txt f).length):txP g:=by
 have hv:=h.v
 obtain⟨k,nm,ws,s⟩:=f
 rw[vok]at hv
 have hf:=h.ft
 rw[zac.fit]at hf
 simp only[Bool.and_eq_true]at hf
 exact⟨(zlR s).1 hv.2.2.2.2.2.2 g hg,zac.fits_mem hf.2 hg,Nat.le_trans hl h.l⟩
theorem zkq {f:zac}(h:txP f)(hk:f.kind=4∨f.kind=8∨f.kind=9):∃a,f.subs=[a]∧txP a∧a.size<f.size:=by
 have h1:=(zqq.1 h.v).2.2.2.2.1 hk
 match hs:f.subs,h1 with
 |[a],_=>
  refine⟨a,rfl,h.sub (by rw[hs];simp) ?_,by rw[zwL hs];omega⟩
  rcases hk with hk|hk|hk
  ·rw[zw2 hk hs];simp
  ·rw[zw3 hk hs];simp;omega
  ·rw[zw4 hk hs];simp;omega
theorem zql {f:zac}(h:txP f)(hk:f.kind=5∨f.kind=6∨f.kind=7):∃a b,f.subs=[a,b]∧txP a∧txP b∧a.size<f.size∧b.size<f.size∧(txt a).length+(txt b).length+5≤1000000000:=by
 have h1:=(zqq.1 h.v).2.2.2.2.2.1 hk
 match hs:f.subs,h1 with
 |[a,b],_=>
  have ht:=zrT hk hs
  have hg:(sgn f.kind).length=3:=by unfold sgn;split<;>(try split)<;>rfl
  have hl:(txt f).length=(txt a).length+(txt b).length+5:=by rw[ht];simp[hg];omega
  have:=h.l
  refine⟨a,b,rfl,h.sub (by rw[hs];simp) (by omega),h.sub (by rw[hs];simp) (by omega),?_,?_,by omega⟩
  ·rw[zp7 hs];omega
  ·rw[zp7 hs];omega
end Go.Abs
namespace Go.Abs
open Go
structure Brn where
 list:List zac
 used:List Bool
 seen:List (List Str)
 rounds:Int
def zys (b:Brn):FD:= .agg [.sl (b.list.map enc),.sl (b.used.map enc),.sl (b.seen.map enc),.i .i64 b.rounds]
def zyp:FD→Brn
 | .agg [l,u,s,.i _ r]=>⟨dec l,dec u,dec s,r⟩
 |_=>⟨[],[],[],0⟩
theorem zok (b:Brn):zyp (zys b)=b:=by
 have h1:dec (.sl (b.list.map enc))=b.list:=dec_enc b.list
 have h2:dec (.sl (b.used.map enc))=b.used:=dec_enc b.used
 have h3:dec (.sl (b.seen.map enc))=b.seen:=dec_enc b.seen
 unfold zyp zys
 simp only[h1,h2,h3]
instance:Enc Brn:=⟨zys,zyp,zok⟩
@[go_sem] theorem zFa {b:Brn}:enc b= .agg [.sl (b.list.map enc),.sl (b.used.map enc),.sl (b.seen.map enc),.i .i64 b.rounds]:=rfl
@[go_sem] theorem zE5 {l u s:FD}{i:IntKind}{r:Int}:dec (α:=Brn) (.agg [l,u,s,.i i r])=⟨dec l,dec u,dec s,r⟩:=rfl
@[go_sem] theorem zDl {l u s r}:(Brn.mk l u s r).list=l:=rfl
@[go_sem] theorem zDn {l u s r}:(Brn.mk l u s r).used=u:=rfl
@[go_sem] theorem zDm {l u s r}:(Brn.mk l u s r).seen=s:=rfl
@[go_sem] theorem zz0 {l u s r}:(Brn.mk l u s r).rounds=r:=rfl
@[go_sem] theorem zE1 {b:Brn}:Brn.mk b.list b.used b.seen b.rounds=b:=by cases b;rfl
def zGZ (b:Brn)(fs:List zac):Brn:=⟨b.list++fs,b.used++List.replicate fs.length false,b.seen++List.replicate fs.length [],b.rounds⟩
structure Res where
 p:Prf
 ok:Bool
 lim:Bool
 added:Int
def zCE (b:Brn)(i:Nat):Brn:=⟨b.list,b.used.set i true,b.seen,b.rounds⟩
structure GS where
 c:Brn
 steps:List Prf
 added:Int
inductive GR where
 |lim (a:Int)
 |go (s:GS)
def saw (c:Brn)(i:Nat)(w:Str):Brn:=⟨c.list,c.used,c.seen.set i (c.seen.getD i []++[w]),c.rounds⟩
def GR.bind (r:GR)(k:GS→GR):GR:=match r with
 | .lim a=> .lim a
 | .go s=>k s
section
variable {r1 r2:Brn→Int→Res}
end
end Go.Abs
namespace Go.Abs
open Go
def zr5 (l:List Str):Prop:=l.Pairwise fun a b=>a.l<b.l
theorem zfh {a b c:List UInt8}(h1:a<b)(h2:b<c):a<c:=List.lt_trans h1 h2
theorem zeK {a:List UInt8}:¬a<a:=List.lt_irrefl a
theorem zl6 {a b:List UInt8}(h1:¬a<b)(h2:a≠b):b<a:=by
 have h3:b≤a:=List.not_lt.1 h1
 rcases List.le_iff_lt_or_eq.1 h3 with h|h
 ·exact h
 ·exact absurd h.symm h2
theorem zC1 {a b:Str}(h:a≠b):a.l≠b.l:=fun e=>h (by cases a;cases b;exact congrArg Str.mk e)
theorem zuq:∀{a b:List Str},zr5 a→zr5 b→(∀x,x∈a↔x∈b)→a=b
 |[],[],_,_,_=>rfl
 |[],y::b,_,_,h=>absurd ((h y).2 (by simp)) (by simp)
 |x::a,[],_,_,h=>absurd ((h x).1 (by simp)) (by simp)
 |x::a,y::b,ha,hb,h=>by
  have ha':=List.pairwise_cons.1 ha
  have hb':=List.pairwise_cons.1 hb
  have e:x=y:=by
   refine Classical.byContradiction fun hne=>?_
   have h1:x∈b:=by
    rcases List.mem_cons.1 ((h x).1 (by simp))with h1|h1
    ·exact absurd h1 hne
    ·exact h1
   have h2:y∈a:=by
    rcases List.mem_cons.1 ((h y).2 (by simp))with h2|h2
    ·exact absurd h2.symm hne
    ·exact h2
   exact zeK (zfh (ha'.1 y h2) (hb'.1 x h1))
  subst e
  rw[zuq ha'.2 hb'.2 fun z=>?_]
  have hz:=h z
  simp only[List.mem_cons]at hz
  constructor
  ·intro hza
   rcases hz.1 (.inr hza)with e|h1
   ·rw[e]at hza;exact absurd (ha'.1 x hza) zeK
   ·exact h1
  ·intro hzb
   rcases hz.2 (.inr hzb)with e|h1
   ·rw[e]at hzb;exact absurd (hb'.1 x hzb) zeK
   ·exact h1
theorem zdN {p:Str→Bool}:∀{l:List Str} {x:Str},x∈l.take (l.takeWhile p).length→p x=true
 |[],x,h=>by simp at h
 |y::l,x,h=>by
  rw[List.takeWhile_cons]at h
  by_cases hp:p y=true
  ·rw[if_pos hp,List.length_cons,List.take_succ_cons]at h
   rcases List.mem_cons.1 h with rfl|h
   ·exact hp
   ·exact zdN h
  ·rw[if_neg hp]at h;simp at h
theorem zds {p:Str→Bool}:∀{l:List Str},l.drop (l.takeWhile p).length=[]∨∃y t,l.drop (l.takeWhile p).length=y::t∧p y=false
 |[]=> .inl (by simp)
 |y::l=>by
  rw[List.takeWhile_cons]
  by_cases hp:p y=true
  ·rw[if_pos hp,List.length_cons,List.drop_succ_cons]
   exact zds
  ·rw[if_neg hp]
   exact .inr ⟨y,l,rfl,by simpa using hp⟩
theorem zzB {l:List Str}(h:zr5 l)(s:Str):zr5 (ze6 l s):=by
 unfold ze6
 split
 ·exact h
 ·rename_i hn
  obtain⟨p,hp⟩:∃p:Str→Bool,p=fun x=>decide (x.l<s.l):=⟨_,rfl⟩
  rw[←hp]
  have hT:∀x∈l.take (l.takeWhile p).length,x.l<s.l:=fun x hx=>by
   have:=zdN hx
   rw[hp]at this
   exact of_decide_eq_true this
  have hsp:zr5 (l.take (l.takeWhile p).length++l.drop (l.takeWhile p).length):=by rw[List.take_append_drop];exact h
  have hsp':=List.pairwise_append.1 hsp
  have hD:∀x∈l.drop (l.takeWhile p).length,s.l<x.l:=fun x hx=>by
   rcases zds (p:=p) (l:=l)with e|⟨y,t,e,hy⟩
   ·rw[e]at hx;cases hx
   ·rw[hp]at hy
    have hy2:¬y.l<s.l:=of_decide_eq_false hy
    have hym:y∈l:=List.mem_of_mem_drop (by rw[e];simp:y∈l.drop (l.takeWhile p).length)
    have hlt:s.l<y.l:=zl6 hy2 (zC1 fun e2=>hn (e2▸hym))
    rw[e]at hx hsp'
    rcases List.mem_cons.1 hx with rfl|hx
    ·exact hlt
    ·exact zfh hlt ((List.pairwise_cons.1 hsp'.2.1).1 x hx)
  unfold zr5
  rw[List.append_assoc]
  refine List.pairwise_append.2 ⟨hsp'.1,List.pairwise_append.2 ⟨List.pairwise_singleton _ _,hsp'.2.1,fun a ha b hb=>?_⟩,fun a ha b hb=>?_⟩
  ·rw[List.mem_singleton.1 ha];exact hD b hb
  ·rcases List.mem_append.1 hb with hb|hb
   ·rw[List.mem_singleton.1 hb];exact hT a ha
   ·exact hsp'.2.2 a ha b hb
theorem zqd:∀(ws l:List Str),zr5 l→zr5 (ws.foldl ze6 l)
 |[],_,h=>h
 |w::ws,l,h=>zqd ws (ze6 l w) (zzB h w)
end Go.Abs
namespace Go.Abs
open Go
structure Pd where
 name:Str
 arity:Int
 deriving DecidableEq
instance:Inhabited Pd:=⟨⟨⟨[]⟩,0⟩⟩
instance:Enc Pd:=⟨fun c=> .agg [.s c.name.l,.i .i64 c.arity],fun x=>match x with| .agg [.s a,.i _ n]=>⟨⟨a⟩,n⟩|_=>default,fun c=>by cases c;rfl⟩
@[go_sem] theorem zG6 {c:Pd}:enc c= .agg [.s c.name.l,.i .i64 c.arity]:=rfl
instance:Kc Pd 2:=⟨fun _=>rfl⟩
def ltP (a b:Pd):Prop:=a.name.l<b.name.l∨(a.name=b.name∧a.arity<b.arity)
instance (a b:Pd):Decidable (ltP a b):=by unfold ltP;exact inferInstance
def zKW (l:List Pd):Prop:=l.Pairwise ltP
mutual
def pds:zac→List Pd
 | .mk k nm ws s=>(if k=2 then[⟨nm,(ws.length:Int)⟩]else[])++zt1 s
def zt1:List zac→List Pd
 |[]=>[]
 |f::fs=>pds f++zt1 fs
end
end Go.Abs
namespace Go.Abs
open Go
structure zhI (uses:Int)(b:Brn)(a:Int):Prop where
 br:∀f∈b.list,brF f
 ll:(b.list.length:Int)≤41+a
 ul:b.used.length=b.list.length
 sl:b.seen.length=b.list.length
 ss:∀s∈b.seen,(s.length:Int)≤a
 r0:0≤b.rounds
 r1:b.rounds≤uses
 u:uses≤1000
 a0:0≤a
 a1:a≤300
section
variable {uses:Int} {b:Brn} {a:Int}
theorem zhI.mono (h:zhI uses b a){a':Int}(h1:a≤a')(h2:a'≤300):zhI uses b a':=
 ⟨h.br,by have:=h.ll;omega,h.ul,h.sl,fun s hs=>by have:=h.ss s hs;omega,h.r0,h.r1,h.u,by have:=h.a0;omega,h2⟩
theorem zhI.mark (h:zhI uses b a)(i:Nat):zhI uses (zCE b i) a:=
 ⟨h.br,h.ll,by unfold zCE;simp only[List.length_set];exact h.ul,h.sl,h.ss,h.r0,h.r1,h.u,h.a0,h.a1⟩
theorem zhI.add (h:zhI uses b a){fs:List zac}(hf:∀f∈fs,brF f){a':Int}(ha:a'=a+fs.length)(h2:a'≤300):zhI uses (zGZ b fs) a':=by
 subst ha
 have hll:=h.ll
 have ha0:=h.a0
 refine⟨fun f hf'=>?_,?_,?_,?_,fun s hs=>?_,h.r0,h.r1,h.u,by omega,h2⟩
 ·rcases List.mem_append.1 hf' with h1|h1
  ·exact h.br f h1
  ·exact hf f h1
 ·show((b.list++fs).length:Int)≤_
  rw[List.length_append];omega
 ·show(b.used++List.replicate fs.length false).length=(b.list++fs).length
  rw[List.length_append,List.length_append,List.length_replicate,h.ul]
 ·show(b.seen++List.replicate fs.length []).length=(b.list++fs).length
  rw[List.length_append,List.length_append,List.length_replicate,h.sl]
 ·rcases List.mem_append.1 hs with h1|h1
  ·have:=h.ss s h1;omega
  ·rw[(List.mem_replicate.1 h1).2];simp only[List.length_nil];omega
theorem zhI.saw (h:zhI uses b a){i:Nat}{w:Str}{I:zac}(hi:i<b.seen.length)(hI:brF I)(h2:a+1≤300):zhI uses (zGZ (saw b i w) [I]) (a+1):=by
 have hll:=h.ll
 have ha0:=h.a0
 refine⟨fun f hf'=>?_,?_,?_,?_,fun s hs=>?_,h.r0,h.r1,h.u,by omega,h2⟩
 ·rcases List.mem_append.1 hf' with h1|h1
  ·exact h.br f h1
  ·rw[List.mem_singleton.1 h1];exact hI
 ·show((b.list++[I]).length:Int)≤_
  rw[List.length_append,List.length_singleton];omega
 ·show(b.used++List.replicate 1 false).length=(b.list++[I]).length
  rw[List.length_append,List.length_append,List.length_replicate,h.ul];rfl
 ·show(b.seen.set i (b.seen.getD i []++[w])++List.replicate 1 []).length=(b.list++[I]).length
  rw[List.length_append,List.length_append,List.length_replicate,List.length_set,h.sl];rfl
 ·rcases List.mem_append.1 hs with h1|h1
  ·rcases List.mem_or_eq_of_mem_set h1 with h3|h3
   ·have:=h.ss s h3;omega
   ·have hm:b.seen.getD i []∈b.seen:=by
     rw[List.getD_eq_getElem?_getD,List.getElem?_eq_getElem hi];exact List.getElem_mem hi
    have h4:=h.ss _ hm
    rw[h3,List.length_append,List.length_singleton]
    omega
  ·rw[(List.mem_replicate.1 h1).2];simp only[List.length_nil];omega
end
end Go.Abs
namespace Go.Abs
open Go
structure zKT (names:List Str)(ps:List Pd)(size:Nat):Prop where
 nm:zr5 names
 pd:zKW ps
 ar:∀p∈ps,0≤p.arity∧p.arity≤3
 s1:1≤size
 s4:size≤4
 ln:names.length≤10000000
 lp:ps.length≤300
end Go.Abs
namespace Go.Abs
open Go
def zfA:List Nat→List Int→List Int×Bool
 |t::ts,d::ds=>if(zfA ts ds).2=true then(if d+1<(t:Int)then((d+1)::(zfA ts ds).1,false)else(0::(zfA ts ds).1,true))else(d::(zfA ts ds).1,false)
 |[],_=>([],true)
 |_::_,[]=>([],true)
theorem zmR:∀(ts:List Nat) (t:Nat) (ds:List Int) (d:Int),ts.length=ds.length→zfA (ts++[t]) (ds++[d])=if d+1<(t:Int)then(ds++[d+1],false)else((zfA ts ds).1++[0],(zfA ts ds).2)
 |[],t,[],d,_=>by
  rw[List.nil_append,List.nil_append,zfA]
  by_cases h:d+1<(t:Int)<;>simp[zfA,h]
 |[],_,_::_,_,h=>by simp at h
 |_::_,_,[],_,h=>by simp at h
 |t0::ts,t,d0::ds,d,h=>by
  rw[List.cons_append,List.cons_append,zfA,zmR ts t ds d (by simpa using h)]
  by_cases h1:d+1<(t:Int)
  ·simp[h1]
  ·simp only[h1,if_false]
   rw[zfA]
   cases(zfA ts ds).2<;>simp
   split<;>simp
theorem zpL:∀(ts1:List Nat) (ds1:List Int) (ts2:List Nat) (ds2:List Int),ts1.length=ds1.length→zfA (ts1++ts2) (ds1++ds2)=if(zfA ts2 ds2).2=true then((zfA ts1 ds1).1++(zfA ts2 ds2).1,(zfA ts1 ds1).2)else(ds1++(zfA ts2 ds2).1,false)
 |[],[],ts2,ds2,_=>by
  rw[List.nil_append,List.nil_append]
  have e:zfA [] []=([],true):=rfl
  rw[e]
  simp only[List.nil_append]
  split
  ·rename_i h;exact Prod.ext rfl h
  ·rename_i h;exact Prod.ext rfl (by simpa using h)
 |[],_::_,_,_,h=>by simp at h
 |_::_,[],_,_,h=>by simp at h
 |t0::ts,d0::ds,ts2,ds2,h=>by
  rw[List.cons_append,List.cons_append,zfA,zpL ts ds ts2 ds2 (by simpa using h)]
  cases h2:(zfA ts2 ds2).2
  ·simp
  ·simp only[if_true]
   rw[zfA]
   cases(zfA ts ds).2<;>simp
   split<;>simp
theorem zjQ (s:Nat):∀k,zc9 s k 0=List.replicate k 0
 |0=>rfl
 |k+1=>by rw[zc9,Nat.zero_div,zjQ s k,Nat.zero_mod,List.replicate_succ'];rfl
theorem zmQ {s:Nat}(hs:0<s):∀(k i:Nat),i<s^k→zfA (List.replicate k s) (zc9 s k i)=(zc9 s k ((i+1) % s^k),decide (i+1=s^k))
 |0,i,h=>by
  have:i=0:=by simpa using h
  subst this;rfl
 |k+1,i,h=>by
  rw[List.replicate_succ',zc9,zmR _ _ _ _ (by rw[List.length_replicate,zgb])]
  have hd:=Nat.div_add_mod i s
  have hq:i / s<s^k:=Nat.div_lt_of_lt_mul (by rw[Nat.pow_succ,Nat.mul_comm]at h;exact h)
  have hm:=Nat.mod_lt i hs
  by_cases h1:i % s+1<s
  ·rw[if_pos (by omega)]
   have e1:(i+1) / s=i / s:=by
    rw[←hd,Nat.add_assoc,Nat.mul_add_div hs,Nat.div_eq_of_lt h1,Nat.add_zero,hd]
   have e2:(i+1) % s=i % s+1:=by
    rw[←hd,Nat.add_assoc,Nat.mul_add_mod,Nat.mod_eq_of_lt h1,hd]
   have hne:i+1≠s^(k+1):=fun e=>by
    rw[e,Nat.pow_succ,Nat.mul_mod_left]at e2
    omega
   rw[Nat.mod_eq_of_lt (Nat.lt_of_le_of_ne h hne),zc9,e1,e2,decide_eq_false hne]
   rfl
  ·rw[if_neg (by omega),zmQ hs k (i / s) hq]
   have e0:i+1=s*(i / s+1):=by rw[Nat.mul_add];omega
   have e1:(i+1) % s^(k+1)=s*((i / s+1) % s^k):=by
    rw[e0,Nat.pow_succ,Nat.mul_comm (s^k) s,Nat.mul_mod_mul_left]
   have e2:(i+1=s^(k+1))↔(i / s+1=s^k):=by
    rw[e0,Nat.pow_succ,Nat.mul_comm (s^k) s]
    exact Nat.mul_right_inj (by omega)
   rw[e1,zc9,Nat.mul_div_cancel_left _ hs,Nat.mul_mod_right]
   simp only[e2]
   rfl
end Go.Abs
namespace Go.Abs
open Go
mutual
theorem zCQ:∀(f:zac),vok f→∀p∈pds f,0≤p.arity∧p.arity≤3
 | .mk k nm ws s,h,p,hp=>by
  rw[vok]at h
  rw[pds]at hp
  rcases List.mem_append.1 hp with hp|hp
  ·split at hp
   ·rename_i hk
    have:=h.2.2.1 hk
    rw[List.mem_singleton.1 hp]
    exact⟨by simp only;omega,by simp only;omega⟩
   ·simp at hp
  ·exact zt2 s h.2.2.2.2.2.2 p hp
theorem zt2:∀(fs:List zac),zh2 fs→∀p∈zt1 fs,0≤p.arity∧p.arity≤3
 |[],_,p,hp=>by simp[zt1]at hp
 |f::fs,h,p,hp=>by
  rw[zh2]at h
  rw[zt1]at hp
  rcases List.mem_append.1 hp with hp|hp
  ·exact zCQ f h.1 p hp
  ·exact zt2 fs h.2 p hp
end
end Go.Abs
namespace Go.Abs
open Go
structure acP (f:zac):Prop where
 ft:f.fit=true
 s:f.size≤1000
 n:(zgL f [] []).length≤2400
theorem zpR (x:Str):∀(ws l:List Str),x∈ws.foldl ze6 l↔x∈l∨x∈ws
 |[],l=>by simp
 |w::ws,l=>by
  rw[List.foldl_cons,zpR x ws,zpS,List.mem_cons,or_assoc]
mutual
theorem zsW:∀(f:zac) (bd l:List Str),shp false f→(zgL f bd l).length≤l.length+3*f.size
 | .mk k nm ws s,bd,l,h=>by
  rw[shp]at h
  have hw:ws.length≤3:=by
   have h2:=h.1.2.1
   unfold zdB at h2
   rw[zaG,zcK]at h2
   split at h2
   ·exact of_decide_eq_true h2
   ·split at h2
    ·have:=of_decide_eq_true h2;omega
    ·have:=of_decide_eq_true h2;omega
  rw[zgL,zac.size]
  have h1:=zjL s (if isQ k then bd++[nm]else bd) (ws.foldl (fun l w=>if w∈bd then l else ze6 l w) l) h.2
  have h2:=zeY bd ws l
  omega
theorem zjL:∀(fs:List zac) (bd l:List Str),zdO false fs→(zc2 fs bd l).length≤l.length+3*zac.sizes fs
 |[],_,l,_=>by rw[zc2];omega
 |f::fs,bd,l,h=>by
  rw[zdO]at h
  rw[zc2,zac.sizes]
  have h1:=zsW f bd l h.1
  have h2:=zjL fs bd (zgL f bd l) h.2
  omega
end
end Go.Abs
