/- several texts of this proof in one; no conditions -/
import Derived.Test.YtmconmiemdinkaaDoorY13
import Derived.Test.YtmconmiemdinkaaDoorY16
import Derived.Test.YtmconmiemdinkaaDoorY15
set_option linter.unusedSimpArgs false
namespace Go.Abs
open Go
theorem ziU (m:zcJ)(ev:List zcx)(nm:Str)(v:Int)(w:Str):zfG m (ev++[(⟨nm,v⟩:zcx)]) w=if nm=w then v else zfG m ev w:=by
 unfold zfG
 rw[zon]
 show(match(if nm=w then some v else zeS ev w)with|some v=>v|none=>zsX m w)=_
 by_cases h:nm=w
 ·rw[if_pos h,if_pos h]
 ·rw[if_neg h,if_neg h];rfl
mutual
theorem zuD (m:zcJ){used U:List Str}:∀(f:zab) (env:List zbH) (bd:List Str) (n:Nat) (ev ev':List zcx),vok f→
  (∀w,w∈bd∨w∈U→zfG m ev w=zfG m ev' (lkp env w)∧(lkp env w∈used∨∃j,j<n∧lkp env w=zhT j))→(∀x∈cst f bd,x∈U)→zuQ m (ren (vg used) f env n).1 ev'=zuQ m f ev
 | .mk k nm ws s,env,bd,n,ev,ev',hv,he,hc=>by
  rw[vok]at hv
  rw[cst]at hc
  have hw1:∀w∈ws,zfG m ev w=zfG m ev' (lkp env w):=fun w hw=>by
   refine(he w ?_).1
   by_cases hb:w∈bd
   ·exact .inl hb
   ·exact .inr (hc w (List.mem_append_left _ (List.mem_filter.2 ⟨hw,by simpa using hb⟩)))
  have hw:(ws.map (lkp env)).map (zfG m ev')=ws.map (zfG m ev):=by
   rw[List.map_map]
   exact List.map_congr_left fun w hw=>(hw1 w hw).symm
  have hl:(ws.map (lkp env)).length=ws.length:=List.length_map _
  by_cases hq:isQ k
  ·have hs:∀v:Int,zd1 m (zbJ (vg used) s (env++[(⟨nm,(vg used n).1⟩:zbH)]) (vg used n).2).1 (ev'++[(⟨(vg used n).1,v⟩:zcx)])=zd1 m s (ev++[(⟨nm,v⟩:zcx)]):=fun v=>by
    obtain⟨a1,_,a3,_⟩:=zeC used n
    rw[if_pos hq]at hc
    refine zjI m s _ (bd++[nm]) _ _ _ hv.2.2.2.2.2.2 (fun w hw2=>?_) fun x hx=>hc x (List.mem_append_right _ hx)
    rw[zeA,ziU,ziU]
    have hvg:(vg used n).1=zhT (zd0 used n):=rfl
    have hvg2:(vg used n).2=zd0 used n+1:=rfl
    by_cases e:nm=w
    ·rw[if_pos e,if_pos e]
     exact⟨(if_pos rfl).symm,.inr ⟨zd0 used n,by omega,hvg⟩⟩
    ·rw[if_neg e,if_neg e]
     have hw3:w∈bd∨w∈U:=by
      rcases hw2 with h|h
      ·rcases List.mem_append.1 h with h|h
       ·exact .inl h
       ·exact absurd (List.mem_singleton.1 h).symm e
      ·exact .inr h
     obtain⟨h1,h2⟩:=he w hw3
     refine⟨?_,?_⟩
     ·rw[if_neg (fun h=>?_)]
      ·exact h1
      ·rw[hvg]at h
       rcases h2 with h2|⟨j,hj,h2⟩
       ·exact a3 (by rw[h];exact h2)
       ·have:=zjU (h.trans h2);omega
     ·rcases h2 with h2|⟨j,hj,h2⟩
      ·exact .inl h2
      ·exact .inr ⟨j,by omega,h2⟩
   rw[ren,if_pos hq]
   rw[zuQ,zuQ]
   rcases hq with rfl|rfl<;>simp only[hs,reduceIte,show¬((8:Int)=1) by decide,show¬((8:Int)=2) by decide,show¬((8:Int)=3) by decide,show¬((8:Int)=4) by decide,show¬((8:Int)=5) by decide,show¬((8:Int)=6) by decide,show¬((8:Int)=7) by decide,
    show¬((9:Int)=1) by decide,show¬((9:Int)=2) by decide,show¬((9:Int)=3) by decide,show¬((9:Int)=4) by decide,show¬((9:Int)=5) by decide,show¬((9:Int)=6) by decide,show¬((9:Int)=7) by decide,show¬((9:Int)=8) by decide,if_false,if_true]
  ·rw[if_neg hq]at hc
   have hs:=zjI m s env bd n ev ev' hv.2.2.2.2.2.2 he fun x hx=>hc x (List.mem_append_right _ hx)
   have h8:¬k=8:=fun e=>hq (.inl e)
   have h9:¬k=9:=fun e=>hq (.inr e)
   rw[ren,if_neg hq]
   rw[zuQ,zuQ]
   simp only[hs,h8,h9,if_false,hw,hl]
   by_cases h3:k=3
   ·have h2:=hv.2.2.2.1 h3
    obtain⟨a,b,rfl⟩:∃a b,ws=[a,b]:=by
     match ws,h2 with
     |[a,b],_=>exact⟨a,b,rfl⟩
    subst h3
    have e0:=hw1 a (by simp)
    have e1:=hw1 b (by simp)
    simp only[List.map_cons,List.map_nil,List.getD_cons_zero,List.getD_cons_succ]
    rw[e0,e1]
   ·simp only[h3,if_false]
theorem zjI (m:zcJ){used U:List Str}:∀(fs:List zab) (env:List zbH) (bd:List Str) (n:Nat) (ev ev':List zcx),zls fs→
  (∀w,w∈bd∨w∈U→zfG m ev w=zfG m ev' (lkp env w)∧(lkp env w∈used∨∃j,j<n∧lkp env w=zhT j))→(∀x∈zb3 fs bd,x∈U)→zd1 m (zbJ (vg used) fs env n).1 ev'=zd1 m fs ev
 |[],env,bd,n,ev,ev',hv,he,hc=>by rw[zbJ,zd1,zd1]
 |f::fs,env,bd,n,ev,ev',hv,he,hc=>by
  rw[zls]at hv
  rw[zb3]at hc
  rw[zbJ]
  simp only
  rw[zd1,zd1,zuD m f env bd n ev ev' hv.1 he fun x hx=>hc x (List.mem_append_left _ hx),
   zjI m fs env bd _ ev ev' hv.2 (fun w hw=>?_) fun x hx=>hc x (List.mem_append_right _ hx)]
  obtain⟨h1,h2⟩:=he w hw
  refine⟨h1,?_⟩
  rcases h2 with h2|⟨j,hj,h2⟩
  ·exact .inl h2
  ·have:=((zqA (zuR used)).1 f env n).1
   exact .inr ⟨j,by omega,h2⟩
end
mutual
theorem zrt:∀(f f':zab) (E:PE),Aeq E f f'→zkU f=zkU f'
 | .mk k nm ws s,.mk k' nm' ws' s',E,h=>by
  rw[Aeq]at h
  obtain⟨rfl,_,_,h4⟩:=h
  rw[zkU,zkU,zj0 s s' _ h4]
theorem zj0:∀(f f':List zab) (E:PE),zb4 E f f'→zft f=zft f'
 |[],[],_,_=>rfl
 |f::fs,f'::fs',E,h=>by
  rw[zb4]at h
  rw[zft,zft,zrt f f' E h.1,zj0 fs fs' E h.2]
 |[],_::_,_,h=>by rw[zb4]at h;exact h.elim
 |_::_,[],_,h=>by rw[zb4]at h;exact h.elim
end
mutual
theorem zrs (m:zcJ):∀(f f':zab) (E:PE),Aeq E f f'→zt5 m f=zt5 m f'
 | .mk k nm ws s,.mk k' nm' ws' s',E,h=>by
  rw[Aeq]at h
  obtain⟨rfl,h2,h3,h4⟩:=h
  rw[zt5,zt5,zjZ m s s' _ h4,zfK h3]
  by_cases hk:k=2
  ·rw[h2 (by rw[hk];decide)]
  ·simp[hk]
theorem zjZ (m:zcJ):∀(f f':List zab) (E:PE),zb4 E f f'→zju m f=zju m f'
 |[],[],_,_=>rfl
 |f::fs,f'::fs',E,h=>by
  rw[zb4]at h
  rw[zju,zju,zrs m f f' E h.1,zjZ m fs fs' E h.2]
 |[],_::_,_,h=>by rw[zb4]at h;exact h.elim
 |_::_,[],_,h=>by rw[zb4]at h;exact h.elim
end
end Go.Abs
namespace Go.Abs
open Go
def cnn (f:zab):zab:=zbX f []
def ngg (f:zab):zab:=zbX (zEz f) []
def zfM (f:zab):zab:=f.subs.getD 0 (.mk 0 ⟨[]⟩ [] [])
def zvP (f:zab):zab:=f.subs.getD 1 (.mk 0 ⟨[]⟩ [] [])
def zen (f:zab):Int×List zab×zab×Bool:=
 if f.kind=5 then(1,[cnn (zfM f),cnn (zvP f)],zgG,false)
 else if f.kind=6 then(2,[cnn (zfM f),cnn (zvP f)],zgG,false)
 else if f.kind=7 then(2,[ngg (zfM f),cnn (zvP f)],zgG,false)
 else if f.kind=8 then(3,[],f,false)
 else if f.kind=9 then(4,[],f,false)
 else if f.kind=4 then
  if(zfM f).kind=4 then(1,[cnn (zfM (zfM f))],zgG,false)
  else if(zfM f).kind=5 then(2,[ngg (zfM (zfM f)),ngg (zvP (zfM f))],zgG,false)
  else if(zfM f).kind=6 then(1,[ngg (zfM (zfM f)),ngg (zvP (zfM f))],zgG,false)
  else if(zfM f).kind=7 then(1,[cnn (zfM (zfM f)),ngg (zvP (zfM f))],zgG,false)
  else if(zfM f).kind=8 then(4,[],zfM f,true)
  else if(zfM f).kind=9 then(3,[],zfM f,true)
  else(0,[],zgG,false)
 else(0,[],zgG,false)
structure brF (f:zab):Prop where
 v:vok f
 ft:f.fit=true
 s:f.size≤800
theorem brF.sub {f g:zab}(h:brF f)(hg:g∈f.subs):brF g:=by
 have hv:=h.v
 obtain⟨k,nm,ws,s⟩:=f
 rw[vok]at hv
 have hf:=h.ft
 rw[zab.fit]at hf
 simp only[Bool.and_eq_true]at hf
 exact⟨(zns s).1 hv.2.2.2.2.2.2 g hg,zab.fits_mem hf.2 hg,by have:=zab.size_sub hg;have:=h.s;omega⟩
def zk7 (c:List zbH)(w:Str):Str:=c.foldl (fun r l=>if r=l.fr then l.to else r) w
structure wfC (c:List zbH):Prop where
 d:∀i j (hi:i<c.length) (hj:j<c.length),j<i→c[j].fr≠c[i].fr
 t:∀i j (hi:i<c.length) (hj:j<c.length),j≤i→c[j].fr≠c[i].to
def zEv (c:List zbH)(f:zab):List zbH:=
 if f.kind≠3 then c
 else if zk7 c (f.words.getD 0 ⟨[]⟩)=zk7 c (f.words.getD 1 ⟨[]⟩)then c
 else c++[⟨zk7 c (f.words.getD 0 ⟨[]⟩),zk7 c (f.words.getD 1 ⟨[]⟩)⟩]
def zBq (l:List zab):List zbH:=l.foldl zEv []
def zzv (c:List zbH)(f g:zab):Bool:=decide (f.kind=2)&&decide (g.kind=2)&&decide (f.name=g.name)&&decide (f.words.map (zk7 c)=g.words.map (zk7 c))
def zDu (c:List zbH)(f:zab):Bool:=decide (f.kind=4)&&(decide ((zfM f).kind=1)||decide ((zfM f).kind=3)&&decide (zk7 c ((zfM f).words.getD 0 ⟨[]⟩)=zk7 c ((zfM f).words.getD 1 ⟨[]⟩)))
end Go.Abs
namespace Go.Abs
open Go
mutual
theorem zuE (g:Nat→Str×Nat):∀(f:zab) (env:List zbH) (n:Nat),vok f→vok (ren g f env n).1
 | .mk k nm ws s,env,n,h=>by
  rw[vok]at h
  rw[ren]
  split
  ·rw[vok,List.length_map,zdR]
   exact⟨h.1,h.2.1,h.2.2.1,h.2.2.2.1,h.2.2.2.2.1,h.2.2.2.2.2.1,zjJ g s _ _ h.2.2.2.2.2.2⟩
  ·rw[vok,List.length_map,zdR]
   exact⟨h.1,h.2.1,h.2.2.1,h.2.2.2.1,h.2.2.2.2.1,h.2.2.2.2.2.1,zjJ g s _ _ h.2.2.2.2.2.2⟩
theorem zjJ (g:Nat→Str×Nat):∀(fs:List zab) (env:List zbH) (n:Nat),zls fs→zls (zbJ g fs env n).1
 |[],env,n,_=>by rw[zbJ,zls];trivial
 |f::fs,env,n,h=>by
  rw[zls]at h
  rw[zbJ,zls]
  exact⟨zuE g f env n h.1,zjJ g fs env _ h.2⟩
end
end Go.Abs
namespace Go.Abs
open Go
inductive Prf where
 |mk (kind form other:Int) (name:Str) (subs:List Prf)
namespace Prf
def kind:Prf→Int|mk k _ _ _ _=>k
def form:Prf→Int|mk _ f _ _ _=>f
def other:Prf→Int|mk _ _ o _ _=>o
def name:Prf→Str|mk _ _ _ n _=>n
def subs:Prf→List Prf|mk _ _ _ _ s=>s
end Prf
@[go_sem] theorem zza {k f o n s}:(Prf.mk k f o n s).kind=k:=rfl
@[go_sem] theorem zy9 {k f o n s}:(Prf.mk k f o n s).form=f:=rfl
@[go_sem] theorem zxx {k f o n s}:(Prf.mk k f o n s).other=o:=rfl
@[go_sem] theorem zzb {k f o n s}:(Prf.mk k f o n s).name=n:=rfl
@[go_sem] theorem zzc {k f o n s}:(Prf.mk k f o n s).subs=s:=rfl
@[go_sem] theorem zA4 {p:Prf}:Prf.mk p.kind p.form p.other p.name p.subs=p:=by cases p;rfl
mutual
def zu7:Prf→FD
 | .mk k f o n s=> .agg [.i .i64 k,.i .i64 f,.i .i64 o,.s n.l,.sl (zn1 s)]
def zn1:List Prf→List FD
 |[]=>[]
 |f::fs=>zu7 f::zn1 fs
end
mutual
def zu0:FD→Prf
 | .agg [.i _ k,.i _ f,.i _ o,.s n,.sl s]=> .mk k f o ⟨n⟩ (znU s)
 |_=> .mk 0 0 0 ⟨[]⟩ []
def znU:List FD→List Prf
 |[]=>[]
 |x::xs=>zu0 x::znU xs
end
mutual
theorem zki:∀f,zu0 (zu7 f)=f
 | .mk k f o n s=>by simp only[zu7,zu0,zhd s]
theorem zhd:∀s,znU (zn1 s)=s
 |[]=>rfl
 |f::fs=>by simp only[zn1,znU,zki f,zhd fs]
end
instance:Enc Prf:=⟨zu7,zu0,zki⟩
theorem zkp:∀s:List Prf,zn1 s=s.map enc
 |[]=>rfl
 |f::fs=>by rw[zn1,zkp fs];rfl
theorem zkj:∀s:List FD,znU s=dec (α:=List Prf) (.sl s)
 |[]=>rfl
 |f::fs=>by rw[znU,zkj fs];rfl
@[go_sem] theorem zpN {p:Prf}:enc p= .agg [.i .i64 p.kind,.i .i64 p.form,.i .i64 p.other,.s p.name.l,.sl (p.subs.map enc)]:=by
 cases p with
 |mk k f o n s=>show zu7 _=_;rw[zu7,zkp];rfl
@[go_sem] theorem zzE {i j h k f o n s}:dec (α:=Prf) (.agg [.i i k,.i j f,.i h o,.s n,.sl s])= .mk k f o ⟨n⟩ (dec (.sl s)):=by
 show zu0 _=_;rw[zu0,zkj]
instance:Kc Prf 5:=⟨fun f=>by rw[zpN];rfl⟩
@[go_sem] theorem zxj {l:List Prf}:zbi (l.map enc) 5=True:=eq_true (zdg l)
@[go_sem] theorem zvc {l:List Prf}:(zag (l.map enc)).all zcm=true:=by
 rw[List.all_eq_true]
 intro d hd
 simp only[zag,List.mem_flatMap,List.mem_map]at hd
 obtain⟨_,⟨a,_,rfl⟩,x,hx,rfl⟩:=hd
 simp only[zpN,FD.cells,List.mem_cons,List.not_mem_nil,or_false]at hx
 rcases hx with rfl|rfl|rfl|rfl|rfl<;>rfl
mutual
def Prf.size:Prf→Nat
 | .mk _ _ _ _ s=>Prf.sizes s+1
def Prf.sizes:List Prf→Nat
 |[]=>0
 |f::fs=>f.size+Prf.sizes fs
end
theorem Prf.size_mem:∀{l:List Prf} {f:Prf},f∈l→f.size≤Prf.sizes l
 |g::l,f,h=>by
  rw[Prf.sizes]
  rcases List.mem_cons.1 h with rfl|h
  ·omega
  ·have:=Prf.size_mem h;omega
theorem Prf.size_sub {f g:Prf}(h:g∈f.subs):g.size<f.size:=by
 cases f with
 |mk k f o n w=>rw[Prf.size];have:=Prf.size_mem (show g∈w from h);omega
mutual
def zwa:Prf→Int→Int
 | .mk _ _ _ _ s,n=>znN s (n+1)
def znN:List Prf→Int→Int
 |[],n=>n
 |x::xs,n=>if 2000<n then n else znN xs (zwa x n)
end
mutual
theorem ztE:∀(p:Prf) (n:Int),n≤2000→n+1≤zwa p n∧zwa p n≤2001
 | .mk k f o nm s,n,h=>by
  rw[zwa]
  have:=zmK s (n+1) (by omega)
  omega
theorem zmK:∀(s:List Prf) (n:Int),n≤2001→n≤znN s n∧znN s n≤2001
 |[],n,h=>by rw[znN];omega
 |x::xs,n,h=>by
  rw[znN]
  split
  ·omega
  ·have h1:=ztE x n (by omega)
   have h2:=zmK xs (zwa x n) h1.2
   omega
end
end Go.Abs
namespace Go.Abs
open Go
def zv3 (f:zab)(name:Str):zab:=zbX (zfM f) [⟨f.name,name⟩]
def zwv (q:zab)(turned:Bool)(name:Str):zab:=if turned then ngg (zv3 q name)else zv3 q name
def zEA (l:List zab)(name:Str):Bool:=l.any fun f=>decide (name∈zcw f)
def zxI (f:zab)(nm:Str):Str:=if f.words.getD 0 ⟨[]⟩=nm then f.words.getD 1 ⟨[]⟩else f.words.getD 0 ⟨[]⟩
def inL (l:List zab)(i:Int):Bool:=decide (0≤i)&&decide (i<l.length)
def atL (l:List zab)(i:Int):zab:=l.getD i.toNat zgG
def zv9 (l:List zab)(f g:zab):Bool:=decide (ngg f=g)||decide (g.kind=4)&&zzv (zBq l) f (zfM g)
def zDt (k fo ot:Int)(nm:Str)(cs:List (List zab→Bool))(l:List zab):Bool:=
 if inL l fo=false then false
 else if k=1 then decide (cs.length=0)&&inL l ot&&(if ot=fo then zDu (zBq l) (atL l fo)else zv9 l (atL l fo) (atL l ot))
 else if k=2 then decide ((zen (atL l fo)).1=1)&&decide (cs.length=1)&&cs.getD 0 (fun _=>false) (l++(zen (atL l fo)).2.1)
 else if k=3 then decide ((zen (atL l fo)).1=2)&&decide (cs.length=2)&&cs.getD 0 (fun _=>false) (l++[(zen (atL l fo)).2.1.getD 0 zgG])&&cs.getD 1 (fun _=>false) (l++[(zen (atL l fo)).2.1.getD 1 zgG])
 else if k=4 then decide ((zen (atL l fo)).1=3)&&zax nm&&decide (cs.length=1)&&cs.getD 0 (fun _=>false) (l++[zwv (zen (atL l fo)).2.2.1 (zen (atL l fo)).2.2.2 nm])
 else if k=5 then decide ((zen (atL l fo)).1=4)&&zax nm&& !zEA l nm&&decide (cs.length=1)&&cs.getD 0 (fun _=>false) (l++[zwv (zen (atL l fo)).2.2.1 (zen (atL l fo)).2.2.2 nm])
 else if k=6 then decide ((atL l fo).kind=3)&&inL l ot&&decide (cs.length=1)&&decide (nm∈(atL l fo).words)&&cs.getD 0 (fun _=>false) (l++[zbX (atL l ot) [⟨nm,zxI (atL l fo) nm⟩]])
 else false
mutual
def zDs:Prf→List zab→Bool
 | .mk k fo ot nm s,l=>zDt k fo ot nm (zv8 s) l
def zv8:List Prf→List (List zab→Bool)
 |[]=>[]
 |p::ps=>zDs p::zv8 ps
end
end Go.Abs
namespace Go.Abs
open Go
structure Brn where
 list:List zab
 used:List Bool
 seen:List (List Str)
 rounds:Int
def ztK (b:Brn):FD:= .agg [.sl (b.list.map enc),.sl (b.used.map enc),.sl (b.seen.map enc),.i .i64 b.rounds]
def ztG:FD→Brn
 | .agg [l,u,s,.i _ r]=>⟨dec l,dec u,dec s,r⟩
 |_=>⟨[],[],[],0⟩
theorem zlT (b:Brn):ztG (ztK b)=b:=by
 have h1:dec (.sl (b.list.map enc))=b.list:=dec_enc b.list
 have h2:dec (.sl (b.used.map enc))=b.used:=dec_enc b.used
 have h3:dec (.sl (b.seen.map enc))=b.seen:=dec_enc b.seen
 unfold ztG ztK
 simp only[h1,h2,h3]
instance:Enc Brn:=⟨ztK,ztG,zlT⟩
@[go_sem] theorem zzG {b:Brn}:enc b= .agg [.sl (b.list.map enc),.sl (b.used.map enc),.sl (b.seen.map enc),.i .i64 b.rounds]:=rfl
@[go_sem] theorem zzC {l u s:FD}{i:IntKind}{r:Int}:dec (α:=Brn) (.agg [l,u,s,.i i r])=⟨dec l,dec u,dec s,r⟩:=rfl
@[go_sem] theorem zxX {l u s r}:(Brn.mk l u s r).list=l:=rfl
@[go_sem] theorem zxZ {l u s r}:(Brn.mk l u s r).used=u:=rfl
@[go_sem] theorem zxY {l u s r}:(Brn.mk l u s r).seen=s:=rfl
@[go_sem] theorem zuV {l u s r}:(Brn.mk l u s r).rounds=r:=rfl
@[go_sem] theorem zzz {b:Brn}:Brn.mk b.list b.used b.seen b.rounds=b:=by cases b;rfl
def zBn (b:Brn)(fs:List zab):Brn:=⟨b.list++fs,b.used++List.replicate fs.length false,b.seen++List.replicate fs.length [],b.rounds⟩
structure Res where
 p:Prf
 ok:Bool
 lim:Bool
 added:Int
def zxo (b:Brn)(i:Nat):Brn:=⟨b.list,b.used.set i true,b.seen,b.rounds⟩
structure GS where
 c:Brn
 steps:List Prf
 added:Int
inductive GR where
 |lim (a:Int)
 |go (s:GS)
def saw (c:Brn)(i:Nat)(w:Str):Brn:=⟨c.list,c.used,c.seen.set i (c.seen.getD i []++[w]),c.rounds⟩
def GR.bind (r:GR)(k:GS→GR):GR:=match r with
 | .lim a=> .lim a
 | .go s=>k s
section
variable {r1 r2:Brn→Int→Res}
end
end Go.Abs
namespace Go.Abs
open Go
def zEX (l:List Str):Prop:=l.Pairwise fun a b=>a.l<b.l
end Go.Abs
namespace Go.Abs
open Go
structure Pd where
 name:Str
 arity:Int
 deriving DecidableEq
instance:Inhabited Pd:=⟨⟨⟨[]⟩,0⟩⟩
instance:Enc Pd:=⟨fun c=> .agg [.s c.name.l,.i .i64 c.arity],fun x=>match x with| .agg [.s a,.i _ n]=>⟨⟨a⟩,n⟩|_=>default,fun c=>by cases c;rfl⟩
@[go_sem] theorem zBv {c:Pd}:enc c= .agg [.s c.name.l,.i .i64 c.arity]:=rfl
instance:Kc Pd 2:=⟨fun _=>rfl⟩
def ltP (a b:Pd):Prop:=a.name.l<b.name.l∨(a.name=b.name∧a.arity<b.arity)
instance (a b:Pd):Decidable (ltP a b):=by unfold ltP;exact inferInstance
def zEW (l:List Pd):Prop:=l.Pairwise ltP
mutual
def pds:zab→List Pd
 | .mk k nm ws s=>(if k=2 then[⟨nm,(ws.length:Int)⟩]else[])++zqr s
def zqr:List zab→List Pd
 |[]=>[]
 |f::fs=>pds f++zqr fs
end
end Go.Abs
namespace Go.Abs
open Go
structure zgy (uses:Int)(b:Brn)(a:Int):Prop where
 br:∀f∈b.list,brF f
 ll:(b.list.length:Int)≤41+a
 ul:b.used.length=b.list.length
 sl:b.seen.length=b.list.length
 ss:∀s∈b.seen,(s.length:Int)≤a
 r0:0≤b.rounds
 r1:b.rounds≤uses
 u:uses≤1000
 a0:0≤a
 a1:a≤300
section
variable {uses:Int} {b:Brn} {a:Int}
theorem zgy.mono (h:zgy uses b a){a':Int}(h1:a≤a')(h2:a'≤300):zgy uses b a':=
 ⟨h.br,by have:=h.ll;omega,h.ul,h.sl,fun s hs=>by have:=h.ss s hs;omega,h.r0,h.r1,h.u,by have:=h.a0;omega,h2⟩
theorem zgy.mark (h:zgy uses b a)(i:Nat):zgy uses (zxo b i) a:=
 ⟨h.br,h.ll,by unfold zxo;simp only[List.length_set];exact h.ul,h.sl,h.ss,h.r0,h.r1,h.u,h.a0,h.a1⟩
theorem zgy.add (h:zgy uses b a){fs:List zab}(hf:∀f∈fs,brF f){a':Int}(ha:a'=a+fs.length)(h2:a'≤300):zgy uses (zBn b fs) a':=by
 subst ha
 have hll:=h.ll
 have ha0:=h.a0
 refine⟨fun f hf'=>?_,?_,?_,?_,fun s hs=>?_,h.r0,h.r1,h.u,by omega,h2⟩
 ·rcases List.mem_append.1 hf' with h1|h1
  ·exact h.br f h1
  ·exact hf f h1
 ·show((b.list++fs).length:Int)≤_
  rw[List.length_append];omega
 ·show(b.used++List.replicate fs.length false).length=(b.list++fs).length
  rw[List.length_append,List.length_append,List.length_replicate,h.ul]
 ·show(b.seen++List.replicate fs.length []).length=(b.list++fs).length
  rw[List.length_append,List.length_append,List.length_replicate,h.sl]
 ·rcases List.mem_append.1 hs with h1|h1
  ·have:=h.ss s h1;omega
  ·rw[(List.mem_replicate.1 h1).2];simp only[List.length_nil];omega
theorem zgy.saw (h:zgy uses b a){i:Nat}{w:Str}{I:zab}(hi:i<b.seen.length)(hI:brF I)(h2:a+1≤300):zgy uses (zBn (saw b i w) [I]) (a+1):=by
 have hll:=h.ll
 have ha0:=h.a0
 refine⟨fun f hf'=>?_,?_,?_,?_,fun s hs=>?_,h.r0,h.r1,h.u,by omega,h2⟩
 ·rcases List.mem_append.1 hf' with h1|h1
  ·exact h.br f h1
  ·rw[List.mem_singleton.1 h1];exact hI
 ·show((b.list++[I]).length:Int)≤_
  rw[List.length_append,List.length_singleton];omega
 ·show(b.used++List.replicate 1 false).length=(b.list++[I]).length
  rw[List.length_append,List.length_append,List.length_replicate,h.ul];rfl
 ·show(b.seen.set i (b.seen.getD i []++[w])++List.replicate 1 []).length=(b.list++[I]).length
  rw[List.length_append,List.length_append,List.length_replicate,List.length_set,h.sl];rfl
 ·rcases List.mem_append.1 hs with h1|h1
  ·rcases List.mem_or_eq_of_mem_set h1 with h3|h3
   ·have:=h.ss s h3;omega
   ·have hm:b.seen.getD i []∈b.seen:=by
     rw[List.getD_eq_getElem?_getD,List.getElem?_eq_getElem hi];exact List.getElem_mem hi
    have h4:=h.ss _ hm
    rw[h3,List.length_append,List.length_singleton]
    omega
  ·rw[(List.mem_replicate.1 h1).2];simp only[List.length_nil];omega
end
end Go.Abs
namespace Go.Abs
open Go
structure zEU (names:List Str)(ps:List Pd)(size:Nat):Prop where
 nm:zEX names
 pd:zEW ps
 ar:∀p∈ps,0≤p.arity∧p.arity≤3
 s1:1≤size
 s4:size≤4
 ln:names.length≤10000000
 lp:ps.length≤300
end Go.Abs
namespace Go.Abs
open Go
def zeL:List Nat→List Int→List Int×Bool
 |t::ts,d::ds=>if(zeL ts ds).2=true then(if d+1<(t:Int)then((d+1)::(zeL ts ds).1,false)else(0::(zeL ts ds).1,true))else(d::(zeL ts ds).1,false)
 |[],_=>([],true)
 |_::_,[]=>([],true)
theorem zkI:∀(ts:List Nat) (t:Nat) (ds:List Int) (d:Int),ts.length=ds.length→zeL (ts++[t]) (ds++[d])=if d+1<(t:Int)then(ds++[d+1],false)else((zeL ts ds).1++[0],(zeL ts ds).2)
 |[],t,[],d,_=>by
  rw[List.nil_append,List.nil_append,zeL]
  by_cases h:d+1<(t:Int)<;>simp[zeL,h]
 |[],_,_::_,_,h=>by simp at h
 |_::_,_,[],_,h=>by simp at h
 |t0::ts,t,d0::ds,d,h=>by
  rw[List.cons_append,List.cons_append,zeL,zkI ts t ds d (by simpa using h)]
  by_cases h1:d+1<(t:Int)
  ·simp[h1]
  ·simp only[h1,if_false]
   rw[zeL]
   cases(zeL ts ds).2<;>simp
   split<;>simp
theorem zmZ:∀(ts1:List Nat) (ds1:List Int) (ts2:List Nat) (ds2:List Int),ts1.length=ds1.length→zeL (ts1++ts2) (ds1++ds2)=if(zeL ts2 ds2).2=true then((zeL ts1 ds1).1++(zeL ts2 ds2).1,(zeL ts1 ds1).2)else(ds1++(zeL ts2 ds2).1,false)
 |[],[],ts2,ds2,_=>by
  rw[List.nil_append,List.nil_append]
  have e:zeL [] []=([],true):=rfl
  rw[e]
  simp only[List.nil_append]
  split
  ·rename_i h;exact Prod.ext rfl h
  ·rename_i h;exact Prod.ext rfl (by simpa using h)
 |[],_::_,_,_,h=>by simp at h
 |_::_,[],_,_,h=>by simp at h
 |t0::ts,d0::ds,ts2,ds2,h=>by
  rw[List.cons_append,List.cons_append,zeL,zmZ ts ds ts2 ds2 (by simpa using h)]
  cases h2:(zeL ts2 ds2).2
  ·simp
  ·simp only[if_true]
   rw[zeL]
   cases(zeL ts ds).2<;>simp
   split<;>simp
theorem zin (s:Nat):∀k,zcy s k 0=List.replicate k 0
 |0=>rfl
 |k+1=>by rw[zcy,Nat.zero_div,zin s k,Nat.zero_mod,List.replicate_succ'];rfl
theorem zkH {s:Nat}(hs:0<s):∀(k i:Nat),i<s^k→zeL (List.replicate k s) (zcy s k i)=(zcy s k ((i+1) % s^k),decide (i+1=s^k))
 |0,i,h=>by
  have:i=0:=by simpa using h
  subst this;rfl
 |k+1,i,h=>by
  rw[List.replicate_succ',zcy,zkI _ _ _ _ (by rw[List.length_replicate,zff])]
  have hd:=Nat.div_add_mod i s
  have hq:i / s<s^k:=Nat.div_lt_of_lt_mul (by rw[Nat.pow_succ,Nat.mul_comm]at h;exact h)
  have hm:=Nat.mod_lt i hs
  by_cases h1:i % s+1<s
  ·rw[if_pos (by omega)]
   have e1:(i+1) / s=i / s:=by
    rw[←hd,Nat.add_assoc,Nat.mul_add_div hs,Nat.div_eq_of_lt h1,Nat.add_zero,hd]
   have e2:(i+1) % s=i % s+1:=by
    rw[←hd,Nat.add_assoc,Nat.mul_add_mod,Nat.mod_eq_of_lt h1,hd]
   have hne:i+1≠s^(k+1):=fun e=>by
    rw[e,Nat.pow_succ,Nat.mul_mod_left]at e2
    omega
   rw[Nat.mod_eq_of_lt (Nat.lt_of_le_of_ne h hne),zcy,e1,e2,decide_eq_false hne]
   rfl
  ·rw[if_neg (by omega),zkH hs k (i / s) hq]
   have e0:i+1=s*(i / s+1):=by rw[Nat.mul_add];omega
   have e1:(i+1) % s^(k+1)=s*((i / s+1) % s^k):=by
    rw[e0,Nat.pow_succ,Nat.mul_comm (s^k) s,Nat.mul_mod_mul_left]
   have e2:(i+1=s^(k+1))↔(i / s+1=s^k):=by
    rw[e0,Nat.pow_succ,Nat.mul_comm (s^k) s]
    exact Nat.mul_right_inj (by omega)
   rw[e1,zcy,Nat.mul_div_cancel_left _ hs,Nat.mul_mod_right]
   simp only[e2]
   rfl
end Go.Abs
namespace Go.Abs
open Go
mutual
theorem zxv:∀(f:zab),vok f→∀p∈pds f,0≤p.arity∧p.arity≤3
 | .mk k nm ws s,h,p,hp=>by
  rw[vok]at h
  rw[pds]at hp
  rcases List.mem_append.1 hp with hp|hp
  ·split at hp
   ·rename_i hk
    have:=h.2.2.1 hk
    rw[List.mem_singleton.1 hp]
    exact⟨by simp only;omega,by simp only;omega⟩
   ·simp at hp
  ·exact zqs s h.2.2.2.2.2.2 p hp
theorem zqs:∀(fs:List zab),zls fs→∀p∈zqr fs,0≤p.arity∧p.arity≤3
 |[],_,p,hp=>by simp[zqr]at hp
 |f::fs,h,p,hp=>by
  rw[zls]at h
  rw[zqr]at hp
  rcases List.mem_append.1 hp with hp|hp
  ·exact zxv f h.1 p hp
  ·exact zqs fs h.2 p hp
end
end Go.Abs
namespace Go.Abs
open Go
mutual
theorem zso:∀(f:zab),shp false f→∀p∈pds f,zax p.name=true
 | .mk k nm ws s,h,p,hp=>by
  rw[shp]at h
  rw[pds]at hp
  rcases List.mem_append.1 hp with hp|hp
  ·split at hp
   ·rename_i hk
    rw[List.mem_singleton.1 hp]
    subst hk
    exact h.1.2.2.1 rfl (by unfold isQ;show¬((2:Int)=8∨(2:Int)=9);omega)
   ·simp at hp
  ·exact zkY s h.2 p hp
theorem zkY:∀(fs:List zab),zeG false fs→∀p∈zqr fs,zax p.name=true
 |[],_,p,hp=>by simp[zqr]at hp
 |f::fs,h,p,hp=>by
  rw[zeG]at h
  rw[zqr]at hp
  rcases List.mem_append.1 hp with hp|hp
  ·exact zso f h.1 p hp
  ·exact zkY fs h.2 p hp
end
mutual
theorem zr6 {m:zcJ}:∀(f:zab),(∀p∈pds f,(zrY m p.name p.arity).isSome=true)→zt5 m f=true
 | .mk k nm ws s,h=>by
  rw[zt5]
  have h2:=zkE s fun p hp=>h p (by rw[pds];exact List.mem_append_right _ hp)
  by_cases hk:k=2
  ·have h3:=h ⟨nm,ws.length⟩ (by rw[pds,if_pos hk];simp)
   simp[h2,h3]
  ·simp[h2,hk]
theorem zkE {m:zcJ}:∀(fs:List zab),(∀p∈zqr fs,(zrY m p.name p.arity).isSome=true)→zju m fs=true
 |[],_=>by rw[zju]
 |f::fs,h=>by
  rw[zju,zr6 f fun p hp=>h p (by rw[zqr];exact List.mem_append_left _ hp),zkE fs fun p hp=>h p (by rw[zqr];exact List.mem_append_right _ hp)]
  rfl
end
end Go.Abs
namespace Go.Abs
open Go
end Go.Abs
namespace Go.Abs
open Go
end Go.Abs
namespace Go.Abs
open Go
theorem zEe {ts:List Nat}{ds:List Int}(hl:ts.length=ds.length){jj p:Nat}(h:zeL (ts.drop (p+1)) (ds.drop (p+1))=(List.replicate jj 0,true))(h1:p<ts.length)(h2:p<ds.length):
  (¬ds[p]+1<(ts[p]:Int)→zeL (ts.drop p) (ds.drop p)=(List.replicate (jj+1) 0,true))∧(ds[p]+1<(ts[p]:Int)→zeL ts ds=(ds.take p++(ds[p]+1)::List.replicate jj 0,false)):=by
 have e:zeL (ts.drop p) (ds.drop p)=if ds[p]+1<(ts[p]:Int)then((ds[p]+1)::List.replicate jj 0,false)else(0::List.replicate jj 0,true):=by
  rw[List.drop_eq_getElem_cons h1,List.drop_eq_getElem_cons h2,zeL,h]
  simp
 refine⟨fun h3=>by rw[e,if_neg h3];rfl,fun h3=>?_⟩
 rw[if_pos h3]at e
 have h4:=zmZ (ts.take p) (ds.take p) (ts.drop p) (ds.drop p) (by rw[List.length_take,List.length_take,hl])
 rw[List.take_append_drop,List.take_append_drop,e]at h4
 simpa using h4
theorem zp5 {ts:List Nat}{ds:List Int}(hl:ts.length=ds.length):zeL (ts.drop ts.length) (ds.drop ts.length)=(List.replicate 0 0,true):=by
 rw[List.drop_length,hl,List.drop_length];rfl
def zii (ds:List Int)(L jj:Nat):List Int:=ds.take (L-jj)++List.replicate jj 0
theorem zpw {ds:List Int}{L:Nat}(h:ds.length=L):zii ds L 0=ds:=by
 unfold zii;rw[Nat.sub_zero,List.replicate_zero,List.append_nil,List.take_of_length_le (by omega)]
theorem zrx {ds:List Int}{L jj:Nat}(h:ds.length=L)(hj:jj≤L):(zii ds L jj).length=L:=by
 unfold zii;rw[List.length_append,List.length_take,List.length_replicate];omega
theorem zrw {ds:List Int}{L jj p:Nat}(h:ds.length=L)(hp:p+jj+1=L)(h1:p<(zii ds L jj).length)(h2:p<ds.length):(zii ds L jj)[p]=ds[p]:=by
 have key:∀(l a b:List Int) (_:l=a++b) (k:Nat) (h1:k<l.length) (h2:k<a.length),l[k]=a[k]:=fun l a b e k h1 h2=>by subst e;exact List.getElem_append_left h2
 refine(key (zii ds L jj) (ds.take (L-jj)) (List.replicate jj 0) rfl p h1 (by rw[List.length_take];omega)).trans ?_
 rw[List.getElem_take]
theorem zpv {ds:List Int}{L jj p:Nat}(h:ds.length=L)(hp:p+jj+1=L)(v:Int):(zii ds L jj).set p v=ds.take p++v::List.replicate jj 0:=by
 unfold zii
 rw[show L-jj=p+1 by omega,List.take_succ_eq_append_getElem (by omega),List.append_assoc,List.set_append_right _ _ (by rw[List.length_take];omega),List.length_take,Nat.min_eq_left (by omega),Nat.sub_self]
 rfl
theorem zry {ds:List Int}{L jj p:Nat}(h:ds.length=L)(hp:p+jj+1=L):(zii ds L jj).set p 0=zii ds L (jj+1):=by
 rw[zpv h hp]
 unfold zii
 rw[show L-(jj+1)=p by omega]
 rfl
end Go.Abs
