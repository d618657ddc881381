/- several texts of this proof in one; no conditions -/
import Derived.Test.YtalbdmcklgglbaaDoorY11
import Derived.Test.YtalbdmcklgglbaaDoorY12
set_option linter.unusedSimpArgs false
namespace Go.Abs
open Go
theorem zeP (m:zcZ)(ev:List zcl)(nm:Str)(v:Int)(w:Str):zdf m (ev++[(⟨nm,v⟩:zcl)]) w=if nm=w then v else zdf m ev w:=by
 unfold zdf
 rw[zph]
 show(match(if nm=w then some v else ze1 ev w)with|some v=>v|none=>zuF m w)=_
 by_cases h:nm=w
 ·rw[if_pos h,if_pos h]
 ·rw[if_neg h,if_neg h];rfl
mutual
theorem zwC (m:zcZ){used U:List Str}:∀(f:zac) (env:List zbR) (bd:List Str) (n:Nat) (ev ev':List zcl),vok f→
  (∀w,w∈bd∨w∈U→zdf m ev w=zdf m ev' (lkp env w)∧(lkp env w∈used∨∃j,j<n∧lkp env w=zh5 j))→(∀x∈cst f bd,x∈U)→zpG m (ren (vg used) f env n).1 ev'=zpG m f ev
 | .mk k nm ws s,env,bd,n,ev,ev',hv,he,hc=>by
  rw[vok]at hv
  rw[cst]at hc
  have hw1:∀w∈ws,zdf m ev w=zdf m ev' (lkp env w):=fun w hw=>by
   refine(he w ?_).1
   by_cases hb:w∈bd
   ·exact .inl hb
   ·exact .inr (hc w (List.mem_append_left _ (List.mem_filter.2 ⟨hw,by simpa using hb⟩)))
  have hw:(ws.map (lkp env)).map (zdf m ev')=ws.map (zdf m ev):=by
   rw[List.map_map]
   exact List.map_congr_left fun w hw=>(hw1 w hw).symm
  have hl:(ws.map (lkp env)).length=ws.length:=List.length_map _
  by_cases hq:isQ k
  ·have hs:∀v:Int,zcI m (zbT (vg used) s (env++[(⟨nm,(vg used n).1⟩:zbR)]) (vg used n).2).1 (ev'++[(⟨(vg used n).1,v⟩:zcl)])=zcI m s (ev++[(⟨nm,v⟩:zcl)]):=fun v=>by
    obtain⟨a1,_,a3,_⟩:=zeJ used n
    rw[if_pos hq]at hc
    refine zjR m s _ (bd++[nm]) _ _ _ hv.2.2.2.2.2.2 (fun w hw2=>?_) fun x hx=>hc x (List.mem_append_right _ hx)
    rw[zeH,zeP,zeP]
    have hvg:(vg used n).1=zh5 (zfB used n):=rfl
    have hvg2:(vg used n).2=zfB used n+1:=rfl
    by_cases e:nm=w
    ·rw[if_pos e,if_pos e]
     exact⟨(if_pos rfl).symm,.inr ⟨zfB used n,by omega,hvg⟩⟩
    ·rw[if_neg e,if_neg e]
     have hw3:w∈bd∨w∈U:=by
      rcases hw2 with h|h
      ·rcases List.mem_append.1 h with h|h
       ·exact .inl h
       ·exact absurd (List.mem_singleton.1 h).symm e
      ·exact .inr h
     obtain⟨h1,h2⟩:=he w hw3
     refine⟨?_,?_⟩
     ·rw[if_neg (fun h=>?_)]
      ·exact h1
      ·rw[hvg]at h
       rcases h2 with h2|⟨j,hj,h2⟩
       ·exact a3 (by rw[h];exact h2)
       ·have:=zkb (h.trans h2);omega
     ·rcases h2 with h2|⟨j,hj,h2⟩
      ·exact .inl h2
      ·exact .inr ⟨j,by omega,h2⟩
   rw[ren,if_pos hq]
   rw[zpG,zpG]
   rcases hq with rfl|rfl<;>simp only[hs,reduceIte,show¬((8:Int)=1) by decide,show¬((8:Int)=2) by decide,show¬((8:Int)=3) by decide,show¬((8:Int)=4) by decide,show¬((8:Int)=5) by decide,show¬((8:Int)=6) by decide,show¬((8:Int)=7) by decide,
    show¬((9:Int)=1) by decide,show¬((9:Int)=2) by decide,show¬((9:Int)=3) by decide,show¬((9:Int)=4) by decide,show¬((9:Int)=5) by decide,show¬((9:Int)=6) by decide,show¬((9:Int)=7) by decide,show¬((9:Int)=8) by decide,if_false,if_true]
  ·rw[if_neg hq]at hc
   have hs:=zjR m s env bd n ev ev' hv.2.2.2.2.2.2 he fun x hx=>hc x (List.mem_append_right _ hx)
   have h8:¬k=8:=fun e=>hq (.inl e)
   have h9:¬k=9:=fun e=>hq (.inr e)
   rw[ren,if_neg hq]
   rw[zpG,zpG]
   simp only[hs,h8,h9,if_false,hw,hl]
   by_cases h3:k=3
   ·have h2:=hv.2.2.2.1 h3
    obtain⟨a,b,rfl⟩:∃a b,ws=[a,b]:=by
     match ws,h2 with
     |[a,b],_=>exact⟨a,b,rfl⟩
    subst h3
    have e0:=hw1 a (by simp)
    have e1:=hw1 b (by simp)
    simp only[List.map_cons,List.map_nil,List.getD_cons_zero,List.getD_cons_succ]
    rw[e0,e1]
   ·simp only[h3,if_false]
theorem zjR (m:zcZ){used U:List Str}:∀(fs:List zac) (env:List zbR) (bd:List Str) (n:Nat) (ev ev':List zcl),zgg fs→
  (∀w,w∈bd∨w∈U→zdf m ev w=zdf m ev' (lkp env w)∧(lkp env w∈used∨∃j,j<n∧lkp env w=zh5 j))→(∀x∈zdD fs bd,x∈U)→zcI m (zbT (vg used) fs env n).1 ev'=zcI m fs ev
 |[],env,bd,n,ev,ev',hv,he,hc=>by rw[zbT,zcI,zcI]
 |f::fs,env,bd,n,ev,ev',hv,he,hc=>by
  rw[zgg]at hv
  rw[zdD]at hc
  rw[zbT]
  simp only
  rw[zcI,zcI,zwC m f env bd n ev ev' hv.1 he fun x hx=>hc x (List.mem_append_left _ hx),
   zjR m fs env bd _ ev ev' hv.2 (fun w hw=>?_) fun x hx=>hc x (List.mem_append_right _ hx)]
  obtain⟨h1,h2⟩:=he w hw
  refine⟨h1,?_⟩
  rcases h2 with h2|⟨j,hj,h2⟩
  ·exact .inl h2
  ·have:=((zrN (zwX used)).1 f env n).1
   exact .inr ⟨j,by omega,h2⟩
end
mutual
theorem zsZ:∀(f f':zac) (E:PE),Aeq E f f'→zrq f=zrq f'
 | .mk k nm ws s,.mk k' nm' ws' s',E,h=>by
  rw[Aeq]at h
  obtain⟨rfl,_,_,h4⟩:=h
  rw[zrq,zrq,zko s s' _ h4]
theorem zko:∀(f f':List zac) (E:PE),zb8 E f f'→ziK f=ziK f'
 |[],[],_,_=>rfl
 |f::fs,f'::fs',E,h=>by
  rw[zb8]at h
  rw[ziK,ziK,zsZ f f' E h.1,zko fs fs' E h.2]
 |[],_::_,_,h=>by rw[zb8]at h;exact h.elim
 |_::_,[],_,h=>by rw[zb8]at h;exact h.elim
end
mutual
theorem zsY (m:zcZ):∀(f f':zac) (E:PE),Aeq E f f'→zyw m f=zyw m f'
 | .mk k nm ws s,.mk k' nm' ws' s',E,h=>by
  rw[Aeq]at h
  obtain⟨rfl,h2,h3,h4⟩:=h
  rw[zyw,zyw,zkn m s s' _ h4,zfS h3]
  by_cases hk:k=2
  ·rw[h2 (by rw[hk];decide)]
  ·simp[hk]
theorem zkn (m:zcZ):∀(f f':List zac) (E:PE),zb8 E f f'→zpe m f=zpe m f'
 |[],[],_,_=>rfl
 |f::fs,f'::fs',E,h=>by
  rw[zb8]at h
  rw[zpe,zpe,zsY m f f' E h.1,zkn m fs fs' E h.2]
 |[],_::_,_,h=>by rw[zb8]at h;exact h.elim
 |_::_,[],_,h=>by rw[zb8]at h;exact h.elim
end
end Go.Abs
namespace Go.Abs
open Go
mutual
theorem zwD (g:Nat→Str×Nat):∀(f:zac) (env:List zbR) (n:Nat),vok f→vok (ren g f env n).1
 | .mk k nm ws s,env,n,h=>by
  rw[vok]at h
  rw[ren]
  split
  ·rw[vok,List.length_map,zdW]
   exact⟨h.1,h.2.1,h.2.2.1,h.2.2.2.1,h.2.2.2.2.1,h.2.2.2.2.2.1,zjS g s _ _ h.2.2.2.2.2.2⟩
  ·rw[vok,List.length_map,zdW]
   exact⟨h.1,h.2.1,h.2.2.1,h.2.2.2.1,h.2.2.2.2.1,h.2.2.2.2.2.1,zjS g s _ _ h.2.2.2.2.2.2⟩
theorem zjS (g:Nat→Str×Nat):∀(fs:List zac) (env:List zbR) (n:Nat),zgg fs→zgg (zbT g fs env n).1
 |[],env,n,_=>by rw[zbT,zgg];trivial
 |f::fs,env,n,h=>by
  rw[zgg]at h
  rw[zbT,zgg]
  exact⟨zwD g f env n h.1,zjS g fs env _ h.2⟩
end
end Go.Abs
namespace Go.Abs
open Go
theorem zwp {f:zac}(h:vok f):vok (.mk 4 ⟨[]⟩ [] [f]):=by
 rw[vok,zgg,zgg]
 exact⟨by decide,by decide,fun e=>absurd e (by decide),fun e=>absurd e (by decide),fun _=>rfl,fun e=>by omega,h,trivial⟩
end Go.Abs
namespace Go.Abs
open Go
structure Gd (f:zac):Prop where
 s:shp false f
 w:zbD (fun w=>zai w=true) f
 v:vok f
theorem Gd.of {f:zac}(h:(zaL false f).code=0):Gd f:=⟨zf0 h,ze0 h,zis h⟩
theorem Gd.not {f:zac}(h:Gd f):Gd (zuG f):=by
 unfold zuG
 refine⟨?_,?_,zwp h.v⟩
 ·rw[shp,zdu,zdu];exact⟨⟨rfl,rfl,fun h=>Bool.noConfusion (show false=true from h),fun _=>rfl⟩,h.s,trivial⟩
 ·rw[zbD,zaz,zaz];exact⟨by simp,fun h=>absurd h (by decide),h.w,trivial⟩
theorem Gd.two {k:Int}{f g:zac}(hk:k=5∨k=6∨k=7)(h:Gd f)(h':Gd g):Gd (zqI k f g):=by
 unfold zqI
 rcases hk with rfl|rfl|rfl
 all_goals
  refine⟨?_,?_,?_⟩
  ·rw[shp,zdu,zdu,zdu];exact⟨⟨rfl,rfl,fun h=>Bool.noConfusion (show false=true from h),fun _=>rfl⟩,h.s,h'.s,trivial⟩
  ·rw[zbD,zaz,zaz,zaz];exact⟨by simp,fun h=>absurd h (by decide),h.w,h'.w,trivial⟩
  ·rw[vok,zgg,zgg,zgg]
   exact⟨by decide,by decide,fun e=>absurd e (by decide),fun e=>absurd e (by decide),fun e=>by omega,fun _=>rfl,h.v,h'.v,trivial⟩
theorem Gd.bind {k:Int}{x:Str}{f:zac}(hk:k=8∨k=9)(hx:zai x=true)(h:Gd f):Gd (.mk k x [] [f]):=by
 rcases hk with rfl|rfl
 all_goals
  refine⟨?_,?_,?_⟩
  ·rw[shp,zdu,zdu];exact⟨⟨rfl,rfl,fun _ h=>absurd (by first|exact(.inl rfl:isQ 8)|exact(.inr rfl:isQ 9)) h,fun h=>Bool.noConfusion (show true=false from h)⟩,h.s,trivial⟩
  ·rw[zbD,zaz,zaz];exact⟨by simp,fun _=>hx,h.w,trivial⟩
  ·rw[vok,zgg,zgg]
   exact⟨by decide,by decide,fun e=>absurd e (by decide),fun e=>absurd e (by decide),fun _=>rfl,fun e=>by omega,h.v,trivial⟩
theorem Gd.within {k:Int}{f:zac}(hk:k=8∨k=9)(h:Gd f):∀{l:List Str},(∀x∈l,zai x=true)→Gd (zbS k l f)
 |[],_=>h
 |x::l,hl=>by rw[zbS];exact Gd.bind hk (hl x (by simp)) (Gd.within hk h fun y hy=>hl y (by simp[hy]))
theorem zdl:∀(refs l:List Str),(zaV refs l).1=0→(∀x∈l,zai x=true)∧(∀x∈l,x∉refs)∧l.Pairwise (· ≠·)
 |refs,[],_=>⟨by simp,by simp,.nil⟩
 |refs,x::l,h=>by
  rw[zaV]at h
  split at h
  ·simp at h
  rename_i h1
  split at h
  ·simp at h
  rename_i h2
  obtain⟨i1,i2,i3⟩:=zdl (refs++[x]) l h
  refine⟨fun y hy=>?_,fun y hy=>?_,List.pairwise_cons.2 ⟨fun y hy e=>?_,i3⟩⟩
  ·rcases List.mem_cons.1 hy with rfl|hy
   ·simpa using h1
   ·exact i1 y hy
  ·rcases List.mem_cons.1 hy with rfl|hy
   ·exact h2
   ·exact fun h=>i2 y hy (List.mem_append_left _ h)
  ·exact i2 y hy (by rw[e];simp)
mutual
def nmC:zal→Prop
 | .mk _ _ _ bs=>zzs bs
def nmB:Box→Prop
 | .mk r cs=>(∀x∈r,zai x=true)∧zzt cs
def zzs:List Box→Prop
 |[]=>True
 |b::bs=>nmB b∧zzs bs
def zzt:List zal→Prop
 |[]=>True
 |c::cs=>nmC c∧zzt cs
end
mutual
theorem zvs:∀(b:Box) (d m:Int) (n:Nat) (refs:List Str),(zcm b d m n refs).e.code=0→nmB b
 | .mk r cs,d,m,n,refs,h=>by
  rw[zcm]at h
  rw[nmB]
  split at h
  ·simp at h
  split at h
  ·simp at h
  split at h
  ·rename_i h3;exact absurd h h3
  rename_i h3
  exact⟨(zdl _ _ (Decidable.not_not.1 h3)).1,zkH r cs d _ _ h⟩
theorem zkH:∀(r:List Str) (cs:List zal) (d:Int) (n:Nat) (refs:List Str),(zaI r cs d n refs).e.code=0→zzt cs
 |r,[],d,n,refs,_=>by rw[zzt];trivial
 |r,c::cs,d,n,refs,h=>by
  rw[zaI]at h
  rw[zzt]
  split at h
  ·rename_i h3;exact absurd h h3
  rename_i h3
  exact⟨zs9 r c d n refs (Decidable.not_not.1 h3),zkH r cs d _ _ h⟩
theorem zs9:∀(r:List Str) (c:zal) (d:Int) (n:Nat) (refs:List Str),(zb7 r c d n refs).e.code=0→nmC c
 |r,.mk k nm f bs,d,n,refs,h=>by
  rw[zb7]at h
  rw[nmC]
  split at h
  ·simp at h
  split at h
  ·rename_i h4;exact absurd h h4
  exact znk bs _ _ _ _ h
theorem znk:∀(bs:List Box) (d m:Int) (n:Nat) (refs:List Str),(zbv bs d m n refs).e.code=0→zzs bs
 |[],d,m,n,refs,_=>by rw[zzs];trivial
 |b::bs,d,m,n,refs,h=>by
  rw[zbv]at h
  rw[zzs]
  split at h
  ·rename_i h3;exact absurd h h3
  rename_i h3
  exact⟨zvs b d m n refs (Decidable.not_not.1 h3),znk bs d m _ _ h⟩
end
mutual
theorem zsA (m:zcZ){U:List Str}:∀(f:zac) (bd:List Str) (ev ev':List zcl),vok f→
  (∀w,w∈bd∨w∈U→zdf m ev w=zdf m ev' w)→(∀x∈cst f bd,x∈U)→zpG m f ev=zpG m f ev'
 | .mk k nm ws s,bd,ev,ev',hv,he,hc=>by
  rw[vok]at hv
  rw[cst]at hc
  have hw1:∀w∈ws,zdf m ev w=zdf m ev' w:=fun w hw=>by
   refine he w ?_
   by_cases hb:w∈bd
   ·exact .inl hb
   ·exact .inr (hc w (List.mem_append_left _ (List.mem_filter.2 ⟨hw,by simpa using hb⟩)))
  have hw:ws.map (zdf m ev)=ws.map (zdf m ev'):=List.map_congr_left hw1
  by_cases hq:isQ k
  ·have hs:∀v:Int,zcI m s (ev++[(⟨nm,v⟩:zcl)])=zcI m s (ev'++[(⟨nm,v⟩:zcl)]):=fun v=>by
    rw[if_pos hq]at hc
    refine zgf m s (bd++[nm]) _ _ hv.2.2.2.2.2.2 (fun w hw2=>?_) fun x hx=>hc x (List.mem_append_right _ hx)
    rw[zeP,zeP]
    by_cases e:nm=w
    ·rw[if_pos e,if_pos e]
    ·rw[if_neg e,if_neg e]
     refine he w ?_
     rcases hw2 with h|h
     ·rcases List.mem_append.1 h with h|h
      ·exact .inl h
      ·exact absurd (List.mem_singleton.1 h).symm e
     ·exact .inr h
   rw[zpG,zpG]
   simp only[hs,hw]
   rcases hq with rfl|rfl<;>simp only[show¬((8:Int)=1) by decide,show¬((8:Int)=2) by decide,show¬((8:Int)=3) by decide,show¬((8:Int)=4) by decide,show¬((8:Int)=5) by decide,show¬((8:Int)=6) by decide,show¬((8:Int)=7) by decide,
    show¬((9:Int)=1) by decide,show¬((9:Int)=2) by decide,show¬((9:Int)=3) by decide,show¬((9:Int)=4) by decide,show¬((9:Int)=5) by decide,show¬((9:Int)=6) by decide,show¬((9:Int)=7) by decide,show¬((9:Int)=8) by decide,if_false]
  ·rw[if_neg hq]at hc
   have hs:=zgf m s bd ev ev' hv.2.2.2.2.2.2 he fun x hx=>hc x (List.mem_append_right _ hx)
   have h8:¬k=8:=fun e=>hq (.inl e)
   have h9:¬k=9:=fun e=>hq (.inr e)
   rw[zpG,zpG]
   simp only[hs,h8,h9,if_false,hw]
   by_cases h3:k=3
   ·have h2:=hv.2.2.2.1 h3
    obtain⟨a,b,rfl⟩:∃a b,ws=[a,b]:=by
     match ws,h2 with
     |[a,b],_=>exact⟨a,b,rfl⟩
    have e0:=hw1 a (by simp)
    have e1:=hw1 b (by simp)
    simp only[List.getD_cons_zero,List.getD_cons_succ]
    rw[e0,e1]
   ·simp only[h3,if_false]
theorem zgf (m:zcZ){U:List Str}:∀(fs:List zac) (bd:List Str) (ev ev':List zcl),zgg fs→
  (∀w,w∈bd∨w∈U→zdf m ev w=zdf m ev' w)→(∀x∈zdD fs bd,x∈U)→zcI m fs ev=zcI m fs ev'
 |[],bd,ev,ev',hv,he,hc=>by rw[zcI,zcI]
 |f::fs,bd,ev,ev',hv,he,hc=>by
  rw[zgg]at hv
  rw[zdD]at hc
  rw[zcI,zcI,zsA m f bd ev ev' hv.1 he fun x hx=>hc x (List.mem_append_left _ hx),zgf m fs bd ev ev' hv.2 he fun x hx=>hc x (List.mem_append_right _ hx)]
end
end Go.Abs
namespace Go.Abs
open Go
end Go.Abs
namespace Go.Abs
open Go
def cnn (f:zac):zac:=zb4 f []
def ngg (f:zac):zac:=zb4 (zGp f) []
def zfV (f:zac):zac:=f.subs.getD 0 (.mk 0 ⟨[]⟩ [] [])
def zxS (f:zac):zac:=f.subs.getD 1 (.mk 0 ⟨[]⟩ [] [])
def zeo (f:zac):Int×List zac×zac×Bool:=
 if f.kind=5 then(1,[cnn (zfV f),cnn (zxS f)],zgI,false)
 else if f.kind=6 then(2,[cnn (zfV f),cnn (zxS f)],zgI,false)
 else if f.kind=7 then(2,[ngg (zfV f),cnn (zxS f)],zgI,false)
 else if f.kind=8 then(3,[],f,false)
 else if f.kind=9 then(4,[],f,false)
 else if f.kind=4 then
  if(zfV f).kind=4 then(1,[cnn (zfV (zfV f))],zgI,false)
  else if(zfV f).kind=5 then(2,[ngg (zfV (zfV f)),ngg (zxS (zfV f))],zgI,false)
  else if(zfV f).kind=6 then(1,[ngg (zfV (zfV f)),ngg (zxS (zfV f))],zgI,false)
  else if(zfV f).kind=7 then(1,[cnn (zfV (zfV f)),ngg (zxS (zfV f))],zgI,false)
  else if(zfV f).kind=8 then(4,[],zfV f,true)
  else if(zfV f).kind=9 then(3,[],zfV f,true)
  else(0,[],zgI,false)
 else(0,[],zgI,false)
structure brF (f:zac):Prop where
 v:vok f
 ft:f.fit=true
 s:f.size≤800
theorem brF.sub {f g:zac}(h:brF f)(hg:g∈f.subs):brF g:=by
 have hv:=h.v
 obtain⟨k,nm,ws,s⟩:=f
 rw[vok]at hv
 have hf:=h.ft
 rw[zac.fit]at hf
 simp only[Bool.and_eq_true]at hf
 exact⟨(zkc s).1 hv.2.2.2.2.2.2 g hg,zac.fits_mem hf.2 hg,by have:=zac.size_sub hg;have:=h.s;omega⟩
def zlG (c:List zbR)(w:Str):Str:=c.foldl (fun r l=>if r=l.fr then l.to else r) w
structure wfC (c:List zbR):Prop where
 d:∀i j (hi:i<c.length) (hj:j<c.length),j<i→c[j].fr≠c[i].fr
 t:∀i j (hi:i<c.length) (hj:j<c.length),j≤i→c[j].fr≠c[i].to
def zGm (c:List zbR)(f:zac):List zbR:=
 if f.kind≠3 then c
 else if zlG c (f.words.getD 0 ⟨[]⟩)=zlG c (f.words.getD 1 ⟨[]⟩)then c
 else c++[⟨zlG c (f.words.getD 0 ⟨[]⟩),zlG c (f.words.getD 1 ⟨[]⟩)⟩]
def zDw (l:List zac):List zbR:=l.foldl zGm []
def zBn (c:List zbR)(f g:zac):Bool:=decide (f.kind=2)&&decide (g.kind=2)&&decide (f.name=g.name)&&decide (f.words.map (zlG c)=g.words.map (zlG c))
def zFS (c:List zbR)(f:zac):Bool:=decide (f.kind=4)&&(decide ((zfV f).kind=1)||decide ((zfV f).kind=3)&&decide (zlG c ((zfV f).words.getD 0 ⟨[]⟩)=zlG c ((zfV f).words.getD 1 ⟨[]⟩)))
end Go.Abs
namespace Go.Abs
open Go
inductive Prf where
 |mk (kind form other:Int) (name:Str) (subs:List Prf)
namespace Prf
def kind:Prf→Int|mk k _ _ _ _=>k
def form:Prf→Int|mk _ f _ _ _=>f
def other:Prf→Int|mk _ _ o _ _=>o
def name:Prf→Str|mk _ _ _ n _=>n
def subs:Prf→List Prf|mk _ _ _ _ s=>s
end Prf
@[go_sem] theorem zA1 {k f o n s}:(Prf.mk k f o n s).kind=k:=rfl
@[go_sem] theorem zA0 {k f o n s}:(Prf.mk k f o n s).form=f:=rfl
@[go_sem] theorem zzB {k f o n s}:(Prf.mk k f o n s).other=o:=rfl
@[go_sem] theorem zA2 {k f o n s}:(Prf.mk k f o n s).name=n:=rfl
@[go_sem] theorem zA3 {k f o n s}:(Prf.mk k f o n s).subs=s:=rfl
@[go_sem] theorem zDb {p:Prf}:Prf.mk p.kind p.form p.other p.name p.subs=p:=by cases p;rfl
mutual
def zxa:Prf→FD
 | .mk k f o n s=> .agg [.i .i64 k,.i .i64 f,.i .i64 o,.s n.l,.sl (zoW s)]
def zoW:List Prf→List FD
 |[]=>[]
 |f::fs=>zxa f::zoW fs
end
mutual
def zw4:FD→Prf
 | .agg [.i _ k,.i _ f,.i _ o,.s n,.sl s]=> .mk k f o ⟨n⟩ (zoO s)
 |_=> .mk 0 0 0 ⟨[]⟩ []
def zoO:List FD→List Prf
 |[]=>[]
 |x::xs=>zw4 x::zoO xs
end
mutual
theorem zkS:∀f,zw4 (zxa f)=f
 | .mk k f o n s=>by simp only[zxa,zw4,zhn s]
theorem zhn:∀s,zoO (zoW s)=s
 |[]=>rfl
 |f::fs=>by simp only[zoW,zoO,zkS f,zhn fs]
end
instance:Enc Prf:=⟨zxa,zw4,zkS⟩
theorem zk0:∀s:List Prf,zoW s=s.map enc
 |[]=>rfl
 |f::fs=>by rw[zoW,zk0 fs];rfl
theorem zkT:∀s:List FD,zoO s=dec (α:=List Prf) (.sl s)
 |[]=>rfl
 |f::fs=>by rw[zoO,zkT fs];rfl
@[go_sem] theorem zqR {p:Prf}:enc p= .agg [.i .i64 p.kind,.i .i64 p.form,.i .i64 p.other,.s p.name.l,.sl (p.subs.map enc)]:=by
 cases p with
 |mk k f o n s=>show zxa _=_;rw[zxa,zk0];rfl
@[go_sem] theorem zBB {i j h k f o n s}:dec (α:=Prf) (.agg [.i i k,.i j f,.i h o,.s n,.sl s])= .mk k f o ⟨n⟩ (dec (.sl s)):=by
 show zw4 _=_;rw[zw4,zkT]
instance:Kc Prf 5:=⟨fun f=>by rw[zqR];rfl⟩
@[go_sem] theorem zzk {l:List Prf}:zbi (l.map enc) 5=True:=eq_true (zek l)
@[go_sem] theorem zxg {l:List Prf}:(zag (l.map enc)).all zcJ=true:=by
 rw[List.all_eq_true]
 intro d hd
 simp only[zag,List.mem_flatMap,List.mem_map]at hd
 obtain⟨_,⟨a,_,rfl⟩,x,hx,rfl⟩:=hd
 simp only[zqR,FD.cells,List.mem_cons,List.not_mem_nil,or_false]at hx
 rcases hx with rfl|rfl|rfl|rfl|rfl<;>rfl
mutual
def Prf.size:Prf→Nat
 | .mk _ _ _ _ s=>Prf.sizes s+1
def Prf.sizes:List Prf→Nat
 |[]=>0
 |f::fs=>f.size+Prf.sizes fs
end
theorem Prf.size_mem:∀{l:List Prf} {f:Prf},f∈l→f.size≤Prf.sizes l
 |g::l,f,h=>by
  rw[Prf.sizes]
  rcases List.mem_cons.1 h with rfl|h
  ·omega
  ·have:=Prf.size_mem h;omega
theorem Prf.size_sub {f g:Prf}(h:g∈f.subs):g.size<f.size:=by
 cases f with
 |mk k f o n w=>rw[Prf.size];have:=Prf.size_mem (show g∈w from h);omega
mutual
def zye:Prf→Int→Int
 | .mk _ _ _ _ s,n=>zoF s (n+1)
def zoF:List Prf→Int→Int
 |[],n=>n
 |x::xs,n=>if 2000<n then n else zoF xs (zye x n)
end
mutual
theorem zvB:∀(p:Prf) (n:Int),n≤2000→n+1≤zye p n∧zye p n≤2001
 | .mk k f o nm s,n,h=>by
  rw[zye]
  have:=znB s (n+1) (by omega)
  omega
theorem znB:∀(s:List Prf) (n:Int),n≤2001→n≤zoF s n∧zoF s n≤2001
 |[],n,h=>by rw[zoF];omega
 |x::xs,n,h=>by
  rw[zoF]
  split
  ·omega
  ·have h1:=zvB x n (by omega)
   have h2:=znB xs (zye x n) h1.2
   omega
end
end Go.Abs
namespace Go.Abs
open Go
def zx7 (f:zac)(name:Str):zac:=zb4 (zfV f) [⟨f.name,name⟩]
def zyy (q:zac)(turned:Bool)(name:Str):zac:=if turned then ngg (zx7 q name)else zx7 q name
def zGq (l:List zac)(name:Str):Bool:=l.any fun f=>decide (name∈zka f)
def zzL (f:zac)(nm:Str):Str:=if f.words.getD 0 ⟨[]⟩=nm then f.words.getD 1 ⟨[]⟩else f.words.getD 0 ⟨[]⟩
def inL (l:List zac)(i:Int):Bool:=decide (0≤i)&&decide (i<l.length)
def atL (l:List zac)(i:Int):zac:=l.getD i.toNat zgI
def zyd (l:List zac)(f g:zac):Bool:=decide (ngg f=g)||decide (g.kind=4)&&zBn (zDw l) f (zfV g)
def zFR (k fo ot:Int)(nm:Str)(cs:List (List zac→Bool))(l:List zac):Bool:=
 if inL l fo=false then false
 else if k=1 then decide (cs.length=0)&&inL l ot&&(if ot=fo then zFS (zDw l) (atL l fo)else zyd l (atL l fo) (atL l ot))
 else if k=2 then decide ((zeo (atL l fo)).1=1)&&decide (cs.length=1)&&cs.getD 0 (fun _=>false) (l++(zeo (atL l fo)).2.1)
 else if k=3 then decide ((zeo (atL l fo)).1=2)&&decide (cs.length=2)&&cs.getD 0 (fun _=>false) (l++[(zeo (atL l fo)).2.1.getD 0 zgI])&&cs.getD 1 (fun _=>false) (l++[(zeo (atL l fo)).2.1.getD 1 zgI])
 else if k=4 then decide ((zeo (atL l fo)).1=3)&&zai nm&&decide (cs.length=1)&&cs.getD 0 (fun _=>false) (l++[zyy (zeo (atL l fo)).2.2.1 (zeo (atL l fo)).2.2.2 nm])
 else if k=5 then decide ((zeo (atL l fo)).1=4)&&zai nm&& !zGq l nm&&decide (cs.length=1)&&cs.getD 0 (fun _=>false) (l++[zyy (zeo (atL l fo)).2.2.1 (zeo (atL l fo)).2.2.2 nm])
 else if k=6 then decide ((atL l fo).kind=3)&&inL l ot&&decide (cs.length=1)&&decide (nm∈(atL l fo).words)&&cs.getD 0 (fun _=>false) (l++[zb4 (atL l ot) [⟨nm,zzL (atL l fo) nm⟩]])
 else false
mutual
def zFQ:Prf→List zac→Bool
 | .mk k fo ot nm s,l=>zFR k fo ot nm (zya s) l
def zya:List Prf→List (List zac→Bool)
 |[]=>[]
 |p::ps=>zFQ p::zya ps
end
end Go.Abs
namespace Go.Abs
open Go
def jn (sep:List UInt8):List Str→List UInt8
 |[]=>[]
 |w::ws=>w.l++ws.flatMap fun v=>sep++v.l
theorem zq4 {sep:List UInt8}{ws:List Str}{i:Nat}(h:i<ws.length):jn sep (ws.take (i+1))=if i=0 then ws[i].l else jn sep (ws.take i)++sep++ws[i].l:=by
 cases ws with
 |nil=>simp at h
 |cons w ws=>
  cases i with
  |zero=>simp[jn]
  |succ i=>
   have h2:i<ws.length:=by simpa using h
   rw[if_neg (by omega),List.take_succ_cons,List.take_succ_cons,jn,jn,List.take_succ_eq_append_getElem h2,List.flatMap_append]
   simp
theorem zht {sep:List UInt8}{ws:List Str}{i:Nat}:(jn sep (ws.take i)).length≤(jn sep ws).length:=by
 cases ws with
 |nil=>simp
 |cons w ws=>
  cases i with
  |zero=>simp[jn]
  |succ i=>
   rw[List.take_succ_cons,jn,jn,List.length_append,List.length_append]
   have:=congrArg (fun l=>(l.flatMap fun v=>sep++Str.l v).length) (List.take_append_drop i ws)
   simp only[List.flatMap_append,List.length_append]at this
   omega
def txN (k:Int)(nm:Str)(ws:List Str)(ts:List (List UInt8)):List UInt8:=
 if k=1 then[116,114,117,101]
 else if k=2 then nm.l++[40]++jn [44] ws++[41]
 else if k=3 then nm.l++[40]++jn [32,61,32] ws++[41]
 else if k=4 then 45::ts.getD 0 []
 else if k=8 then[97,108,108,32]++nm.l++[32]++ts.getD 0 []
 else if k=9 then[115,111,109,101,32]++nm.l++[32]++ts.getD 0 []
 else[40]++ts.getD 0 []++(if k=5 then[32,38,32]else if k=6 then[32,124,32]else[32,62,32])++ts.getD 1 []++[41]
mutual
def txt:zac→List UInt8
 | .mk k nm ws s=>txN k nm ws (zFD s)
def zFD:List zac→List (List UInt8)
 |[]=>[]
 |f::fs=>txt f::zFD fs
end
theorem zug {f:zac}(h:f.kind=2):txt f=f.name.l++[40]++jn [44] f.words++[41]:=by
 obtain⟨k,nm,ws,s⟩:=f
 rw[zaG]at h;subst h;rw[txt];rfl
theorem zuh {f:zac}(h:f.kind=3):txt f=f.name.l++[40]++jn [32,61,32] f.words++[41]:=by
 obtain⟨k,nm,ws,s⟩:=f
 rw[zaG]at h;subst h;rw[txt];rfl
def txS (f:zac):Str:=⟨txt f⟩
structure txP (f:zac):Prop where
 v:vok f
 ft:f.fit=true
 l:(txt f).length≤1000000000
theorem txP.sub {f g:zac}(h:txP f)(hg:g∈f.subs)(hl:(txt g).length≤(txt f).length):txP g:=by
 have hv:=h.v
 obtain⟨k,nm,ws,s⟩:=f
 rw[vok]at hv
 have hf:=h.ft
 rw[zac.fit]at hf
 simp only[Bool.and_eq_true]at hf
 exact⟨(zkc s).1 hv.2.2.2.2.2.2 g hg,zac.fits_mem hf.2 hg,Nat.le_trans hl h.l⟩
end Go.Abs
namespace Go.Abs
open Go
structure txW (f:zac):Prop where
 s:shp false f
 a:zbD (fun w=>zai w=true) f
theorem zcM {w:Str}(h:zai w=true):(∃c r,w.l=c::r∧zf4 c)∧∀c∈w.l,okc c:=by
 obtain⟨h1,_,h2,h3⟩:=of_decide_eq_true h
 constructor
 ·cases hw:w.l with
  |nil=>rw[hw]at h1;simp at h1
  |cons c r=>rw[hw]at h2;exact⟨c,r,rfl,h2⟩
 ·intro c hc
  obtain⟨j,hj,rfl⟩:=List.getElem_of_mem hc
  have:=h3 j hj
  rwa [List.getD_eq_getElem?_getD,List.getElem?_eq_getElem hj]at this
theorem ziZ:∀{u v s t:List UInt8},(∀c∈u,okc c)→(∀c∈v,okc c)→(∀c r,s=c::r→¬okc c)→(∀c r,t=c::r→¬okc c)→u++s=v++t→u=v∧s=t
 |[],[],_,_,_,_,_,_,h=>⟨rfl,h⟩
 |[],c::v,s,t,_,hv,hs,_,h=>absurd (hv c (by simp)) (hs c (v++t) h)
 |c::u,[],s,t,hu,_,_,ht,h=>absurd (hu c (by simp)) (ht c (u++s) h.symm)
 |c::u,d::v,s,t,hu,hv,hs,ht,h=>by
  rw[List.cons_append,List.cons_append,List.cons.injEq]at h
  obtain⟨h1,h2⟩:=ziZ (fun x hx=>hu x (List.mem_cons_of_mem _ hx)) (fun x hx=>hv x (List.mem_cons_of_mem _ hx)) hs ht h.2
  exact⟨by rw[h.1,h1],h2⟩
theorem znT {c:UInt8}(h:c=32∨c=40∨c=41∨c=44):∀d r x,c::x=d::r→¬okc d:=by
 intro d r x e
 obtain⟨rfl,_⟩:=List.cons.inj e
 rcases h with rfl|rfl|rfl|rfl<;>decide
def zFC (s:List UInt8):Prop:=∀c r,s=c::r→c=32∨c=41
theorem zFC.no {s:List UInt8}(h:zFC s):∀c r,s=c::r→¬okc c:=fun c r e=>by
 rcases h c r e with rfl|rfl<;>decide
theorem zl6:∀{ws vs:List Str} {s t:List UInt8},(∀w∈ws,zai w=true)→(∀w∈vs,zai w=true)→(ws.flatMap fun v=>[44]++v.l)++41::s=(vs.flatMap fun v=>[44]++v.l)++41::t→ws=vs∧s=t
 |[],[],_,_,_,_,h=>⟨rfl,(List.cons.inj h).2⟩
 |[],v::vs,_,_,_,_,h=>by simp at h
 |w::ws,[],_,_,_,_,h=>by simp at h
 |w::ws,v::vs,s,t,h1,h2,h=>by
  simp only[List.flatMap_cons,List.append_assoc,List.cons_append,List.nil_append,List.cons.injEq,true_and]at h
  have nx:∀(l:List Str) (x:List UInt8) c r,(l.flatMap fun v=>44::v.l)++41::x=c::r→¬okc c:=by
   intro l x c r e
   cases l with
   |nil=>exact znT (c:=41) (by simp) c r x e
   |cons y l=>
    simp only[List.flatMap_cons,List.cons_append]at e
    obtain⟨rfl,_⟩:=List.cons.inj e
    decide
  obtain⟨e1,e2⟩:=ziZ (zcM (h1 w (by simp))).2 (zcM (h2 v (by simp))).2 (nx ws s) (nx vs t) h
  obtain⟨e3,e4⟩:=zl6 (fun x hx=>h1 x (List.mem_cons_of_mem _ hx)) (fun x hx=>h2 x (List.mem_cons_of_mem _ hx)) (by simpa using e2)
  exact⟨by rw[e3,show w=v by cases w;cases v;exact congrArg Str.mk e1],e4⟩
theorem zv2 {ws vs:List Str}{s t:List UInt8}(h1:∀w∈ws,zai w=true)(h2:∀w∈vs,zai w=true)(h:jn [44] ws++41::s=jn [44] vs++41::t):ws=vs∧s=t:=by
 have low41:∀(w:Str) (x y:List UInt8),zai w=true→41::x≠w.l++y:=fun w x y hw e=>by
  obtain⟨⟨c,r,e1,e2⟩,_⟩:=zcM hw
  rw[e1,List.cons_append]at e
  obtain⟨rfl,_⟩:=List.cons.inj e
  exact absurd e2 (by decide)
 cases ws with
 |nil=>
  cases vs with
  |nil=>exact⟨rfl,(List.cons.inj h).2⟩
  |cons v vs=>
   rw[jn,jn,List.append_assoc]at h
   exact absurd h (low41 v _ _ (h2 v (by simp)))
 |cons w ws=>
  cases vs with
  |nil=>
   rw[jn,jn,List.append_assoc]at h
   exact absurd h.symm (low41 w _ _ (h1 w (by simp)))
  |cons v vs=>
   exact zl6 h1 h2 (by
    rw[jn,jn]at h
    simp only[List.flatMap_cons,List.append_assoc,List.cons_append,List.nil_append,List.cons.injEq,true_and]at h ⊢
    exact h)
theorem zst {f:zac}(h:txW f):f= .mk 1 ⟨[]⟩ [] []∨(∃nm ws,f= .mk 2 nm ws []∧zai nm=true∧∀w∈ws,zai w=true)∨(∃a b,f= .mk 3 ⟨[]⟩ [a,b] []∧zai a=true∧zai b=true)∨
  (∃a,f= .mk 4 ⟨[]⟩ [] [a]∧txW a)∨(∃k a b,(k=5∨k=6∨k=7)∧f= .mk k ⟨[]⟩ [] [a,b]∧txW a∧txW b)∨(∃k nm a,(k=8∨k=9)∧f= .mk k nm [] [a]∧zai nm=true∧txW a):=by
 obtain⟨hs,ha⟩:=h
 obtain⟨k,nm,ws,s⟩:=f
 rw[shp]at hs
 rw[zbD]at ha
 obtain⟨⟨h1,h2,h3,h4⟩,h5⟩:=hs
 obtain⟨h6,h7,h8⟩:=ha
 simp only[zaG,zcd,zcX,zbV]at h1 h2 h3 h4
 have hp:za2 false (.mk k nm ws s)=zcn k:=by unfold za2;simp[zaG]
 rw[hp]at h1
 have hw0:¬k=2→¬k=3→ws=[]:=fun e1 e2=>by
  have h2':(if k=2 then decide (ws.length≤3)else if k=3 then decide (ws.length=2)else decide (ws.length=0))=true:=h2
  rw[if_neg e1,if_neg e2]at h2'
  exact List.length_eq_zero_iff.1 (by simpa using h2')
 have hn0:¬(k=2∨k=8∨k=9∨k=10)→nm=⟨[]⟩:=fun e=>h4 (decide_eq_false e)
 have hk:k=1∨k=2∨k=3∨k=4∨(k=5∨k=6∨k=7)∨(k=8∨k=9):=by
  unfold zcn at h1
  repeat'(first|omega|split at h1)
 rcases hk with rfl|rfl|rfl|rfl|hk|hk
 ·refine .inl ?_
  rw[hw0 (by decide) (by decide),hn0 (by decide),List.length_eq_zero_iff.1 (show s.length=0 by have:zcn 1=0:=rfl;omega)]
 ·refine .inr (.inl ⟨nm,ws,?_,h3 (by unfold named;rfl) (by unfold isQ;decide),h6⟩)
  rw[List.length_eq_zero_iff.1 (show s.length=0 by have:zcn 2=0:=rfl;omega)]
 ·have e:ws.length=2:=by
   have h2':decide (ws.length=2)=true:=h2
   simpa using h2'
  match ws,e with
  |[a,b],_=>
   refine .inr (.inr (.inl ⟨a,b,?_,h6 a (by simp),h6 b (by simp)⟩))
   rw[hn0 (by decide),List.length_eq_zero_iff.1 (show s.length=0 by have:zcn 3=0:=rfl;omega)]
 ·have e:s.length=1:=by have:zcn 4=1:=rfl;omega
  match s,e with
  |[a],_=>
   rw[zdu]at h5
   rw[zaz]at h8
   refine .inr (.inr (.inr (.inl ⟨a,?_,h5.1,h8.1⟩)))
   rw[hw0 (by decide) (by decide),hn0 (by decide)]
 ·have e:s.length=2:=by have:zcn k=2:=by rcases hk with rfl|rfl|rfl<;>rfl
                        omega
  match s,e with
  |[a,b],_=>
   rw[zdu,zdu]at h5
   rw[zaz,zaz]at h8
   refine .inr (.inr (.inr (.inr (.inl ⟨k,a,b,hk,?_,⟨h5.1,h8.1⟩,⟨h5.2.1,h8.2.1⟩⟩))))
   rw[hw0 (by omega) (by omega),hn0 (by omega)]
 ·have e:s.length=1:=by have:zcn k=1:=by rcases hk with rfl|rfl<;>rfl
                        omega
  match s,e with
  |[a],_=>
   rw[zdu]at h5
   rw[zaz]at h8
   refine .inr (.inr (.inr (.inr (.inr ⟨k,nm,a,hk,?_,h7 (by unfold isQ;rcases hk with rfl|rfl<;>decide),⟨h5.1,h8.1⟩⟩))))
   rw[hw0 (by omega) (by omega)]
theorem tx2 {nm:Str}{ws:List Str}:txt (.mk 2 nm ws [])=nm.l++[40]++jn [44] ws++[41]:=zug rfl
theorem tx3 {a b:Str}:txt (.mk 3 ⟨[]⟩ [a,b] [])=[40]++(a.l++[32,61,32]++b.l)++[41]:=by
 rw[zuh rfl]
 simp[zcd,zcX,jn]
theorem zmQ {w:Str}(hw:zai w=true){x y:List UInt8}{c:UInt8}(hc:¬zf4 c):w.l++x≠c::y:=fun e=>by
 obtain⟨⟨d,z,e1,e2⟩,_⟩:=zcM hw
 rw[e1,List.cons_append]at e
 rw[(List.cons.inj e).1]at e2
 exact hc e2
theorem zoa {a b:Str}(h:a.l=b.l):a=b:=by cases a;cases b;exact congrArg Str.mk h
theorem zA7 {nm:Str}{ws:List Str}{s:List UInt8}:txt (.mk 2 nm ws [])++s=nm.l++40::(jn [44] ws++41::s):=by rw[tx2];simp
theorem zA8 {a b:Str}{s:List UInt8}:txt (.mk 3 ⟨[]⟩ [a,b] [])++s=40::(a.l++32::61::(32::(b.l++41::s))):=by rw[tx3];simp
theorem n40 {x:List UInt8}:∀c r,40::x=c::r→¬okc c:=fun c r e=>znT (c:=40) (by simp) c r x e
theorem n32 {x:List UInt8}:∀c r,32::x=c::r→¬okc c:=fun c r e=>znT (c:=32) (by simp) c r x e
theorem n41 {x:List UInt8}:∀c r,41::x=c::r→¬okc c:=fun c r e=>znT (c:=41) (by simp) c r x e
mutual
def nam:zac→Prop
 | .mk k nm _ s=>(k=3→nm.l=[])∧zEG s
def zEG:List zac→Prop
 |[]=>True
 |f::fs=>nam f∧zEG fs
end
structure txQ (f:zac):Prop where
 p:txP f
 n:nam f
end Go.Abs
