/- several texts of this proof in one; no conditions -/
import Derived.Test.YtalbdmcklgglbaaDoorY10
import Derived.Test.YtalbdmcklgglbaaDoorY11
set_option linter.unusedSimpArgs false
namespace Go.Abs
open Go
def zBx:zac:= .mk 1 ⟨[]⟩ [] []
def zuG (f:zac):zac:= .mk 4 ⟨[]⟩ [] [f]
def zqI (k:Int)(f g:zac):zac:= .mk k ⟨[]⟩ [] [f,g]
def zbS (k:Int):List Str→zac→zac
 |[],f=>f
 |r::rs,f=> .mk k r [] [zbS k rs f]
structure BV where
 refs:List Str
 f:zac
 ok:Bool
def bv0:BV:=⟨[],zBx,true⟩
def BV.whole (v:BV):zac:=zbS 9 v.refs v.f
def zBv (k:Int)(f:zac)(l:List BV):zac×Bool:=
 if k=2 then(zuG (l.getD 0 bv0).whole,(l.getD 0 bv0).ok)
 else if k=3 then(zbS 8 (l.getD 0 bv0).refs (zqI 7 (l.getD 0 bv0).f (l.getD 1 bv0).whole),(l.getD 0 bv0).ok&&(l.getD 1 bv0).ok)
 else if k=4 then(zqI 6 (l.getD 0 bv0).whole (l.getD 1 bv0).whole,(l.getD 0 bv0).ok&&(l.getD 1 bv0).ok)
 else if k=5∨k=6 then(f,false)else(f,true)
def goC:List (zac×Bool)→Nat→zac→zac×Bool
 |[],_,f=>(f,true)
 |(g,ok)::l,i,f=>if ok=false then(f,false)else goC l (i+1) (if i=0 then g else zqI 5 f g)
mutual
def zBt:zal→zac×Bool
 | .mk k _ f bs=>zBv k f (zuv bs)
def zx8:Box→zac×Bool
 | .mk _ cs=>goC (zuE cs) 0 zBx
def zuv:List Box→List BV
 |[]=>[]
 |b::bs=>⟨b.refs,(zx8 b).1,(zx8 b).2⟩::zuv bs
def zuE:List zal→List (zac×Bool)
 |[]=>[]
 |c::cs=>zBt c::zuE cs
end
def zBX:List zac→zac
 |[]=>zBx
 |l=>zdG 5 l
def zBu (k:Int)(f:zac)(l:List BV):List zac:=
 if k=1 then[f]else if k=2 then[zuG (l.getD 0 bv0).whole]
 else if k=3 then[zbS 8 (l.getD 0 bv0).refs (zqI 7 (l.getD 0 bv0).f (l.getD 1 bv0).whole)]
 else if k=4 then[zqI 6 (l.getD 0 bv0).whole (l.getD 1 bv0).whole]else[]
mutual
def zBs:zal→List zac
 | .mk k _ f bs=>zBu k f (zuu bs)
def zBr:Box→zac
 | .mk _ cs=>zBX (zuD cs)
def zuu:List Box→List BV
 |[]=>[]
 |b::bs=>⟨b.refs,zBr b,true⟩::zuu bs
def zuD:List zal→List zac
 |[]=>[]
 |c::cs=>zBs c++zuD cs
end
mutual
def zih:zal→Bool
 | .mk k _ _ bs=>decide (4<k)||zeT bs
def zeu:Box→Bool
 | .mk _ cs=>zfN cs
def zeT:List Box→Bool
 |[]=>false
 |b::bs=>zeu b||zeT bs
def zfN:List zal→Bool
 |[]=>false
 |c::cs=>zih c||zfN cs
end
theorem zl3:∀bs:List Box,zeT bs=bs.any zeu
 |[]=>rfl
 |b::bs=>by rw[zeT,zl3 bs];rfl
theorem zna (c:zal):zih c=(decide (4<c.kind)||c.boxes.any zeu):=by
 cases c;rw[zih,zl3];rfl
mutual
def zwr:zal→Prop
 | .mk k _ f bs=>(1≤k∧k≤6∧(bs.length:Int)=zax k∧(k=1→(zaL false f).code=0))∧ztV bs
def okB:Box→Prop
 | .mk _ cs=>ztX cs
def ztV:List Box→Prop
 |[]=>True
 |b::bs=>okB b∧ztV bs
def ztX:List zal→Prop
 |[]=>True
 |c::cs=>zwr c∧ztX cs
end
theorem zbj {c:zal}{r:List Str}(h:zbb c r=0):1≤c.kind∧c.kind≤6∧(c.boxes.length:Int)=zax c.kind∧(c.kind=1→(zaL false c.form).code=0):=by
 unfold zbb at h
 by_cases h1:zax c.kind<0
 ·rw[if_pos h1]at h;exact absurd h (by decide)
 rw[if_neg h1]at h
 by_cases h2:(c.boxes.length:Int)=zax c.kind
 rotate_left
 ·rw[if_pos h2]at h;exact absurd h (by decide)
 rw[if_neg (fun e=>e h2)]at h
 have hk:1≤c.kind∧c.kind≤6:=by
  unfold zax at h1
  by_cases a1:c.kind=1∨c.kind=5
  ·omega
  rw[if_neg a1]at h1
  by_cases a2:c.kind=2∨c.kind=6
  ·omega
  rw[if_neg a2]at h1
  by_cases a3:c.kind=3∨c.kind=4
  ·omega
  rw[if_neg a3]at h1
  exact absurd (by decide) h1
 refine⟨hk.1,hk.2,h2,fun hk1=>?_⟩
 by_cases h3:(c.kind≠5∧c.name≠⟨[]⟩∨0<zax c.kind∧zbJ c.form=false)
 ·rw[if_pos h3]at h;exact absurd h (by decide)
 rw[if_neg h3,if_neg (by rw[hk1];decide)]at h
 by_cases h4:(zaL false c.form).code=0
 ·exact h4
 ·rw[if_pos h4]at h;exact h
mutual
theorem zqf:∀(b:Box) (d m:Int) (n:Nat) (refs:List Str),(zcm b d m n refs).e.code=0→okB b
 | .mk r cs,d,m,n,refs,h=>by
  rw[zcm]at h
  rw[okB]
  split at h
  ·simp at h
  split at h
  ·simp at h
  split at h
  ·rename_i h3;exact absurd h h3
  exact zkJ r cs d _ _ h
theorem zkJ:∀(r:List Str) (cs:List zal) (d:Int) (n:Nat) (refs:List Str),(zaI r cs d n refs).e.code=0→ztX cs
 |r,[],d,n,refs,_=>by rw[ztX];trivial
 |r,c::cs,d,n,refs,h=>by
  rw[zaI]at h
  rw[ztX]
  split at h
  ·rename_i h3;exact absurd h h3
  rename_i h3
  exact⟨ztb r c d n refs (Decidable.not_not.1 h3),zkJ r cs d _ _ h⟩
theorem ztb:∀(r:List Str) (c:zal) (d:Int) (n:Nat) (refs:List Str),(zb7 r c d n refs).e.code=0→zwr c
 |r,.mk k nm f bs,d,n,refs,h=>by
  rw[zb7]at h
  rw[zwr]
  split at h
  ·simp at h
  split at h
  ·rename_i h4;exact absurd h h4
  rename_i h4
  exact⟨zbj (c:= .mk k nm f bs) (Decidable.not_not.1 h4),znm bs _ _ _ _ h⟩
theorem znm:∀(bs:List Box) (d m:Int) (n:Nat) (refs:List Str),(zbv bs d m n refs).e.code=0→ztV bs
 |[],d,m,n,refs,_=>by rw[ztV];trivial
 |b::bs,d,m,n,refs,h=>by
  rw[zbv]at h
  rw[ztV]
  split at h
  ·rename_i h3;exact absurd h h3
  rename_i h3
  exact⟨zqf b d m n refs (Decidable.not_not.1 h3),znm bs d m _ _ h⟩
end
theorem zED {bs:List Box}(h:(bs.length:Int)=1):∃a,bs=[a]:=by
 match bs,h with
 |[a],_=>exact⟨a,rfl⟩
 |[],h=>simp at h
 |_::_::_,h=>simp only[List.length_cons]at h;omega
theorem zAS {bs:List Box}(h:(bs.length:Int)=0):bs=[]:=by
 cases bs with
 |nil=>rfl
 |cons _ _=>simp only[List.length_cons]at h;omega
theorem zfX {b:Box}(h:(zcy b).code=0):okB b:=zqf b 1 200 0 [] h
theorem zgy (k:Int):∀(l:List Str) (f:zac),(zbS k l f).size=l.length+f.size
 |[],f=>by rw[zbS];simp
 |r::rs,f=>by rw[zbS,zac.size,zac.sizes,zac.sizes,zgy k rs f,List.length_cons];omega
theorem zh6 (k:Int):∀(l:List Str) (f:zac),(zbS k l f).fit=f.fit
 |[],f=>by rw[zbS]
 |r::rs,f=>by rw[zbS,zac.fit,zac.fits,zac.fits,zh6 k rs f];simp
theorem zfO (k:Int):∀(l:List Str) (f:zac),clean f→clean (zbS k l f)
 |[],f,h=>by rw[zbS];exact h
 |r::rs,f,h=>by rw[zbS,clean,zbE,zbE];exact⟨by simp,zfO k rs f h,trivial⟩
structure Sm (m:Nat)(f:zac):Prop where
 size:f.size≤m
 fit:f.fit=true
 clean:clean f
theorem Sm.within {m:Nat}{k:Int}{l:List Str}{f:zac}(h:Sm m f):Sm (l.length+m) (zbS k l f):=
 ⟨by rw[zgy];have:=h.size;omega,by rw[zh6];exact h.fit,zfO k l f h.clean⟩
theorem Sm.not {m:Nat}{f:zac}(h:Sm m f):Sm (m+1) (zuG f):=
 ⟨by rw[zuG,zac.size,zac.sizes,zac.sizes];have:=h.size;omega,by rw[zuG,zac.fit,zac.fits,zac.fits,h.fit];simp,by rw[zuG,Abs.clean,zbE,zbE];exact⟨by simp,h.clean,trivial⟩⟩
theorem Sm.two {m m':Nat}{k:Int}{f g:zac}(h:Sm m f)(h':Sm m' g):Sm (m+m'+1) (zqI k f g):=
 ⟨by rw[zqI,zac.size,zac.sizes,zac.sizes,zac.sizes];have:=h.size;have:=h'.size;omega,by rw[zqI,zac.fit,zac.fits,zac.fits,zac.fits,h.fit,h'.fit];simp,by rw[zqI,Abs.clean,zbE,zbE,zbE];exact⟨by simp,h.clean,h'.clean,trivial⟩⟩
theorem Sm.mono {m m':Nat}{f:zac}(h:Sm m f)(hm:m≤m'):Sm m' f:=⟨Nat.le_trans h.size hm,h.fit,h.clean⟩
end Go.Abs
namespace Go.Abs
open Go
mutual
def zbD (p:Str→Prop):zac→Prop
 | .mk k nm ws s=>(∀w∈ws,p w)∧(isQ k→p nm)∧zaz p s
def zaz (p:Str→Prop):List zac→Prop
 |[]=>True
 |f::fs=>zbD p f∧zaz p fs
end
mutual
def zfz (σ:Str→Str):zac→zac
 | .mk k nm ws s=> .mk k (if isQ k then σ nm else nm) (ws.map σ) (zbW σ s)
def zbW (σ:Str→Str):List zac→List zac
 |[]=>[]
 |f::fs=>zfz σ f::zbW σ fs
end
theorem zlo (σ:Str→Str):∀l:List zac,zbW σ l=l.map (zfz σ)
 |[]=>by rw[zbW];rfl
 |f::l=>by rw[zbW,zlo σ l];rfl
theorem zg5 (p:Str→Prop):∀l:List zac,zaz p l↔∀f∈l,zbD p f
 |[]=>by rw[zaz];simp
 |f::l=>by rw[zaz,zg5 p l];simp
mutual
theorem zkp {p q:Str→Prop}(h:∀w,p w→q w):∀f:zac,zbD p f→zbD q f
 | .mk k nm ws s,hf=>by
  rw[zbD]at hf ⊢
  exact⟨fun w hw=>h w (hf.1 w hw),fun hk=>h nm (hf.2.1 hk),zip h s hf.2.2⟩
theorem zip {p q:Str→Prop}(h:∀w,p w→q w):∀fs:List zac,zaz p fs→zaz q fs
 |[],_=>by rw[zaz];trivial
 |f::fs,hf=>by rw[zaz]at hf ⊢;exact⟨zkp h f hf.1,zip h fs hf.2⟩
end
mutual
theorem zov {p:Str→Prop}(h:∀w,p w→¬zmc w):∀f:zac,zbD p f→clean f
 | .mk k nm ws s,hf=>by rw[zbD]at hf;rw[clean];exact⟨fun w hw=>h w (hf.1 w hw),zg4 h s hf.2.2⟩
theorem zg4 {p:Str→Prop}(h:∀w,p w→¬zmc w):∀fs:List zac,zaz p fs→zbE fs
 |[],_=>by rw[zbE];trivial
 |f::fs,hf=>by rw[zaz]at hf;rw[zbE];exact⟨zov h f hf.1,zg4 h fs hf.2⟩
end
mutual
theorem zrg (σ:Str→Str):∀f:zac,(zfz σ f).size=f.size
 | .mk k nm ws s=>by rw[zfz,zac.size,zac.size,zhA σ s]
theorem zhA (σ:Str→Str):∀fs:List zac,zac.sizes (zbW σ fs)=zac.sizes fs
 |[]=>by rw[zbW]
 |f::fs=>by rw[zbW,zac.sizes,zac.sizes,zrg σ f,zhA σ fs]
end
mutual
theorem zpk (σ:Str→Str):∀f:zac,(zfz σ f).depth=f.depth
 | .mk k nm ws s=>by rw[zfz,zac.depth,zac.depth,zgr σ s]
theorem zgr (σ:Str→Str):∀fs:List zac,zac.depths (zbW σ fs)=zac.depths fs
 |[]=>by rw[zbW]
 |f::fs=>by rw[zbW,zac.depths,zac.depths,zpk σ f,zgr σ fs]
end
theorem zrh (σ:Str→Str)(l:List zac):(zbW σ l).length=l.length:=by rw[zlo,List.length_map]
mutual
theorem ztO (σ:Str→Str):∀f:zac,(zfz σ f).fit=f.fit
 | .mk k nm ws s=>by rw[zfz,zac.fit,zac.fit,ziJ σ s,List.length_map,zrh]
theorem ziJ (σ:Str→Str):∀fs:List zac,zac.fits (zbW σ fs)=zac.fits fs
 |[]=>by rw[zbW]
 |f::fs=>by rw[zbW,zac.fits,zac.fits,ztO σ f,ziJ σ fs]
end
theorem zla (σ:Str→Str)(k:Int)(hk:¬isQ k):∀(l:List zac) (f:zac),zfz σ (l.foldl (fun a x=>zac.mk k ⟨[]⟩ [] [a,x]) f)=(l.map (zfz σ)).foldl (fun a x=>zac.mk k ⟨[]⟩ [] [a,x]) (zfz σ f)
 |[],f=>rfl
 |x::l,f=>by
  rw[List.foldl_cons,zla σ k hk l,List.map_cons,List.foldl_cons]
  simp only[zfz,zbW,if_neg hk,List.map_nil]
theorem zq6 (σ:Str→Str)(k:Int)(hk:¬isQ k)(l:List zac):zfz σ (zdG k l)=zdG k (l.map (zfz σ)):=by
 cases l with
 |nil=>simp[zdG,zfz,zbW,isQ]
 |cons f l=>exact zla σ k hk l f
theorem ziC (p:Str→Prop)(k:Int)(hk:¬isQ k):∀(l:List zac) (f:zac),zbD p f→zaz p l→zbD p (l.foldl (fun a x=>zac.mk k ⟨[]⟩ [] [a,x]) f)
 |[],f,h,_=>h
 |x::l,f,h,hl=>by
  rw[List.foldl_cons]
  rw[zaz]at hl
  refine ziC p k hk l _ ?_ hl.2
  simp only[zbD,zaz]
  exact⟨by simp,fun h=>absurd h hk,h,hl.1,trivial⟩
theorem ziF (p:Str→Prop)(k:Int)(hk:¬isQ k){l:List zac}(h:zaz p l):zbD p (zdG k l):=by
 cases l with
 |nil=>simp[zdG,zbD,zaz,isQ]
 |cons f l=>rw[zaz]at h;exact ziC p k hk l f h.1 h.2
mutual
theorem zkK:∀(f:zac) (bd:List Str) (x:Str),x∈cst f bd→x∉bd
 | .mk k nm ws s,bd,x,h=>by
  rw[cst,List.mem_append]at h
  rcases h with h|h
  ·simpa using(List.mem_filter.1 h).2
  ·have:=zix s _ x h
   split at this
   ·exact fun hb=>this (List.mem_append_left _ hb)
   ·exact this
theorem zix:∀(fs:List zac) (bd:List Str) (x:Str),x∈zdD fs bd→x∉bd
 |[],bd,x,h=>by rw[zdD]at h;simp at h
 |f::fs,bd,x,h=>by
  rw[zdD,List.mem_append]at h
  rcases h with h|h
  ·exact zkK f bd x h
  ·exact zix fs bd x h
end
mutual
theorem znE {p:Str→Prop}:∀(f:zac) (bd:List Str) (x:Str),zbD p f→x∈cst f bd→p x
 | .mk k nm ws s,bd,x,hf,h=>by
  rw[zbD]at hf
  rw[cst,List.mem_append]at h
  rcases h with h|h
  ·exact hf.1 x (List.mem_filter.1 h).1
  ·exact zkL s _ x hf.2.2 h
theorem zkL {p:Str→Prop}:∀(fs:List zac) (bd:List Str) (x:Str),zaz p fs→x∈zdD fs bd→p x
 |[],bd,x,_,h=>by rw[zdD]at h;simp at h
 |f::fs,bd,x,hf,h=>by
  rw[zaz]at hf
  rw[zdD,List.mem_append]at h
  rcases h with h|h
  ·exact znE f bd x hf.1 h
  ·exact zkL fs bd x hf.2 h
end
mutual
theorem zvC {σ:Str→Str}{p:Str→Prop}(hi:∀a b,p a→p b→σ a=σ b→a=b):∀(f:zac) (bd:List Str),zbD p f→(∀b∈bd,p b)→cst (zfz σ f) (bd.map σ)=(cst f bd).map σ
 | .mk k nm ws s,bd,hf,hb=>by
  rw[zbD]at hf
  rw[zfz,cst,cst,List.map_append]
  congr 1
  ·rw[List.filter_map]
   congr 1
   refine List.filter_congr fun w hw=>?_
   simp only[Function.comp]
   rw[decide_eq_decide]
   constructor
   ·intro h hw2;exact h (List.mem_map_of_mem hw2)
   ·intro h hw2
    obtain⟨b,hb2,e⟩:=List.mem_map.1 hw2
    exact h (hi b w (hb b hb2) (hf.1 w hw) e▸hb2)
  ·by_cases hq:isQ k
   ·rw[if_pos hq,if_pos hq,if_pos hq]
    have:=zjl hi s (bd++[nm]) hf.2.2 fun b hb2=>by
     rcases List.mem_append.1 hb2 with h|h
     ·exact hb b h
     ·rw[List.mem_singleton.1 h];exact hf.2.1 hq
    rw[List.map_append]at this
    exact this
   ·rw[if_neg hq,if_neg hq]
    exact zjl hi s bd hf.2.2 hb
theorem zjl {σ:Str→Str}{p:Str→Prop}(hi:∀a b,p a→p b→σ a=σ b→a=b):∀(fs:List zac) (bd:List Str),zaz p fs→(∀b∈bd,p b)→zdD (zbW σ fs) (bd.map σ)=(zdD fs bd).map σ
 |[],bd,_,_=>by rw[zbW,zdD,zdD];rfl
 |f::fs,bd,hf,hb=>by
  rw[zaz]at hf
  rw[zbW,zdD,zdD,List.map_append,zvC hi f bd hf.1 hb,zjl hi fs bd hf.2 hb]
end
theorem zrd {σ:Str→Str}{p:Str→Prop}(hi:∀a b,p a→p b→σ a=σ b→a=b){env:List zbR}{w:Str}(hw:p w)(he:∀b∈env,p b.fr):
  lkp (env.map fun b=>⟨σ b.fr,b.to⟩) (σ w)=lkp env w∨(lkp (env.map fun b=>⟨σ b.fr,b.to⟩) (σ w)=σ w∧lkp env w=w∧w∉env.map (·.fr)):=by
 have key:∀i,i≤env.length→ziH (env.map fun b=>⟨σ b.fr,b.to⟩) (σ w) i=ziH env w i∨(ziH (env.map fun b=>⟨σ b.fr,b.to⟩) (σ w) i=σ w∧ziH env w i=w∧∀j (h:j<env.length),j<i→env[j].fr≠w):=by
  intro i
  induction i with
  |zero=>intro _;exact .inr ⟨rfl,rfl,fun j h1 h2=>by omega⟩
  |succ i ih=>
   intro hi2
   have hlt:i<env.length:=by omega
   have e1:env.getD i default=env[i]:=by rw[List.getD_eq_getElem?_getD,List.getElem?_eq_getElem hlt];rfl
   have e2:(env.map fun b=>(⟨σ b.fr,b.to⟩:zbR)).getD i default=⟨σ env[i].fr,env[i].to⟩:=by
    rw[List.getD_eq_getElem?_getD,List.getElem?_map,List.getElem?_eq_getElem hlt];rfl
   rw[ziH,ziH,e1,e2]
   by_cases hc:env[i].fr=w
   ·rw[if_pos hc,if_pos (by simp only;rw[hc])]
    exact .inl rfl
   ·rw[if_neg hc,if_neg (fun e=>hc (hi _ _ (he _ (List.getElem_mem hlt)) hw e))]
    rcases ih (by omega)with h|⟨h1,h2,h3⟩
    ·exact .inl h
    ·refine .inr ⟨h1,h2,fun j hj hji=>?_⟩
     rcases Nat.lt_or_ge j i with h|h
     ·exact h3 j hj h
     ·obtain rfl:j=i:=by omega
      exact hc
 rcases key env.length (Nat.le_refl _)with h|⟨h1,h2,h3⟩
 ·refine .inl ?_
  unfold lkp;rw[List.length_map];exact h
 ·refine .inr ⟨?_,h2,fun hm=>?_⟩
  ·unfold lkp;rw[List.length_map];exact h1
  ·obtain⟨b,hb,e⟩:=List.mem_map.1 hm
   obtain⟨j,hj,rfl⟩:=List.getElem_of_mem hb
   exact h3 j hj hj e
mutual
theorem zBo {g:Nat→Str×Nat}{σ:Str→Str}{p:Str→Prop}(hi:∀a b,p a→p b→σ a=σ b→a=b):∀(f:zac) (env:List zbR) (n:Nat),zbD p f→(∀b∈env,p b.fr)→(∀x∈cst f (env.map (·.fr)),σ x=x)→
  ren g (zfz σ f) (env.map fun b=>⟨σ b.fr,b.to⟩) n=ren g f env n
 | .mk k nm ws s,env,n,hf,he,hc=>by
  rw[zbD]at hf
  rw[cst]at hc
  have hw:(ws.map σ).map (lkp (env.map fun b=>⟨σ b.fr,b.to⟩))=ws.map (lkp env):=by
   rw[List.map_map]
   refine List.map_congr_left fun w hw=>?_
   rcases zrd hi (hf.1 w hw) he with e|⟨e1,e2,e3⟩
   ·exact e
   ·show lkp _ (σ w)=_
    rw[e1,e2]
    exact hc w (List.mem_append_left _ (List.mem_filter.2 ⟨hw,by simpa using e3⟩))
  rw[zfz,ren,ren,hw]
  by_cases hq:isQ k
  ·rw[if_pos hq]at hc
   simp only[if_pos hq]
   have h3:=zp7 (g:=g) hi s (env++[⟨nm,(g n).1⟩]) (g n).2 hf.2.2 (fun b hb=>by
    rcases List.mem_append.1 hb with h|h
    ·exact he b h
    ·rw[List.mem_singleton.1 h];exact hf.2.1 hq) (fun x hx=>hc x (List.mem_append_right _ (by rw[List.map_append]at hx;exact hx)))
   rw[List.map_append]at h3
   simp only[List.map_cons,List.map_nil]at h3
   rw[h3]
  ·rw[if_neg hq]at hc
   simp only[if_neg hq]
   rw[zp7 hi s env n hf.2.2 he fun x hx=>hc x (List.mem_append_right _ hx)]
theorem zp7 {g:Nat→Str×Nat}{σ:Str→Str}{p:Str→Prop}(hi:∀a b,p a→p b→σ a=σ b→a=b):∀(fs:List zac) (env:List zbR) (n:Nat),zaz p fs→(∀b∈env,p b.fr)→(∀x∈zdD fs (env.map (·.fr)),σ x=x)→
  zbT g (zbW σ fs) (env.map fun b=>⟨σ b.fr,b.to⟩) n=zbT g fs env n
 |[],env,n,_,_,_=>by rw[zbW,zbT,zbT]
 |f::fs,env,n,hf,he,hc=>by
  rw[zaz]at hf
  rw[zdD]at hc
  rw[zbW,zbT,zbT,zBo hi f env n hf.1 he fun x hx=>hc x (List.mem_append_left _ hx)]
  rw[zp7 hi fs env _ hf.2 he fun x hx=>hc x (List.mem_append_right _ hx)]
end
mutual
theorem zwB {g:Nat→Str×Nat}{σ:Str→Str}(hg:∀k,σ (g k).1=(g k).1):∀(f:zac) (env env':List zbR) (n:Nat),zbD (fun w=>σ w=w) f→env'.map (·.fr)=env.map (·.fr)→env'.map (·.to)=env.map (fun b=>σ b.to)→
  ren g f env' n=(zfz σ (ren g f env n).1,(ren g f env n).2)
 | .mk k nm ws s,env,env',n,hf,e1,e2=>by
  rw[zbD]at hf
  have hw:ws.map (lkp env')=(ws.map (lkp env)).map σ:=by
   rw[List.map_map]
   exact List.map_congr_left fun w hw=>zwn e1 e2 (hf.1 w hw)
  rw[ren,ren,hw]
  by_cases hq:isQ k
  ·simp only[if_pos hq]
   have h3:=zjP (g:=g) hg s (env++[⟨nm,(g n).1⟩]) (env'++[⟨nm,(g n).1⟩]) (g n).2 hf.2.2 (by rw[List.map_append,List.map_append,e1]) (by rw[List.map_append,List.map_append,e2];simp only[List.map_cons,List.map_nil,hg])
   rw[h3]
   simp only[zfz,if_pos hq,hg]
  ·simp only[if_neg hq]
   rw[zjP hg s env env' n hf.2.2 e1 e2]
   simp only[zfz,if_neg hq]
theorem zjP {g:Nat→Str×Nat}{σ:Str→Str}(hg:∀k,σ (g k).1=(g k).1):∀(fs:List zac) (env env':List zbR) (n:Nat),zaz (fun w=>σ w=w) fs→env'.map (·.fr)=env.map (·.fr)→env'.map (·.to)=env.map (fun b=>σ b.to)→
  zbT g fs env' n=(zbW σ (zbT g fs env n).1,(zbT g fs env n).2)
 |[],env,env',n,_,_,_=>by rw[zbT,zbT,zbW]
 |f::fs,env,env',n,hf,e1,e2=>by
  rw[zaz]at hf
  rw[zbT,zbT,zwB hg f env env' n hf.1 e1 e2]
  simp only
  rw[zjP hg fs env env' _ hf.2 e1 e2,zbW]
end
mutual
theorem zt5 {g:Nat→Str×Nat}{p:Str→Prop}(hg:∀k,p (g k).1):∀(f:zac) (env:List zbR) (n:Nat),zbD p f→(∀b∈env,p b.to)→zbD p (ren g f env n).1
 | .mk k nm ws s,env,n,hf,he=>by
  rw[zbD]at hf
  have hw:∀w∈ws.map (lkp env),p w:=fun w hw=>by
   obtain⟨x,hx,rfl⟩:=List.mem_map.1 hw
   rcases zuY env x with e|⟨b,hb,e⟩
   ·rw[e];exact hf.1 x hx
   ·rw[e];exact he b hb
  rw[ren]
  split
  ·rw[zbD]
   refine⟨hw,fun _=>hg n,zhP hg s _ _ hf.2.2 fun b hb=>?_⟩
   rcases List.mem_append.1 hb with h|h
   ·exact he b h
   ·rw[List.mem_singleton.1 h];exact hg n
  ·rename_i hq
   rw[zbD]
   exact⟨hw,fun h=>absurd h hq,zhP hg s _ _ hf.2.2 he⟩
theorem zhP {g:Nat→Str×Nat}{p:Str→Prop}(hg:∀k,p (g k).1):∀(fs:List zac) (env:List zbR) (n:Nat),zaz p fs→(∀b∈env,p b.to)→zaz p (zbT g fs env n).1
 |[],env,n,_,_=>by rw[zbT,zaz];trivial
 |f::fs,env,n,hf,he=>by
  rw[zaz]at hf
  rw[zbT,zaz]
  exact⟨zt5 hg f _ _ hf.1 he,zhP hg fs _ _ hf.2 he⟩
end
mutual
theorem znv {op:Bool}:∀(f:zac) (d:Int) (n:Nat),(chk op f d n).1.code=0→zbD (fun w=>zai w=true) f
 | .mk k nm w s,d,n,h=>by
  rw[chk]at h
  split at h
  ·rename_i h1;exact absurd h h1
  ·rename_i h1
   have h2:=zdb (Decidable.not_not.1 h1)
   rw[zbD]
   refine⟨fun x hx=>List.all_eq_true.1 h2.1 x hx,fun hq=>h2.2.1 ?_,zkE s _ _ h⟩
   unfold named
   have hq':k=8∨k=9:=hq
   have:(zac.mk k nm w s).kind=k:=rfl
   rw[this]
   exact decide_eq_true (by omega)
theorem zkE {op:Bool}:∀(fs:List zac) (d:Int) (n:Nat),(zd3 op fs d n).1.code=0→zaz (fun w=>zai w=true) fs
 |[],d,n,_=>by rw[zaz];trivial
 |f::fs,d,n,h=>by
  rw[zd3]at h
  split at h
  ·rename_i h1;exact absurd h h1
  ·rename_i h1
   rw[zaz]
   exact⟨znv f d n (Decidable.not_not.1 h1),zkE fs d _ h⟩
end
theorem ze0 {op:Bool}{f:zac}(h:(zaL op f).code=0):zbD (fun w=>zai w=true) f:=znv f 1 0 h
def qn (i:Nat):Str:=⟨63::zcO i⟩
def sg (w:Str):Str:=match w with
 |⟨c::t⟩=>if c=63 then⟨36::t⟩else⟨c::t⟩
 |⟨[]⟩=>⟨[]⟩
def wrap (v:Nat→Str):Nat→zac→zac
 |0,c=>c
 |i+1,c=>wrap v i (.mk 9 (v i) [] [c])
def lwP (n:Nat)(x:Str):Prop:=(x.l.head? =some 63→∃i,i<n∧x=qn i)∧x.l.head? ≠some 36∧¬zmc x
theorem ztN {n:Nat}{x:Str}(h:zai x=true):lwP n x:=by
 unfold zai at h
 have h:=(of_decide_eq_true h).2.2.1
 have hd:∀c:UInt8,x.l.head? =some c→zf4 c:=fun c hc=>by
  have h0:x.l.getD 0 0=c:=by rw[List.getD_eq_getElem?_getD,←List.head?_eq_getElem?,hc];rfl
  rwa [h0]at h
 exact⟨fun e=>absurd (hd 63 e) (by decide),fun e=>absurd (hd 36 e) (by decide),fun e=>absurd (hd 33 e) (by decide)⟩
def zGp (f:zac):zac:= .mk 4 ⟨[]⟩ [] [f]
end Go.Abs
namespace Go.Abs
open Go
mutual
def wfE:zac→Prop
 | .mk k nm _ s=>(k=5→s.length=2)∧(k=9→s.length=1)∧(k=2→nm.l≠[])∧zpS s
def zpS:List zac→Prop
 |[]=>True
 |f::fs=>wfE f∧zpS fs
end
mutual
theorem zvz {op:Bool}:∀(f:zac) (d:Int) (n:Nat),(chk op f d n).1.code=0→wfE f
 | .mk k nm w s,d,n,h=>by
  rw[chk]at h
  split at h
  ·rename_i h1;exact absurd h h1
  ·rename_i h1
   have h2:=zdb (Decidable.not_not.1 h1)
   have h3:=h2.2.2.2.2
   simp only[zbV]at h3
   rw[wfE]
   refine⟨fun e=>?_,fun e=>?_,fun e=>?_,znA s _ _ h⟩
   ·subst e
    have:za2 op (zac.mk 5 nm w s)=2:=by simp[za2,zcn,zaG]
    omega
   ·subst e
    have:za2 op (zac.mk 9 nm w s)=1:=by simp[za2,zcn,zaG]
    omega
   ·have hn:=h2.2.1 (by unfold named;exact decide_eq_true (.inl e))
    simp only[zcd]at hn
    unfold zai at hn
    have:=(of_decide_eq_true hn).1
    intro e2;rw[e2]at this;simp at this
theorem znA {op:Bool}:∀(fs:List zac) (d:Int) (n:Nat),(zd3 op fs d n).1.code=0→zpS fs
 |[],d,n,_=>by rw[zpS];trivial
 |f::fs,d,n,h=>by
  rw[zd3]at h
  split at h
  ·rename_i h1;exact absurd h h1
  ·rename_i h1
   rw[zpS]
   exact⟨zvz f d n (Decidable.not_not.1 h1),znA fs d _ h⟩
end
mutual
def zfx:zac→List zac
 | .mk k nm ws s=>if k=5∧s.length=2 then zhx s else[.mk k nm ws s]
def zhx:List zac→List zac
 |[]=>[]
 |f::fs=>zfx f++fs
end
theorem zra {f a b:zac}(hk:f.kind=5)(hs:f.subs=[a,b]):zfx f=zfx a++[b]:=by
 cases f with
 |mk k nm ws s=>
  simp only[zaG,zbV]at hk hs
  subst hk hs
  rw[zfx,if_pos ⟨rfl,rfl⟩,zhx]
theorem zrb {f:zac}(h:¬(f.kind=5∧f.subs.length=2)):zfx f=[f]:=by
 cases f with
 |mk k nm ws s=>
  simp only[zaG,zbV]at h
  rw[zfx,if_neg h]
def znG:zac:= .mk 0 ⟨[]⟩ [] []
def zb6 (f:zac):List zac:=zfx (f.subs.getD 0 znG)
def zgE (f:zac):zac:=(zb6 f).getD 0 znG
def okE (f:zac):Bool:=decide (f.kind=9)&&decide ((zgE f).kind=2)&&decide ((zgE f).words.length=1)&&decide ((zgE f).words.getD 0 ⟨[]⟩=f.name)
def zqa (i:Nat):Str:=⟨97::114::103::zcO (i+1)⟩
def zmI (f:zac)(i:Nat)(x:zac):Bool:=decide (x.kind=2)&&decide (x.name=zqa i)&&decide (x.words.length=2)&&decide (x.words.getD 0 ⟨[]⟩=f.name)&& !decide (x.words.getD 1 ⟨[]⟩=f.name)
def zfs (f:zac):Nat→Bool
 |0=>true
 |i+1=>zfs f i&&zmI f i ((zb6 f).getD (i+1) znG)
def zi4 (f:zac)(i:Nat):List Str:=(List.range i).map fun j=>((zb6 f).getD (j+1) znG).words.getD 1 ⟨[]⟩
def zcL (f:zac):Bool:=okE f&&decide (2≤(zb6 f).length)&&decide ((zb6 f).length≤4)&&zfs f ((zb6 f).length-1)
def zbl (f:zac):zac:=if zcL f then .mk 2 (zgE f).name (zi4 f ((zb6 f).length-1)) []else f
mutual
def zat (by':zac→zac):zac→zac
 | .mk k nm ws s=>by' (.mk k nm ws (zao by' s))
def zao (by':zac→zac):List zac→List zac
 |[]=>[]
 |f::fs=>zat by' f::zao by' fs
end
theorem za6 (by':zac→zac):∀l:List zac,zao by' l=l.map (zat by')
 |[]=>by rw[zao];rfl
 |f::l=>by rw[zao,za6 by' l];rfl
theorem zoB (by':zac→zac)(f:zac):zat by' f=by' (.mk f.kind f.name f.words (f.subs.map (zat by'))):=by cases f;rw[zat,za6];rfl
theorem znL {f:zac}:∀{n i:Nat},zfs f n=true→i<n→zmI f i ((zb6 f).getD (i+1) znG)=true
 |n+1,i,h,hi=>by
  rw[zfs,Bool.and_eq_true]at h
  rcases Nat.lt_or_ge i n with h1|h1
  ·exact znL h.1 h1
  ·obtain rfl:i=n:=by omega
   exact h.2
theorem zjF {f:zac}(h:okE f=true):f.kind=9∧(zgE f).kind=2:=by
 unfold okE at h
 simp only[Bool.and_eq_true,decide_eq_true_eq]at h
 exact⟨h.1.1.1,h.1.1.2⟩
theorem zeI {f:zac}(h:zcL f=true):okE f=true:=by
 unfold zcL at h
 simp only[Bool.and_eq_true]at h
 exact h.1.1.1
mutual
theorem zms {by':zac→zac}(hb:∀f,wfE f→wfE (by' f)):∀f:zac,wfE f→wfE (zat by' f)
 | .mk k nm ws s,h=>by
  rw[wfE]at h
  rw[zat]
  refine hb _ ?_
  rw[wfE,za6,List.length_map]
  refine⟨h.1,h.2.1,h.2.2.1,?_⟩
  rw[←za6]
  exact zd9 hb s h.2.2.2
theorem zd9 {by':zac→zac}(hb:∀f,wfE f→wfE (by' f)):∀fs:List zac,zpS fs→zpS (zao by' fs)
 |[],_=>by rw[zao,zpS];trivial
 |f::fs,h=>by rw[zpS]at h;rw[zao,zpS];exact⟨zms hb f h.1,zd9 hb fs h.2⟩
end
theorem zlt (f:zac):(zbl f).size≤f.size:=by
 unfold zbl
 split
 ·have:=f.size_pos;simp only[zac.size,zac.sizes];omega
 ·exact Nat.le_refl _
mutual
theorem zgl {by':zac→zac}{c:Nat}(hb:∀f,(by' f).size≤f.size+c):∀f:zac,(zat by' f).size≤f.size*(c+1)
 | .mk k nm ws s=>by
  rw[zat]
  have h1:=hb (.mk k nm ws (zao by' s))
  have h2:=zfl hb s
  rw[zac.size]at h1 ⊢
  rw[Nat.add_mul,Nat.one_mul]
  omega
theorem zfl {by':zac→zac}{c:Nat}(hb:∀f,(by' f).size≤f.size+c):∀fs:List zac,zac.sizes (zao by' fs)≤zac.sizes fs*(c+1)
 |[]=>by rw[zao,zac.sizes];omega
 |f::fs=>by
  rw[zao,zac.sizes,zac.sizes,Nat.add_mul]
  have h1:=zgl hb f
  have h2:=zfl hb fs
  omega
end
mutual
theorem zhe {by':zac→zac}(hb:∀f,f.fit=true→(by' f).fit=true):∀f:zac,f.fit=true→(zat by' f).fit=true
 | .mk k nm ws s,h=>by
  rw[zac.fit]at h
  simp only[Bool.and_eq_true]at h
  rw[zat]
  refine hb _ ?_
  rw[zac.fit,za6,List.length_map,←za6,zgn hb s h.2,h.1.1,h.1.2]
  rfl
theorem zgn {by':zac→zac}(hb:∀f,f.fit=true→(by' f).fit=true):∀fs:List zac,zac.fits fs=true→zac.fits (zao by' fs)=true
 |[],_=>by rw[zao,zac.fits]
 |f::fs,h=>by rw[zac.fits,Bool.and_eq_true]at h;rw[zao,zac.fits,zhe hb f h.1,zgn hb fs h.2];rfl
end
mutual
theorem zkC {by':zac→zac}{p:Str→Prop}(hb:∀f,wfE f→zbD p f→zbD p (by' f))(hw:∀f,wfE f→wfE (by' f)):∀f:zac,wfE f→zbD p f→zbD p (zat by' f)
 | .mk k nm ws s,h2,h=>by
  have h3:=h2
  rw[wfE]at h3
  rw[zbD]at h
  rw[zat]
  refine hb _ ?_ ?_
  ·rw[wfE,za6,List.length_map]
   refine⟨h3.1,h3.2.1,h3.2.2.1,?_⟩
   rw[←za6]
   exact zd9 hw s h3.2.2.2
  ·rw[zbD];exact⟨h.1,h.2.1,zfk hb hw s h3.2.2.2 h.2.2⟩
theorem zfk {by':zac→zac}{p:Str→Prop}(hb:∀f,wfE f→zbD p f→zbD p (by' f))(hw:∀f,wfE f→wfE (by' f)):∀fs:List zac,zpS fs→zaz p fs→zaz p (zao by' fs)
 |[],_,_=>by rw[zao,zaz];trivial
 |f::fs,h2,h=>by rw[zaz]at h;rw[zpS]at h2;rw[zao,zaz];exact⟨zkC hb hw f h2.1 h.1,zfk hb hw fs h2.2 h.2⟩
end
def qM:Str:=⟨[63]⟩
def dM:Str:=⟨[36]⟩
def zcP (v:Str)(nm:Str)(ws:List Str):zac:= .mk 9 v [] [zdG 5 (.mk 2 nm [v] []::(List.range ws.length).map fun i=> .mk 2 (zqa i) [v,ws.getD i ⟨[]⟩] [])]
def zaW (v:Str)(ps:List Str)(f:zac):zac:=if f.kind=2∧0<f.words.length∧f.name∈ps then zcP v f.name f.words else f
theorem zcw (v:Str)(ps:List Str)(k:Int)(nm:Str)(ws:List Str)(s:List zac):zaW v ps (.mk k nm ws s)=if k=2∧0<ws.length∧nm∈ps then zcP v nm ws else .mk k nm ws s:=rfl
theorem zpC (nm:Str)(ws:List Str)(h:∀w∈ws,sg w=w):zfz sg (zcP qM nm ws)=zcP dM nm ws:=by
 have e:sg qM=dM:=rfl
 have hh:(zac.mk 2 nm [qM] []::(List.range ws.length).map fun i=>zac.mk 2 (zqa i) [qM,ws.getD i ⟨[]⟩] []).map (zfz sg)=zac.mk 2 nm [dM] []::(List.range ws.length).map fun i=>zac.mk 2 (zqa i) [dM,ws.getD i ⟨[]⟩] []:=by
  rw[List.map_cons,List.map_map]
  congr 1
  refine List.map_congr_left fun i hi=>?_
  have hi:=List.mem_range.1 hi
  have hm:ws.getD i ⟨[]⟩∈ws:=by
   rw[List.getD_eq_getElem?_getD,List.getElem?_eq_getElem hi]
   exact List.getElem_mem _
  show zfz sg (zac.mk 2 (zqa i) [qM,ws.getD i ⟨[]⟩] [])=_
  rw[zfz,if_neg (by decide),List.map_cons,List.map_cons,List.map_nil,e,h _ hm,zbW]
 unfold zcP
 rw[zfz,zbW,zbW,zq6 sg 5 (by decide),hh,if_pos (show isQ 9 from .inr rfl),e,List.map_nil]
mutual
theorem zsa (ps:List Str):∀f:zac,zbD (fun w=>sg w=w) f→zat (zaW dM ps) f=zfz sg (zat (zaW qM ps) f)
 | .mk k nm ws s,h=>by
  have h2:=h
  rw[zbD]at h
  rw[zat,zat,ziW ps s h.2.2]
  rw[zcw,zcw]
  split
  ·rw[zpC nm ws h.1]
  ·rw[zfz]
   congr 1
   ·by_cases hq:isQ k
    ·rw[if_pos hq];exact(h.2.1 hq).symm
    ·rw[if_neg hq]
   ·conv=>lhs;rw[←List.map_id ws]
    exact List.map_congr_left fun w hw=>(h.1 w hw).symm
theorem ziW (ps:List Str):∀fs:List zac,zaz (fun w=>sg w=w) fs→zao (zaW dM ps) fs=zbW sg (zao (zaW qM ps) fs)
 |[],_=>by rw[zao,zao,zbW]
 |f::fs,h=>by rw[zaz]at h;rw[zao,zao,zbW,zsa ps f h.1,ziW ps fs h.2]
end
def swP (x:Str):Prop:=(x.l.head? =some 63→x=qM)∧x.l.head? ≠some 36∧¬zmc x
theorem zjZ {x:Str}(h:zai x=true):swP x:=by
 have:=ztN (n:=0) h
 exact⟨fun e=>by obtain⟨i,hi,_⟩:=this.1 e;omega,this.2⟩
theorem zwQ:swP qM:=⟨fun _=>rfl,by simp[qM],by simp[zmc,qM]⟩
theorem zjv {ws:List Str}{i:Nat}(h:i<ws.length):ws.getD i ⟨[]⟩∈ws:=by
 rw[List.getD_eq_getElem?_getD,List.getElem?_eq_getElem h]
 exact List.getElem_mem _
theorem zm3 {nm:Str}{ws:List Str}(h:∀w∈ws,swP w):zbD swP (zcP qM nm ws):=by
 unfold zcP
 simp only[zbD,zaz]
 refine⟨by simp,fun _=>zwQ,ziF swP 5 (by decide) ((zg5 _ _).2 fun g hg=>?_),trivial⟩
 rcases List.mem_cons.1 hg with rfl|hg
 ·rw[zbD,zaz]
  exact⟨fun w hw=>by rw[List.mem_singleton.1 hw];exact zwQ,fun e=>absurd e (by decide),trivial⟩
 ·obtain⟨i,hi,rfl⟩:=List.mem_map.1 hg
  have hi:=List.mem_range.1 hi
  rw[zbD,zaz]
  refine⟨fun w hw=>?_,fun e=>absurd e (by decide),trivial⟩
  simp only[List.mem_cons,List.not_mem_nil,or_false]at hw
  rcases hw with rfl|rfl
  ·exact zwQ
  ·exact h _ (zjv hi)
mutual
theorem zpE (ps:List Str):∀f:zac,zbD (fun w=>zai w=true) f→zbD swP (zat (zaW qM ps) f)
 | .mk k nm ws s,h=>by
  rw[zbD]at h
  rw[zat]
  rw[zcw]
  split
  ·exact zm3 fun w hw=>zjZ (h.1 w hw)
  ·rw[zbD]
   exact⟨fun w hw=>zjZ (h.1 w hw),fun hq=>zjZ (h.2.1 hq),zhW ps s h.2.2⟩
theorem zhW (ps:List Str):∀fs:List zac,zaz (fun w=>zai w=true) fs→zaz swP (zao (zaW qM ps) fs)
 |[],_=>by rw[zao,zaz];trivial
 |f::fs,h=>by rw[zaz]at h;rw[zao,zaz];exact⟨zpE ps f h.1,zhW ps fs h.2⟩
end
mutual
theorem ziV (ps:List Str):∀(f:zac) (bd:List Str) (x:Str),zbD (fun w=>zai w=true) f→x∈cst (zat (zaW qM ps) f) bd→x≠qM
 | .mk k nm ws s,bd,x,h,hx=>by
  rw[zbD]at h
  rw[zat]at hx
  rw[zcw]at hx
  split at hx
  ·unfold zcP at hx
   rw[cst,if_pos (show isQ 9 from .inr rfl),zdD,zdD]at hx
   simp only[List.filter_nil,List.nil_append,List.append_nil]at hx
   have:=zkK _ _ _ hx
   intro e
   exact this (by rw[e];simp)
  ·rw[cst,List.mem_append]at hx
   rcases hx with hx|hx
   ·have:=h.1 x (List.mem_filter.1 hx).1
    intro e
    rw[e]at this
    exact absurd this (by decide)
   ·exact zhX ps s _ x h.2.2 hx
theorem zhX (ps:List Str):∀(fs:List zac) (bd:List Str) (x:Str),zaz (fun w=>zai w=true) fs→x∈zdD (zao (zaW qM ps) fs) bd→x≠qM
 |[],bd,x,_,hx=>by rw[zao,zdD]at hx;simp at hx
 |f::fs,bd,x,h,hx=>by
  rw[zaz]at h
  rw[zao,zdD,List.mem_append]at hx
  rcases hx with hx|hx
  ·exact ziV ps f bd x h.1 hx
  ·exact zhX ps fs bd x h.2 hx
end
theorem zm4 (v nm:Str)(ws:List Str):(zcP v nm ws).size≤2*ws.length+4∧(zcP v nm ws).fit=true:=by
 unfold zcP
 have h1:=zpg 5 (.mk 2 nm [v] []::(List.range ws.length).map fun i=> .mk 2 (zqa i) [v,ws.getD i ⟨[]⟩] [])
 have hl:∀g∈(zac.mk 2 nm [v] []::(List.range ws.length).map fun i=>zac.mk 2 (zqa i) [v,ws.getD i ⟨[]⟩] []),g.size≤1∧g.fit=true:=fun g hg=>by
  rcases List.mem_cons.1 hg with rfl|hg
  ·exact⟨by simp[zac.size,zac.sizes],by simp[zac.fit,zac.fits]⟩
  ·obtain⟨i,_,rfl⟩:=List.mem_map.1 hg
   exact⟨by simp[zac.size,zac.sizes],by simp[zac.fit,zac.fits]⟩
 have h2:=zlM (c:=1) _ fun g hg=>(hl g hg).1
 have h3:=zq5 5 ((fits_mem _).2 fun g hg=>(hl g hg).2)
 rw[List.length_cons,List.length_map,List.length_range]at h1 h2
 refine⟨by simp only[zac.size,zac.sizes];omega,?_⟩
 rw[zac.fit,zac.fits,zac.fits,h3];rfl
theorem zm2 {v:Str}{ps:List Str}{f:zac}(h:f.fit=true):(zaW v ps f).fit=true:=by
 unfold zaW;split
 ·exact(zm4 _ _ _).2
 ·exact h
end Go.Abs
namespace Go.Abs
open Go
abbrev PE:=List (Str×Str)
def zl8:PE→Str→Str→Prop
 |[],w,w'=>w=w'
 |(a,b)::E,w,w'=>(w=a∧w'=b)∨(w≠a∧w'≠b∧zl8 E w w')
def zck (E:PE):List Str→List Str→Prop
 |[],[]=>True
 |w::ws,w'::ws'=>zl8 E w w'∧zck E ws ws'
 |[],_::_=>False
 |_::_,[]=>False
mutual
def Aeq:PE→zac→zac→Prop
 |E,.mk k nm ws s,.mk k' nm' ws' s'=>k=k'∧(¬isQ k→nm=nm')∧zck E ws ws'∧zb8 (if isQ k then(nm,nm')::E else E) s s'
def zb8:PE→List zac→List zac→Prop
 |_,[],[]=>True
 |E,f::fs,g::gs=>Aeq E f g∧zb8 E fs gs
 |_,[],_::_=>False
 |_,_::_,[]=>False
end
theorem zfS {E:PE}:∀{a b:List Str},zck E a b→a.length=b.length
 |[],[],_=>rfl
 |_::a,_::b,h=>by rw[zck]at h;rw[List.length_cons,List.length_cons,zfS h.2]
 |[],_::_,h=>by rw[zck]at h;exact h.elim
 |_::_,[],h=>by rw[zck]at h;exact h.elim
theorem zfR {E:PE}:∀{a b:List Str} {i:Nat},zck E a b→i<a.length→zl8 E (a.getD i ⟨[]⟩) (b.getD i ⟨[]⟩)
 |[],[],i,_,hi=>by simp at hi
 |w::a,w'::b,0,h,_=>by rw[zck]at h;exact h.1
 |w::a,w'::b,i+1,h,hi=>by rw[zck]at h;exact zfR (i:=i) h.2 (by simpa using hi)
 |[],_::_,_,h,_=>by rw[zck]at h;exact h.elim
 |_::_,[],_,h,_=>by rw[zck]at h;exact h.elim
theorem zi6 {E:PE}:∀{a b:List zac},zb8 E a b→a.length=b.length
 |[],[],_=>rfl
 |_::a,_::b,h=>by rw[zb8]at h;rw[List.length_cons,List.length_cons,zi6 h.2]
 |[],_::_,h=>by rw[zb8]at h;exact h.elim
 |_::_,[],h=>by rw[zb8]at h;exact h.elim
theorem znd {E:PE}:∀{a b c d:List zac},zb8 E a b→zb8 E c d→zb8 E (a++c) (b++d)
 |[],[],_,_,_,h=>h
 |_::a,_::b,_,_,h,h2=>by rw[zb8]at h;rw[List.cons_append,List.cons_append,zb8];exact⟨h.1,znd h.2 h2⟩
 |[],_::_,_,_,h,_=>by rw[zb8]at h;exact h.elim
 |_::_,[],_,_,h,_=>by rw[zb8]at h;exact h.elim
theorem zvh {E:PE}:Aeq E znG znG:=by
 unfold znG
 rw[Aeq,if_neg (by decide)]
 exact⟨rfl,fun _=>rfl,by rw[zck];trivial,by rw[zb8];trivial⟩
theorem zdy {E:PE}:∀{a b:List zac} (i:Nat),zb8 E a b→Aeq E (a.getD i znG) (b.getD i znG)
 |[],[],i,_=>by simp only[List.getD_nil];exact zvh
 |_::a,_::b,0,h=>by rw[zb8]at h;exact h.1
 |_::a,_::b,i+1,h=>by rw[zb8]at h;exact zdy i h.2
 |[],_::_,_,h=>by rw[zb8]at h;exact h.elim
 |_::_,[],_,h=>by rw[zb8]at h;exact h.elim
theorem zii {E:PE}{f f':zac}:Aeq E f f'↔f.kind=f'.kind∧(¬isQ f.kind→f.name=f'.name)∧zck E f.words f'.words∧zb8 (if isQ f.kind then(f.name,f'.name)::E else E) f.subs f'.subs:=by
 cases f;cases f';rw[Aeq];rfl
theorem zma {E:PE}{s s':Str→Str}(h:∀w w',zl8 E w w'→s w=s' w'):∀{a b:List Str},zck E a b→a.map s=b.map s'
 |[],[],_=>rfl
 |w::a,w'::b,hw=>by rw[zck]at hw;rw[List.map_cons,List.map_cons,h _ _ hw.1,zma h hw.2]
 |[],_::_,h=>by rw[zck]at h;exact h.elim
 |_::_,[],h=>by rw[zck]at h;exact h.elim
mutual
theorem zp6 {g:Nat→Str×Nat}:∀(f f':zac) (E:PE) (env env':List zbR) (n:Nat),Aeq E f f'→(∀w w',zl8 E w w'→lkp env w=lkp env' w')→ren g f env n=ren g f' env' n
 | .mk k nm ws s,.mk k' nm' ws' s',E,env,env',n,h,he=>by
  rw[Aeq]at h
  obtain⟨rfl,h2,h3,h4⟩:=h
  rw[ren,ren,zma he h3]
  by_cases hq:isQ k
  ·rw[if_pos hq]at h4
   simp only[if_pos hq]
   rw[zjc (g:=g) s s' ((nm,nm')::E) (env++[(⟨nm,(g n).1⟩:zbR)]) (env'++[(⟨nm',(g n).1⟩:zbR)]) (g n).2 h4 fun w w' hw=>?_]
   rw[zeH,zeH]
   rw[zl8]at hw
   rcases hw with⟨rfl,rfl⟩|⟨h5,h6,h7⟩
   ·rw[if_pos rfl,if_pos rfl]
   ·rw[if_neg (fun e=>h5 e.symm),if_neg (fun e=>h6 e.symm)]
    exact he w w' h7
  ·rw[if_neg hq]at h4
   simp only[if_neg hq]
   rw[zjc (g:=g) s s' E env env' n h4 he,h2 hq]
theorem zjc {g:Nat→Str×Nat}:∀(f f':List zac) (E:PE) (env env':List zbR) (n:Nat),zb8 E f f'→(∀w w',zl8 E w w'→lkp env w=lkp env' w')→zbT g f env n=zbT g f' env' n
 |[],[],E,env,env',n,_,_=>by rw[zbT,zbT]
 |f::fs,f'::fs',E,env,env',n,h,he=>by
  rw[zb8]at h
  rw[zbT,zbT,zp6 f f' E env env' n h.1 he]
  rw[zjc fs fs' E env env' _ h.2 he]
 |[],_::_,_,_,_,_,h,_=>by rw[zb8]at h;exact h.elim
 |_::_,[],_,_,_,_,h,_=>by rw[zb8]at h;exact h.elim
end
theorem zgA {E:PE}{bd bd':List Str}(hb:∀w w',zl8 E w w'→(w∈bd↔w'∈bd')∧(w∉bd→w=w')):∀{a b:List Str},zck E a b→a.filter (fun w=>decide (w∉bd))=b.filter (fun w=>decide (w∉bd'))
 |[],[],_=>rfl
 |w::a,w'::b,hw=>by
  rw[zck]at hw
  rw[List.filter_cons,List.filter_cons,zgA hb hw.2]
  obtain⟨h1,h2⟩:=hb w w' hw.1
  by_cases h:w∈bd
  ·rw[if_neg (by simpa using h),if_neg (by simpa using h1.1 h)]
  ·have e:=h2 h
   rw[if_pos (by simpa using h),if_pos (by simpa using fun h3=>h (h1.2 h3)),e]
 |[],_::_,h=>by rw[zck]at h;exact h.elim
 |_::_,[],h=>by rw[zck]at h;exact h.elim
mutual
theorem zp5:∀(f f':zac) (E:PE) (bd bd':List Str),Aeq E f f'→(∀w w',zl8 E w w'→(w∈bd↔w'∈bd')∧(w∉bd→w=w'))→cst f bd=cst f' bd'
 | .mk k nm ws s,.mk k' nm' ws' s',E,bd,bd',h,he=>by
  rw[Aeq]at h
  obtain⟨rfl,h2,h3,h4⟩:=h
  rw[cst,cst,zgA he h3]
  by_cases hq:isQ k
  ·rw[if_pos hq]at h4
   rw[if_pos hq,if_pos hq]
   rw[zjb s s' ((nm,nm')::E) (bd++[nm]) (bd'++[nm']) h4 fun w w' hw=>?_]
   rw[zl8]at hw
   simp only[List.mem_append,List.mem_singleton]
   rcases hw with⟨rfl,rfl⟩|⟨h5,h6,h7⟩
   ·exact⟨⟨fun _=> .inr rfl,fun _=> .inr rfl⟩,fun h=>absurd (.inr rfl) h⟩
   ·obtain⟨h8,h9⟩:=he w w' h7
    refine⟨⟨fun h=>?_,fun h=>?_⟩,fun h=>h9 fun h0=>h (.inl h0)⟩
    ·rcases h with h|h
     ·exact .inl (h8.1 h)
     ·exact absurd h h5
    ·rcases h with h|h
     ·exact .inl (h8.2 h)
     ·exact absurd h h6
  ·rw[if_neg hq]at h4
   rw[if_neg hq,if_neg hq,zjb s s' E bd bd' h4 he]
theorem zjb:∀(f f':List zac) (E:PE) (bd bd':List Str),zb8 E f f'→(∀w w',zl8 E w w'→(w∈bd↔w'∈bd')∧(w∉bd→w=w'))→zdD f bd=zdD f' bd'
 |[],[],E,bd,bd',_,_=>by rw[zdD,zdD]
 |f::fs,f'::fs',E,bd,bd',h,he=>by
  rw[zb8]at h
  rw[zdD,zdD,zp5 f f' E bd bd' h.1 he,zjb fs fs' E bd bd' h.2 he]
 |[],_::_,_,_,_,h,_=>by rw[zb8]at h;exact h.elim
 |_::_,[],_,_,_,h,_=>by rw[zb8]at h;exact h.elim
end
theorem zp4 {f f':zac}(h:Aeq [] f f'):zb4 f []=zb4 f' []:=by
 have h1:cst f []=cst f' []:=zp5 f f' [] [] [] h fun w w' hw=>⟨by simp,fun _=>hw⟩
 unfold zb4 zka
 rw[h1,zp6 f f' [] [] [] 0 h fun w w' hw=>by rw[zjA,zjA];exact hw]
mutual
theorem zrL {used:List Str}:∀(f:zac) (E:PE) (env:List zbR) (bd:List Str) (n:Nat),(∀w,w∈bd∨w∈used→zl8 E w (lkp env w)∧(lkp env w∈used∨∃j,j<n∧lkp env w=zh5 j))→(∀x∈cst f bd,x∈used)→Aeq E f (ren (vg used) f env n).1
 | .mk k nm ws s,E,env,bd,n,he,hc=>by
  rw[cst]at hc
  have hw:zck E ws (ws.map (lkp env)):=by
   have:∀l:List Str,(∀w∈l,w∈ws)→zck E l (l.map (lkp env)):=by
    intro l
    induction l with
    |nil=>intro _;rw[List.map_nil,zck];trivial
    |cons w l ih=>
     intro hl
     rw[List.map_cons,zck]
     refine⟨(he w ?_).1,ih fun x hx=>hl x (List.mem_cons_of_mem _ hx)⟩
     by_cases hb:w∈bd
     ·exact .inl hb
     ·exact .inr (hc w (List.mem_append_left _ (List.mem_filter.2 ⟨hl w (by simp),by simpa using hb⟩)))
   exact this ws fun _ h=>h
  rw[ren]
  by_cases hq:isQ k
  ·rw[if_pos hq]at hc
   rw[if_pos hq,Aeq,if_pos hq]
   obtain⟨a1,_,a3,_⟩:=zeJ used n
   refine⟨rfl,fun h=>absurd hq h,hw,zjN s _ _ (bd++[nm]) _ (fun w hw2=>?_) fun x hx=>hc x (List.mem_append_right _ hx)⟩
   rw[zeH,zl8]
   by_cases e:nm=w
   ·rw[if_pos e]
    exact⟨.inl ⟨e.symm,rfl⟩,.inr ⟨zfB used n,Nat.lt_succ_self _,rfl⟩⟩
   ·rw[if_neg e]
    have hw3:w∈bd∨w∈used:=by
     rcases hw2 with h|h
     ·rcases List.mem_append.1 h with h|h
      ·exact .inl h
      ·exact absurd (List.mem_singleton.1 h).symm e
     ·exact .inr h
    obtain⟨h1,h2⟩:=he w hw3
    refine⟨.inr ⟨fun h=>e h.symm,fun h=>?_,h1⟩,?_⟩
    ·rw[h]at h2
     rcases h2 with h2|⟨j,hj,h2⟩
     ·exact a3 h2
     ·have:=zkb h2;omega
    ·rcases h2 with h2|⟨j,hj,h2⟩
     ·exact .inl h2
     ·refine .inr ⟨j,?_,h2⟩
      have:(vg used n).2=zfB used n+1:=rfl
      omega
  ·rw[if_neg hq]at hc
   rw[if_neg hq,Aeq,if_neg hq]
   exact⟨rfl,fun _=>rfl,hw,zjN s _ _ bd _ he fun x hx=>hc x (List.mem_append_right _ hx)⟩
theorem zjN {used:List Str}:∀(fs:List zac) (E:PE) (env:List zbR) (bd:List Str) (n:Nat),(∀w,w∈bd∨w∈used→zl8 E w (lkp env w)∧(lkp env w∈used∨∃j,j<n∧lkp env w=zh5 j))→(∀x∈zdD fs bd,x∈used)→zb8 E fs (zbT (vg used) fs env n).1
 |[],E,env,bd,n,_,_=>by rw[zbT,zb8];trivial
 |f::fs,E,env,bd,n,he,hc=>by
  rw[zdD]at hc
  rw[zbT,zb8]
  refine⟨zrL f E env bd n he fun x hx=>hc x (List.mem_append_left _ hx),zjN fs E env bd _ (fun w hw=>?_) fun x hx=>hc x (List.mem_append_right _ hx)⟩
  obtain⟨h1,h2⟩:=he w hw
  refine⟨h1,?_⟩
  rcases h2 with h2|⟨j,hj,h2⟩
  ·exact .inl h2
  ·have:=((zrN (zwX used)).1 f env n).1
   exact .inr ⟨j,by omega,h2⟩
end
theorem zql (f:zac):Aeq [] f (zb4 f []):=by
 refine zrL f [] [] [] 0 (fun w hw=>?_) fun x hx=>(zrl f x).2 hx
 rw[zjA]
 rcases hw with h|h
 ·simp at h
 ·exact⟨rfl,.inl h⟩
mutual
theorem zlm:∀(f f':zac) (E:PE),Aeq E f f'→zb8 E (zfx f) (zfx f')
 | .mk k nm ws s,.mk k' nm' ws' s',E,h=>by
  have h0:=h
  rw[Aeq]at h
  obtain⟨rfl,h2,h3,h4⟩:=h
  have hl:=zi6 h4
  rw[zfx,zfx,←hl]
  by_cases hk:k=5∧s.length=2
  ·rw[if_pos hk,if_pos hk]
   rw[if_neg (by rw[hk.1];decide)]at h4
   exact zpj s s' E h4
  ·rw[if_neg hk,if_neg hk,zb8]
   exact⟨h0,by rw[zb8];trivial⟩
theorem zpj:∀(f f':List zac) (E:PE),zb8 E f f'→zb8 E (zhx f) (zhx f')
 |[],[],E,_=>by rw[zhx,zb8];trivial
 |f::fs,f'::fs',E,h=>by
  rw[zb8]at h
  rw[zhx,zhx]
  exact znd (zlm f f' E h.1) h.2
 |[],_::_,_,h=>by rw[zb8]at h;exact h.elim
 |_::_,[],_,h=>by rw[zb8]at h;exact h.elim
end
theorem zly {E:PE}{f f':zac}(h:Aeq E f f')(hk:f.kind=9):zb8 ((f.name,f'.name)::E) (zb6 f) (zb6 f'):=by
 rw[zii,if_pos (show isQ f.kind from .inr hk)]at h
 unfold zb6
 exact zlm _ _ _ (zdy 0 h.2.2.2)
theorem zfP {E:PE}{a b w w':Str}(h:zl8 ((a,b)::E) w w'):(w=a↔w'=b)∧(w≠a→zl8 E w w'):=by
 rw[zl8]at h
 rcases h with⟨rfl,rfl⟩|⟨h1,h2,h3⟩
 ·exact⟨⟨fun _=>rfl,fun _=>rfl⟩,fun h=>absurd rfl h⟩
 ·exact⟨⟨fun h=>absurd h h1,fun h=>absurd h h2⟩,fun _=>h3⟩
theorem zws {E:PE}{f f':zac}(h:Aeq E f f'):okE f=okE f':=by
 have hk:=(zii.1 h).1
 unfold okE
 rw[←hk]
 by_cases h9:f.kind=9
 ·have hp:=zly h h9
  have hh:Aeq ((f.name,f'.name)::E) (zgE f) (zgE f'):=zdy 0 hp
  rw[zii]at hh
  obtain⟨e1,_,e2,_⟩:=hh
  rw[←e1,←zfS e2]
  by_cases hl:(zgE f).words.length=1
  ·have:=(zfP (zfR (i:=0) e2 (by omega))).1
   rw[show decide ((zgE f).words.getD 0 ⟨[]⟩=f.name)=decide ((zgE f').words.getD 0 ⟨[]⟩=f'.name)from decide_eq_decide.2 this]
  ·simp[hl]
 ·simp[h9]
theorem zq0 {E:PE}{f f' x x':zac}(h:Aeq ((f.name,f'.name)::E) x x')(i:Nat):zmI f i x=zmI f' i x':=by
 rw[zii]at h
 obtain⟨e1,e0,e2,_⟩:=h
 unfold zmI
 rw[←e1,←zfS e2]
 by_cases hk:x.kind=2
 ·rw[e0 (by rw[hk];decide)]
  by_cases hl:x.words.length=2
  ·have h0:=(zfP (zfR (i:=0) e2 (by omega))).1
   have h1:=(zfP (zfR (i:=1) e2 (by omega))).1
   rw[show decide (x.words.getD 0 ⟨[]⟩=f.name)=decide (x'.words.getD 0 ⟨[]⟩=f'.name)from decide_eq_decide.2 h0,
    show decide (x.words.getD 1 ⟨[]⟩=f.name)=decide (x'.words.getD 1 ⟨[]⟩=f'.name)from decide_eq_decide.2 h1]
  ·simp[hl]
 ·simp[hk]
theorem zle {E:PE}{f f':zac}(h:zb8 ((f.name,f'.name)::E) (zb6 f) (zb6 f')):∀n,zfs f n=zfs f' n
 |0=>by rw[zfs,zfs]
 |n+1=>by rw[zfs,zfs,zle h n,zq0 (zdy (n+1) h) n]
theorem zpL {E:PE}{f f':zac}(h:zb8 ((f.name,f'.name)::E) (zb6 f) (zb6 f')){n:Nat}(hg:zfs f n=true):zck E (zi4 f n) (zi4 f' n):=by
 unfold zi4
 have:∀l:List Nat,(∀j∈l,j<n)→zck E (l.map fun j=>((zb6 f).getD (j+1) znG).words.getD 1 ⟨[]⟩) (l.map fun j=>((zb6 f').getD (j+1) znG).words.getD 1 ⟨[]⟩):=by
  intro l
  induction l with
  |nil=>intro _;rw[List.map_nil,List.map_nil,zck];trivial
  |cons j l ih=>
   intro hl
   rw[List.map_cons,List.map_cons,zck]
   refine⟨?_,ih fun x hx=>hl x (List.mem_cons_of_mem _ hx)⟩
   have hj:=znL hg (hl j (by simp))
   have hx:=zdy (j+1) h
   unfold zmI at hj
   simp only[Bool.and_eq_true,decide_eq_true_eq,Bool.not_eq_true',decide_eq_false_iff_not]at hj
   have hw:=(zii.1 hx).2.2.1
   exact(zfP (zfR (i:=1) hw (by omega))).2 hj.2
 exact this _ fun j hj=>List.mem_range.1 hj
theorem zmR {E:PE}{f f':zac}(h:Aeq E f f'):Aeq E (zbl f) (zbl f'):=by
 have ho:=zws h
 by_cases ht:okE f=true
 ·have hk:=(zjF ht).1
  have hp:=zly h hk
  have hl:=zi6 hp
  have hm:zcL f=zcL f':=by
   unfold zcL
   rw[ho,hl,zle hp]
  unfold zbl
  rw[←hm,←hl]
  by_cases hmt:zcL f=true
  ·rw[if_pos hmt,if_pos hmt,Aeq,if_neg (by decide)]
   have hh:=zdy 0 hp
   have hh2:=zii.1 hh
   refine⟨rfl,fun _=>hh2.2.1 ?_,zpL hp ?_,by rw[zb8];trivial⟩
   ·rw[show((zb6 f).getD 0 znG).kind=2 from(zjF ht).2];decide
   ·unfold zcL at hmt
    simp only[Bool.and_eq_true]at hmt
    exact hmt.2
  ·rw[if_neg hmt,if_neg hmt];exact h
 ·have h1:¬zcL f=true:=fun hm=>ht (zeI hm)
  have h2:¬zcL f'=true:=fun hm=>ht (by rw[ho];exact zeI hm)
  unfold zbl
  rw[if_neg h1,if_neg h2];exact h
mutual
theorem zhd {by':zac→zac}(hb:∀E f f',Aeq E f f'→Aeq E (by' f) (by' f')):∀(f f':zac) (E:PE),Aeq E f f'→Aeq E (zat by' f) (zat by' f')
 | .mk k nm ws s,.mk k' nm' ws' s',E,h=>by
  rw[Aeq]at h
  rw[zat,zat]
  refine hb _ _ _ ?_
  rw[Aeq]
  exact⟨h.1,h.2.1,h.2.2.1,zgm hb s s' _ h.2.2.2⟩
theorem zgm {by':zac→zac}(hb:∀E f f',Aeq E f f'→Aeq E (by' f) (by' f')):∀(f f':List zac) (E:PE),zb8 E f f'→zb8 E (zao by' f) (zao by' f')
 |[],[],E,_=>by rw[zao,zb8];trivial
 |f::fs,f'::fs',E,h=>by
  rw[zb8]at h
  rw[zao,zao,zb8]
  exact⟨zhd hb f f' E h.1,zgm hb fs fs' E h.2⟩
 |[],_::_,_,h=>by rw[zb8]at h;exact h.elim
 |_::_,[],_,h=>by rw[zb8]at h;exact h.elim
end
mutual
theorem zfj {by':zac→zac}(hb:∀f,(by' f).depth≤f.depth):∀f:zac,(zat by' f).depth≤f.depth
 | .mk k nm ws s=>by
  rw[zat]
  refine Nat.le_trans (hb _) ?_
  rw[zac.depth,zac.depth]
  have:=zeU hb s
  omega
theorem zeU {by':zac→zac}(hb:∀f,(by' f).depth≤f.depth):∀fs:List zac,zac.depths (zao by' fs)≤zac.depths fs
 |[]=>by rw[zao];exact Nat.le_refl _
 |f::fs=>by
  rw[zao,zac.depths,zac.depths]
  have h1:=zfj hb f
  have h2:=zeU hb fs
  omega
end
theorem zqJ (f:zac):1≤f.depth:=by cases f;rw[zac.depth];omega
theorem zjB (f:zac):(zbl f).depth≤f.depth:=by
 unfold zbl
 split
 ·have:=zqJ f;simp only[zac.depth,zac.depths];omega
 ·exact Nat.le_refl _
mutual
theorem zlD (g:Nat→Str×Nat):∀(f:zac) (env:List zbR) (n:Nat),(ren g f env n).1.depth=f.depth
 | .mk k nm ws s,env,n=>by
  rw[ren]
  split
  ·rw[zac.depth,zac.depth,zf8 g s]
  ·rw[zac.depth,zac.depth,zf8 g s]
theorem zf8 (g:Nat→Str×Nat):∀(fs:List zac) (env:List zbR) (n:Nat),zac.depths (zbT g fs env n).1=zac.depths fs
 |[],env,n=>by rw[zbT]
 |f::fs,env,n=>by rw[zbT,zac.depths,zac.depths,zlD g f,zf8 g fs]
end
theorem zgk (f:zac)(env:List zbR):(zb4 f env).depth=f.depth:=zlD _ f env 0
theorem zmq (f:zac)(env:List zbR):zig (zb4 f env)=zig f:=by unfold zig;rw[zhc,zgk]
def ztU (op:Bool)(f:zac):Prop:=(f.subs.length:Int)=za2 op f∧zdw f=true∧(named f=true→¬isQ f.kind→zai f.name=true)∧(named f=false→f.name=⟨[]⟩)
mutual
def shp (op:Bool):zac→Prop
 | .mk k nm w s=>ztU op (.mk k nm w s)∧zdu op s
def zdu (op:Bool):List zac→Prop
 |[]=>True
 |f::fs=>shp op f∧zdu op fs
end
theorem ztT {op:Bool}{f:zac}{d:Int}{n:Nat}(hs:ztU op f)(hn:n+1≤200)(hd:d≤40)(hw:∀w∈f.words,zai w=true)(hq:isQ f.kind→zai f.name=true):zda op f d n=0:=by
 obtain⟨h1,h2,h3,h4⟩:=hs
 unfold zda
 rw[if_neg (by omega),if_neg (by omega),if_neg (by rw[Decidable.not_not];exact⟨h1,h2⟩),if_neg,if_neg,if_neg]
 ·rw[show f.words.all zai=true from List.all_eq_true.2 hw];simp
 ·rintro⟨h5,h6⟩;exact h6 (h4 h5)
 ·rintro⟨h5,h6⟩
  by_cases hk:isQ f.kind
  ·rw[hq hk]at h6;cases h6
  ·rw[h3 h5 hk]at h6;cases h6
mutual
theorem zuA {op:Bool}:∀(f:zac) (d:Int) (n:Nat),shp op f→zbD (fun w=>zai w=true) f→n+f.size≤200→d+f.depth≤41→chk op f d n=(⟨0,0⟩,n+f.size)
 | .mk k nm ws s,d,n,hs,ha,hn,hd=>by
  rw[shp]at hs
  rw[zbD]at ha
  rw[zac.size]at hn ⊢
  rw[zac.depth]at hd
  have:=ztT (d:=d) (n:=n) hs.1 (by omega) (by omega) ha.1 ha.2.1
  rw[chk,if_neg (by simp[this]),zqu s (d+1) (n+1) hs.2 ha.2.2 (by omega) (by omega)]
  rw[show n+1+zac.sizes s=n+(zac.sizes s+1) by omega]
theorem zqu {op:Bool}:∀(fs:List zac) (d:Int) (n:Nat),zdu op fs→zaz (fun w=>zai w=true) fs→n+zac.sizes fs≤200→d+zac.depths fs≤41→zd3 op fs d n=(⟨0,0⟩,n+zac.sizes fs)
 |[],d,n,_,_,_,_=>by rw[zd3,zac.sizes];rfl
 |f::fs,d,n,hs,ha,hn,hd=>by
  rw[zdu]at hs
  rw[zaz]at ha
  rw[zac.sizes]at hn ⊢
  rw[zac.depths]at hd
  rw[zd3,zuA f d n hs.1 ha.1 (by omega) (by omega),if_neg (by simp),zqu fs d _ hs.2 ha.2 (by omega) (by omega)]
  rw[Nat.add_assoc]
end
theorem zkD {op:Bool}{f:zac}(hs:shp op f)(ha:zbD (fun w=>zai w=true) f)(hf:zig f=true):zaL op f=⟨0,0⟩:=by
 unfold zig at hf
 have hf:=of_decide_eq_true hf
 unfold zaL
 rw[zuA f 1 0 hs ha (by omega) (by omega)]
mutual
theorem zqs {op:Bool}:∀(f:zac) (d:Int) (n:Nat),(chk op f d n).1.code=0→shp op f∧d+f.depth≤41
 | .mk k nm w s,d,n,h=>by
  rw[chk]at h
  split at h
  ·rename_i h1;exact absurd h h1
  ·rename_i h1
   have h1:=Decidable.not_not.1 h1
   have h2:=zdb h1
   have h3:=zny s _ _ h
   have hd:d≤40:=by
    unfold zda at h1
    split at h1
    ·simp at h1
    ·omega
   rw[shp,zac.depth]
   exact⟨⟨⟨h2.2.2.2.2,h2.2.2.2.1,fun hn _=>h2.2.1 hn,h2.2.2.1⟩,h3.1⟩,by have:=h3.2;omega⟩
theorem zny {op:Bool}:∀(fs:List zac) (d:Int) (n:Nat),(zd3 op fs d n).1.code=0→zdu op fs∧(zac.depths fs=0∨d+zac.depths fs≤41)
 |[],d,n,_=>by rw[zdu,zac.depths];exact⟨trivial,.inl rfl⟩
 |f::fs,d,n,h=>by
  rw[zd3]at h
  split at h
  ·rename_i h1;exact absurd h h1
  ·rename_i h1
   have h2:=zqs f d n (Decidable.not_not.1 h1)
   have h3:=zny fs d _ h
   rw[zdu,zac.depths]
   exact⟨⟨h2.1,h3.1⟩,.inr (by have:=h2.2;rcases h3.2 with h|h<;>omega)⟩
end
theorem zf0 {op:Bool}{f:zac}(h:(zaL op f).code=0):shp op f:=(zqs f 1 0 h).1
theorem zhF {op:Bool}{k:Int}{nm nm':Str}{w w':List Str}{s s':List zac}(h:ztU op (.mk k nm w s))(hl:w'.length=w.length)(hs:s'.length=s.length)(hn:¬isQ k→nm'=nm)(_hq:isQ k→True):ztU op (.mk k nm' w' s'):=by
 obtain⟨h1,h2,h3,h4⟩:=h
 refine⟨?_,?_,fun h5 h6=>?_,fun h5=>?_⟩
 ·simp only[zbV]at h1 ⊢
  rw[hs,h1];rfl
 ·have:zdw (.mk k nm' w' s')=zdw (.mk k nm w s):=by
   show(if k=2 then decide (w'.length≤3)else if k=3 then decide (w'.length=2)else decide (w'.length=0))=_
   rw[hl];rfl
  rw[this];exact h2
 ·simp only[zaG,zcd]at h6 h3 ⊢
  rw[hn h6];exact h3 h5 h6
 ·have h6:=h4 h5
  simp only[zcd]at h6 ⊢
  have:¬isQ k:=by
   intro hq
   have:named (.mk k nm' w' s')=true:=by
    unfold named
    refine decide_eq_true ?_
    simp only[zaG]
    rcases hq with e|e<;>omega
   rw[h5]at this;cases this
  rw[hn this];exact h6
mutual
theorem zrO {op:Bool}(g:Nat→Str×Nat):∀(f:zac) (env:List zbR) (n:Nat),shp op f→shp op (ren g f env n).1
 | .mk k nm ws s,env,n,h=>by
  rw[shp]at h
  rw[ren]
  split
  ·rename_i hq
   rw[shp]
   exact⟨zhF h.1 (List.length_map _) (zdW g _ s _) (fun h=>absurd hq h) fun _=>trivial,zjQ g s _ _ h.2⟩
  ·rw[shp]
   exact⟨zhF h.1 (List.length_map _) (zdW g _ s _) (fun _=>rfl) fun _=>trivial,zjQ g s _ _ h.2⟩
theorem zjQ {op:Bool}(g:Nat→Str×Nat):∀(fs:List zac) (env:List zbR) (n:Nat),zdu op fs→zdu op (zbT g fs env n).1
 |[],env,n,_=>by rw[zbT,zdu];trivial
 |f::fs,env,n,h=>by
  rw[zdu]at h
  rw[zbT,zdu]
  exact⟨zrO g f _ _ h.1,zjQ g fs _ _ h.2⟩
end
theorem zdR {n:Nat}(h:n<10):zcO n=[UInt8.ofNat (48+n)]:=by unfold zcO;rw[Lib.decDigits,dif_pos h]
theorem zqL:∀(k u:Nat),u<10^(k+1)→(zcO u).length≤k+1∧∀c∈zcO u,48≤c.toNat∧c.toNat≤57:=by
 intro k
 induction k with
 |zero=>
  intro u h
  rw[zdR (by omega)]
  refine⟨by simp,fun c hc=>?_⟩
  rw[List.mem_singleton.1 hc,UInt8.toNat_ofNat',Nat.mod_eq_of_lt (by omega)];omega
 |succ k ih=>
  intro u h
  rcases Nat.lt_or_ge u 10 with h1|h1
  ·rw[zdR h1]
   refine⟨by simp,fun c hc=>?_⟩
   rw[List.mem_singleton.1 hc,UInt8.toNat_ofNat',Nat.mod_eq_of_lt (by omega)];omega
  ·have h2:=ih (u / 10) (by rw[Nat.pow_succ]at h;omega)
   have e:zcO u=zcO (u / 10)++[UInt8.ofNat (48+u % 10)]:=by
    unfold zcO
    rw[Lib.decDigits,dif_neg (by omega)]
   rw[e,List.length_append,List.length_singleton]
   refine⟨by omega,fun c hc=>?_⟩
   rcases List.mem_append.1 hc with hc|hc
   ·exact h2.2 c hc
   ·rw[List.mem_singleton.1 hc,UInt8.toNat_ofNat',Nat.mod_eq_of_lt (by omega)];omega
theorem zsC {j:Nat}(h:j<10^20):zai (zh5 j)=true:=by
 have h1:=zqL 19 j h
 refine zhB ?_ ?_ ?_ fun i hi=>?_
 ·simp[zh5]
 ·simp only[zh5,List.length_cons];omega
 ·simp[zh5,zf4]
 ·simp only[zh5,List.length_cons]at hi ⊢
  cases i with
  |zero=>show okc (118:UInt8);decide
  |succ i=>
   rw[List.getD_cons_succ]
   have hm:(zcO j).getD i 0∈zcO j:=by
    rw[List.getD_eq_getElem?_getD,List.getElem?_eq_getElem (by omega)]
    exact List.getElem_mem _
   have:=h1.2 _ hm
   exact .inr (.inl ⟨by omega,by omega⟩)
mutual
theorem zlE {used:List Str}{B:Nat}{p:Str→Prop}(hv:∀j,j<B→p (zh5 j)):∀(f:zac) (env:List zbR) (bd:List Str) (n:Nat),n+(used.length+1)*f.size≤B→(∀w∈bd,p (lkp env w))→(∀w,w∉bd→lkp env w=w)→(∀x∈cst f bd,p x)→zbD p (ren (vg used) f env n).1
 | .mk k nm ws s,env,bd,n,hn,h1,h2,hc=>by
  rw[zac.size,Nat.mul_add,Nat.mul_one]at hn
  rw[cst]at hc
  have hw:∀w∈ws.map (lkp env),p w:=fun w hw=>by
   obtain⟨x,hx,rfl⟩:=List.mem_map.1 hw
   by_cases hb:x∈bd
   ·exact h1 x hb
   ·rw[h2 x hb]
    exact hc x (List.mem_append_left _ (List.mem_filter.2 ⟨hx,by simpa using hb⟩))
  have hg:=zeJ used n
  rw[ren]
  by_cases hq:isQ k
  ·rw[if_pos hq]at hc
   have hvn:p (zh5 (zfB used n)):=hv _ (by omega)
   rw[if_pos hq,zbD]
   refine⟨hw,fun _=>hvn,zf9 hv s _ (bd++[nm]) _ ?_ (fun w hw2=>?_) (fun w hw2=>?_) fun x hx=>hc x (List.mem_append_right _ hx)⟩
   ·show zfB used n+1+_≤B
    omega
   ·rw[zeH]
    by_cases e:nm=w
    ·rw[if_pos e];exact hvn
    ·rw[if_neg e]
     rcases List.mem_append.1 hw2 with h|h
     ·exact h1 w h
     ·exact absurd (List.mem_singleton.1 h).symm e
   ·rw[zeH,if_neg (fun e=>hw2 (List.mem_append_right _ (List.mem_singleton.2 e.symm)))]
    exact h2 w fun h=>hw2 (List.mem_append_left _ h)
  ·rw[if_neg hq]at hc
   rw[if_neg hq,zbD]
   exact⟨hw,fun h=>absurd h hq,zf9 hv s _ bd _ (by omega) h1 h2 fun x hx=>hc x (List.mem_append_right _ hx)⟩
theorem zf9 {used:List Str}{B:Nat}{p:Str→Prop}(hv:∀j,j<B→p (zh5 j)):∀(fs:List zac) (env:List zbR) (bd:List Str) (n:Nat),n+(used.length+1)*zac.sizes fs≤B→(∀w∈bd,p (lkp env w))→(∀w,w∉bd→lkp env w=w)→(∀x∈zdD fs bd,p x)→zaz p (zbT (vg used) fs env n).1
 |[],env,bd,n,_,_,_,_=>by rw[zbT,zaz];trivial
 |f::fs,env,bd,n,hn,h1,h2,hc=>by
  rw[zac.sizes,Nat.mul_add]at hn
  rw[zdD]at hc
  rw[zbT,zaz]
  have:=((zrN (zwX used)).1 f env n).2
  exact⟨zlE hv f env bd n (by omega) h1 h2 fun x hx=>hc x (List.mem_append_left _ hx),zf9 hv fs env bd _ (by omega) h1 h2 fun x hx=>hc x (List.mem_append_right _ hx)⟩
end
mutual
theorem zqG:∀(f:zac) (bd:List Str),f.fit=true→(cst f bd).length≤1000*f.size
 | .mk k nm ws s,bd,h=>by
  rw[zac.fit]at h
  simp only[Bool.and_eq_true,decide_eq_true_eq]at h
  rw[cst,List.length_append,zac.size]
  have h1:=List.length_filter_le (fun w=>decide (w∉bd)) ws
  have h2:=znF s (if isQ k then bd++[nm]else bd) h.2
  omega
theorem znF:∀(fs:List zac) (bd:List Str),zac.fits fs=true→(zdD fs bd).length≤1000*zac.sizes fs
 |[],bd,_=>by rw[zdD];simp
 |f::fs,bd,h=>by
  rw[zac.fits,Bool.and_eq_true]at h
  rw[zdD,List.length_append,zac.sizes]
  have h1:=zqG f bd h.1
  have h2:=znF fs bd h.2
  omega
end
theorem zmr {f:zac}(hf:f.fit=true)(hs:f.size≤200)(hc:∀x∈cst f [],zai x=true):zbD (fun w=>zai w=true) (zb4 f []):=by
 have h1:=zqG f [] hf
 have h2:=zsy f
 refine zlE (B:=10^20) (fun j hj=>zsC hj) f [] [] 0 ?_ (by simp) (fun w _=>zjA w) hc
 show 0+((zka f).length+1)*f.size≤10^20
 have h3:((zka f).length+1)*f.size≤200001*200:=Nat.mul_le_mul (by omega) hs
 omega
theorem zs4 {op:Bool}{f:zac}(hs:shp op f)(hf:f.fit=true)(hl:zig f=true)(hc:∀x∈cst f [],zai x=true):zaL op (zb4 f [])=⟨0,0⟩:=by
 have h1:=of_decide_eq_true (show decide (f.size≤200∧f.depth≤40)=true from hl)
 exact zkD (zrO _ f [] 0 hs) (zmr hf h1.1 hc) (by rw[zmq];exact hl)
mutual
def zjC:zac→Bool
 | .mk k nm ws s=>okE (.mk k nm ws s)||zgR s
def zgR:List zac→Bool
 |[]=>false
 |f::fs=>zjC f||zgR fs
end
theorem ziG:∀(l:List zac) (f:zac),(∀g∈l,g.kind≠5)→zfx (l.foldl (fun a x=>zac.mk 5 ⟨[]⟩ [] [a,x]) f)=zfx f++l
 |[],f,_=>by simp
 |x::l,f,h=>by
  rw[List.foldl_cons,ziG l _ fun g hg=>h g (List.mem_cons_of_mem _ hg),zra (a:=f) (b:=x) rfl rfl]
  simp
theorem zhf {by':zac→zac}(hb:∀f,f.kind≠9→by' f=f):∀(l:List zac) (f:zac),(∀g∈l,zat by' g=g)→zat by' f=f→zat by' (l.foldl (fun a x=>zac.mk 5 ⟨[]⟩ [] [a,x]) f)=l.foldl (fun a x=>zac.mk 5 ⟨[]⟩ [] [a,x]) f
 |[],f,_,h=>h
 |x::l,f,h,hf=>by
  rw[List.foldl_cons]
  refine zhf hb l _ (fun g hg=>h g (List.mem_cons_of_mem _ hg)) ?_
  rw[zat,zao,zao,zao,hf,h x (by simp),hb (.mk 5 ⟨[]⟩ [] [f,x]) (show(5:Int)≠9 by decide)]
theorem zfA {f:zac}(h:f.kind≠9):zbl f=f:=by
 unfold zbl
 rw[if_neg]
 intro hm
 exact h (zjF (zeI hm)).1
theorem zpu {α:Type}(l:List α)(d:α):(List.range l.length).map (fun i=>l.getD i d)=l:=by
 refine List.ext_getElem (by simp) fun i h1 h2=>?_
 simp only[List.getElem_map,List.getElem_range]
 rw[List.getD_eq_getElem?_getD,List.getElem?_eq_getElem h2];rfl
theorem zmS {v nm:Str}{ws:List Str}(h1:0<ws.length)(h3:ws.length≤3)(hv:∀w∈ws,w≠v):zat zbl (zcP v nm ws)= .mk 2 nm ws []:=by
 obtain⟨l,hl⟩:∃l,((List.range ws.length).map fun i=>zac.mk 2 (zqa i) [v,ws.getD i ⟨[]⟩] [])=l:=⟨_,rfl⟩
 have hll:l.length=ws.length:=by rw[←hl];simp
 have hat:∀i,i<ws.length→l.getD i znG= .mk 2 (zqa i) [v,ws.getD i ⟨[]⟩] []:=fun i hi=>by
  rw[←hl,List.getD_eq_getElem?_getD,List.getElem?_map,List.getElem?_range hi];rfl
 have hmem:∀g∈l,g.kind=2∧g.subs=[]:=fun g hg=>by
  rw[←hl]at hg
  obtain⟨i,_,rfl⟩:=List.mem_map.1 hg
  exact⟨rfl,rfl⟩
 have hid:∀g:zac,g.kind=2→g.subs=[]→zat zbl g=g:=fun g hk hs=>by
  rw[zoB,hs,List.map_nil,zfA (by simp only[zaG];omega)]
  cases g;simp only[zbV]at hs;subst hs;rfl
 unfold zcP
 rw[hl]
 have hj:zat zbl (zdG 5 (.mk 2 nm [v] []::l))=zdG 5 (.mk 2 nm [v] []::l):=
  zhf (fun f h=>zfA h) l _ (fun g hg=>hid g (hmem g hg).1 (hmem g hg).2) (hid _ rfl rfl)
 rw[zat,zao,zao,hj]
 have hp:zb6 (.mk 9 v [] [zdG 5 (.mk 2 nm [v] []::l)])= .mk 2 nm [v] []::l:=by
  unfold zb6
  show zfx (zdG 5 (.mk 2 nm [v] []::l))=_
  have:=ziG l (.mk 2 nm [v] []) fun g hg=>by rw[(hmem g hg).1];decide
  rw[zrb (f:= .mk 2 nm [v] []) (fun h=>absurd h.1 (show¬(2:Int)=5 by decide))]at this
  exact this
 have hh:zgE (.mk 9 v [] [zdG 5 (.mk 2 nm [v] []::l)])= .mk 2 nm [v] []:=by unfold zgE;rw[hp];rfl
 have hok:okE (.mk 9 v [] [zdG 5 (.mk 2 nm [v] []::l)])=true:=by
  unfold okE;rw[hh];simp[zaG,zcX,zcd]
 have hgd:∀n,n≤ws.length→zfs (.mk 9 v [] [zdG 5 (.mk 2 nm [v] []::l)]) n=true:=by
  intro n
  induction n with
  |zero=>intro _;rw[zfs]
  |succ n ih=>
   intro hn
   rw[zfs,ih (by omega),hp,List.getD_cons_succ,hat n (by omega)]
   have:=hv _ (zjv (ws:=ws) (i:=n) (by omega))
   simp only[zmI,zaG,zcX,zcd,List.getD_cons_zero,List.getD_cons_succ,List.length_cons,List.length_nil,decide_eq_false this]
   simp
 have hwn:zi4 (.mk 9 v [] [zdG 5 (.mk 2 nm [v] []::l)]) ws.length=ws:=by
  unfold zi4
  rw[hp]
  conv=>rhs;rw[←zpu ws ⟨[]⟩]
  refine List.map_congr_left fun j hj=>?_
  rw[List.getD_cons_succ,hat j (List.mem_range.1 hj)]
  rfl
 unfold zbl
 have hm:zcL (.mk 9 v [] [zdG 5 (.mk 2 nm [v] []::l)])=true:=by
  unfold zcL
  rw[hok,hp,List.length_cons,hll]
  simp only[Nat.add_sub_cancel,hgd ws.length (Nat.le_refl _)]
  simp only[Bool.true_and,Bool.and_true,Bool.and_eq_true,decide_eq_true_eq]
  omega
 rw[if_pos hm,hh,hp,List.length_cons,hll,Nat.add_sub_cancel,hwn]
 rfl
mutual
theorem zhY {v:Str}{ps:List Str}:∀f:zac,shp false f→zbD (fun w=>w≠v) f→zjC f=false→zat zbl (zat (zaW v ps) f)=f
 | .mk k nm ws s,hs,ha,hm=>by
  rw[shp]at hs
  rw[zbD]at ha
  rw[zjC,Bool.or_eq_false_iff]at hm
  rw[zat,zcw]
  split
  ·rename_i hc
   obtain⟨rfl,h0,_⟩:=hc
   have h3:ws.length≤3:=by
    have:=hs.1.2.1
    rw[show zdw (.mk 2 nm ws s)=decide (ws.length≤3)from rfl]at this
    exact of_decide_eq_true this
   have h4:s=[]:=by
    have:=hs.1.1
    rw[show za2 false (.mk 2 nm ws s)=0 from rfl]at this
    simp only[zbV]at this
    exact List.eq_nil_of_length_eq_zero (by omega)
   subst h4
   exact zmS h0 h3 ha.1
  ·rw[zat,zgu s hs.2 ha.2.2 hm.2]
   unfold zbl
   rw[if_neg]
   intro h
   rw[zeI h]at hm
   exact absurd hm.1 (by decide)
theorem zgu {v:Str}{ps:List Str}:∀fs:List zac,zdu false fs→zaz (fun w=>w≠v) fs→zgR fs=false→zao zbl (zao (zaW v ps) fs)=fs
 |[],_,_,_=>by rw[zao,zao]
 |f::fs,hs,ha,hm=>by
  rw[zdu]at hs
  rw[zaz]at ha
  rw[zgR,Bool.or_eq_false_iff]at hm
  rw[zao,zao,zhY f hs.1 ha.1 hm.1,zgu fs hs.2 ha.2 hm.2]
end
theorem znN {op:Bool}:∀(l:List zac) (f:zac),zdu op l→shp op f→shp op (l.foldl (fun a x=>zac.mk 5 ⟨[]⟩ [] [a,x]) f)
 |[],f,_,h=>h
 |x::l,f,hl,h=>by
  rw[zdu]at hl
  rw[List.foldl_cons]
  refine znN l _ hl.2 ?_
  rw[shp,zdu,zdu,zdu]
  refine⟨⟨rfl,rfl,fun h2=>absurd (show false=true from h2) (by decide),fun _=>rfl⟩,h,hl.1,trivial⟩
theorem zn5 {op:Bool}:∀l:List zac,zdu op l↔∀f∈l,shp op f
 |[]=>by rw[zdu];simp
 |f::l=>by rw[zdu,zn5 l];simp
theorem zqb {i:Nat}(h:i<3):zai (zqa i)=true:=by
 have:i=0∨i=1∨i=2:=by omega
 unfold zqa
 rw[zdR (by omega)]
 rcases this with rfl|rfl|rfl<;>decide
theorem zpD {v nm:Str}{ws:List Str}(hn:zai nm=true)(h3:ws.length≤3):shp false (zcP v nm ws):=by
 unfold zcP
 rw[shp,zdu,zdu]
 refine⟨⟨rfl,rfl,fun _ h=>absurd (.inr rfl) h,fun h=>?_⟩,znN _ _ ((zn5 _).2 fun g hg=>?_) ?_,trivial⟩
 ·exact absurd h (by simp[named,zaG])
 ·obtain⟨i,hi,rfl⟩:=List.mem_map.1 hg
  have hi:=List.mem_range.1 hi
  rw[shp,zdu]
  refine⟨⟨rfl,rfl,fun _ _=>zqb (by omega),fun h=>?_⟩,trivial⟩
  exact absurd h (by simp[named,zaG])
 ·rw[shp,zdu]
  refine⟨⟨rfl,rfl,fun _ _=>hn,fun h=>?_⟩,trivial⟩
  exact absurd h (by simp[named,zaG])
mutual
theorem zlN {v:Str}{ps:List Str}:∀f:zac,shp false f→shp false (zat (zaW v ps) f)
 | .mk k nm ws s,h=>by
  rw[shp]at h
  rw[zat,zcw]
  split
  ·rename_i hc
   obtain⟨rfl,h0,_⟩:=hc
   have h3:ws.length≤3:=by
    have:=h.1.2.1
    rw[show zdw (.mk 2 nm ws s)=decide (ws.length≤3)from rfl]at this
    exact of_decide_eq_true this
   exact zpD (h.1.2.2.1 rfl (by simp[isQ,zaG])) h3
  ·rw[shp]
   exact⟨zhF h.1 rfl (by rw[za6,List.length_map]) (fun _=>rfl) fun _=>trivial,ziX s h.2⟩
theorem ziX {v:Str}{ps:List Str}:∀fs:List zac,zdu false fs→zdu false (zao (zaW v ps) fs)
 |[],_=>by rw[zao,zdu];trivial
 |f::fs,h=>by
  rw[zdu]at h
  rw[zao,zdu]
  exact⟨zlN f h.1,ziX fs h.2⟩
end
mutual
theorem zhZ (ps:List Str):∀f:zac,zbD (fun w=>zai w=true) f→zbD (fun w=>zai w=true∨w=qM) (zat (zaW qM ps) f)
 | .mk k nm ws s,h=>by
  rw[zbD]at h
  rw[zat,zcw]
  split
  ·unfold zcP
   rw[zbD,zaz,zaz]
   refine⟨by simp,fun _=> .inr rfl,ziF _ 5 (by decide) ((zg5 _ _).2 fun g hg=>?_),trivial⟩
   rcases List.mem_cons.1 hg with rfl|hg
   ·rw[zbD,zaz]
    exact⟨fun w hw=> .inr (List.mem_singleton.1 hw),fun e=>absurd e (by decide),trivial⟩
   ·obtain⟨i,hi,rfl⟩:=List.mem_map.1 hg
    rw[zbD,zaz]
    refine⟨fun w hw=>?_,fun e=>absurd e (by decide),trivial⟩
    simp only[List.mem_cons,List.not_mem_nil,or_false]at hw
    rcases hw with rfl|rfl
    ·exact .inr rfl
    ·exact .inl (h.1 _ (zjv (List.mem_range.1 hi)))
  ·rw[zbD]
   exact⟨fun w hw=> .inl (h.1 w hw),fun hq=> .inl (h.2.1 hq),zgv ps s h.2.2⟩
theorem zgv (ps:List Str):∀fs:List zac,zaz (fun w=>zai w=true) fs→zaz (fun w=>zai w=true∨w=qM) (zao (zaW qM ps) fs)
 |[],_=>by rw[zao,zaz];trivial
 |f::fs,h=>by
  rw[zaz]at h
  rw[zao,zaz]
  exact⟨zhZ ps f h.1,zgv ps fs h.2⟩
end
theorem zFG {f:zac}{ps:List Str}(h:(zaL false f).code=0)(hf:zig (zat (zaW qM ps) f)=true)(hm:zjC f=false):
  zaL false (zb4 (zat (zaW qM ps) f) [])=⟨0,0⟩∧zig (zat zbl (zb4 (zat (zaW qM ps) f) []))=true∧zb4 (zat zbl (zb4 (zat (zaW qM ps) f) [])) []=zb4 f []:=by
 have hn:=ze0 h
 have hs:=zf0 h
 refine⟨zs4 (zlN f hs) (zhe (fun f h=>zm2 h) f (zfZ h)) hf fun x hx=>?_,?_,?_⟩
 ·rcases znE _ _ x (zhZ ps f hn) hx with h1|h1
  ·exact h1
  ·exact absurd h1 (ziV ps f [] x hn hx)
 ·have h1:=of_decide_eq_true (show decide ((zat (zaW qM ps) f).size≤200∧(zat (zaW qM ps) f).depth≤40)=true from hf)
  have h2:=zgl (c:=0) (fun f=>zlt f) (zb4 (zat (zaW qM ps) f) [])
  have h3:=zfj (fun f=>zjB f) (zb4 (zat (zaW qM ps) f) [])
  rw[zhc]at h2
  rw[zgk]at h3
  unfold zig
  exact decide_eq_true ⟨by omega,by omega⟩
 ·have h1:=zhd (fun E f f' h=>zmR h) _ _ [] (zql (zat (zaW qM ps) f))
  rw[zhY f hs (zkp (fun w hw e=>by rw[e]at hw;exact absurd hw (by decide)) f hn) hm]at h1
  exact(zp4 h1).symm
end Go.Abs
