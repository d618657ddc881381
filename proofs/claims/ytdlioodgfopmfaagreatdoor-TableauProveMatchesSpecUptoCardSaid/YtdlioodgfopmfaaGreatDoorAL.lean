import Derived.Test.YtdlioodgfopmfaaGreatDoorLW
set_option linter.unusedSimpArgs false
namespace Go.Abs
open Go
mutual
def zbQ (p:Str→Prop):zac→Prop
 | .mk k nm ws s=>(∀w∈ws,p w)∧(isQ k→p nm)∧zaS p s
def zaS (p:Str→Prop):List zac→Prop
 |[]=>True
 |f::fs=>zbQ p f∧zaS p fs
end
mutual
def zgl (σ:Str→Str):zac→zac
 | .mk k nm ws s=> .mk k (if isQ k then σ nm else nm) (ws.map σ) (zco σ s)
def zco (σ:Str→Str):List zac→List zac
 |[]=>[]
 |f::fs=>zgl σ f::zco σ fs
end
theorem zmL (σ:Str→Str):∀l:List zac,zco σ l=l.map (zgl σ)
 |[]=>by rw[zco];rfl
 |f::l=>by rw[zco,zmL σ l];rfl
theorem zfX (p:Str→Prop):∀l:List zac,zaS p l↔∀f∈l,zbQ p f
 |[]=>by rw[zaS];simp
 |f::l=>by rw[zaS,zfX p l];simp
mutual
theorem zlK {p q:Str→Prop}(h:∀w,p w→q w):∀f:zac,zbQ p f→zbQ q f
 | .mk k nm ws s,hf=>by
  rw[zbQ]at hf ⊢
  exact⟨fun w hw=>h w (hf.1 w hw),fun hk=>h nm (hf.2.1 hk),zjx h s hf.2.2⟩
theorem zjx {p q:Str→Prop}(h:∀w,p w→q w):∀fs:List zac,zaS p fs→zaS q fs
 |[],_=>by rw[zaS];trivial
 |f::fs,hf=>by rw[zaS]at hf ⊢;exact⟨zlK h f hf.1,zjx h fs hf.2⟩
end
mutual
theorem zjw {p:Str→Prop}(h:∀w,p w→¬zfE w):∀f:zac,zbQ p f→clean f
 | .mk k nm ws s,hf=>by rw[zbQ]at hf;rw[clean];exact⟨fun w hw=>h w (hf.1 w hw),zic h s hf.2.2⟩
theorem zic {p:Str→Prop}(h:∀w,p w→¬zfE w):∀fs:List zac,zaS p fs→zb0 fs
 |[],_=>by rw[zb0];trivial
 |f::fs,hf=>by rw[zaS]at hf;rw[zb0];exact⟨zjw h f hf.1,zic h fs hf.2⟩
end
mutual
theorem zti (σ:Str→Str):∀f:zac,(zgl σ f).size=f.size
 | .mk k nm ws s=>by rw[zgl,zac.size,zac.size,ziN σ s]
theorem ziN (σ:Str→Str):∀fs:List zac,zac.sizes (zco σ fs)=zac.sizes fs
 |[]=>by rw[zco]
 |f::fs=>by rw[zco,zac.sizes,zac.sizes,zti σ f,ziN σ fs]
end
mutual
theorem zqT (σ:Str→Str):∀f:zac,(zgl σ f).depth=f.depth
 | .mk k nm ws s=>by rw[zgl,zac.depth,zac.depth,zhu σ s]
theorem zhu (σ:Str→Str):∀fs:List zac,zac.depths (zco σ fs)=zac.depths fs
 |[]=>by rw[zco]
 |f::fs=>by rw[zco,zac.depths,zac.depths,zqT σ f,zhu σ fs]
end
theorem ztj (σ:Str→Str)(l:List zac):(zco σ l).length=l.length:=by rw[zmL,List.length_map]
mutual
theorem zwb (σ:Str→Str):∀f:zac,(zgl σ f).fit=f.fit
 | .mk k nm ws s=>by rw[zgl,zac.fit,zac.fit,zjU σ s,List.length_map,ztj]
theorem zjU (σ:Str→Str):∀fs:List zac,zac.fits (zco σ fs)=zac.fits fs
 |[]=>by rw[zco]
 |f::fs=>by rw[zco,zac.fits,zac.fits,zwb σ f,zjU σ fs]
end
theorem zmt (σ:Str→Str)(k:Int)(hk:¬isQ k):∀(l:List zac) (f:zac),zgl σ (l.foldl (fun a x=>zac.mk k ⟨[]⟩ [] [a,x]) f)=(l.map (zgl σ)).foldl (fun a x=>zac.mk k ⟨[]⟩ [] [a,x]) (zgl σ f)
 |[],f=>rfl
 |x::l,f=>by
  rw[List.foldl_cons,zmt σ k hk l,List.map_cons,List.foldl_cons]
  simp only[zgl,zco,if_neg hk,List.map_nil]
theorem zs8 (σ:Str→Str)(k:Int)(hk:¬isQ k)(l:List zac):zgl σ (zez k l)=zez k (l.map (zgl σ)):=by
 cases l with
 |nil=>simp[zez,zgl,zco,isQ]
 |cons f l=>exact zmt σ k hk l f
theorem zjO (p:Str→Prop)(k:Int)(hk:¬isQ k):∀(l:List zac) (f:zac),zbQ p f→zaS p l→zbQ p (l.foldl (fun a x=>zac.mk k ⟨[]⟩ [] [a,x]) f)
 |[],f,h,_=>h
 |x::l,f,h,hl=>by
  rw[List.foldl_cons]
  rw[zaS]at hl
  refine zjO p k hk l _ ?_ hl.2
  simp only[zbQ,zaS]
  exact⟨by simp,fun h=>absurd h hk,h,hl.1,trivial⟩
theorem zjQ (p:Str→Prop)(k:Int)(hk:¬isQ k){l:List zac}(h:zaS p l):zbQ p (zez k l):=by
 cases l with
 |nil=>simp[zez,zbQ,zaS,isQ]
 |cons f l=>rw[zaS]at h;exact zjO p k hk l f h.1 h.2
mutual
theorem zlZ:∀(f:zac) (bd:List Str) (x:Str),x∈cst f bd→x∉bd
 | .mk k nm ws s,bd,x,h=>by
  rw[cst,List.mem_append]at h
  rcases h with h|h
  ·simpa using(List.mem_filter.1 h).2
  ·have:=zgS s _ x h
   split at this
   ·exact fun hb=>this (List.mem_append_left _ hb)
   ·exact this
theorem zgS:∀(fs:List zac) (bd:List Str) (x:Str),x∈zbU fs bd→x∉bd
 |[],bd,x,h=>by rw[zbU]at h;simp at h
 |f::fs,bd,x,h=>by
  rw[zbU,List.mem_append]at h
  rcases h with h|h
  ·exact zlZ f bd x h
  ·exact zgS fs bd x h
end
mutual
theorem zkz {p:Str→Prop}:∀(f:zac) (bd:List Str) (x:Str),zbQ p f→x∈cst f bd→p x
 | .mk k nm ws s,bd,x,hf,h=>by
  rw[zbQ]at hf
  rw[cst,List.mem_append]at h
  rcases h with h|h
  ·exact hf.1 x (List.mem_filter.1 h).1
  ·exact zl1 s _ x hf.2.2 h
theorem zl1 {p:Str→Prop}:∀(fs:List zac) (bd:List Str) (x:Str),zaS p fs→x∈zbU fs bd→p x
 |[],bd,x,_,h=>by rw[zbU]at h;simp at h
 |f::fs,bd,x,hf,h=>by
  rw[zaS]at hf
  rw[zbU,List.mem_append]at h
  rcases h with h|h
  ·exact zkz f bd x hf.1 h
  ·exact zl1 fs bd x hf.2 h
end
mutual
theorem zyc {σ:Str→Str}{p:Str→Prop}(hi:∀a b,p a→p b→σ a=σ b→a=b):∀(f:zac) (bd:List Str),zbQ p f→(∀b∈bd,p b)→cst (zgl σ f) (bd.map σ)=(cst f bd).map σ
 | .mk k nm ws s,bd,hf,hb=>by
  rw[zbQ]at hf
  rw[zgl,cst,cst,List.map_append]
  congr 1
  ·rw[List.filter_map]
   congr 1
   refine List.filter_congr fun w hw=>?_
   simp only[Function.comp]
   rw[decide_eq_decide]
   constructor
   ·intro h hw2;exact h (List.mem_map_of_mem hw2)
   ·intro h hw2
    obtain⟨b,hb2,e⟩:=List.mem_map.1 hw2
    exact h (hi b w (hb b hb2) (hf.1 w hw) e▸hb2)
  ·by_cases hq:isQ k
   ·rw[if_pos hq,if_pos hq,if_pos hq]
    have:=zkB hi s (bd++[nm]) hf.2.2 fun b hb2=>by
     rcases List.mem_append.1 hb2 with h|h
     ·exact hb b h
     ·rw[List.mem_singleton.1 h];exact hf.2.1 hq
    rw[List.map_append]at this
    exact this
   ·rw[if_neg hq,if_neg hq]
    exact zkB hi s bd hf.2.2 hb
theorem zkB {σ:Str→Str}{p:Str→Prop}(hi:∀a b,p a→p b→σ a=σ b→a=b):∀(fs:List zac) (bd:List Str),zaS p fs→(∀b∈bd,p b)→zbU (zco σ fs) (bd.map σ)=(zbU fs bd).map σ
 |[],bd,_,_=>by rw[zco,zbU,zbU];rfl
 |f::fs,bd,hf,hb=>by
  rw[zaS]at hf
  rw[zco,zbU,zbU,List.map_append,zyc hi f bd hf.1 hb,zkB hi fs bd hf.2 hb]
end
theorem ztf {σ:Str→Str}{p:Str→Prop}(hi:∀a b,p a→p b→σ a=σ b→a=b){env:List zaR}{w:Str}(hw:p w)(he:∀b∈env,p b.fr):
  lkp (env.map fun b=>⟨σ b.fr,b.to⟩) (σ w)=lkp env w∨(lkp (env.map fun b=>⟨σ b.fr,b.to⟩) (σ w)=σ w∧lkp env w=w∧w∉env.map (·.fr)):=by
 have key:∀i,i≤env.length→zhK (env.map fun b=>⟨σ b.fr,b.to⟩) (σ w) i=zhK env w i∨(zhK (env.map fun b=>⟨σ b.fr,b.to⟩) (σ w) i=σ w∧zhK env w i=w∧∀j (h:j<env.length),j<i→env[j].fr≠w):=by
  intro i
  induction i with
  |zero=>intro _;exact .inr ⟨rfl,rfl,fun j h1 h2=>by omega⟩
  |succ i ih=>
   intro hi2
   have hlt:i<env.length:=by omega
   have e1:env.getD i default=env[i]:=by rw[List.getD_eq_getElem?_getD,List.getElem?_eq_getElem hlt];rfl
   have e2:(env.map fun b=>(⟨σ b.fr,b.to⟩:zaR)).getD i default=⟨σ env[i].fr,env[i].to⟩:=by
    rw[List.getD_eq_getElem?_getD,List.getElem?_map,List.getElem?_eq_getElem hlt];rfl
   rw[zhK,zhK,e1,e2]
   by_cases hc:env[i].fr=w
   ·rw[if_pos hc,if_pos (by simp only;rw[hc])]
    exact .inl rfl
   ·rw[if_neg hc,if_neg (fun e=>hc (hi _ _ (he _ (List.getElem_mem hlt)) hw e))]
    rcases ih (by omega)with h|⟨h1,h2,h3⟩
    ·exact .inl h
    ·refine .inr ⟨h1,h2,fun j hj hji=>?_⟩
     rcases Nat.lt_or_ge j i with h|h
     ·exact h3 j hj h
     ·obtain rfl:j=i:=by omega
      exact hc
 rcases key env.length (Nat.le_refl _)with h|⟨h1,h2,h3⟩
 ·refine .inl ?_
  unfold lkp;rw[List.length_map];exact h
 ·refine .inr ⟨?_,h2,fun hm=>?_⟩
  ·unfold lkp;rw[List.length_map];exact h1
  ·obtain⟨b,hb,e⟩:=List.mem_map.1 hm
   obtain⟨j,hj,rfl⟩:=List.getElem_of_mem hb
   exact h3 j hj hj e
mutual
theorem zD5 {g:Nat→Str×Nat}{σ:Str→Str}{p:Str→Prop}(hi:∀a b,p a→p b→σ a=σ b→a=b):∀(f:zac) (env:List zaR) (n:Nat),zbQ p f→(∀b∈env,p b.fr)→(∀x∈cst f (env.map (·.fr)),σ x=x)→
  ren g (zgl σ f) (env.map fun b=>⟨σ b.fr,b.to⟩) n=ren g f env n
 | .mk k nm ws s,env,n,hf,he,hc=>by
  rw[zbQ]at hf
  rw[cst]at hc
  have hw:(ws.map σ).map (lkp (env.map fun b=>⟨σ b.fr,b.to⟩))=ws.map (lkp env):=by
   rw[List.map_map]
   refine List.map_congr_left fun w hw=>?_
   rcases ztf hi (hf.1 w hw) he with e|⟨e1,e2,e3⟩
   ·exact e
   ·show lkp _ (σ w)=_
    rw[e1,e2]
    exact hc w (List.mem_append_left _ (List.mem_filter.2 ⟨hw,by simpa using e3⟩))
  rw[zgl,ren,ren,hw]
  by_cases hq:isQ k
  ·rw[if_pos hq]at hc
   simp only[if_pos hq]
   have h3:=zr2 (g:=g) hi s (env++[⟨nm,(g n).1⟩]) (g n).2 hf.2.2 (fun b hb=>by
    rcases List.mem_append.1 hb with h|h
    ·exact he b h
    ·rw[List.mem_singleton.1 h];exact hf.2.1 hq) (fun x hx=>hc x (List.mem_append_right _ (by rw[List.map_append]at hx;exact hx)))
   rw[List.map_append]at h3
   simp only[List.map_cons,List.map_nil]at h3
   rw[h3]
  ·rw[if_neg hq]at hc
   simp only[if_neg hq]
   rw[zr2 hi s env n hf.2.2 he fun x hx=>hc x (List.mem_append_right _ hx)]
theorem zr2 {g:Nat→Str×Nat}{σ:Str→Str}{p:Str→Prop}(hi:∀a b,p a→p b→σ a=σ b→a=b):∀(fs:List zac) (env:List zaR) (n:Nat),zaS p fs→(∀b∈env,p b.fr)→(∀x∈zbU fs (env.map (·.fr)),σ x=x)→
  za5 g (zco σ fs) (env.map fun b=>⟨σ b.fr,b.to⟩) n=za5 g fs env n
 |[],env,n,_,_,_=>by rw[zco,za5,za5]
 |f::fs,env,n,hf,he,hc=>by
  rw[zaS]at hf
  rw[zbU]at hc
  rw[zco,za5,za5,zD5 hi f env n hf.1 he fun x hx=>hc x (List.mem_append_left _ hx)]
  rw[zr2 hi fs env _ hf.2 he fun x hx=>hc x (List.mem_append_right _ hx)]
end
mutual
theorem zy3 {g:Nat→Str×Nat}{σ:Str→Str}(hg:∀k,σ (g k).1=(g k).1):∀(f:zac) (env env':List zaR) (n:Nat),zbQ (fun w=>σ w=w) f→env'.map (·.fr)=env.map (·.fr)→env'.map (·.to)=env.map (fun b=>σ b.to)→
  ren g f env' n=(zgl σ (ren g f env n).1,(ren g f env n).2)
 | .mk k nm ws s,env,env',n,hf,e1,e2=>by
  rw[zbQ]at hf
  have hw:ws.map (lkp env')=(ws.map (lkp env)).map σ:=by
   rw[List.map_map]
   exact List.map_congr_left fun w hw=>ztg e1 e2 (hf.1 w hw)
  rw[ren,ren,hw]
  by_cases hq:isQ k
  ·simp only[if_pos hq]
   have h3:=zle (g:=g) hg s (env++[⟨nm,(g n).1⟩]) (env'++[⟨nm,(g n).1⟩]) (g n).2 hf.2.2 (by rw[List.map_append,List.map_append,e1]) (by rw[List.map_append,List.map_append,e2];simp only[List.map_cons,List.map_nil,hg])
   rw[h3]
   simp only[zgl,if_pos hq,hg]
  ·simp only[if_neg hq]
   rw[zle hg s env env' n hf.2.2 e1 e2]
   simp only[zgl,if_neg hq]
theorem zle {g:Nat→Str×Nat}{σ:Str→Str}(hg:∀k,σ (g k).1=(g k).1):∀(fs:List zac) (env env':List zaR) (n:Nat),zaS (fun w=>σ w=w) fs→env'.map (·.fr)=env.map (·.fr)→env'.map (·.to)=env.map (fun b=>σ b.to)→
  za5 g fs env' n=(zco σ (za5 g fs env n).1,(za5 g fs env n).2)
 |[],env,env',n,_,_,_=>by rw[za5,za5,zco]
 |f::fs,env,env',n,hf,e1,e2=>by
  rw[zaS]at hf
  rw[za5,za5,zy3 hg f env env' n hf.1 e1 e2]
  simp only
  rw[zle hg fs env env' _ hf.2 e1 e2,zco]
end
mutual
theorem zwx {g:Nat→Str×Nat}{p:Str→Prop}(hg:∀k,p (g k).1):∀(f:zac) (env:List zaR) (n:Nat),zbQ p f→(∀b∈env,p b.to)→zbQ p (ren g f env n).1
 | .mk k nm ws s,env,n,hf,he=>by
  rw[zbQ]at hf
  have hw:∀w∈ws.map (lkp env),p w:=fun w hw=>by
   obtain⟨x,hx,rfl⟩:=List.mem_map.1 hw
   rcases zth env x with e|⟨b,hb,e⟩
   ·rw[e];exact hf.1 x hx
   ·rw[e];exact he b hb
  rw[ren]
  split
  ·rw[zbQ]
   refine⟨hw,fun _=>hg n,ziY hg s _ _ hf.2.2 fun b hb=>?_⟩
   rcases List.mem_append.1 hb with h|h
   ·exact he b h
   ·rw[List.mem_singleton.1 h];exact hg n
  ·rename_i hq
   rw[zbQ]
   exact⟨hw,fun h=>absurd h hq,ziY hg s _ _ hf.2.2 he⟩
theorem ziY {g:Nat→Str×Nat}{p:Str→Prop}(hg:∀k,p (g k).1):∀(fs:List zac) (env:List zaR) (n:Nat),zaS p fs→(∀b∈env,p b.to)→zaS p (za5 g fs env n).1
 |[],env,n,_,_=>by rw[za5,zaS];trivial
 |f::fs,env,n,hf,he=>by
  rw[zaS]at hf
  rw[za5,zaS]
  exact⟨zwx hg f _ _ hf.1 he,ziY hg fs _ _ hf.2 he⟩
end
mutual
theorem zoW {op:Bool}:∀(f:zac) (d:Int) (n:Nat),(chk op f d n).1.code=0→zbQ (fun w=>zas w=true) f
 | .mk k nm w s,d,n,h=>by
  rw[chk]at h
  split at h
  ·rename_i h1;exact absurd h h1
  ·rename_i h1
   have h2:=zdB (Decidable.not_not.1 h1)
   rw[zbQ]
   refine⟨fun x hx=>List.all_eq_true.1 h2.1 x hx,fun hq=>h2.2.1 ?_,zlS s _ _ h⟩
   unfold named
   have hq':k=8∨k=9:=hq
   have:(zac.mk k nm w s).kind=k:=rfl
   rw[this]
   exact decide_eq_true (by omega)
theorem zlS {op:Bool}:∀(fs:List zac) (d:Int) (n:Nat),(zeH op fs d n).1.code=0→zaS (fun w=>zas w=true) fs
 |[],d,n,_=>by rw[zaS];trivial
 |f::fs,d,n,h=>by
  rw[zeH]at h
  split at h
  ·rename_i h1;exact absurd h h1
  ·rename_i h1
   rw[zaS]
   exact⟨zoW f d n (Decidable.not_not.1 h1),zlS fs d _ h⟩
end
theorem zio {op:Bool}{f:zac}(h:(zaE op f).code=0):zbQ (fun w=>zas w=true) f:=zoW f 1 0 h
def qn (i:Nat):Str:=⟨63::zaP i⟩
def dn (i:Nat):Str:=⟨36::zaP i⟩
def sg (w:Str):Str:=match w with
 |⟨c::t⟩=>if c=63 then⟨36::t⟩else⟨c::t⟩
 |⟨[]⟩=>⟨[]⟩
def wrap (v:Nat→Str):Nat→zac→zac
 |0,c=>c
 |i+1,c=>wrap v i (.mk 9 (v i) [] [c])
def lwP (n:Nat)(x:Str):Prop:=(x.l.head? =some 63→∃i,i<n∧x=qn i)∧x.l.head? ≠some 36∧¬zfE x
theorem zwa {n:Nat}{x:Str}(h:zas x=true):lwP n x:=by
 unfold zas at h
 have h:=(of_decide_eq_true h).2.2.1
 have hd:∀c:UInt8,x.l.head? =some c→zgI c:=fun c hc=>by
  have h0:x.l.getD 0 0=c:=by rw[List.getD_eq_getElem?_getD,←List.head?_eq_getElem?,hc];rfl
  rwa [h0]at h
 exact⟨fun e=>absurd (hd 63 e) (by decide),fun e=>absurd (hd 36 e) (by decide),fun e=>absurd (hd 33 e) (by decide)⟩
def zdP (f:zac):zac:= .mk 4 ⟨[]⟩ [] [f]
theorem ztw {p:Str→Prop}{f:zac}(h:zbQ p f):zbQ p (zdP f):=by
 simp only[zdP,zbQ,zaS];exact⟨by simp,fun h=>absurd h (by decide),h,trivial⟩
end Go.Abs
