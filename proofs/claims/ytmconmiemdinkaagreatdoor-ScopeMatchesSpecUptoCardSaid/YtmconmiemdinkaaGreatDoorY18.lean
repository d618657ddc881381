/- several texts of this proof in one; no conditions -/
import Derived.Test.YtmconmiemdinkaaGreatDoorY15
import Derived.Test.YtmconmiemdinkaaGreatDoorY17
set_option linter.unusedSimpArgs false
namespace Go.Abs
open Go
mutual
def zbS (p:Str→Prop):zac→Prop
 | .mk k nm ws s=>(∀w∈ws,p w)∧(isQ k→p nm)∧zaS p s
def zaS (p:Str→Prop):List zac→Prop
 |[]=>True
 |f::fs=>zbS p f∧zaS p fs
end
mutual
def zgn (σ:Str→Str):zac→zac
 | .mk k nm ws s=> .mk k (if isQ k then σ nm else nm) (ws.map σ) (zcb σ s)
def zcb (σ:Str→Str):List zac→List zac
 |[]=>[]
 |f::fs=>zgn σ f::zcb σ fs
end
theorem zm1 (σ:Str→Str):∀l:List zac,zcb σ l=l.map (zgn σ)
 |[]=>by rw[zcb];rfl
 |f::l=>by rw[zcb,zm1 σ l];rfl
theorem zia (p:Str→Prop):∀l:List zac,zaS p l↔∀f∈l,zbS p f
 |[]=>by rw[zaS];simp
 |f::l=>by rw[zaS,zia p l];simp
mutual
theorem zl4 {p q:Str→Prop}(h:∀w,p w→q w):∀f:zac,zbS p f→zbS q f
 | .mk k nm ws s,hf=>by
  rw[zbS]at hf ⊢
  exact⟨fun w hw=>h w (hf.1 w hw),fun hk=>h nm (hf.2.1 hk),zjB h s hf.2.2⟩
theorem zjB {p q:Str→Prop}(h:∀w,p w→q w):∀fs:List zac,zaS p fs→zaS q fs
 |[],_=>by rw[zaS];trivial
 |f::fs,hf=>by rw[zaS]at hf ⊢;exact⟨zl4 h f hf.1,zjB h fs hf.2⟩
end
mutual
theorem zjA {p:Str→Prop}(h:∀w,p w→¬zgK w):∀f:zac,zbS p f→zeO f
 | .mk k nm ws s,hf=>by rw[zbS]at hf;rw[zeO];exact⟨fun w hw=>h w (hf.1 w hw),zh9 h s hf.2.2⟩
theorem zh9 {p:Str→Prop}(h:∀w,p w→¬zgK w):∀fs:List zac,zaS p fs→zcB fs
 |[],_=>by rw[zcB];trivial
 |f::fs,hf=>by rw[zaS]at hf;rw[zcB];exact⟨zjA h f hf.1,zh9 h fs hf.2⟩
end
mutual
theorem ztM (σ:Str→Str):∀f:zac,(zgn σ f).size=f.size
 | .mk k nm ws s=>by rw[zgn,zac.size,zac.size,ziK σ s]
theorem ziK (σ:Str→Str):∀fs:List zac,zac.sizes (zcb σ fs)=zac.sizes fs
 |[]=>by rw[zcb]
 |f::fs=>by rw[zcb,zac.sizes,zac.sizes,ztM σ f,ziK σ fs]
end
mutual
theorem zrp (σ:Str→Str):∀f:zac,(zgn σ f).depth=f.depth
 | .mk k nm ws s=>by rw[zgn,zac.depth,zac.depth,zhq σ s]
theorem zhq (σ:Str→Str):∀fs:List zac,zac.depths (zcb σ fs)=zac.depths fs
 |[]=>by rw[zcb]
 |f::fs=>by rw[zcb,zac.depths,zac.depths,zrp σ f,zhq σ fs]
end
theorem ztN (σ:Str→Str)(l:List zac):(zcb σ l).length=l.length:=by rw[zm1,List.length_map]
mutual
theorem zwt (σ:Str→Str):∀f:zac,(zgn σ f).fit=f.fit
 | .mk k nm ws s=>by rw[zgn,zac.fit,zac.fit,zj4 σ s,List.length_map,ztN]
theorem zj4 (σ:Str→Str):∀fs:List zac,zac.fits (zcb σ fs)=zac.fits fs
 |[]=>by rw[zcb]
 |f::fs=>by rw[zcb,zac.fits,zac.fits,zwt σ f,zj4 σ fs]
end
theorem foldl_map (σ:Str→Str)(k:Int)(hk:¬isQ k):∀(l:List zac) (f:zac),zgn σ (l.foldl (fun a x=>zac.mk k ⟨[]⟩ [] [a,x]) f)=(l.map (zgn σ)).foldl (fun a x=>zac.mk k ⟨[]⟩ [] [a,x]) (zgn σ f)
 |[],f=>rfl
 |x::l,f=>by
  rw[List.foldl_cons,foldl_map σ k hk l,List.map_cons,List.foldl_cons]
  simp only[zgn,zcb,if_neg hk,List.map_nil]
theorem zty (σ:Str→Str)(k:Int)(hk:¬isQ k)(l:List zac):zgn σ (zeq k l)=zeq k (l.map (zgn σ)):=by
 cases l with
 |nil=>simp[zeq,zgn,zcb,isQ]
 |cons f l=>exact foldl_map σ k hk l f
theorem zjZ (p:Str→Prop)(k:Int)(hk:¬isQ k):∀(l:List zac) (f:zac),zbS p f→zaS p l→zbS p (l.foldl (fun a x=>zac.mk k ⟨[]⟩ [] [a,x]) f)
 |[],f,h,_=>h
 |x::l,f,h,hl=>by
  rw[List.foldl_cons]
  rw[zaS]at hl
  refine zjZ p k hk l _ ?_ hl.2
  simp only[zbS,zaS]
  exact⟨by simp,fun h=>absurd h hk,h,hl.1,trivial⟩
theorem zj1 (p:Str→Prop)(k:Int)(hk:¬isQ k){l:List zac}(h:zaS p l):zbS p (zeq k l):=by
 cases l with
 |nil=>simp[zeq,zbS,zaS,isQ]
 |cons f l=>rw[zaS]at h;exact zjZ p k hk l f h.1 h.2
mutual
theorem zmd:∀(f:zac) (bd:List Str) (x:Str),x∈cst f bd→x∉bd
 | .mk k nm ws s,bd,x,h=>by
  rw[cst,List.mem_append]at h
  rcases h with h|h
  ·simpa using(List.mem_filter.1 h).2
  ·have:=zjM s _ x h
   split at this
   ·exact fun hb=>this (List.mem_append_left _ hb)
   ·exact this
theorem zjM:∀(fs:List zac) (bd:List Str) (x:Str),x∈zb9 fs bd→x∉bd
 |[],bd,x,h=>by rw[zb9]at h;simp at h
 |f::fs,bd,x,h=>by
  rw[zb9,List.mem_append]at h
  rcases h with h|h
  ·exact zmd f bd x h
  ·exact zjM fs bd x h
end
mutual
theorem zkO {p:Str→Prop}:∀(f:zac) (bd:List Str) (x:Str),zbS p f→x∈cst f bd→p x
 | .mk k nm ws s,bd,x,hf,h=>by
  rw[zbS]at hf
  rw[cst,List.mem_append]at h
  rcases h with h|h
  ·exact hf.1 x (List.mem_filter.1 h).1
  ·exact zme s _ x hf.2.2 h
theorem zme {p:Str→Prop}:∀(fs:List zac) (bd:List Str) (x:Str),zaS p fs→x∈zb9 fs bd→p x
 |[],bd,x,_,h=>by rw[zb9]at h;simp at h
 |f::fs,bd,x,hf,h=>by
  rw[zaS]at hf
  rw[zb9,List.mem_append]at h
  rcases h with h|h
  ·exact zkO f bd x hf.1 h
  ·exact zme fs bd x hf.2 h
end
mutual
theorem zyl {σ:Str→Str}{p:Str→Prop}(hi:∀a b,p a→p b→σ a=σ b→a=b):∀(f:zac) (bd:List Str),zbS p f→(∀b∈bd,p b)→cst (zgn σ f) (bd.map σ)=(cst f bd).map σ
 | .mk k nm ws s,bd,hf,hb=>by
  rw[zbS]at hf
  rw[zgn,cst,cst,List.map_append]
  congr 1
  ·rw[List.filter_map]
   congr 1
   refine List.filter_congr fun w hw=>?_
   simp only[Function.comp]
   rw[decide_eq_decide]
   constructor
   ·intro h hw2;exact h (List.mem_map_of_mem hw2)
   ·intro h hw2
    obtain⟨b,hb2,e⟩:=List.mem_map.1 hw2
    exact h (hi b w (hb b hb2) (hf.1 w hw) e▸hb2)
  ·by_cases hq:isQ k
   ·rw[if_pos hq,if_pos hq,if_pos hq]
    have:=zkQ hi s (bd++[nm]) hf.2.2 fun b hb2=>by
     rcases List.mem_append.1 hb2 with h|h
     ·exact hb b h
     ·rw[List.mem_singleton.1 h];exact hf.2.1 hq
    rw[List.map_append]at this
    exact this
   ·rw[if_neg hq,if_neg hq]
    exact zkQ hi s bd hf.2.2 hb
theorem zkQ {σ:Str→Str}{p:Str→Prop}(hi:∀a b,p a→p b→σ a=σ b→a=b):∀(fs:List zac) (bd:List Str),zaS p fs→(∀b∈bd,p b)→zb9 (zcb σ fs) (bd.map σ)=(zb9 fs bd).map σ
 |[],bd,_,_=>by rw[zcb,zb9,zb9];rfl
 |f::fs,bd,hf,hb=>by
  rw[zaS]at hf
  rw[zcb,zb9,zb9,List.map_append,zyl hi f bd hf.1 hb,zkQ hi fs bd hf.2 hb]
end
theorem ztK {σ:Str→Str}{p:Str→Prop}(hi:∀a b,p a→p b→σ a=σ b→a=b){env:List zbg}{w:Str}(hw:p w)(he:∀b∈env,p b.fr):
  lkp (env.map fun b=>⟨σ b.fr,b.to⟩) (σ w)=lkp env w∨(lkp (env.map fun b=>⟨σ b.fr,b.to⟩) (σ w)=σ w∧lkp env w=w∧w∉env.map (·.fr)):=by
 have key:∀i,i≤env.length→zhM (env.map fun b=>⟨σ b.fr,b.to⟩) (σ w) i=zhM env w i∨(zhM (env.map fun b=>⟨σ b.fr,b.to⟩) (σ w) i=σ w∧zhM env w i=w∧∀j (h:j<env.length),j<i→env[j].fr≠w):=by
  intro i
  induction i with
  |zero=>intro _;exact .inr ⟨rfl,rfl,fun j h1 h2=>by omega⟩
  |succ i ih=>
   intro hi2
   have hlt:i<env.length:=by omega
   have e1:env.getD i default=env[i]:=by rw[List.getD_eq_getElem?_getD,List.getElem?_eq_getElem hlt];rfl
   have e2:(env.map fun b=>(⟨σ b.fr,b.to⟩:zbg)).getD i default=⟨σ env[i].fr,env[i].to⟩:=by
    rw[List.getD_eq_getElem?_getD,List.getElem?_map,List.getElem?_eq_getElem hlt];rfl
   rw[zhM,zhM,e1,e2]
   by_cases hc:env[i].fr=w
   ·rw[if_pos hc,if_pos (by simp only;rw[hc])]
    exact .inl rfl
   ·rw[if_neg hc,if_neg (fun e=>hc (hi _ _ (he _ (List.getElem_mem hlt)) hw e))]
    rcases ih (by omega)with h|⟨h1,h2,h3⟩
    ·exact .inl h
    ·refine .inr ⟨h1,h2,fun j hj hji=>?_⟩
     rcases Nat.lt_or_ge j i with h|h
     ·exact h3 j hj h
     ·obtain rfl:j=i:=by omega
      exact hc
 rcases key env.length (Nat.le_refl _)with h|⟨h1,h2,h3⟩
 ·refine .inl ?_
  unfold lkp;rw[List.length_map];exact h
 ·refine .inr ⟨?_,h2,fun hm=>?_⟩
  ·unfold lkp;rw[List.length_map];exact h1
  ·obtain⟨b,hb,e⟩:=List.mem_map.1 hm
   obtain⟨j,hj,rfl⟩:=List.getElem_of_mem hb
   exact h3 j hj hj e
mutual
theorem zEY {g:Nat→Str×Nat}{σ:Str→Str}{p:Str→Prop}(hi:∀a b,p a→p b→σ a=σ b→a=b):∀(f:zac) (env:List zbg) (n:Nat),zbS p f→(∀b∈env,p b.fr)→(∀x∈cst f (env.map (·.fr)),σ x=x)→
  ren g (zgn σ f) (env.map fun b=>⟨σ b.fr,b.to⟩) n=ren g f env n
 | .mk k nm ws s,env,n,hf,he,hc=>by
  rw[zbS]at hf
  rw[cst]at hc
  have hw:(ws.map σ).map (lkp (env.map fun b=>⟨σ b.fr,b.to⟩))=ws.map (lkp env):=by
   rw[List.map_map]
   refine List.map_congr_left fun w hw=>?_
   rcases ztK hi (hf.1 w hw) he with e|⟨e1,e2,e3⟩
   ·exact e
   ·show lkp _ (σ w)=_
    rw[e1,e2]
    exact hc w (List.mem_append_left _ (List.mem_filter.2 ⟨hw,by simpa using e3⟩))
  rw[zgn,ren,ren,hw]
  by_cases hq:isQ k
  ·rw[if_pos hq]at hc
   simp only[if_pos hq]
   have h3:=zsx (g:=g) hi s (env++[⟨nm,(g n).1⟩]) (g n).2 hf.2.2 (fun b hb=>by
    rcases List.mem_append.1 hb with h|h
    ·exact he b h
    ·rw[List.mem_singleton.1 h];exact hf.2.1 hq) (fun x hx=>hc x (List.mem_append_right _ (by rw[List.map_append]at hx;exact hx)))
   rw[List.map_append]at h3
   simp only[List.map_cons,List.map_nil]at h3
   rw[h3]
  ·rw[if_neg hq]at hc
   simp only[if_neg hq]
   rw[zsx hi s env n hf.2.2 he fun x hx=>hc x (List.mem_append_right _ hx)]
theorem zsx {g:Nat→Str×Nat}{σ:Str→Str}{p:Str→Prop}(hi:∀a b,p a→p b→σ a=σ b→a=b):∀(fs:List zac) (env:List zbg) (n:Nat),zaS p fs→(∀b∈env,p b.fr)→(∀x∈zb9 fs (env.map (·.fr)),σ x=x)→
  zbd g (zcb σ fs) (env.map fun b=>⟨σ b.fr,b.to⟩) n=zbd g fs env n
 |[],env,n,_,_,_=>by rw[zcb,zbd,zbd]
 |f::fs,env,n,hf,he,hc=>by
  rw[zaS]at hf
  rw[zb9]at hc
  rw[zcb,zbd,zbd,zEY hi f env n hf.1 he fun x hx=>hc x (List.mem_append_left _ hx)]
  rw[zsx hi fs env _ hf.2 he fun x hx=>hc x (List.mem_append_right _ hx)]
end
mutual
theorem zzt {g:Nat→Str×Nat}{σ:Str→Str}(hg:∀k,σ (g k).1=(g k).1):∀(f:zac) (env env':List zbg) (n:Nat),zbS (fun w=>σ w=w) f→env'.map (·.fr)=env.map (·.fr)→env'.map (·.to)=env.map (fun b=>σ b.to)→
  ren g f env' n=(zgn σ (ren g f env n).1,(ren g f env n).2)
 | .mk k nm ws s,env,env',n,hf,e1,e2=>by
  rw[zbS]at hf
  have hw:ws.map (lkp env')=(ws.map (lkp env)).map σ:=by
   rw[List.map_map]
   exact List.map_congr_left fun w hw=>ztL e1 e2 (hf.1 w hw)
  rw[ren,ren,hw]
  by_cases hq:isQ k
  ·simp only[if_pos hq]
   have h3:=zly (g:=g) hg s (env++[⟨nm,(g n).1⟩]) (env'++[⟨nm,(g n).1⟩]) (g n).2 hf.2.2 (by rw[List.map_append,List.map_append,e1]) (by rw[List.map_append,List.map_append,e2];simp only[List.map_cons,List.map_nil,hg])
   rw[h3]
   simp only[zgn,if_pos hq,hg]
  ·simp only[if_neg hq]
   rw[zly hg s env env' n hf.2.2 e1 e2]
   simp only[zgn,if_neg hq]
theorem zly {g:Nat→Str×Nat}{σ:Str→Str}(hg:∀k,σ (g k).1=(g k).1):∀(fs:List zac) (env env':List zbg) (n:Nat),zaS (fun w=>σ w=w) fs→env'.map (·.fr)=env.map (·.fr)→env'.map (·.to)=env.map (fun b=>σ b.to)→
  zbd g fs env' n=(zcb σ (zbd g fs env n).1,(zbd g fs env n).2)
 |[],env,env',n,_,_,_=>by rw[zbd,zbd,zcb]
 |f::fs,env,env',n,hf,e1,e2=>by
  rw[zaS]at hf
  rw[zbd,zbd,zzt hg f env env' n hf.1 e1 e2]
  simp only
  rw[zly hg fs env env' _ hf.2 e1 e2,zcb]
end
mutual
theorem zwI {g:Nat→Str×Nat}{p:Str→Prop}(hg:∀k,p (g k).1):∀(f:zac) (env:List zbg) (n:Nat),zbS p f→(∀b∈env,p b.to)→zbS p (ren g f env n).1
 | .mk k nm ws s,env,n,hf,he=>by
  rw[zbS]at hf
  have hw:∀w∈ws.map (lkp env),p w:=fun w hw=>by
   obtain⟨x,hx,rfl⟩:=List.mem_map.1 hw
   rcases zxI env x with e|⟨b,hb,e⟩
   ·rw[e];exact hf.1 x hx
   ·rw[e];exact he b hb
  rw[ren]
  split
  ·rw[zbS]
   refine⟨hw,fun _=>hg n,ziY hg s _ _ hf.2.2 fun b hb=>?_⟩
   rcases List.mem_append.1 hb with h|h
   ·exact he b h
   ·rw[List.mem_singleton.1 h];exact hg n
  ·rename_i hq
   rw[zbS]
   exact⟨hw,fun h=>absurd h hq,ziY hg s _ _ hf.2.2 he⟩
theorem ziY {g:Nat→Str×Nat}{p:Str→Prop}(hg:∀k,p (g k).1):∀(fs:List zac) (env:List zbg) (n:Nat),zaS p fs→(∀b∈env,p b.to)→zaS p (zbd g fs env n).1
 |[],env,n,_,_=>by rw[zbd,zaS];trivial
 |f::fs,env,n,hf,he=>by
  rw[zaS]at hf
  rw[zbd,zaS]
  exact⟨zwI hg f _ _ hf.1 he,ziY hg fs _ _ hf.2 he⟩
end
mutual
theorem zpm {op:Bool}:∀(f:zac) (d:Int) (n:Nat),(chk op f d n).1.code=0→zbS (fun w=>zav w=true) f
 | .mk k nm w s,d,n,h=>by
  rw[chk]at h
  split at h
  ·rename_i h1;exact absurd h h1
  ·rename_i h1
   have h2:=zcO (Decidable.not_not.1 h1)
   rw[zbS]
   refine⟨fun x hx=>List.all_eq_true.1 h2.1 x hx,fun hq=>h2.2.1 ?_,zma s _ _ h⟩
   unfold named
   have hq':k=8∨k=9:=hq
   have:(zac.mk k nm w s).kind=k:=rfl
   rw[this]
   exact decide_eq_true (by omega)
theorem zma {op:Bool}:∀(fs:List zac) (d:Int) (n:Nat),(zej op fs d n).1.code=0→zaS (fun w=>zav w=true) fs
 |[],d,n,_=>by rw[zaS];trivial
 |f::fs,d,n,h=>by
  rw[zej]at h
  split at h
  ·rename_i h1;exact absurd h h1
  ·rename_i h1
   rw[zaS]
   exact⟨zpm f d n (Decidable.not_not.1 h1),zma fs d _ h⟩
end
theorem zil {op:Bool}{f:zac}(h:(zaV op f).code=0):zbS (fun w=>zav w=true) f:=zpm f 1 0 h
def qn (i:Nat):Str:=⟨63::zbb i⟩
def sg (w:Str):Str:=match w with
 |⟨c::t⟩=>if c=63 then⟨36::t⟩else⟨c::t⟩
 |⟨[]⟩=>⟨[]⟩
def wrap (v:Nat→Str):Nat→zac→zac
 |0,c=>c
 |i+1,c=>wrap v i (.mk 9 (v i) [] [c])
def lwP (n:Nat)(x:Str):Prop:=(x.l.head? =some 63→∃i,i<n∧x=qn i)∧x.l.head? ≠some 36∧¬zgK x
theorem zws {n:Nat}{x:Str}(h:zav x=true):lwP n x:=by
 unfold zav at h
 have h:=(of_decide_eq_true h).2.2.1
 have hd:∀c:UInt8,x.l.head? =some c→zgM c:=fun c hc=>by
  have h0:x.l.getD 0 0=c:=by rw[List.getD_eq_getElem?_getD,←List.head?_eq_getElem?,hc];rfl
  rwa [h0]at h
 exact⟨fun e=>absurd (hd 63 e) (by decide),fun e=>absurd (hd 36 e) (by decide),fun e=>absurd (hd 33 e) (by decide)⟩
def zKt (f:zac):zac:= .mk 4 ⟨[]⟩ [] [f]
end Go.Abs
namespace Go.Abs
open Go
mutual
def wfE:zac→Prop
 | .mk k nm _ s=>(k=5→s.length=2)∧(k=9→s.length=1)∧(k=2→nm.l≠[])∧zsd s
def zsd:List zac→Prop
 |[]=>True
 |f::fs=>wfE f∧zsd fs
end
mutual
theorem zyi {op:Bool}:∀(f:zac) (d:Int) (n:Nat),(chk op f d n).1.code=0→wfE f
 | .mk k nm w s,d,n,h=>by
  rw[chk]at h
  split at h
  ·rename_i h1;exact absurd h h1
  ·rename_i h1
   have h2:=zcO (Decidable.not_not.1 h1)
   have h3:=h2.2.2.2.2
   simp only[zaU]at h3
   rw[wfE]
   refine⟨fun e=>?_,fun e=>?_,fun e=>?_,zpr s _ _ h⟩
   ·subst e
    have:za7 op (zac.mk 5 nm w s)=2:=by simp[za7,zcd,zaG]
    omega
   ·subst e
    have:za7 op (zac.mk 9 nm w s)=1:=by simp[za7,zcd,zaG]
    omega
   ·have hn:=h2.2.1 (by unfold named;exact decide_eq_true (.inl e))
    simp only[zcs]at hn
    unfold zav at hn
    have:=(of_decide_eq_true hn).1
    intro e2;rw[e2]at this;simp at this
theorem zpr {op:Bool}:∀(fs:List zac) (d:Int) (n:Nat),(zej op fs d n).1.code=0→zsd fs
 |[],d,n,_=>by rw[zsd];trivial
 |f::fs,d,n,h=>by
  rw[zej]at h
  split at h
  ·rename_i h1;exact absurd h h1
  ·rename_i h1
   rw[zsd]
   exact⟨zyi f d n (Decidable.not_not.1 h1),zpr fs d _ h⟩
end
mutual
def zgm:zac→List zac
 | .mk k nm ws s=>if k=5∧s.length=2 then ziI s else[.mk k nm ws s]
def ziI:List zac→List zac
 |[]=>[]
 |f::fs=>zgm f++fs
end
theorem ztH {f a b:zac}(hk:f.kind=5)(hs:f.subs=[a,b]):zgm f=zgm a++[b]:=by
 cases f with
 |mk k nm ws s=>
  simp only[zaG,zaU]at hk hs
  subst hk hs
  rw[zgm,if_pos ⟨rfl,rfl⟩,ziI]
theorem ztI {f:zac}(h:¬(f.kind=5∧f.subs.length=2)):zgm f=[f]:=by
 cases f with
 |mk k nm ws s=>
  simp only[zaG,zaU]at h
  rw[zgm,if_neg h]
def zpw:zac:= .mk 0 ⟨[]⟩ [] []
def zco (f:zac):List zac:=zgm (f.subs.getD 0 zpw)
def zhL (f:zac):zac:=(zco f).getD 0 zpw
def okE (f:zac):Bool:=decide (f.kind=9)&&decide ((zhL f).kind=2)&&decide ((zhL f).words.length=1)&&decide ((zhL f).words.getD 0 ⟨[]⟩=f.name)
def zsz (i:Nat):Str:=⟨97::114::103::zbb (i+1)⟩
def zoB (f:zac)(i:Nat)(x:zac):Bool:=decide (x.kind=2)&&decide (x.name=zsz i)&&decide (x.words.length=2)&&decide (x.words.getD 0 ⟨[]⟩=f.name)&& !decide (x.words.getD 1 ⟨[]⟩=f.name)
def zgj (f:zac):Nat→Bool
 |0=>true
 |i+1=>zgj f i&&zoB f i ((zco f).getD (i+1) zpw)
def zkt (f:zac)(i:Nat):List Str:=(List.range i).map fun j=>((zco f).getD (j+1) zpw).words.getD 1 ⟨[]⟩
def zda (f:zac):Bool:=okE f&&decide (2≤(zco f).length)&&decide ((zco f).length≤4)&&zgj f ((zco f).length-1)
def zbJ (f:zac):zac:=if zda f then .mk 2 (zhL f).name (zkt f ((zco f).length-1)) []else f
mutual
def zaC (by':zac→zac):zac→zac
 | .mk k nm ws s=>by' (.mk k nm ws (zat by' s))
def zat (by':zac→zac):List zac→List zac
 |[]=>[]
 |f::fs=>zaC by' f::zat by' fs
end
theorem zbx (by':zac→zac):∀l:List zac,zat by' l=l.map (zaC by')
 |[]=>by rw[zat];rfl
 |f::l=>by rw[zat,zbx by' l];rfl
theorem zqI (by':zac→zac)(f:zac):zaC by' f=by' (.mk f.kind f.name f.words (f.subs.map (zaC by'))):=by cases f;rw[zaC,zbx];rfl
theorem zpH {f:zac}:∀{n i:Nat},zgj f n=true→i<n→zoB f i ((zco f).getD (i+1) zpw)=true
 |n+1,i,h,hi=>by
  rw[zgj,Bool.and_eq_true]at h
  rcases Nat.lt_or_ge i n with h1|h1
  ·exact zpH h.1 h1
  ·obtain rfl:i=n:=by omega
   exact h.2
theorem zlm {f:zac}(h:okE f=true):f.kind=9∧(zhL f).kind=2:=by
 unfold okE at h
 simp only[Bool.and_eq_true,decide_eq_true_eq]at h
 exact⟨h.1.1.1,h.1.1.2⟩
theorem zfn {f:zac}(h:zda f=true):okE f=true:=by
 unfold zda at h
 simp only[Bool.and_eq_true]at h
 exact h.1.1.1
mutual
theorem zog {by':zac→zac}(hb:∀f,wfE f→wfE (by' f)):∀f:zac,wfE f→wfE (zaC by' f)
 | .mk k nm ws s,h=>by
  rw[wfE]at h
  rw[zaC]
  refine hb _ ?_
  rw[wfE,zbx,List.length_map]
  refine⟨h.1,h.2.1,h.2.2.1,?_⟩
  rw[←zbx]
  exact zeN hb s h.2.2.2
theorem zeN {by':zac→zac}(hb:∀f,wfE f→wfE (by' f)):∀fs:List zac,zsd fs→zsd (zat by' fs)
 |[],_=>by rw[zat,zsd];trivial
 |f::fs,h=>by rw[zsd]at h;rw[zat,zsd];exact⟨zog hb f h.1,zeN hb fs h.2⟩
end
theorem zm6 (f:zac):(zbJ f).size≤f.size:=by
 unfold zbJ
 split
 ·have:=f.size_pos;simp only[zac.size,zac.sizes];omega
 ·exact Nat.le_refl _
mutual
theorem zhi {by':zac→zac}{c:Nat}(hb:∀f,(by' f).size≤f.size+c):∀f:zac,(zaC by' f).size≤f.size*(c+1)
 | .mk k nm ws s=>by
  rw[zaC]
  have h1:=hb (.mk k nm ws (zat by' s))
  have h2:=zf6 hb s
  rw[zac.size]at h1 ⊢
  rw[Nat.add_mul,Nat.one_mul]
  omega
theorem zf6 {by':zac→zac}{c:Nat}(hb:∀f,(by' f).size≤f.size+c):∀fs:List zac,zac.sizes (zat by' fs)≤zac.sizes fs*(c+1)
 |[]=>by rw[zat,zac.sizes];omega
 |f::fs=>by
  rw[zat,zac.sizes,zac.sizes,Nat.add_mul]
  have h1:=zhi hb f
  have h2:=zf6 hb fs
  omega
end
mutual
theorem zij {by':zac→zac}(hb:∀f,f.fit=true→(by' f).fit=true):∀f:zac,f.fit=true→(zaC by' f).fit=true
 | .mk k nm ws s,h=>by
  rw[zac.fit]at h
  simp only[Bool.and_eq_true]at h
  rw[zaC]
  refine hb _ ?_
  rw[zac.fit,zbx,List.length_map,←zbx,zhk hb s h.2,h.1.1,h.1.2]
  rfl
theorem zhk {by':zac→zac}(hb:∀f,f.fit=true→(by' f).fit=true):∀fs:List zac,zac.fits fs=true→zac.fits (zat by' fs)=true
 |[],_=>by rw[zat,zac.fits]
 |f::fs,h=>by rw[zac.fits,Bool.and_eq_true]at h;rw[zat,zac.fits,zij hb f h.1,zhk hb fs h.2];rfl
end
mutual
theorem zl8 {by':zac→zac}{p:Str→Prop}(hb:∀f,wfE f→zbS p f→zbS p (by' f))(hw:∀f,wfE f→wfE (by' f)):∀f:zac,wfE f→zbS p f→zbS p (zaC by' f)
 | .mk k nm ws s,h2,h=>by
  have h3:=h2
  rw[wfE]at h3
  rw[zbS]at h
  rw[zaC]
  refine hb _ ?_ ?_
  ·rw[wfE,zbx,List.length_map]
   refine⟨h3.1,h3.2.1,h3.2.2.1,?_⟩
   rw[←zbx]
   exact zeN hw s h3.2.2.2
  ·rw[zbS];exact⟨h.1,h.2.1,zf5 hb hw s h3.2.2.2 h.2.2⟩
theorem zf5 {by':zac→zac}{p:Str→Prop}(hb:∀f,wfE f→zbS p f→zbS p (by' f))(hw:∀f,wfE f→wfE (by' f)):∀fs:List zac,zsd fs→zaS p fs→zaS p (zat by' fs)
 |[],_,_=>by rw[zat,zaS];trivial
 |f::fs,h2,h=>by rw[zaS]at h;rw[zsd]at h2;rw[zat,zaS];exact⟨zl8 hb hw f h2.1 h.1,zf5 hb hw fs h2.2 h.2⟩
end
def qM:Str:=⟨[63]⟩
def dM:Str:=⟨[36]⟩
def zdf (v:Str)(nm:Str)(ws:List Str):zac:= .mk 9 v [] [zeq 5 (.mk 2 nm [v] []::(List.range ws.length).map fun i=> .mk 2 (zsz i) [v,ws.getD i ⟨[]⟩] [])]
def zbf (v:Str)(ps:List Str)(f:zac):zac:=if f.kind=2∧0<f.words.length∧f.name∈ps then zdf v f.name f.words else f
theorem zcS (v:Str)(ps:List Str)(k:Int)(nm:Str)(ws:List Str)(s:List zac):zbf v ps (.mk k nm ws s)=if k=2∧0<ws.length∧nm∈ps then zdf v nm ws else .mk k nm ws s:=rfl
theorem zrN (nm:Str)(ws:List Str)(h:∀w∈ws,sg w=w):zgn sg (zdf qM nm ws)=zdf dM nm ws:=by
 have e:sg qM=dM:=rfl
 have hh:(zac.mk 2 nm [qM] []::(List.range ws.length).map fun i=>zac.mk 2 (zsz i) [qM,ws.getD i ⟨[]⟩] []).map (zgn sg)=zac.mk 2 nm [dM] []::(List.range ws.length).map fun i=>zac.mk 2 (zsz i) [dM,ws.getD i ⟨[]⟩] []:=by
  rw[List.map_cons,List.map_map]
  congr 1
  refine List.map_congr_left fun i hi=>?_
  have hi:=List.mem_range.1 hi
  have hm:ws.getD i ⟨[]⟩∈ws:=by
   rw[List.getD_eq_getElem?_getD,List.getElem?_eq_getElem hi]
   exact List.getElem_mem _
  show zgn sg (zac.mk 2 (zsz i) [qM,ws.getD i ⟨[]⟩] [])=_
  rw[zgn,if_neg (by decide),List.map_cons,List.map_cons,List.map_nil,e,h _ hm,zcb]
 unfold zdf
 rw[zgn,zcb,zcb,zty sg 5 (by decide),hh,if_pos (show isQ 9 from .inr rfl),e,List.map_nil]
mutual
theorem zun (ps:List Str):∀f:zac,zbS (fun w=>sg w=w) f→zaC (zbf dM ps) f=zgn sg (zaC (zbf qM ps) f)
 | .mk k nm ws s,h=>by
  have h2:=h
  rw[zbS]at h
  rw[zaC,zaC,zkj ps s h.2.2]
  rw[zcS,zcS]
  split
  ·rw[zrN nm ws h.1]
  ·rw[zgn]
   congr 1
   ·by_cases hq:isQ k
    ·rw[if_pos hq];exact(h.2.1 hq).symm
    ·rw[if_neg hq]
   ·conv=>lhs;rw[←List.map_id ws]
    exact List.map_congr_left fun w hw=>(h.1 w hw).symm
theorem zkj (ps:List Str):∀fs:List zac,zaS (fun w=>sg w=w) fs→zat (zbf dM ps) fs=zcb sg (zat (zbf qM ps) fs)
 |[],_=>by rw[zat,zat,zcb]
 |f::fs,h=>by rw[zaS]at h;rw[zat,zat,zcb,zun ps f h.1,zkj ps fs h.2]
end
def swP (x:Str):Prop:=(x.l.head? =some 63→x=qM)∧x.l.head? ≠some 36∧¬zgK x
theorem zlK {x:Str}(h:zav x=true):swP x:=by
 have:=zws (n:=0) h
 exact⟨fun e=>by obtain⟨i,hi,_⟩:=this.1 e;omega,this.2⟩
theorem zzH:swP qM:=⟨fun _=>rfl,by simp[qM],by simp[zgK,qM]⟩
theorem zk5 {ws:List Str}{i:Nat}(h:i<ws.length):ws.getD i ⟨[]⟩∈ws:=by
 rw[List.getD_eq_getElem?_getD,List.getElem?_eq_getElem h]
 exact List.getElem_mem _
theorem zoY {nm:Str}{ws:List Str}(h:∀w∈ws,swP w):zbS swP (zdf qM nm ws):=by
 unfold zdf
 simp only[zbS,zaS]
 refine⟨by simp,fun _=>zzH,zj1 swP 5 (by decide) ((zia _ _).2 fun g hg=>?_),trivial⟩
 rcases List.mem_cons.1 hg with rfl|hg
 ·rw[zbS,zaS]
  exact⟨fun w hw=>by rw[List.mem_singleton.1 hw];exact zzH,fun e=>absurd e (by decide),trivial⟩
 ·obtain⟨i,hi,rfl⟩:=List.mem_map.1 hg
  have hi:=List.mem_range.1 hi
  rw[zbS,zaS]
  refine⟨fun w hw=>?_,fun e=>absurd e (by decide),trivial⟩
  simp only[List.mem_cons,List.not_mem_nil,or_false]at hw
  rcases hw with rfl|rfl
  ·exact zzH
  ·exact h _ (zk5 hi)
mutual
theorem zrP (ps:List Str):∀f:zac,zbS (fun w=>zav w=true) f→zbS swP (zaC (zbf qM ps) f)
 | .mk k nm ws s,h=>by
  rw[zbS]at h
  rw[zaC]
  rw[zcS]
  split
  ·exact zoY fun w hw=>zlK (h.1 w hw)
  ·rw[zbS]
   exact⟨fun w hw=>zlK (h.1 w hw),fun hq=>zlK (h.2.1 hq),zi4 ps s h.2.2⟩
theorem zi4 (ps:List Str):∀fs:List zac,zaS (fun w=>zav w=true) fs→zaS swP (zat (zbf qM ps) fs)
 |[],_=>by rw[zat,zaS];trivial
 |f::fs,h=>by rw[zaS]at h;rw[zat,zaS];exact⟨zrP ps f h.1,zi4 ps fs h.2⟩
end
mutual
theorem zki (ps:List Str):∀(f:zac) (bd:List Str) (x:Str),zbS (fun w=>zav w=true) f→x∈cst (zaC (zbf qM ps) f) bd→x≠qM
 | .mk k nm ws s,bd,x,h,hx=>by
  rw[zbS]at h
  rw[zaC]at hx
  rw[zcS]at hx
  split at hx
  ·unfold zdf at hx
   rw[cst,if_pos (show isQ 9 from .inr rfl),zb9,zb9]at hx
   simp only[List.filter_nil,List.nil_append,List.append_nil]at hx
   have:=zmd _ _ _ hx
   intro e
   exact this (by rw[e];simp)
  ·rw[cst,List.mem_append]at hx
   rcases hx with hx|hx
   ·have:=h.1 x (List.mem_filter.1 hx).1
    intro e
    rw[e]at this
    exact absurd this (by decide)
   ·exact zi5 ps s _ x h.2.2 hx
theorem zi5 (ps:List Str):∀(fs:List zac) (bd:List Str) (x:Str),zaS (fun w=>zav w=true) fs→x∈zb9 (zat (zbf qM ps) fs) bd→x≠qM
 |[],bd,x,_,hx=>by rw[zat,zb9]at hx;simp at hx
 |f::fs,bd,x,h,hx=>by
  rw[zaS]at h
  rw[zat,zb9,List.mem_append]at hx
  rcases hx with hx|hx
  ·exact zki ps f bd x h.1 hx
  ·exact zi5 ps fs bd x h.2 hx
end
theorem zoZ (v nm:Str)(ws:List Str):(zdf v nm ws).size≤2*ws.length+4∧(zdf v nm ws).fit=true:=by
 unfold zdf
 have h1:=zrm 5 (.mk 2 nm [v] []::(List.range ws.length).map fun i=> .mk 2 (zsz i) [v,ws.getD i ⟨[]⟩] [])
 have hl:∀g∈(zac.mk 2 nm [v] []::(List.range ws.length).map fun i=>zac.mk 2 (zsz i) [v,ws.getD i ⟨[]⟩] []),g.size≤1∧g.fit=true:=fun g hg=>by
  rcases List.mem_cons.1 hg with rfl|hg
  ·exact⟨by simp[zac.size,zac.sizes],by simp[zac.fit,zac.fits]⟩
  ·obtain⟨i,_,rfl⟩:=List.mem_map.1 hg
   exact⟨by simp[zac.size,zac.sizes],by simp[zac.fit,zac.fits]⟩
 have h2:=znx (c:=1) _ fun g hg=>(hl g hg).1
 have h3:=ztx 5 ((fits_mem _).2 fun g hg=>(hl g hg).2)
 rw[List.length_cons,List.length_map,List.length_range]at h1 h2
 refine⟨by simp only[zac.size,zac.sizes];omega,?_⟩
 rw[zac.fit,zac.fits,zac.fits,h3];rfl
theorem zoX {v:Str}{ps:List Str}{f:zac}(h:f.fit=true):(zbf v ps f).fit=true:=by
 unfold zbf;split
 ·exact(zoZ _ _ _).2
 ·exact h
end Go.Abs
namespace Go.Abs
open Go
abbrev PE:=List (Str×Str)
def znV:PE→Str→Str→Prop
 |[],w,w'=>w=w'
 |(a,b)::E,w,w'=>(w=a∧w'=b)∨(w≠a∧w'≠b∧znV E w w')
def zcA (E:PE):List Str→List Str→Prop
 |[],[]=>True
 |w::ws,w'::ws'=>znV E w w'∧zcA E ws ws'
 |[],_::_=>False
 |_::_,[]=>False
mutual
def Aeq:PE→zac→zac→Prop
 |E,.mk k nm ws s,.mk k' nm' ws' s'=>k=k'∧(¬isQ k→nm=nm')∧zcA E ws ws'∧zcq (if isQ k then(nm,nm')::E else E) s s'
def zcq:PE→List zac→List zac→Prop
 |_,[],[]=>True
 |E,f::fs,g::gs=>Aeq E f g∧zcq E fs gs
 |_,[],_::_=>False
 |_,_::_,[]=>False
end
theorem zgI {E:PE}:∀{a b:List Str},zcA E a b→a.length=b.length
 |[],[],_=>rfl
 |_::a,_::b,h=>by rw[zcA]at h;rw[List.length_cons,List.length_cons,zgI h.2]
 |[],_::_,h=>by rw[zcA]at h;exact h.elim
 |_::_,[],h=>by rw[zcA]at h;exact h.elim
theorem zgH {E:PE}:∀{a b:List Str} {i:Nat},zcA E a b→i<a.length→znV E (a.getD i ⟨[]⟩) (b.getD i ⟨[]⟩)
 |[],[],i,_,hi=>by simp at hi
 |w::a,w'::b,0,h,_=>by rw[zcA]at h;exact h.1
 |w::a,w'::b,i+1,h,hi=>by rw[zcA]at h;exact zgH (i:=i) h.2 (by simpa using hi)
 |[],_::_,_,h,_=>by rw[zcA]at h;exact h.elim
 |_::_,[],_,h,_=>by rw[zcA]at h;exact h.elim
theorem zkv {E:PE}:∀{a b:List zac},zcq E a b→a.length=b.length
 |[],[],_=>rfl
 |_::a,_::b,h=>by rw[zcq]at h;rw[List.length_cons,List.length_cons,zkv h.2]
 |[],_::_,h=>by rw[zcq]at h;exact h.elim
 |_::_,[],h=>by rw[zcq]at h;exact h.elim
theorem zo6 {E:PE}:∀{a b c d:List zac},zcq E a b→zcq E c d→zcq E (a++c) (b++d)
 |[],[],_,_,_,h=>h
 |_::a,_::b,_,_,h,h2=>by rw[zcq]at h;rw[List.cons_append,List.cons_append,zcq];exact⟨h.1,zo6 h.2 h2⟩
 |[],_::_,_,_,h,_=>by rw[zcq]at h;exact h.elim
 |_::_,[],_,_,h,_=>by rw[zcq]at h;exact h.elim
theorem zx0 {E:PE}:Aeq E zpw zpw:=by
 unfold zpw
 rw[Aeq,if_neg (by decide)]
 exact⟨rfl,fun _=>rfl,by rw[zcA];trivial,by rw[zcq];trivial⟩
theorem zdZ {E:PE}:∀{a b:List zac} (i:Nat),zcq E a b→Aeq E (a.getD i zpw) (b.getD i zpw)
 |[],[],i,_=>by simp only[List.getD_nil];exact zx0
 |_::a,_::b,0,h=>by rw[zcq]at h;exact h.1
 |_::a,_::b,i+1,h=>by rw[zcq]at h;exact zdZ i h.2
 |[],_::_,_,h=>by rw[zcq]at h;exact h.elim
 |_::_,[],_,h=>by rw[zcq]at h;exact h.elim
theorem zjw {E:PE}{f f':zac}:Aeq E f f'↔f.kind=f'.kind∧(¬isQ f.kind→f.name=f'.name)∧zcA E f.words f'.words∧zcq (if isQ f.kind then(f.name,f'.name)::E else E) f.subs f'.subs:=by
 cases f;cases f';rw[Aeq];rfl
theorem znW {E:PE}{s s':Str→Str}(h:∀w w',znV E w w'→s w=s' w'):∀{a b:List Str},zcA E a b→a.map s=b.map s'
 |[],[],_=>rfl
 |w::a,w'::b,hw=>by rw[zcA]at hw;rw[List.map_cons,List.map_cons,h _ _ hw.1,znW h hw.2]
 |[],_::_,h=>by rw[zcA]at h;exact h.elim
 |_::_,[],h=>by rw[zcA]at h;exact h.elim
mutual
theorem zsw {g:Nat→Str×Nat}:∀(f f':zac) (E:PE) (env env':List zbg) (n:Nat),Aeq E f f'→(∀w w',znV E w w'→lkp env w=lkp env' w')→ren g f env n=ren g f' env' n
 | .mk k nm ws s,.mk k' nm' ws' s',E,env,env',n,h,he=>by
  rw[Aeq]at h
  obtain⟨rfl,h2,h3,h4⟩:=h
  rw[ren,ren,znW he h3]
  by_cases hq:isQ k
  ·rw[if_pos hq]at h4
   simp only[if_pos hq]
   rw[zkC (g:=g) s s' ((nm,nm')::E) (env++[(⟨nm,(g n).1⟩:zbg)]) (env'++[(⟨nm',(g n).1⟩:zbg)]) (g n).2 h4 fun w w' hw=>?_]
   rw[zdM,zdM]
   rw[znV]at hw
   rcases hw with⟨rfl,rfl⟩|⟨h5,h6,h7⟩
   ·rw[if_pos rfl,if_pos rfl]
   ·rw[if_neg (fun e=>h5 e.symm),if_neg (fun e=>h6 e.symm)]
    exact he w w' h7
  ·rw[if_neg hq]at h4
   simp only[if_neg hq]
   rw[zkC (g:=g) s s' E env env' n h4 he,h2 hq]
theorem zkC {g:Nat→Str×Nat}:∀(f f':List zac) (E:PE) (env env':List zbg) (n:Nat),zcq E f f'→(∀w w',znV E w w'→lkp env w=lkp env' w')→zbd g f env n=zbd g f' env' n
 |[],[],E,env,env',n,_,_=>by rw[zbd,zbd]
 |f::fs,f'::fs',E,env,env',n,h,he=>by
  rw[zcq]at h
  rw[zbd,zbd,zsw f f' E env env' n h.1 he]
  rw[zkC fs fs' E env env' _ h.2 he]
 |[],_::_,_,_,_,_,h,_=>by rw[zcq]at h;exact h.elim
 |_::_,[],_,_,_,_,h,_=>by rw[zcq]at h;exact h.elim
end
theorem zhG {E:PE}{bd bd':List Str}(hb:∀w w',znV E w w'→(w∈bd↔w'∈bd')∧(w∉bd→w=w')):∀{a b:List Str},zcA E a b→a.filter (fun w=>decide (w∉bd))=b.filter (fun w=>decide (w∉bd'))
 |[],[],_=>rfl
 |w::a,w'::b,hw=>by
  rw[zcA]at hw
  rw[List.filter_cons,List.filter_cons,zhG hb hw.2]
  obtain⟨h1,h2⟩:=hb w w' hw.1
  by_cases h:w∈bd
  ·rw[if_neg (by simpa using h),if_neg (by simpa using h1.1 h)]
  ·have e:=h2 h
   rw[if_pos (by simpa using h),if_pos (by simpa using fun h3=>h (h1.2 h3)),e]
 |[],_::_,h=>by rw[zcA]at h;exact h.elim
 |_::_,[],h=>by rw[zcA]at h;exact h.elim
mutual
theorem zsv:∀(f f':zac) (E:PE) (bd bd':List Str),Aeq E f f'→(∀w w',znV E w w'→(w∈bd↔w'∈bd')∧(w∉bd→w=w'))→cst f bd=cst f' bd'
 | .mk k nm ws s,.mk k' nm' ws' s',E,bd,bd',h,he=>by
  rw[Aeq]at h
  obtain⟨rfl,h2,h3,h4⟩:=h
  rw[cst,cst,zhG he h3]
  by_cases hq:isQ k
  ·rw[if_pos hq]at h4
   rw[if_pos hq,if_pos hq]
   rw[zkB s s' ((nm,nm')::E) (bd++[nm]) (bd'++[nm']) h4 fun w w' hw=>?_]
   rw[znV]at hw
   simp only[List.mem_append,List.mem_singleton]
   rcases hw with⟨rfl,rfl⟩|⟨h5,h6,h7⟩
   ·exact⟨⟨fun _=> .inr rfl,fun _=> .inr rfl⟩,fun h=>absurd (.inr rfl) h⟩
   ·obtain⟨h8,h9⟩:=he w w' h7
    refine⟨⟨fun h=>?_,fun h=>?_⟩,fun h=>h9 fun h0=>h (.inl h0)⟩
    ·rcases h with h|h
     ·exact .inl (h8.1 h)
     ·exact absurd h h5
    ·rcases h with h|h
     ·exact .inl (h8.2 h)
     ·exact absurd h h6
  ·rw[if_neg hq]at h4
   rw[if_neg hq,if_neg hq,zkB s s' E bd bd' h4 he]
theorem zkB:∀(f f':List zac) (E:PE) (bd bd':List Str),zcq E f f'→(∀w w',znV E w w'→(w∈bd↔w'∈bd')∧(w∉bd→w=w'))→zb9 f bd=zb9 f' bd'
 |[],[],E,bd,bd',_,_=>by rw[zb9,zb9]
 |f::fs,f'::fs',E,bd,bd',h,he=>by
  rw[zcq]at h
  rw[zb9,zb9,zsv f f' E bd bd' h.1 he,zkB fs fs' E bd bd' h.2 he]
 |[],_::_,_,_,_,h,_=>by rw[zcq]at h;exact h.elim
 |_::_,[],_,_,_,h,_=>by rw[zcq]at h;exact h.elim
end
theorem zsu {f f':zac}(h:Aeq [] f f'):zaN f []=zaN f' []:=by
 have h1:cst f []=cst f' []:=zsv f f' [] [] [] h fun w w' hw=>⟨by simp,fun _=>hw⟩
 unfold zaN zcy
 rw[h1,zsw f f' [] [] [] 0 h fun w w' hw=>by rw[zgV,zgV];exact hw]
mutual
theorem zua {used:List Str}:∀(f:zac) (E:PE) (env:List zbg) (bd:List Str) (n:Nat),(∀w,w∈bd∨w∈used→znV E w (lkp env w)∧(lkp env w∈used∨∃j,j<n∧lkp env w=zew j))→(∀x∈cst f bd,x∈used)→Aeq E f (ren (vg used) f env n).1
 | .mk k nm ws s,E,env,bd,n,he,hc=>by
  rw[cst]at hc
  have hw:zcA E ws (ws.map (lkp env)):=by
   have:∀l:List Str,(∀w∈l,w∈ws)→zcA E l (l.map (lkp env)):=by
    intro l
    induction l with
    |nil=>intro _;rw[List.map_nil,zcA];trivial
    |cons w l ih=>
     intro hl
     rw[List.map_cons,zcA]
     refine⟨(he w ?_).1,ih fun x hx=>hl x (List.mem_cons_of_mem _ hx)⟩
     by_cases hb:w∈bd
     ·exact .inl hb
     ·exact .inr (hc w (List.mem_append_left _ (List.mem_filter.2 ⟨hl w (by simp),by simpa using hb⟩)))
   exact this ws fun _ h=>h
  rw[ren]
  by_cases hq:isQ k
  ·rw[if_pos hq]at hc
   rw[if_pos hq,Aeq,if_pos hq]
   obtain⟨a1,_,a3,_⟩:=za9 used n
   refine⟨rfl,fun h=>absurd hq h,hw,zlv s _ _ (bd++[nm]) _ (fun w hw2=>?_) fun x hx=>hc x (List.mem_append_right _ hx)⟩
   rw[zdM,znV]
   by_cases e:nm=w
   ·rw[if_pos e]
    exact⟨.inl ⟨e.symm,rfl⟩,.inr ⟨zbX used n,Nat.lt_succ_self _,rfl⟩⟩
   ·rw[if_neg e]
    have hw3:w∈bd∨w∈used:=by
     rcases hw2 with h|h
     ·rcases List.mem_append.1 h with h|h
      ·exact .inl h
      ·exact absurd (List.mem_singleton.1 h).symm e
     ·exact .inr h
    obtain⟨h1,h2⟩:=he w hw3
    refine⟨.inr ⟨fun h=>e h.symm,fun h=>?_,h1⟩,?_⟩
    ·rw[h]at h2
     rcases h2 with h2|⟨j,hj,h2⟩
     ·exact a3 h2
     ·have:=zlQ h2;omega
    ·rcases h2 with h2|⟨j,hj,h2⟩
     ·exact .inl h2
     ·refine .inr ⟨j,?_,h2⟩
      have:(vg used n).2=zbX used n+1:=rfl
      omega
  ·rw[if_neg hq]at hc
   rw[if_neg hq,Aeq,if_neg hq]
   exact⟨rfl,fun _=>rfl,hw,zlv s _ _ bd _ he fun x hx=>hc x (List.mem_append_right _ hx)⟩
theorem zlv {used:List Str}:∀(fs:List zac) (E:PE) (env:List zbg) (bd:List Str) (n:Nat),(∀w,w∈bd∨w∈used→znV E w (lkp env w)∧(lkp env w∈used∨∃j,j<n∧lkp env w=zew j))→(∀x∈zb9 fs bd,x∈used)→zcq E fs (zbd (vg used) fs env n).1
 |[],E,env,bd,n,_,_=>by rw[zbd,zcq];trivial
 |f::fs,E,env,bd,n,he,hc=>by
  rw[zb9]at hc
  rw[zbd,zcq]
  refine⟨zua f E env bd n he fun x hx=>hc x (List.mem_append_left _ hx),zlv fs E env bd _ (fun w hw=>?_) fun x hx=>hc x (List.mem_append_right _ hx)⟩
  obtain⟨h1,h2⟩:=he w hw
  refine⟨h1,?_⟩
  rcases h2 with h2|⟨j,hj,h2⟩
  ·exact .inl h2
  ·have:=((zht (zuT used)).1 f env n).1
   exact .inr ⟨j,by omega,h2⟩
end
theorem zsF (f:zac):Aeq [] f (zaN f []):=by
 refine zua f [] [] [] 0 (fun w hw=>?_) fun x hx=>(ze2 f x).2 hx
 rw[zgV]
 rcases hw with h|h
 ·simp at h
 ·exact⟨rfl,.inl h⟩
mutual
theorem zmZ:∀(f f':zac) (E:PE),Aeq E f f'→zcq E (zgm f) (zgm f')
 | .mk k nm ws s,.mk k' nm' ws' s',E,h=>by
  have h0:=h
  rw[Aeq]at h
  obtain⟨rfl,h2,h3,h4⟩:=h
  have hl:=zkv h4
  rw[zgm,zgm,←hl]
  by_cases hk:k=5∧s.length=2
  ·rw[if_pos hk,if_pos hk]
   rw[if_neg (by rw[hk.1];decide)]at h4
   exact zro s s' E h4
  ·rw[if_neg hk,if_neg hk,zcq]
   exact⟨h0,by rw[zcq];trivial⟩
theorem zro:∀(f f':List zac) (E:PE),zcq E f f'→zcq E (ziI f) (ziI f')
 |[],[],E,_=>by rw[ziI,zcq];trivial
 |f::fs,f'::fs',E,h=>by
  rw[zcq]at h
  rw[ziI,ziI]
  exact zo6 (zmZ f f' E h.1) h.2
 |[],_::_,_,h=>by rw[zcq]at h;exact h.elim
 |_::_,[],_,h=>by rw[zcq]at h;exact h.elim
end
theorem znd {E:PE}{f f':zac}(h:Aeq E f f')(hk:f.kind=9):zcq ((f.name,f'.name)::E) (zco f) (zco f'):=by
 rw[zjw,if_pos (show isQ f.kind from .inr hk)]at h
 unfold zco
 exact zmZ _ _ _ (zdZ 0 h.2.2.2)
theorem zgF {E:PE}{a b w w':Str}(h:znV ((a,b)::E) w w'):(w=a↔w'=b)∧(w≠a→znV E w w'):=by
 rw[znV]at h
 rcases h with⟨rfl,rfl⟩|⟨h1,h2,h3⟩
 ·exact⟨⟨fun _=>rfl,fun _=>rfl⟩,fun h=>absurd rfl h⟩
 ·exact⟨⟨fun h=>absurd h h1,fun h=>absurd h h2⟩,fun _=>h3⟩
theorem zzm {E:PE}{f f':zac}(h:Aeq E f f'):okE f=okE f':=by
 have hk:=(zjw.1 h).1
 unfold okE
 rw[←hk]
 by_cases h9:f.kind=9
 ·have hp:=znd h h9
  have hh:Aeq ((f.name,f'.name)::E) (zhL f) (zhL f'):=zdZ 0 hp
  rw[zjw]at hh
  obtain⟨e1,_,e2,_⟩:=hh
  rw[←e1,←zgI e2]
  by_cases hl:(zhL f).words.length=1
  ·have:=(zgF (zgH (i:=0) e2 (by omega))).1
   rw[show decide ((zhL f).words.getD 0 ⟨[]⟩=f.name)=decide ((zhL f').words.getD 0 ⟨[]⟩=f'.name)from decide_eq_decide.2 this]
  ·simp[hl]
 ·simp[h9]
theorem ztj {E:PE}{f f' x x':zac}(h:Aeq ((f.name,f'.name)::E) x x')(i:Nat):zoB f i x=zoB f' i x':=by
 rw[zjw]at h
 obtain⟨e1,e0,e2,_⟩:=h
 unfold zoB
 rw[←e1,←zgI e2]
 by_cases hk:x.kind=2
 ·rw[e0 (by rw[hk];decide)]
  by_cases hl:x.words.length=2
  ·have h0:=(zgF (zgH (i:=0) e2 (by omega))).1
   have h1:=(zgF (zgH (i:=1) e2 (by omega))).1
   rw[show decide (x.words.getD 0 ⟨[]⟩=f.name)=decide (x'.words.getD 0 ⟨[]⟩=f'.name)from decide_eq_decide.2 h0,
    show decide (x.words.getD 1 ⟨[]⟩=f.name)=decide (x'.words.getD 1 ⟨[]⟩=f'.name)from decide_eq_decide.2 h1]
  ·simp[hl]
 ·simp[hk]
theorem zmL {E:PE}{f f':zac}(h:zcq ((f.name,f'.name)::E) (zco f) (zco f')):∀n,zgj f n=zgj f' n
 |0=>by rw[zgj,zgj]
 |n+1=>by rw[zgj,zgj,zmL h n,ztj (zdZ (n+1) h) n]
theorem zrV {E:PE}{f f':zac}(h:zcq ((f.name,f'.name)::E) (zco f) (zco f')){n:Nat}(hg:zgj f n=true):zcA E (zkt f n) (zkt f' n):=by
 unfold zkt
 have:∀l:List Nat,(∀j∈l,j<n)→zcA E (l.map fun j=>((zco f).getD (j+1) zpw).words.getD 1 ⟨[]⟩) (l.map fun j=>((zco f').getD (j+1) zpw).words.getD 1 ⟨[]⟩):=by
  intro l
  induction l with
  |nil=>intro _;rw[List.map_nil,List.map_nil,zcA];trivial
  |cons j l ih=>
   intro hl
   rw[List.map_cons,List.map_cons,zcA]
   refine⟨?_,ih fun x hx=>hl x (List.mem_cons_of_mem _ hx)⟩
   have hj:=zpH hg (hl j (by simp))
   have hx:=zdZ (j+1) h
   unfold zoB at hj
   simp only[Bool.and_eq_true,decide_eq_true_eq,Bool.not_eq_true',decide_eq_false_iff_not]at hj
   have hw:=(zjw.1 hx).2.2.1
   exact(zgF (zgH (i:=1) hw (by omega))).2 hj.2
 exact this _ fun j hj=>List.mem_range.1 hj
theorem zoM {E:PE}{f f':zac}(h:Aeq E f f'):Aeq E (zbJ f) (zbJ f'):=by
 have ho:=zzm h
 by_cases ht:okE f=true
 ·have hk:=(zlm ht).1
  have hp:=znd h hk
  have hl:=zkv hp
  have hm:zda f=zda f':=by
   unfold zda
   rw[ho,hl,zmL hp]
  unfold zbJ
  rw[←hm,←hl]
  by_cases hmt:zda f=true
  ·rw[if_pos hmt,if_pos hmt,Aeq,if_neg (by decide)]
   have hh:=zdZ 0 hp
   have hh2:=zjw.1 hh
   refine⟨rfl,fun _=>hh2.2.1 ?_,zrV hp ?_,by rw[zcq];trivial⟩
   ·rw[show((zco f).getD 0 zpw).kind=2 from(zlm ht).2];decide
   ·unfold zda at hmt
    simp only[Bool.and_eq_true]at hmt
    exact hmt.2
  ·rw[if_neg hmt,if_neg hmt];exact h
 ·have h1:¬zda f=true:=fun hm=>ht (zfn hm)
  have h2:¬zda f'=true:=fun hm=>ht (by rw[ho];exact zfn hm)
  unfold zbJ
  rw[if_neg h1,if_neg h2];exact h
mutual
theorem zii {by':zac→zac}(hb:∀E f f',Aeq E f f'→Aeq E (by' f) (by' f')):∀(f f':zac) (E:PE),Aeq E f f'→Aeq E (zaC by' f) (zaC by' f')
 | .mk k nm ws s,.mk k' nm' ws' s',E,h=>by
  rw[Aeq]at h
  rw[zaC,zaC]
  refine hb _ _ _ ?_
  rw[Aeq]
  exact⟨h.1,h.2.1,h.2.2.1,zhj hb s s' _ h.2.2.2⟩
theorem zhj {by':zac→zac}(hb:∀E f f',Aeq E f f'→Aeq E (by' f) (by' f')):∀(f f':List zac) (E:PE),zcq E f f'→zcq E (zat by' f) (zat by' f')
 |[],[],E,_=>by rw[zat,zcq];trivial
 |f::fs,f'::fs',E,h=>by
  rw[zcq]at h
  rw[zat,zat,zcq]
  exact⟨zii hb f f' E h.1,zhj hb fs fs' E h.2⟩
 |[],_::_,_,h=>by rw[zcq]at h;exact h.elim
 |_::_,[],_,h=>by rw[zcq]at h;exact h.elim
end
mutual
theorem zf4 {by':zac→zac}(hb:∀f,(by' f).depth≤f.depth):∀f:zac,(zaC by' f).depth≤f.depth
 | .mk k nm ws s=>by
  rw[zaC]
  refine Nat.le_trans (hb _) ?_
  rw[zac.depth,zac.depth]
  have:=zfu hb s
  omega
theorem zfu {by':zac→zac}(hb:∀f,(by' f).depth≤f.depth):∀fs:List zac,zac.depths (zat by' fs)≤zac.depths fs
 |[]=>by rw[zat];exact Nat.le_refl _
 |f::fs=>by
  rw[zat,zac.depths,zac.depths]
  have h1:=zf4 hb f
  have h2:=zfu hb fs
  omega
end
theorem zsZ (f:zac):1≤f.depth:=by cases f;rw[zac.depth];omega
theorem zli (f:zac):(zbJ f).depth≤f.depth:=by
 unfold zbJ
 split
 ·have:=zsZ f;simp only[zac.depth,zac.depths];omega
 ·exact Nat.le_refl _
mutual
theorem zno (g:Nat→Str×Nat):∀(f:zac) (env:List zbg) (n:Nat),(ren g f env n).1.depth=f.depth
 | .mk k nm ws s,env,n=>by
  rw[ren]
  split
  ·rw[zac.depth,zac.depth,zg1 g s]
  ·rw[zac.depth,zac.depth,zg1 g s]
theorem zg1 (g:Nat→Str×Nat):∀(fs:List zac) (env:List zbg) (n:Nat),zac.depths (zbd g fs env n).1=zac.depths fs
 |[],env,n=>by rw[zbd]
 |f::fs,env,n=>by rw[zbd,zac.depths,zac.depths,zno g f,zg1 g fs]
end
theorem zhh (f:zac)(env:List zbg):(zaN f env).depth=f.depth:=zno _ f env 0
theorem zof (f:zac)(env:List zbg):zk0 (zaN f env)=zk0 f:=by unfold zk0;rw[zfG,zhh]
def zww (op:Bool)(f:zac):Prop:=(f.subs.length:Int)=za7 op f∧zdB f=true∧(named f=true→¬isQ f.kind→zav f.name=true)∧(named f=false→f.name=⟨[]⟩)
mutual
def shp (op:Bool):zac→Prop
 | .mk k nm w s=>zww op (.mk k nm w s)∧zdO op s
def zdO (op:Bool):List zac→Prop
 |[]=>True
 |f::fs=>shp op f∧zdO op fs
end
theorem zwv {op:Bool}{f:zac}{d:Int}{n:Nat}(hs:zww op f)(hn:n+1≤200)(hd:d≤40)(hw:∀w∈f.words,zav w=true)(hq:isQ f.kind→zav f.name=true):zdb op f d n=0:=by
 obtain⟨h1,h2,h3,h4⟩:=hs
 unfold zdb
 rw[if_neg (by omega),if_neg (by omega),if_neg (by rw[Decidable.not_not];exact⟨h1,h2⟩),if_neg,if_neg,if_neg]
 ·rw[show f.words.all zav=true from List.all_eq_true.2 hw];simp
 ·rintro⟨h5,h6⟩;exact h6 (h4 h5)
 ·rintro⟨h5,h6⟩
  by_cases hk:isQ f.kind
  ·rw[hq hk]at h6;cases h6
  ·rw[h3 h5 hk]at h6;cases h6
mutual
theorem zxn {op:Bool}:∀(f:zac) (d:Int) (n:Nat),shp op f→zbS (fun w=>zav w=true) f→n+f.size≤200→d+f.depth≤41→chk op f d n=(⟨0,0⟩,n+f.size)
 | .mk k nm ws s,d,n,hs,ha,hn,hd=>by
  rw[shp]at hs
  rw[zbS]at ha
  rw[zac.size]at hn ⊢
  rw[zac.depth]at hd
  have:=zwv (d:=d) (n:=n) hs.1 (by omega) (by omega) ha.1 ha.2.1
  rw[chk,if_neg (by simp[this]),zsN s (d+1) (n+1) hs.2 ha.2.2 (by omega) (by omega)]
  rw[show n+1+zac.sizes s=n+(zac.sizes s+1) by omega]
theorem zsN {op:Bool}:∀(fs:List zac) (d:Int) (n:Nat),zdO op fs→zaS (fun w=>zav w=true) fs→n+zac.sizes fs≤200→d+zac.depths fs≤41→zej op fs d n=(⟨0,0⟩,n+zac.sizes fs)
 |[],d,n,_,_,_,_=>by rw[zej,zac.sizes];rfl
 |f::fs,d,n,hs,ha,hn,hd=>by
  rw[zdO]at hs
  rw[zaS]at ha
  rw[zac.sizes]at hn ⊢
  rw[zac.depths]at hd
  rw[zej,zxn f d n hs.1 ha.1 (by omega) (by omega),if_neg (by simp),zsN fs d _ hs.2 ha.2 (by omega) (by omega)]
  rw[Nat.add_assoc]
end
theorem zsH {op:Bool}{f:zac}(hs:shp op f)(ha:zbS (fun w=>zav w=true) f)(hf:zk0 f=true):zaV op f=⟨0,0⟩:=by
 unfold zk0 at hf
 have hf:=of_decide_eq_true hf
 unfold zaV
 rw[zxn f 1 0 hs ha (by omega) (by omega)]
mutual
theorem zsM {op:Bool}:∀(f:zac) (d:Int) (n:Nat),(chk op f d n).1.code=0→shp op f∧d+f.depth≤41
 | .mk k nm w s,d,n,h=>by
  rw[chk]at h
  split at h
  ·rename_i h1;exact absurd h h1
  ·rename_i h1
   have h1:=Decidable.not_not.1 h1
   have h2:=zcO h1
   have h3:=zpp s _ _ h
   have hd:d≤40:=by
    unfold zdb at h1
    split at h1
    ·simp at h1
    ·omega
   rw[shp,zac.depth]
   exact⟨⟨⟨h2.2.2.2.2,h2.2.2.2.1,fun hn _=>h2.2.1 hn,h2.2.2.1⟩,h3.1⟩,by have:=h3.2;omega⟩
theorem zpp {op:Bool}:∀(fs:List zac) (d:Int) (n:Nat),(zej op fs d n).1.code=0→zdO op fs∧(zac.depths fs=0∨d+zac.depths fs≤41)
 |[],d,n,_=>by rw[zdO,zac.depths];exact⟨trivial,.inl rfl⟩
 |f::fs,d,n,h=>by
  rw[zej]at h
  split at h
  ·rename_i h1;exact absurd h h1
  ·rename_i h1
   have h2:=zsM f d n (Decidable.not_not.1 h1)
   have h3:=zpp fs d _ h
   rw[zdO,zac.depths]
   exact⟨⟨h2.1,h3.1⟩,.inr (by have:=h2.2;rcases h3.2 with h|h<;>omega)⟩
end
theorem zjG {op:Bool}{f:zac}(h:(zaV op f).code=0):shp op f:=(zsM f 1 0 h).1
theorem ziR {op:Bool}{k:Int}{nm nm':Str}{w w':List Str}{s s':List zac}(h:zww op (.mk k nm w s))(hl:w'.length=w.length)(hs:s'.length=s.length)(hn:¬isQ k→nm'=nm)(_hq:isQ k→True):zww op (.mk k nm' w' s'):=by
 obtain⟨h1,h2,h3,h4⟩:=h
 refine⟨?_,?_,fun h5 h6=>?_,fun h5=>?_⟩
 ·simp only[zaU]at h1 ⊢
  rw[hs,h1];rfl
 ·have:zdB (.mk k nm' w' s')=zdB (.mk k nm w s):=by
   show(if k=2 then decide (w'.length≤3)else if k=3 then decide (w'.length=2)else decide (w'.length=0))=_
   rw[hl];rfl
  rw[this];exact h2
 ·simp only[zaG,zcs]at h6 h3 ⊢
  rw[hn h6];exact h3 h5 h6
 ·have h6:=h4 h5
  simp only[zcs]at h6 ⊢
  have:¬isQ k:=by
   intro hq
   have:named (.mk k nm' w' s')=true:=by
    unfold named
    refine decide_eq_true ?_
    simp only[zaG]
    rcases hq with e|e<;>omega
   rw[h5]at this;cases this
  rw[hn this];exact h6
mutual
theorem zoU {op:Bool}(g:Nat→Str×Nat):∀(f:zac) (env:List zbg) (n:Nat),shp op f→shp op (ren g f env n).1
 | .mk k nm ws s,env,n,h=>by
  rw[shp]at h
  rw[ren]
  split
  ·rename_i hq
   rw[shp]
   exact⟨ziR h.1 (List.length_map _) (zdj g _ s _) (fun h=>absurd hq h) fun _=>trivial,zlz g s _ _ h.2⟩
  ·rw[shp]
   exact⟨ziR h.1 (List.length_map _) (zdj g _ s _) (fun _=>rfl) fun _=>trivial,zlz g s _ _ h.2⟩
theorem zlz {op:Bool}(g:Nat→Str×Nat):∀(fs:List zac) (env:List zbg) (n:Nat),zdO op fs→zdO op (zbd g fs env n).1
 |[],env,n,_=>by rw[zbd,zdO];trivial
 |f::fs,env,n,h=>by
  rw[zdO]at h
  rw[zbd,zdO]
  exact⟨zoU g f _ _ h.1,zlz g fs _ _ h.2⟩
end
theorem zeo {n:Nat}(h:n<10):zbb n=[UInt8.ofNat (48+n)]:=by unfold zbb;rw[Lib.decDigits,dif_pos h]
theorem zs1:∀(k u:Nat),u<10^(k+1)→(zbb u).length≤k+1∧∀c∈zbb u,48≤c.toNat∧c.toNat≤57:=by
 intro k
 induction k with
 |zero=>
  intro u h
  rw[zeo (by omega)]
  refine⟨by simp,fun c hc=>?_⟩
  rw[List.mem_singleton.1 hc,UInt8.toNat_ofNat',Nat.mod_eq_of_lt (by omega)];omega
 |succ k ih=>
  intro u h
  rcases Nat.lt_or_ge u 10 with h1|h1
  ·rw[zeo h1]
   refine⟨by simp,fun c hc=>?_⟩
   rw[List.mem_singleton.1 hc,UInt8.toNat_ofNat',Nat.mod_eq_of_lt (by omega)];omega
  ·have h2:=ih (u / 10) (by rw[Nat.pow_succ]at h;omega)
   have e:zbb u=zbb (u / 10)++[UInt8.ofNat (48+u % 10)]:=by
    unfold zbb
    rw[Lib.decDigits,dif_neg (by omega)]
   rw[e,List.length_append,List.length_singleton]
   refine⟨by omega,fun c hc=>?_⟩
   rcases List.mem_append.1 hc with hc|hc
   ·exact h2.2 c hc
   ·rw[List.mem_singleton.1 hc,UInt8.toNat_ofNat',Nat.mod_eq_of_lt (by omega)];omega
theorem zuU {j:Nat}(h:j<10^20):zav (zew j)=true:=by
 have h1:=zs1 19 j h
 refine ziO ?_ ?_ ?_ fun i hi=>?_
 ·simp[zew]
 ·simp only[zew,List.length_cons];omega
 ·simp[zew,zgM]
 ·simp only[zew,List.length_cons]at hi ⊢
  cases i with
  |zero=>show okc (118:UInt8);decide
  |succ i=>
   rw[List.getD_cons_succ]
   have hm:(zbb j).getD i 0∈zbb j:=by
    rw[List.getD_eq_getElem?_getD,List.getElem?_eq_getElem (by omega)]
    exact List.getElem_mem _
   have:=h1.2 _ hm
   exact .inr (.inl ⟨by omega,by omega⟩)
mutual
theorem znp {used:List Str}{B:Nat}{p:Str→Prop}(hv:∀j,j<B→p (zew j)):∀(f:zac) (env:List zbg) (bd:List Str) (n:Nat),n+(used.length+1)*f.size≤B→(∀w∈bd,p (lkp env w))→(∀w,w∉bd→lkp env w=w)→(∀x∈cst f bd,p x)→zbS p (ren (vg used) f env n).1
 | .mk k nm ws s,env,bd,n,hn,h1,h2,hc=>by
  rw[zac.size,Nat.mul_add,Nat.mul_one]at hn
  rw[cst]at hc
  have hw:∀w∈ws.map (lkp env),p w:=fun w hw=>by
   obtain⟨x,hx,rfl⟩:=List.mem_map.1 hw
   by_cases hb:x∈bd
   ·exact h1 x hb
   ·rw[h2 x hb]
    exact hc x (List.mem_append_left _ (List.mem_filter.2 ⟨hx,by simpa using hb⟩))
  have hg:=za9 used n
  rw[ren]
  by_cases hq:isQ k
  ·rw[if_pos hq]at hc
   have hvn:p (zew (zbX used n)):=hv _ (by omega)
   rw[if_pos hq,zbS]
   refine⟨hw,fun _=>hvn,zg2 hv s _ (bd++[nm]) _ ?_ (fun w hw2=>?_) (fun w hw2=>?_) fun x hx=>hc x (List.mem_append_right _ hx)⟩
   ·show zbX used n+1+_≤B
    omega
   ·rw[zdM]
    by_cases e:nm=w
    ·rw[if_pos e];exact hvn
    ·rw[if_neg e]
     rcases List.mem_append.1 hw2 with h|h
     ·exact h1 w h
     ·exact absurd (List.mem_singleton.1 h).symm e
   ·rw[zdM,if_neg (fun e=>hw2 (List.mem_append_right _ (List.mem_singleton.2 e.symm)))]
    exact h2 w fun h=>hw2 (List.mem_append_left _ h)
  ·rw[if_neg hq]at hc
   rw[if_neg hq,zbS]
   exact⟨hw,fun h=>absurd h hq,zg2 hv s _ bd _ (by omega) h1 h2 fun x hx=>hc x (List.mem_append_right _ hx)⟩
theorem zg2 {used:List Str}{B:Nat}{p:Str→Prop}(hv:∀j,j<B→p (zew j)):∀(fs:List zac) (env:List zbg) (bd:List Str) (n:Nat),n+(used.length+1)*zac.sizes fs≤B→(∀w∈bd,p (lkp env w))→(∀w,w∉bd→lkp env w=w)→(∀x∈zb9 fs bd,p x)→zaS p (zbd (vg used) fs env n).1
 |[],env,bd,n,_,_,_,_=>by rw[zbd,zaS];trivial
 |f::fs,env,bd,n,hn,h1,h2,hc=>by
  rw[zac.sizes,Nat.mul_add]at hn
  rw[zb9]at hc
  rw[zbd,zaS]
  have:=((zht (zuT used)).1 f env n).2
  exact⟨znp hv f env bd n (by omega) h1 h2 fun x hx=>hc x (List.mem_append_left _ hx),zg2 hv fs env bd _ (by omega) h1 h2 fun x hx=>hc x (List.mem_append_right _ hx)⟩
end
mutual
theorem zin:∀(f:zac) (bd:List Str),f.fit=true→(cst f bd).length≤1000*f.size
 | .mk k nm ws s,bd,h=>by
  rw[zac.fit]at h
  simp only[Bool.and_eq_true,decide_eq_true_eq]at h
  rw[cst,List.length_append,zac.size]
  have h1:=List.length_filter_le (fun w=>decide (w∉bd)) ws
  have h2:=zpv s (if isQ k then bd++[nm]else bd) h.2
  omega
theorem zpv:∀(fs:List zac) (bd:List Str),zac.fits fs=true→(zb9 fs bd).length≤1000*zac.sizes fs
 |[],bd,_=>by rw[zb9];simp
 |f::fs,bd,h=>by
  rw[zac.fits,Bool.and_eq_true]at h
  rw[zb9,List.length_append,zac.sizes]
  have h1:=zin f bd h.1
  have h2:=zpv fs bd h.2
  omega
end
theorem zih {f:zac}(hf:f.fit=true)(hs:f.size≤200)(hc:∀x∈cst f [],zav x=true):zbS (fun w=>zav w=true) (zaN f []):=by
 have h1:=zin f [] hf
 have h2:=znQ f
 refine znp (B:=10^20) (fun j hj=>zuU hj) f [] [] 0 ?_ (by simp) (fun w _=>zgV w) hc
 show 0+((zcy f).length+1)*f.size≤10^20
 have h3:((zcy f).length+1)*f.size≤200001*200:=Nat.mul_le_mul (by omega) hs
 omega
theorem zvw {op:Bool}{f:zac}(hs:shp op f)(hf:f.fit=true)(hl:zk0 f=true)(hc:∀x∈cst f [],zav x=true):zaV op (zaN f [])=⟨0,0⟩:=by
 have h1:=of_decide_eq_true (show decide (f.size≤200∧f.depth≤40)=true from hl)
 exact zsH (zoU _ f [] 0 hs) (zih hf h1.1 hc) (by rw[zof];exact hl)
mutual
def zlj:zac→Bool
 | .mk k nm ws s=>okE (.mk k nm ws s)||zhY s
def zhY:List zac→Bool
 |[]=>false
 |f::fs=>zlj f||zhY fs
end
theorem zj3:∀(l:List zac) (f:zac),(∀g∈l,g.kind≠5)→zgm (l.foldl (fun a x=>zac.mk 5 ⟨[]⟩ [] [a,x]) f)=zgm f++l
 |[],f,_=>by simp
 |x::l,f,h=>by
  rw[List.foldl_cons,zj3 l _ fun g hg=>h g (List.mem_cons_of_mem _ hg),ztH (a:=f) (b:=x) rfl rfl]
  simp
theorem zik {by':zac→zac}(hb:∀f,f.kind≠9→by' f=f):∀(l:List zac) (f:zac),(∀g∈l,zaC by' g=g)→zaC by' f=f→zaC by' (l.foldl (fun a x=>zac.mk 5 ⟨[]⟩ [] [a,x]) f)=l.foldl (fun a x=>zac.mk 5 ⟨[]⟩ [] [a,x]) f
 |[],f,_,h=>h
 |x::l,f,h,hf=>by
  rw[List.foldl_cons]
  refine zik hb l _ (fun g hg=>h g (List.mem_cons_of_mem _ hg)) ?_
  rw[zaC,zat,zat,zat,hf,h x (by simp),hb (.mk 5 ⟨[]⟩ [] [f,x]) (show(5:Int)≠9 by decide)]
theorem zgp {f:zac}(h:f.kind≠9):zbJ f=f:=by
 unfold zbJ
 rw[if_neg]
 intro hm
 exact h (zlm (zfn hm)).1
theorem zrC {α:Type}(l:List α)(d:α):(List.range l.length).map (fun i=>l.getD i d)=l:=by
 refine List.ext_getElem (by simp) fun i h1 h2=>?_
 simp only[List.getElem_map,List.getElem_range]
 rw[List.getD_eq_getElem?_getD,List.getElem?_eq_getElem h2];rfl
theorem zoN {v nm:Str}{ws:List Str}(h1:0<ws.length)(h3:ws.length≤3)(hv:∀w∈ws,w≠v):zaC zbJ (zdf v nm ws)= .mk 2 nm ws []:=by
 obtain⟨l,hl⟩:∃l,((List.range ws.length).map fun i=>zac.mk 2 (zsz i) [v,ws.getD i ⟨[]⟩] [])=l:=⟨_,rfl⟩
 have hll:l.length=ws.length:=by rw[←hl];simp
 have hat:∀i,i<ws.length→l.getD i zpw= .mk 2 (zsz i) [v,ws.getD i ⟨[]⟩] []:=fun i hi=>by
  rw[←hl,List.getD_eq_getElem?_getD,List.getElem?_map,List.getElem?_range hi];rfl
 have hmem:∀g∈l,g.kind=2∧g.subs=[]:=fun g hg=>by
  rw[←hl]at hg
  obtain⟨i,_,rfl⟩:=List.mem_map.1 hg
  exact⟨rfl,rfl⟩
 have hid:∀g:zac,g.kind=2→g.subs=[]→zaC zbJ g=g:=fun g hk hs=>by
  rw[zqI,hs,List.map_nil,zgp (by simp only[zaG];omega)]
  cases g;simp only[zaU]at hs;subst hs;rfl
 unfold zdf
 rw[hl]
 have hj:zaC zbJ (zeq 5 (.mk 2 nm [v] []::l))=zeq 5 (.mk 2 nm [v] []::l):=
  zik (fun f h=>zgp h) l _ (fun g hg=>hid g (hmem g hg).1 (hmem g hg).2) (hid _ rfl rfl)
 rw[zaC,zat,zat,hj]
 have hp:zco (.mk 9 v [] [zeq 5 (.mk 2 nm [v] []::l)])= .mk 2 nm [v] []::l:=by
  unfold zco
  show zgm (zeq 5 (.mk 2 nm [v] []::l))=_
  have:=zj3 l (.mk 2 nm [v] []) fun g hg=>by rw[(hmem g hg).1];decide
  rw[ztI (f:= .mk 2 nm [v] []) (fun h=>absurd h.1 (show¬(2:Int)=5 by decide))]at this
  exact this
 have hh:zhL (.mk 9 v [] [zeq 5 (.mk 2 nm [v] []::l)])= .mk 2 nm [v] []:=by unfold zhL;rw[hp];rfl
 have hok:okE (.mk 9 v [] [zeq 5 (.mk 2 nm [v] []::l)])=true:=by
  unfold okE;rw[hh];simp[zaG,zcK,zcs]
 have hgd:∀n,n≤ws.length→zgj (.mk 9 v [] [zeq 5 (.mk 2 nm [v] []::l)]) n=true:=by
  intro n
  induction n with
  |zero=>intro _;rw[zgj]
  |succ n ih=>
   intro hn
   rw[zgj,ih (by omega),hp,List.getD_cons_succ,hat n (by omega)]
   have:=hv _ (zk5 (ws:=ws) (i:=n) (by omega))
   simp only[zoB,zaG,zcK,zcs,List.getD_cons_zero,List.getD_cons_succ,List.length_cons,List.length_nil,decide_eq_false this]
   simp
 have hwn:zkt (.mk 9 v [] [zeq 5 (.mk 2 nm [v] []::l)]) ws.length=ws:=by
  unfold zkt
  rw[hp]
  conv=>rhs;rw[←zrC ws ⟨[]⟩]
  refine List.map_congr_left fun j hj=>?_
  rw[List.getD_cons_succ,hat j (List.mem_range.1 hj)]
  rfl
 unfold zbJ
 have hm:zda (.mk 9 v [] [zeq 5 (.mk 2 nm [v] []::l)])=true:=by
  unfold zda
  rw[hok,hp,List.length_cons,hll]
  simp only[Nat.add_sub_cancel,hgd ws.length (Nat.le_refl _)]
  simp only[Bool.true_and,Bool.and_true,Bool.and_eq_true,decide_eq_true_eq]
  omega
 rw[if_pos hm,hh,hp,List.length_cons,hll,Nat.add_sub_cancel,hwn]
 rfl
mutual
theorem zi6 {v:Str}{ps:List Str}:∀f:zac,shp false f→zbS (fun w=>w≠v) f→zlj f=false→zaC zbJ (zaC (zbf v ps) f)=f
 | .mk k nm ws s,hs,ha,hm=>by
  rw[shp]at hs
  rw[zbS]at ha
  rw[zlj,Bool.or_eq_false_iff]at hm
  rw[zaC,zcS]
  split
  ·rename_i hc
   obtain⟨rfl,h0,_⟩:=hc
   have h3:ws.length≤3:=by
    have:=hs.1.2.1
    rw[show zdB (.mk 2 nm ws s)=decide (ws.length≤3)from rfl]at this
    exact of_decide_eq_true this
   have h4:s=[]:=by
    have:=hs.1.1
    rw[show za7 false (.mk 2 nm ws s)=0 from rfl]at this
    simp only[zaU]at this
    exact List.eq_nil_of_length_eq_zero (by omega)
   subst h4
   exact zoN h0 h3 ha.1
  ·rw[zaC,zhv s hs.2 ha.2.2 hm.2]
   unfold zbJ
   rw[if_neg]
   intro h
   rw[zfn h]at hm
   exact absurd hm.1 (by decide)
theorem zhv {v:Str}{ps:List Str}:∀fs:List zac,zdO false fs→zaS (fun w=>w≠v) fs→zhY fs=false→zat zbJ (zat (zbf v ps) fs)=fs
 |[],_,_,_=>by rw[zat,zat]
 |f::fs,hs,ha,hm=>by
  rw[zdO]at hs
  rw[zaS]at ha
  rw[zhY,Bool.or_eq_false_iff]at hm
  rw[zat,zat,zi6 f hs.1 ha.1 hm.1,zhv fs hs.2 ha.2 hm.2]
end
theorem zpN {op:Bool}:∀(l:List zac) (f:zac),zdO op l→shp op f→shp op (l.foldl (fun a x=>zac.mk 5 ⟨[]⟩ [] [a,x]) f)
 |[],f,_,h=>h
 |x::l,f,hl,h=>by
  rw[zdO]at hl
  rw[List.foldl_cons]
  refine zpN l _ hl.2 ?_
  rw[shp,zdO,zdO,zdO]
  refine⟨⟨rfl,rfl,fun h2=>absurd (show false=true from h2) (by decide),fun _=>rfl⟩,h,hl.1,trivial⟩
theorem zp6 {op:Bool}:∀l:List zac,zdO op l↔∀f∈l,shp op f
 |[]=>by rw[zdO];simp
 |f::l=>by rw[zdO,zp6 l];simp
theorem zsA {i:Nat}(h:i<3):zav (zsz i)=true:=by
 have:i=0∨i=1∨i=2:=by omega
 unfold zsz
 rw[zeo (by omega)]
 rcases this with rfl|rfl|rfl<;>decide
theorem zrO {v nm:Str}{ws:List Str}(hn:zav nm=true)(h3:ws.length≤3):shp false (zdf v nm ws):=by
 unfold zdf
 rw[shp,zdO,zdO]
 refine⟨⟨rfl,rfl,fun _ h=>absurd (.inr rfl) h,fun h=>?_⟩,zpN _ _ ((zp6 _).2 fun g hg=>?_) ?_,trivial⟩
 ·exact absurd h (by simp[named,zaG])
 ·obtain⟨i,hi,rfl⟩:=List.mem_map.1 hg
  have hi:=List.mem_range.1 hi
  rw[shp,zdO]
  refine⟨⟨rfl,rfl,fun _ _=>zsA (by omega),fun h=>?_⟩,trivial⟩
  exact absurd h (by simp[named,zaG])
 ·rw[shp,zdO]
  refine⟨⟨rfl,rfl,fun _ _=>hn,fun h=>?_⟩,trivial⟩
  exact absurd h (by simp[named,zaG])
mutual
theorem znB {v:Str}{ps:List Str}:∀f:zac,shp false f→shp false (zaC (zbf v ps) f)
 | .mk k nm ws s,h=>by
  rw[shp]at h
  rw[zaC,zcS]
  split
  ·rename_i hc
   obtain⟨rfl,h0,_⟩:=hc
   have h3:ws.length≤3:=by
    have:=h.1.2.1
    rw[show zdB (.mk 2 nm ws s)=decide (ws.length≤3)from rfl]at this
    exact of_decide_eq_true this
   exact zrO (h.1.2.2.1 rfl (by simp[isQ,zaG])) h3
  ·rw[shp]
   exact⟨ziR h.1 rfl (by rw[zbx,List.length_map]) (fun _=>rfl) fun _=>trivial,zkk s h.2⟩
theorem zkk {v:Str}{ps:List Str}:∀fs:List zac,zdO false fs→zdO false (zat (zbf v ps) fs)
 |[],_=>by rw[zat,zdO];trivial
 |f::fs,h=>by
  rw[zdO]at h
  rw[zat,zdO]
  exact⟨znB f h.1,zkk fs h.2⟩
end
mutual
theorem zi7 (ps:List Str):∀f:zac,zbS (fun w=>zav w=true) f→zbS (fun w=>zav w=true∨w=qM) (zaC (zbf qM ps) f)
 | .mk k nm ws s,h=>by
  rw[zbS]at h
  rw[zaC,zcS]
  split
  ·unfold zdf
   rw[zbS,zaS,zaS]
   refine⟨by simp,fun _=> .inr rfl,zj1 _ 5 (by decide) ((zia _ _).2 fun g hg=>?_),trivial⟩
   rcases List.mem_cons.1 hg with rfl|hg
   ·rw[zbS,zaS]
    exact⟨fun w hw=> .inr (List.mem_singleton.1 hw),fun e=>absurd e (by decide),trivial⟩
   ·obtain⟨i,hi,rfl⟩:=List.mem_map.1 hg
    rw[zbS,zaS]
    refine⟨fun w hw=>?_,fun e=>absurd e (by decide),trivial⟩
    simp only[List.mem_cons,List.not_mem_nil,or_false]at hw
    rcases hw with rfl|rfl
    ·exact .inr rfl
    ·exact .inl (h.1 _ (zk5 (List.mem_range.1 hi)))
  ·rw[zbS]
   exact⟨fun w hw=> .inl (h.1 w hw),fun hq=> .inl (h.2.1 hq),zhw ps s h.2.2⟩
theorem zhw (ps:List Str):∀fs:List zac,zaS (fun w=>zav w=true) fs→zaS (fun w=>zav w=true∨w=qM) (zat (zbf qM ps) fs)
 |[],_=>by rw[zat,zaS];trivial
 |f::fs,h=>by
  rw[zaS]at h
  rw[zat,zaS]
  exact⟨zi7 ps f h.1,zhw ps fs h.2⟩
end
theorem zI6 {f:zac}{ps:List Str}(h:(zaV false f).code=0)(hf:zk0 (zaC (zbf qM ps) f)=true)(hm:zlj f=false):
  zaV false (zaN (zaC (zbf qM ps) f) [])=⟨0,0⟩∧zk0 (zaC zbJ (zaN (zaC (zbf qM ps) f) []))=true∧zaN (zaC zbJ (zaN (zaC (zbf qM ps) f) [])) []=zaN f []:=by
 have hn:=zil h
 have hs:=zjG h
 refine⟨zvw (znB f hs) (zij (fun f h=>zoX h) f (zfj h)) hf fun x hx=>?_,?_,?_⟩
 ·rcases zkO _ _ x (zi7 ps f hn) hx with h1|h1
  ·exact h1
  ·exact absurd h1 (zki ps f [] x hn hx)
 ·have h1:=of_decide_eq_true (show decide ((zaC (zbf qM ps) f).size≤200∧(zaC (zbf qM ps) f).depth≤40)=true from hf)
  have h2:=zhi (c:=0) (fun f=>zm6 f) (zaN (zaC (zbf qM ps) f) [])
  have h3:=zf4 (fun f=>zli f) (zaN (zaC (zbf qM ps) f) [])
  rw[zfG]at h2
  rw[zhh]at h3
  unfold zk0
  exact decide_eq_true ⟨by omega,by omega⟩
 ·have h1:=zii (fun E f f' h=>zoM h) _ _ [] (zsF (zaC (zbf qM ps) f))
  rw[zi6 f hs (zl4 (fun w hw e=>by rw[e]at hw;exact absurd hw (by decide)) f hn) hm]at h1
  exact(zsu h1).symm
end Go.Abs
namespace Go.Abs
open Go
theorem zEZ {l:List Bool}{i:Nat}(h:i<l.length):l.getD i false=l[i]:=by
 rw[List.getD_eq_getElem?_getD,List.getElem?_eq_getElem h];rfl
structure zu4 (s:zar)(used:List Bool)(l:List Nat):Prop where
 len:used.length=nP s
 nod:l.Nodup
 lt:∀x∈l,x<nP s
 mem:∀i,i<nP s→(used.getD i false=true↔i∈l)
section
variable {s:zar} {used:List Bool} {l:List Nat}
theorem ztu:zu4 s (List.replicate (nP s) false) [] where
 len:=List.length_replicate ..
 nod:=List.nodup_nil
 lt:=fun x hx=>by cases hx
 mem:=fun i hi=>by
  rw[List.getD_eq_getElem?_getD,List.getElem?_replicate]
  simp[hi]
theorem zu4.step (h:zu4 s used l){i:Nat}(hi:i<nP s)(hu:used.getD i false=false):zu4 s (used.set i true) (l++[i]) where
 len:=by rw[List.length_set];exact h.len
 nod:=by
  rw[List.nodup_append]
  refine⟨h.nod,by simp,fun a ha b hb=>?_⟩
  rw[List.mem_singleton]at hb
  subst hb
  rintro rfl
  have:=(h.mem a hi).2 ha
  rw[hu]at this;cases this
 lt:=fun x hx=>by
  rcases List.mem_append.1 hx with hx|hx
  ·exact h.lt x hx
  ·rw[List.mem_singleton]at hx;rw[hx];exact hi
 mem:=fun j hj=>by
  by_cases e:i=j
  ·subst e
   have:=zdx (l:=used) (i:=i) (by rw[h.len];exact hi)
   exact⟨fun _=>by simp,fun _=>this⟩
  ·rw[zoc e,h.mem j hj,List.mem_append,List.mem_singleton]
   exact⟨fun g=> .inl g,fun g=>g.resolve_right fun g2=>e g2.symm⟩
theorem zu4.ok (hs:ze3 s)(h:zu4 s used l)(hl:l.length=(za5 s.pieces).length)(hn:(za5 s.pieces).length+1=nP s):okL s l:=⟨hs.hol,h.nod,hl,by rw[hl];exact hn,h.lt⟩
theorem zu4.top (h:zu4 s used l)(hk:okL s l):false∈used∧used.idxOf false=zdE (nP s) l:=by
 obtain⟨t1,t2,t3⟩:=hk.t
 have hin:false∈used:=by
  cases hg:used.getD (zdE s.pieces.length l) false with
  |true=>exact absurd ((h.mem _ t1).1 hg) t2
  |false=>
   have hlt:zdE s.pieces.length l<used.length:=by rw[h.len];exact t1
   rw[zEZ hlt]at hg
   rw[←hg];exact List.getElem_mem hlt
 refine⟨hin,?_⟩
 have hlt:=List.idxOf_lt_length_of_mem hin
 refine t3 _ (by rw[h.len]at hlt;exact hlt) fun hm=>?_
 have hlt2:used.idxOf false<nP s:=by rw[h.len]at hlt;exact hlt
 have h4:=(h.mem _ hlt2).2 hm
 rw[zEZ hlt,List.getElem_idxOf]at h4
 cases h4
theorem zoy {β:Type}{f:Nat→List β}{b:Nat}(h:∀i,(f i).length≤b):∀n,((List.range n).flatMap f).length≤n*b
 |0=>by simp
 |n+1=>by
  have h1:=zoy h n
  have h2:=h n
  rw[List.range_succ,List.flatMap_append,List.length_append,Nat.add_mul,Nat.one_mul]
  have h3:([n].flatMap f).length=(f n).length:=by simp
  omega
theorem zjk:∀(r:Nat) (used:List Bool) (l:List Nat),(zex s r used l).length≤nP s^r
 |0,used,l=>by
  rw[zex];split<;>simp
 |r+1,used,l=>by
  rw[zex,Nat.pow_succ,Nat.mul_comm]
  refine zoy (fun i=>?_) _
  split
  ·simp
  ·exact zjk r _ _
theorem ztY (hs:ze3 s)(h:okL s l):onP (zbY s l) s:=⟨by rw[show(zbY s l).pieces=zaF l from rfl,zc3];exact h,by rw[show(zbY s l).pieces=zaF l from rfl,zc3],hs⟩
theorem zec:zaD (zbY s l).pieces=l:=zc3 l
theorem zhc (h:okL s l)(ht:zcx s l=true):zeZ (zbY s l) s (zbH s (zdE (nP s) l))=zcz s l:=by
 unfold zeZ zcz
 rw[zec]
 exact(zpY h ht h.t.1).symm
theorem zck (hs:ze3 s)(h:okL s l)(ht:zcx s l=true):(zcz s l).size≤200:=Nat.le_trans (zoP h ht h.t.1) hs.nod
theorem zlh {k:Nat}{l:List Nat}:((k:Nat):Int)∈zaF l↔k∈l:=by
  unfold zaF
  rw[List.mem_map]
  exact⟨fun⟨a,h1,h2⟩=>by have:a=k:=by omega
                         rw[←this];exact h1,fun h=>⟨k,h,rfl⟩⟩
theorem zwy (hs:ze3 s)(h:okL s l){o:znX}(ho:o∈s.overs):decide (((zAI s o.label:Nat):Int)∈zdI (zbY s l) s ((inP s l o.hole:Nat):Int))=zgX s l o:=by
 obtain⟨h1,h2⟩:=hs.ovs o ho
 have hb:zAI s o.label<nP s:=by
  have:=List.idxOf_lt_length_of_mem h2
  unfold zaK at this
  rw[List.length_map]at this
  exact this
 have h3:=zqF h (a:=inP s l o.hole) (b:=zAI s o.label) (zoG h h1) hb
 unfold zgX zdI
 rw[zec,Int.toNat_natCast]
 rw[Bool.eq_iff_iff,decide_eq_true_eq,zlh]
 exact h3
end
section
variable {s:zar} {l:List Nat}
theorem ztd (hs:ze3 s)(i:Nat):(zbH s i).fit=true:=by
 unfold zbH
 cases h:s.pieces[i]? with
 |none=>rfl
 |some p=>exact zfj (hs.chk p (List.mem_of_getElem? h))
theorem zcQ (hs:ze3 s):∀(f i:Nat),(zcv s l f i).fit=true
 |0,i=>rfl
 |f+1,i=>by
  rw[zcv]
  exact zkl _ _ (ztd hs i) fun h _=>zcQ hs f _
theorem zuX (hs:ze3 s)(h:okL s l)(ht:zcx s l=true):(cst (zcz s l) []).length≤1000000:=by
 have h1:=zin (zcz s l) [] (zcQ hs _ _)
 have h2:=zck hs h ht
 have h3:1000*(zcz s l).size≤1000*200:=Nat.mul_le_mul_left _ h2
 omega
end
end Go.Abs
