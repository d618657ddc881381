import Derived.Test.YtkkffhphodngkaaDoorLW
set_option linter.unusedSimpArgs false
namespace Go.Abs
open Go
mutual
def zbS (p:Str→Prop):zac→Prop
 | .mk k nm ws s=>(∀w∈ws,p w)∧(isQ k→p nm)∧zaI p s
def zaI (p:Str→Prop):List zac→Prop
 |[]=>True
 |f::fs=>zbS p f∧zaI p fs
end
mutual
def zfv (σ:Str→Str):zac→zac
 | .mk k nm ws s=> .mk k (if isQ k then σ nm else nm) (ws.map σ) (zbP σ s)
def zbP (σ:Str→Str):List zac→List zac
 |[]=>[]
 |f::fs=>zfv σ f::zbP σ fs
end
theorem zk9 (σ:Str→Str):∀l:List zac,zbP σ l=l.map (zfv σ)
 |[]=>by rw[zbP];rfl
 |f::l=>by rw[zbP,zk9 σ l];rfl
theorem zg3 (p:Str→Prop):∀l:List zac,zaI p l↔∀f∈l,zbS p f
 |[]=>by rw[zaI];simp
 |f::l=>by rw[zaI,zg3 p l];simp
mutual
theorem zkd {p q:Str→Prop}(h:∀w,p w→q w):∀f:zac,zbS p f→zbS q f
 | .mk k nm ws s,hf=>by
  rw[zbS]at hf ⊢
  exact⟨fun w hw=>h w (hf.1 w hw),fun hk=>h nm (hf.2.1 hk),zir h s hf.2.2⟩
theorem zir {p q:Str→Prop}(h:∀w,p w→q w):∀fs:List zac,zaI p fs→zaI q fs
 |[],_=>by rw[zaI];trivial
 |f::fs,hf=>by rw[zaI]at hf ⊢;exact⟨zkd h f hf.1,zir h fs hf.2⟩
end
mutual
theorem zov {p:Str→Prop}(h:∀w,p w→¬zlU w):∀f:zac,zbS p f→zfV f
 | .mk k nm ws s,hf=>by rw[zbS]at hf;rw[zfV];exact⟨fun w hw=>h w (hf.1 w hw),zg2 h s hf.2.2⟩
theorem zg2 {p:Str→Prop}(h:∀w,p w→¬zlU w):∀fs:List zac,zaI p fs→zcI fs
 |[],_=>by rw[zcI];trivial
 |f::fs,hf=>by rw[zaI]at hf;rw[zcI];exact⟨zov h f hf.1,zg2 h fs hf.2⟩
end
mutual
theorem zrg (σ:Str→Str):∀f:zac,(zfv σ f).size=f.size
 | .mk k nm ws s=>by rw[zfv,zac.size,zac.size,zhy σ s]
theorem zhy (σ:Str→Str):∀fs:List zac,zac.sizes (zbP σ fs)=zac.sizes fs
 |[]=>by rw[zbP]
 |f::fs=>by rw[zbP,zac.sizes,zac.sizes,zrg σ f,zhy σ fs]
end
mutual
theorem zpi (σ:Str→Str):∀f:zac,(zfv σ f).depth=f.depth
 | .mk k nm ws s=>by rw[zfv,zac.depth,zac.depth,zgo σ s]
theorem zgo (σ:Str→Str):∀fs:List zac,zac.depths (zbP σ fs)=zac.depths fs
 |[]=>by rw[zbP]
 |f::fs=>by rw[zbP,zac.depths,zac.depths,zpi σ f,zgo σ fs]
end
theorem zrh (σ:Str→Str)(l:List zac):(zbP σ l).length=l.length:=by rw[zk9,List.length_map]
mutual
theorem ztu (σ:Str→Str):∀f:zac,(zfv σ f).fit=f.fit
 | .mk k nm ws s=>by rw[zfv,zac.fit,zac.fit,ziI σ s,List.length_map,zrh]
theorem ziI (σ:Str→Str):∀fs:List zac,zac.fits (zbP σ fs)=zac.fits fs
 |[]=>by rw[zbP]
 |f::fs=>by rw[zbP,zac.fits,zac.fits,ztu σ f,ziI σ fs]
end
theorem zkW (σ:Str→Str)(k:Int)(hk:¬isQ k):∀(l:List zac) (f:zac),zfv σ (l.foldl (fun a x=>zac.mk k ⟨[]⟩ [] [a,x]) f)=(l.map (zfv σ)).foldl (fun a x=>zac.mk k ⟨[]⟩ [] [a,x]) (zfv σ f)
 |[],f=>rfl
 |x::l,f=>by
  rw[List.foldl_cons,zkW σ k hk l,List.map_cons,List.foldl_cons]
  simp only[zfv,zbP,if_neg hk,List.map_nil]
theorem zq6 (σ:Str→Str)(k:Int)(hk:¬isQ k)(l:List zac):zfv σ (zdU k l)=zdU k (l.map (zfv σ)):=by
 cases l with
 |nil=>simp[zdU,zfv,zbP,isQ]
 |cons f l=>exact zkW σ k hk l f
theorem ziE (p:Str→Prop)(k:Int)(hk:¬isQ k):∀(l:List zac) (f:zac),zbS p f→zaI p l→zbS p (l.foldl (fun a x=>zac.mk k ⟨[]⟩ [] [a,x]) f)
 |[],f,h,_=>h
 |x::l,f,h,hl=>by
  rw[List.foldl_cons]
  rw[zaI]at hl
  refine ziE p k hk l _ ?_ hl.2
  simp only[zbS,zaI]
  exact⟨by simp,fun h=>absurd h hk,h,hl.1,trivial⟩
theorem ziF (p:Str→Prop)(k:Int)(hk:¬isQ k){l:List zac}(h:zaI p l):zbS p (zdU k l):=by
 cases l with
 |nil=>simp[zdU,zbS,zaI,isQ]
 |cons f l=>rw[zaI]at h;exact ziE p k hk l f h.1 h.2
mutual
theorem zkp:∀(f:zac) (bd:List Str) (x:Str),x∈cst f bd→x∉bd
 | .mk k nm ws s,bd,x,h=>by
  rw[cst,List.mem_append]at h
  rcases h with h|h
  ·simpa using(List.mem_filter.1 h).2
  ·have:=zix s _ x h
   split at this
   ·exact fun hb=>this (List.mem_append_left _ hb)
   ·exact this
theorem zix:∀(fs:List zac) (bd:List Str) (x:Str),x∈zbW fs bd→x∉bd
 |[],bd,x,h=>by rw[zbW]at h;simp at h
 |f::fs,bd,x,h=>by
  rw[zbW,List.mem_append]at h
  rcases h with h|h
  ·exact zkp f bd x h
  ·exact zix fs bd x h
end
mutual
theorem zjj {p:Str→Prop}:∀(f:zac) (bd:List Str) (x:Str),zbS p f→x∈cst f bd→p x
 | .mk k nm ws s,bd,x,hf,h=>by
  rw[zbS]at hf
  rw[cst,List.mem_append]at h
  rcases h with h|h
  ·exact hf.1 x (List.mem_filter.1 h).1
  ·exact zkr s _ x hf.2.2 h
theorem zkr {p:Str→Prop}:∀(fs:List zac) (bd:List Str) (x:Str),zaI p fs→x∈zbW fs bd→p x
 |[],bd,x,_,h=>by rw[zbW]at h;simp at h
 |f::fs,bd,x,hf,h=>by
  rw[zaI]at hf
  rw[zbW,List.mem_append]at h
  rcases h with h|h
  ·exact zjj f bd x hf.1 h
  ·exact zkr fs bd x hf.2 h
end
mutual
theorem zu6 {σ:Str→Str}{p:Str→Prop}(hi:∀a b,p a→p b→σ a=σ b→a=b):∀(f:zac) (bd:List Str),zbS p f→(∀b∈bd,p b)→cst (zfv σ f) (bd.map σ)=(cst f bd).map σ
 | .mk k nm ws s,bd,hf,hb=>by
  rw[zbS]at hf
  rw[zfv,cst,cst,List.map_append]
  congr 1
  ·rw[List.filter_map]
   congr 1
   refine List.filter_congr fun w hw=>?_
   simp only[Function.comp]
   rw[decide_eq_decide]
   constructor
   ·intro h hw2;exact h (List.mem_map_of_mem hw2)
   ·intro h hw2
    obtain⟨b,hb2,e⟩:=List.mem_map.1 hw2
    exact h (hi b w (hb b hb2) (hf.1 w hw) e▸hb2)
  ·by_cases hq:isQ k
   ·rw[if_pos hq,if_pos hq,if_pos hq]
    have:=zjl hi s (bd++[nm]) hf.2.2 fun b hb2=>by
     rcases List.mem_append.1 hb2 with h|h
     ·exact hb b h
     ·rw[List.mem_singleton.1 h];exact hf.2.1 hq
    rw[List.map_append]at this
    exact this
   ·rw[if_neg hq,if_neg hq]
    exact zjl hi s bd hf.2.2 hb
theorem zjl {σ:Str→Str}{p:Str→Prop}(hi:∀a b,p a→p b→σ a=σ b→a=b):∀(fs:List zac) (bd:List Str),zaI p fs→(∀b∈bd,p b)→zbW (zbP σ fs) (bd.map σ)=(zbW fs bd).map σ
 |[],bd,_,_=>by rw[zbP,zbW,zbW];rfl
 |f::fs,bd,hf,hb=>by
  rw[zaI]at hf
  rw[zbP,zbW,zbW,List.map_append,zu6 hi f bd hf.1 hb,zjl hi fs bd hf.2 hb]
end
theorem zrf {σ:Str→Str}{p:Str→Prop}(hi:∀a b,p a→p b→σ a=σ b→a=b){env:List zbI}{w:Str}(hw:p w)(he:∀b∈env,p b.fr):
  lkp (env.map fun b=>⟨σ b.fr,b.to⟩) (σ w)=lkp env w∨(lkp (env.map fun b=>⟨σ b.fr,b.to⟩) (σ w)=σ w∧lkp env w=w∧w∉env.map (·.fr)):=by
 have key:∀i,i≤env.length→zij (env.map fun b=>⟨σ b.fr,b.to⟩) (σ w) i=zij env w i∨(zij (env.map fun b=>⟨σ b.fr,b.to⟩) (σ w) i=σ w∧zij env w i=w∧∀j (h:j<env.length),j<i→env[j].fr≠w):=by
  intro i
  induction i with
  |zero=>intro _;exact .inr ⟨rfl,rfl,fun j h1 h2=>by omega⟩
  |succ i ih=>
   intro hi2
   have hlt:i<env.length:=by omega
   have e1:env.getD i default=env[i]:=by rw[List.getD_eq_getElem?_getD,List.getElem?_eq_getElem hlt];rfl
   have e2:(env.map fun b=>(⟨σ b.fr,b.to⟩:zbI)).getD i default=⟨σ env[i].fr,env[i].to⟩:=by
    rw[List.getD_eq_getElem?_getD,List.getElem?_map,List.getElem?_eq_getElem hlt];rfl
   rw[zij,zij,e1,e2]
   by_cases hc:env[i].fr=w
   ·rw[if_pos hc,if_pos (by simp only;rw[hc])]
    exact .inl rfl
   ·rw[if_neg hc,if_neg (fun e=>hc (hi _ _ (he _ (List.getElem_mem hlt)) hw e))]
    rcases ih (by omega)with h|⟨h1,h2,h3⟩
    ·exact .inl h
    ·refine .inr ⟨h1,h2,fun j hj hji=>?_⟩
     rcases Nat.lt_or_ge j i with h|h
     ·exact h3 j hj h
     ·obtain rfl:j=i:=by omega
      exact hc
 rcases key env.length (Nat.le_refl _)with h|⟨h1,h2,h3⟩
 ·refine .inl ?_
  unfold lkp;rw[List.length_map];exact h
 ·refine .inr ⟨?_,h2,fun hm=>?_⟩
  ·unfold lkp;rw[List.length_map];exact h1
  ·obtain⟨b,hb,e⟩:=List.mem_map.1 hm
   obtain⟨j,hj,rfl⟩:=List.getElem_of_mem hb
   exact h3 j hj hj e
mutual
theorem zBh {g:Nat→Str×Nat}{σ:Str→Str}{p:Str→Prop}(hi:∀a b,p a→p b→σ a=σ b→a=b):∀(f:zac) (env:List zbI) (n:Nat),zbS p f→(∀b∈env,p b.fr)→(∀x∈cst f (env.map (·.fr)),σ x=x)→
  ren g (zfv σ f) (env.map fun b=>⟨σ b.fr,b.to⟩) n=ren g f env n
 | .mk k nm ws s,env,n,hf,he,hc=>by
  rw[zbS]at hf
  rw[cst]at hc
  have hw:(ws.map σ).map (lkp (env.map fun b=>⟨σ b.fr,b.to⟩))=ws.map (lkp env):=by
   rw[List.map_map]
   refine List.map_congr_left fun w hw=>?_
   rcases zrf hi (hf.1 w hw) he with e|⟨e1,e2,e3⟩
   ·exact e
   ·show lkp _ (σ w)=_
    rw[e1,e2]
    exact hc w (List.mem_append_left _ (List.mem_filter.2 ⟨hw,by simpa using e3⟩))
  rw[zfv,ren,ren,hw]
  by_cases hq:isQ k
  ·rw[if_pos hq]at hc
   simp only[if_pos hq]
   have h3:=zqf (g:=g) hi s (env++[⟨nm,(g n).1⟩]) (g n).2 hf.2.2 (fun b hb=>by
    rcases List.mem_append.1 hb with h|h
    ·exact he b h
    ·rw[List.mem_singleton.1 h];exact hf.2.1 hq) (fun x hx=>hc x (List.mem_append_right _ (by rw[List.map_append]at hx;exact hx)))
   rw[List.map_append]at h3
   simp only[List.map_cons,List.map_nil]at h3
   rw[h3]
  ·rw[if_neg hq]at hc
   simp only[if_neg hq]
   rw[zqf hi s env n hf.2.2 he fun x hx=>hc x (List.mem_append_right _ hx)]
theorem zqf {g:Nat→Str×Nat}{σ:Str→Str}{p:Str→Prop}(hi:∀a b,p a→p b→σ a=σ b→a=b):∀(fs:List zac) (env:List zbI) (n:Nat),zaI p fs→(∀b∈env,p b.fr)→(∀x∈zbW fs (env.map (·.fr)),σ x=x)→
  zbK g (zbP σ fs) (env.map fun b=>⟨σ b.fr,b.to⟩) n=zbK g fs env n
 |[],env,n,_,_,_=>by rw[zbP,zbK,zbK]
 |f::fs,env,n,hf,he,hc=>by
  rw[zaI]at hf
  rw[zbW]at hc
  rw[zbP,zbK,zbK,zBh hi f env n hf.1 he fun x hx=>hc x (List.mem_append_left _ hx)]
  rw[zqf hi fs env _ hf.2 he fun x hx=>hc x (List.mem_append_right _ hx)]
end
mutual
theorem zv2 {g:Nat→Str×Nat}{σ:Str→Str}(hg:∀k,σ (g k).1=(g k).1):∀(f:zac) (env env':List zbI) (n:Nat),zbS (fun w=>σ w=w) f→env'.map (·.fr)=env.map (·.fr)→env'.map (·.to)=env.map (fun b=>σ b.to)→
  ren g f env' n=(zfv σ (ren g f env n).1,(ren g f env n).2)
 | .mk k nm ws s,env,env',n,hf,e1,e2=>by
  rw[zbS]at hf
  have hw:ws.map (lkp env')=(ws.map (lkp env)).map σ:=by
   rw[List.map_map]
   exact List.map_congr_left fun w hw=>zvU e1 e2 (hf.1 w hw)
  rw[ren,ren,hw]
  by_cases hq:isQ k
  ·simp only[if_pos hq]
   have h3:=zjT (g:=g) hg s (env++[⟨nm,(g n).1⟩]) (env'++[⟨nm,(g n).1⟩]) (g n).2 hf.2.2 (by rw[List.map_append,List.map_append,e1]) (by rw[List.map_append,List.map_append,e2];simp only[List.map_cons,List.map_nil,hg])
   rw[h3]
   simp only[zfv,if_pos hq,hg]
  ·simp only[if_neg hq]
   rw[zjT hg s env env' n hf.2.2 e1 e2]
   simp only[zfv,if_neg hq]
theorem zjT {g:Nat→Str×Nat}{σ:Str→Str}(hg:∀k,σ (g k).1=(g k).1):∀(fs:List zac) (env env':List zbI) (n:Nat),zaI (fun w=>σ w=w) fs→env'.map (·.fr)=env.map (·.fr)→env'.map (·.to)=env.map (fun b=>σ b.to)→
  zbK g fs env' n=(zbP σ (zbK g fs env n).1,(zbK g fs env n).2)
 |[],env,env',n,_,_,_=>by rw[zbK,zbK,zbP]
 |f::fs,env,env',n,hf,e1,e2=>by
  rw[zaI]at hf
  rw[zbK,zbK,zv2 hg f env env' n hf.1 e1 e2]
  simp only
  rw[zjT hg fs env env' _ hf.2 e1 e2,zbP]
end
mutual
theorem ztM {g:Nat→Str×Nat}{p:Str→Prop}(hg:∀k,p (g k).1):∀(f:zac) (env:List zbI) (n:Nat),zbS p f→(∀b∈env,p b.to)→zbS p (ren g f env n).1
 | .mk k nm ws s,env,n,hf,he=>by
  rw[zbS]at hf
  have hw:∀w∈ws.map (lkp env),p w:=fun w hw=>by
   obtain⟨x,hx,rfl⟩:=List.mem_map.1 hw
   rcases zuy env x with e|⟨b,hb,e⟩
   ·rw[e];exact hf.1 x hx
   ·rw[e];exact he b hb
  rw[ren]
  split
  ·rw[zbS]
   refine⟨hw,fun _=>hg n,zhS hg s _ _ hf.2.2 fun b hb=>?_⟩
   rcases List.mem_append.1 hb with h|h
   ·exact he b h
   ·rw[List.mem_singleton.1 h];exact hg n
  ·rename_i hq
   rw[zbS]
   exact⟨hw,fun h=>absurd h hq,zhS hg s _ _ hf.2.2 he⟩
theorem zhS {g:Nat→Str×Nat}{p:Str→Prop}(hg:∀k,p (g k).1):∀(fs:List zac) (env:List zbI) (n:Nat),zaI p fs→(∀b∈env,p b.to)→zaI p (zbK g fs env n).1
 |[],env,n,_,_=>by rw[zbK,zaI];trivial
 |f::fs,env,n,hf,he=>by
  rw[zaI]at hf
  rw[zbK,zaI]
  exact⟨ztM hg f _ _ hf.1 he,zhS hg fs _ _ hf.2 he⟩
end
mutual
theorem znb {op:Bool}:∀(f:zac) (d:Int) (n:Nat),(chk op f d n).1.code=0→zbS (fun w=>zaq w=true) f
 | .mk k nm w s,d,n,h=>by
  rw[chk]at h
  split at h
  ·rename_i h1;exact absurd h h1
  ·rename_i h1
   have h2:=zc8 (Decidable.not_not.1 h1)
   rw[zbS]
   refine⟨fun x hx=>List.all_eq_true.1 h2.1 x hx,fun hq=>h2.2.1 ?_,zkk s _ _ h⟩
   unfold named
   have hq':k=8∨k=9:=hq
   have:(zac.mk k nm w s).kind=k:=rfl
   rw[this]
   exact decide_eq_true (by omega)
theorem zkk {op:Bool}:∀(fs:List zac) (d:Int) (n:Nat),(zdZ op fs d n).1.code=0→zaI (fun w=>zaq w=true) fs
 |[],d,n,_=>by rw[zaI];trivial
 |f::fs,d,n,h=>by
  rw[zdZ]at h
  split at h
  ·rename_i h1;exact absurd h h1
  ·rename_i h1
   rw[zaI]
   exact⟨znb f d n (Decidable.not_not.1 h1),zkk fs d _ h⟩
end
theorem zhd {op:Bool}{f:zac}(h:(zaz op f).code=0):zbS (fun w=>zaq w=true) f:=znb f 1 0 h
def qn (i:Nat):Str:=⟨63::zcf i⟩
def sg (w:Str):Str:=match w with
 |⟨c::t⟩=>if c=63 then⟨36::t⟩else⟨c::t⟩
 |⟨[]⟩=>⟨[]⟩
def wrap (v:Nat→Str):Nat→zac→zac
 |0,c=>c
 |i+1,c=>wrap v i (.mk 9 (v i) [] [c])
def lwP (n:Nat)(x:Str):Prop:=(x.l.head? =some 63→∃i,i<n∧x=qn i)∧x.l.head? ≠some 36∧¬zlU x
theorem ztt {n:Nat}{x:Str}(h:zaq x=true):lwP n x:=by
 unfold zaq at h
 have h:=(of_decide_eq_true h).2.2.1
 have hd:∀c:UInt8,x.l.head? =some c→zgC c:=fun c hc=>by
  have h0:x.l.getD 0 0=c:=by rw[List.getD_eq_getElem?_getD,←List.head?_eq_getElem?,hc];rfl
  rwa [h0]at h
 exact⟨fun e=>absurd (hd 63 e) (by decide),fun e=>absurd (hd 36 e) (by decide),fun e=>absurd (hd 33 e) (by decide)⟩
def zy9 (f:zac):zac:= .mk 4 ⟨[]⟩ [] [f]
end Go.Abs
