import Derived.Test.YtkkffhphodngkaaDoorLW
set_option linter.unusedSimpArgs false
namespace Go.Abs
open Go
mutual
def zb5 (p:Str→Prop):zaf→Prop
 | .mk k nm ws s=>(∀w∈ws,p w)∧(isQ k→p nm)∧zaN p s
def zaN (p:Str→Prop):List zaf→Prop
 |[]=>True
 |f::fs=>zb5 p f∧zaN p fs
end
mutual
def zf1 (σ:Str→Str):zaf→zaf
 | .mk k nm ws s=> .mk k (if isQ k then σ nm else nm) (ws.map σ) (zb2 σ s)
def zb2 (σ:Str→Str):List zaf→List zaf
 |[]=>[]
 |f::fs=>zf1 σ f::zb2 σ fs
end
theorem zlU (σ:Str→Str):∀l:List zaf,zb2 σ l=l.map (zf1 σ)
 |[]=>by rw[zb2];rfl
 |f::l=>by rw[zb2,zlU σ l];rfl
theorem zhK (p:Str→Prop):∀l:List zaf,zaN p l↔∀f∈l,zb5 p f
 |[]=>by rw[zaN];simp
 |f::l=>by rw[zaN,zhK p l];simp
mutual
theorem zkU {p q:Str→Prop}(h:∀w,p w→q w):∀f:zaf,zb5 p f→zb5 q f
 | .mk k nm ws s,hf=>by
  rw[zb5]at hf ⊢
  exact⟨fun w hw=>h w (hf.1 w hw),fun hk=>h nm (hf.2.1 hk),zi5 h s hf.2.2⟩
theorem zi5 {p q:Str→Prop}(h:∀w,p w→q w):∀fs:List zaf,zaN p fs→zaN q fs
 |[],_=>by rw[zaN];trivial
 |f::fs,hf=>by rw[zaN]at hf ⊢;exact⟨zkU h f hf.1,zi5 h fs hf.2⟩
end
mutual
theorem zpp {p:Str→Prop}(h:∀w,p w→¬zmF w):∀f:zaf,zb5 p f→zgs f
 | .mk k nm ws s,hf=>by rw[zb5]at hf;rw[zgs];exact⟨fun w hw=>h w (hf.1 w hw),zhJ h s hf.2.2⟩
theorem zhJ {p:Str→Prop}(h:∀w,p w→¬zmF w):∀fs:List zaf,zaN p fs→zcS fs
 |[],_=>by rw[zcS];trivial
 |f::fs,hf=>by rw[zaN]at hf;rw[zcS];exact⟨zpp h f hf.1,zhJ h fs hf.2⟩
end
mutual
theorem zr8 (σ:Str→Str):∀f:zaf,(zf1 σ f).size=f.size
 | .mk k nm ws s=>by rw[zf1,zaf.size,zaf.size,zih σ s]
theorem zih (σ:Str→Str):∀fs:List zaf,zaf.sizes (zb2 σ fs)=zaf.sizes fs
 |[]=>by rw[zb2]
 |f::fs=>by rw[zb2,zaf.sizes,zaf.sizes,zr8 σ f,zih σ fs]
end
mutual
theorem zqb (σ:Str→Str):∀f:zaf,(zf1 σ f).depth=f.depth
 | .mk k nm ws s=>by rw[zf1,zaf.depth,zaf.depth,zg0 σ s]
theorem zg0 (σ:Str→Str):∀fs:List zaf,zaf.depths (zb2 σ fs)=zaf.depths fs
 |[]=>by rw[zb2]
 |f::fs=>by rw[zb2,zaf.depths,zaf.depths,zqb σ f,zg0 σ fs]
end
theorem zr9 (σ:Str→Str)(l:List zaf):(zb2 σ l).length=l.length:=by rw[zlU,List.length_map]
mutual
theorem zuC (σ:Str→Str):∀f:zaf,(zf1 σ f).fit=f.fit
 | .mk k nm ws s=>by rw[zf1,zaf.fit,zaf.fit,zjm σ s,List.length_map,zr9]
theorem zjm (σ:Str→Str):∀fs:List zaf,zaf.fits (zb2 σ fs)=zaf.fits fs
 |[]=>by rw[zb2]
 |f::fs=>by rw[zb2,zaf.fits,zaf.fits,zuC σ f,zjm σ fs]
end
theorem zlF (σ:Str→Str)(k:Int)(hk:¬isQ k):∀(l:List zaf) (f:zaf),zf1 σ (l.foldl (fun a x=>zaf.mk k ⟨[]⟩ [] [a,x]) f)=(l.map (zf1 σ)).foldl (fun a x=>zaf.mk k ⟨[]⟩ [] [a,x]) (zf1 σ f)
 |[],f=>rfl
 |x::l,f=>by
  rw[List.foldl_cons,zlF σ k hk l,List.map_cons,List.foldl_cons]
  simp only[zf1,zb2,if_neg hk,List.map_nil]
theorem zrX (σ:Str→Str)(k:Int)(hk:¬isQ k)(l:List zaf):zf1 σ (zef k l)=zef k (l.map (zf1 σ)):=by
 cases l with
 |nil=>simp[zef,zf1,zb2,isQ]
 |cons f l=>exact zlF σ k hk l f
theorem zjj (p:Str→Prop)(k:Int)(hk:¬isQ k):∀(l:List zaf) (f:zaf),zb5 p f→zaN p l→zb5 p (l.foldl (fun a x=>zaf.mk k ⟨[]⟩ [] [a,x]) f)
 |[],f,h,_=>h
 |x::l,f,h,hl=>by
  rw[List.foldl_cons]
  rw[zaN]at hl
  refine zjj p k hk l _ ?_ hl.2
  simp only[zb5,zaN]
  exact⟨by simp,fun h=>absurd h hk,h,hl.1,trivial⟩
theorem zjk (p:Str→Prop)(k:Int)(hk:¬isQ k){l:List zaf}(h:zaN p l):zb5 p (zef k l):=by
 cases l with
 |nil=>simp[zef,zb5,zaN,isQ]
 |cons f l=>rw[zaN]at h;exact zjj p k hk l f h.1 h.2
mutual
theorem zk8:∀(f:zaf) (bd:List Str) (x:Str),x∈cst f bd→x∉bd
 | .mk k nm ws s,bd,x,h=>by
  rw[cst,List.mem_append]at h
  rcases h with h|h
  ·simpa using(List.mem_filter.1 h).2
  ·have:=zjc s _ x h
   split at this
   ·exact fun hb=>this (List.mem_append_left _ hb)
   ·exact this
theorem zjc:∀(fs:List zaf) (bd:List Str) (x:Str),x∈zb8 fs bd→x∉bd
 |[],bd,x,h=>by rw[zb8]at h;simp at h
 |f::fs,bd,x,h=>by
  rw[zb8,List.mem_append]at h
  rcases h with h|h
  ·exact zk8 f bd x h
  ·exact zjc fs bd x h
end
mutual
theorem zoh {p:Str→Prop}:∀(f:zaf) (bd:List Str) (x:Str),zb5 p f→x∈cst f bd→p x
 | .mk k nm ws s,bd,x,hf,h=>by
  rw[zb5]at hf
  rw[cst,List.mem_append]at h
  rcases h with h|h
  ·exact hf.1 x (List.mem_filter.1 h).1
  ·exact zla s _ x hf.2.2 h
theorem zla {p:Str→Prop}:∀(fs:List zaf) (bd:List Str) (x:Str),zaN p fs→x∈zb8 fs bd→p x
 |[],bd,x,_,h=>by rw[zb8]at h;simp at h
 |f::fs,bd,x,hf,h=>by
  rw[zaN]at hf
  rw[zb8,List.mem_append]at h
  rcases h with h|h
  ·exact zoh f bd x hf.1 h
  ·exact zla fs bd x hf.2 h
end
mutual
theorem zwk {σ:Str→Str}{p:Str→Prop}(hi:∀a b,p a→p b→σ a=σ b→a=b):∀(f:zaf) (bd:List Str),zb5 p f→(∀b∈bd,p b)→cst (zf1 σ f) (bd.map σ)=(cst f bd).map σ
 | .mk k nm ws s,bd,hf,hb=>by
  rw[zb5]at hf
  rw[zf1,cst,cst,List.map_append]
  congr 1
  ·rw[List.filter_map]
   congr 1
   refine List.filter_congr fun w hw=>?_
   simp only[Function.comp]
   rw[decide_eq_decide]
   constructor
   ·intro h hw2;exact h (List.mem_map_of_mem hw2)
   ·intro h hw2
    obtain⟨b,hb2,e⟩:=List.mem_map.1 hw2
    exact h (hi b w (hb b hb2) (hf.1 w hw) e▸hb2)
  ·by_cases hq:isQ k
   ·rw[if_pos hq,if_pos hq,if_pos hq]
    have:=zjY hi s (bd++[nm]) hf.2.2 fun b hb2=>by
     rcases List.mem_append.1 hb2 with h|h
     ·exact hb b h
     ·rw[List.mem_singleton.1 h];exact hf.2.1 hq
    rw[List.map_append]at this
    exact this
   ·rw[if_neg hq,if_neg hq]
    exact zjY hi s bd hf.2.2 hb
theorem zjY {σ:Str→Str}{p:Str→Prop}(hi:∀a b,p a→p b→σ a=σ b→a=b):∀(fs:List zaf) (bd:List Str),zaN p fs→(∀b∈bd,p b)→zb8 (zb2 σ fs) (bd.map σ)=(zb8 fs bd).map σ
 |[],bd,_,_=>by rw[zb2,zb8,zb8];rfl
 |f::fs,bd,hf,hb=>by
  rw[zaN]at hf
  rw[zb2,zb8,zb8,List.map_append,zwk hi f bd hf.1 hb,zjY hi fs bd hf.2 hb]
end
theorem zr7 {σ:Str→Str}{p:Str→Prop}(hi:∀a b,p a→p b→σ a=σ b→a=b){env:List zbU}{w:Str}(hw:p w)(he:∀b∈env,p b.fr):
  lkp (env.map fun b=>⟨σ b.fr,b.to⟩) (σ w)=lkp env w∨(lkp (env.map fun b=>⟨σ b.fr,b.to⟩) (σ w)=σ w∧lkp env w=w∧w∉env.map (·.fr)):=by
 have key:∀i,i≤env.length→ziX (env.map fun b=>⟨σ b.fr,b.to⟩) (σ w) i=ziX env w i∨(ziX (env.map fun b=>⟨σ b.fr,b.to⟩) (σ w) i=σ w∧ziX env w i=w∧∀j (h:j<env.length),j<i→env[j].fr≠w):=by
  intro i
  induction i with
  |zero=>intro _;exact .inr ⟨rfl,rfl,fun j h1 h2=>by omega⟩
  |succ i ih=>
   intro hi2
   have hlt:i<env.length:=by omega
   have e1:env.getD i default=env[i]:=by rw[List.getD_eq_getElem?_getD,List.getElem?_eq_getElem hlt];rfl
   have e2:(env.map fun b=>(⟨σ b.fr,b.to⟩:zbU)).getD i default=⟨σ env[i].fr,env[i].to⟩:=by
    rw[List.getD_eq_getElem?_getD,List.getElem?_map,List.getElem?_eq_getElem hlt];rfl
   rw[ziX,ziX,e1,e2]
   by_cases hc:env[i].fr=w
   ·rw[if_pos hc,if_pos (by simp only;rw[hc])]
    exact .inl rfl
   ·rw[if_neg hc,if_neg (fun e=>hc (hi _ _ (he _ (List.getElem_mem hlt)) hw e))]
    rcases ih (by omega)with h|⟨h1,h2,h3⟩
    ·exact .inl h
    ·refine .inr ⟨h1,h2,fun j hj hji=>?_⟩
     rcases Nat.lt_or_ge j i with h|h
     ·exact h3 j hj h
     ·obtain rfl:j=i:=by omega
      exact hc
 rcases key env.length (Nat.le_refl _)with h|⟨h1,h2,h3⟩
 ·refine .inl ?_
  unfold lkp;rw[List.length_map];exact h
 ·refine .inr ⟨?_,h2,fun hm=>?_⟩
  ·unfold lkp;rw[List.length_map];exact h1
  ·obtain⟨b,hb,e⟩:=List.mem_map.1 hm
   obtain⟨j,hj,rfl⟩:=List.getElem_of_mem hb
   exact h3 j hj hj e
mutual
theorem zCw {g:Nat→Str×Nat}{σ:Str→Str}{p:Str→Prop}(hi:∀a b,p a→p b→σ a=σ b→a=b):∀(f:zaf) (env:List zbU) (n:Nat),zb5 p f→(∀b∈env,p b.fr)→(∀x∈cst f (env.map (·.fr)),σ x=x)→
  ren g (zf1 σ f) (env.map fun b=>⟨σ b.fr,b.to⟩) n=ren g f env n
 | .mk k nm ws s,env,n,hf,he,hc=>by
  rw[zb5]at hf
  rw[cst]at hc
  have hw:(ws.map σ).map (lkp (env.map fun b=>⟨σ b.fr,b.to⟩))=ws.map (lkp env):=by
   rw[List.map_map]
   refine List.map_congr_left fun w hw=>?_
   rcases zr7 hi (hf.1 w hw) he with e|⟨e1,e2,e3⟩
   ·exact e
   ·show lkp _ (σ w)=_
    rw[e1,e2]
    exact hc w (List.mem_append_left _ (List.mem_filter.2 ⟨hw,by simpa using e3⟩))
  rw[zf1,ren,ren,hw]
  by_cases hq:isQ k
  ·rw[if_pos hq]at hc
   simp only[if_pos hq]
   have h3:=zq9 (g:=g) hi s (env++[⟨nm,(g n).1⟩]) (g n).2 hf.2.2 (fun b hb=>by
    rcases List.mem_append.1 hb with h|h
    ·exact he b h
    ·rw[List.mem_singleton.1 h];exact hf.2.1 hq) (fun x hx=>hc x (List.mem_append_right _ (by rw[List.map_append]at hx;exact hx)))
   rw[List.map_append]at h3
   simp only[List.map_cons,List.map_nil]at h3
   rw[h3]
  ·rw[if_neg hq]at hc
   simp only[if_neg hq]
   rw[zq9 hi s env n hf.2.2 he fun x hx=>hc x (List.mem_append_right _ hx)]
theorem zq9 {g:Nat→Str×Nat}{σ:Str→Str}{p:Str→Prop}(hi:∀a b,p a→p b→σ a=σ b→a=b):∀(fs:List zaf) (env:List zbU) (n:Nat),zaN p fs→(∀b∈env,p b.fr)→(∀x∈zb8 fs (env.map (·.fr)),σ x=x)→
  zbX g (zb2 σ fs) (env.map fun b=>⟨σ b.fr,b.to⟩) n=zbX g fs env n
 |[],env,n,_,_,_=>by rw[zb2,zbX,zbX]
 |f::fs,env,n,hf,he,hc=>by
  rw[zaN]at hf
  rw[zb8]at hc
  rw[zb2,zbX,zbX,zCw hi f env n hf.1 he fun x hx=>hc x (List.mem_append_left _ hx)]
  rw[zq9 hi fs env _ hf.2 he fun x hx=>hc x (List.mem_append_right _ hx)]
end
mutual
theorem zxj {g:Nat→Str×Nat}{σ:Str→Str}(hg:∀k,σ (g k).1=(g k).1):∀(f:zaf) (env env':List zbU) (n:Nat),zb5 (fun w=>σ w=w) f→env'.map (·.fr)=env.map (·.fr)→env'.map (·.to)=env.map (fun b=>σ b.to)→
  ren g f env' n=(zf1 σ (ren g f env n).1,(ren g f env n).2)
 | .mk k nm ws s,env,env',n,hf,e1,e2=>by
  rw[zb5]at hf
  have hw:ws.map (lkp env')=(ws.map (lkp env)).map σ:=by
   rw[List.map_map]
   exact List.map_congr_left fun w hw=>zw7 e1 e2 (hf.1 w hw)
  rw[ren,ren,hw]
  by_cases hq:isQ k
  ·simp only[if_pos hq]
   have h3:=zkB (g:=g) hg s (env++[⟨nm,(g n).1⟩]) (env'++[⟨nm,(g n).1⟩]) (g n).2 hf.2.2 (by rw[List.map_append,List.map_append,e1]) (by rw[List.map_append,List.map_append,e2];simp only[List.map_cons,List.map_nil,hg])
   rw[h3]
   simp only[zf1,if_pos hq,hg]
  ·simp only[if_neg hq]
   rw[zkB hg s env env' n hf.2.2 e1 e2]
   simp only[zf1,if_neg hq]
theorem zkB {g:Nat→Str×Nat}{σ:Str→Str}(hg:∀k,σ (g k).1=(g k).1):∀(fs:List zaf) (env env':List zbU) (n:Nat),zaN (fun w=>σ w=w) fs→env'.map (·.fr)=env.map (·.fr)→env'.map (·.to)=env.map (fun b=>σ b.to)→
  zbX g fs env' n=(zb2 σ (zbX g fs env n).1,(zbX g fs env n).2)
 |[],env,env',n,_,_,_=>by rw[zbX,zbX,zb2]
 |f::fs,env,env',n,hf,e1,e2=>by
  rw[zaN]at hf
  rw[zbX,zbX,zxj hg f env env' n hf.1 e1 e2]
  simp only
  rw[zkB hg fs env env' _ hf.2 e1 e2,zb2]
end
mutual
theorem zuU {g:Nat→Str×Nat}{p:Str→Prop}(hg:∀k,p (g k).1):∀(f:zaf) (env:List zbU) (n:Nat),zb5 p f→(∀b∈env,p b.to)→zb5 p (ren g f env n).1
 | .mk k nm ws s,env,n,hf,he=>by
  rw[zb5]at hf
  have hw:∀w∈ws.map (lkp env),p w:=fun w hw=>by
   obtain⟨x,hx,rfl⟩:=List.mem_map.1 hw
   rcases zvL env x with e|⟨b,hb,e⟩
   ·rw[e];exact hf.1 x hx
   ·rw[e];exact he b hb
  rw[ren]
  split
  ·rw[zb5]
   refine⟨hw,fun _=>hg n,ziy hg s _ _ hf.2.2 fun b hb=>?_⟩
   rcases List.mem_append.1 hb with h|h
   ·exact he b h
   ·rw[List.mem_singleton.1 h];exact hg n
  ·rename_i hq
   rw[zb5]
   exact⟨hw,fun h=>absurd h hq,ziy hg s _ _ hf.2.2 he⟩
theorem ziy {g:Nat→Str×Nat}{p:Str→Prop}(hg:∀k,p (g k).1):∀(fs:List zaf) (env:List zbU) (n:Nat),zaN p fs→(∀b∈env,p b.to)→zaN p (zbX g fs env n).1
 |[],env,n,_,_=>by rw[zbX,zaN];trivial
 |f::fs,env,n,hf,he=>by
  rw[zaN]at hf
  rw[zbX,zaN]
  exact⟨zuU hg f _ _ hf.1 he,ziy hg fs _ _ hf.2 he⟩
end
mutual
theorem zn5 {op:Bool}:∀(f:zaf) (d:Int) (n:Nat),(chk op f d n).1.code=0→zb5 (fun w=>zax w=true) f
 | .mk k nm w s,d,n,h=>by
  rw[chk]at h
  split at h
  ·rename_i h1;exact absurd h h1
  ·rename_i h1
   have h2:=zdk (Decidable.not_not.1 h1)
   rw[zb5]
   refine⟨fun x hx=>List.all_eq_true.1 h2.1 x hx,fun hq=>h2.2.1 ?_,zk1 s _ _ h⟩
   unfold named
   have hq':k=8∨k=9:=hq
   have:(zaf.mk k nm w s).kind=k:=rfl
   rw[this]
   exact decide_eq_true (by omega)
theorem zk1 {op:Bool}:∀(fs:List zaf) (d:Int) (n:Nat),(zek op fs d n).1.code=0→zaN (fun w=>zax w=true) fs
 |[],d,n,_=>by rw[zaN];trivial
 |f::fs,d,n,h=>by
  rw[zek]at h
  split at h
  ·rename_i h1;exact absurd h h1
  ·rename_i h1
   rw[zaN]
   exact⟨zn5 f d n (Decidable.not_not.1 h1),zk1 fs d _ h⟩
end
theorem zm2 {op:Bool}{f:zaf}(h:(zaA op f).code=0):zb5 (fun w=>zax w=true) f:=zn5 f 1 0 h
def qn (i:Nat):Str:=⟨63::zco i⟩
def sg (w:Str):Str:=match w with
 |⟨c::t⟩=>if c=63 then⟨36::t⟩else⟨c::t⟩
 |⟨[]⟩=>⟨[]⟩
def wrap (v:Nat→Str):Nat→zaf→zaf
 |0,c=>c
 |i+1,c=>wrap v i (.mk 9 (v i) [] [c])
def lwP (n:Nat)(x:Str):Prop:=(x.l.head? =some 63→∃i,i<n∧x=qn i)∧x.l.head? ≠some 36∧¬zmF x
theorem zuB {n:Nat}{x:Str}(h:zax x=true):lwP n x:=by
 unfold zax at h
 have h:=(of_decide_eq_true h).2.2.1
 have hd:∀c:UInt8,x.l.head? =some c→zhh c:=fun c hc=>by
  have h0:x.l.getD 0 0=c:=by rw[List.getD_eq_getElem?_getD,←List.head?_eq_getElem?,hc];rfl
  rwa [h0]at h
 exact⟨fun e=>absurd (hd 63 e) (by decide),fun e=>absurd (hd 36 e) (by decide),fun e=>absurd (hd 33 e) (by decide)⟩
def zxb (f:zaf):zaf:= .mk 4 ⟨[]⟩ [] [f]
end Go.Abs
