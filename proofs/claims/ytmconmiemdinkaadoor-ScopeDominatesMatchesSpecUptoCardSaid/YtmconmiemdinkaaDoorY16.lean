/- several texts of this proof in one; no conditions -/
import Derived.Test.YtmconmiemdinkaaDoorY13
import Derived.Test.YtmconmiemdinkaaDoorY15
set_option linter.unusedSimpArgs false
namespace Go.Abs
open Go
mutual
def zbQ (p:Str→Prop):zab→Prop
 | .mk k nm ws s=>(∀w∈ws,p w)∧(isQ k→p nm)∧zaM p s
def zaM (p:Str→Prop):List zab→Prop
 |[]=>True
 |f::fs=>zbQ p f∧zaM p fs
end
mutual
def zfq (σ:Str→Str):zab→zab
 | .mk k nm ws s=> .mk k (if isQ k then σ nm else nm) (ws.map σ) (zbO σ s)
def zbO (σ:Str→Str):List zab→List zab
 |[]=>[]
 |f::fs=>zfq σ f::zbO σ fs
end
theorem zkO (σ:Str→Str):∀l:List zab,zbO σ l=l.map (zfq σ)
 |[]=>by rw[zbO];rfl
 |f::l=>by rw[zbO,zkO σ l];rfl
theorem zg0 (p:Str→Prop):∀l:List zab,zaM p l↔∀f∈l,zbQ p f
 |[]=>by rw[zaM];simp
 |f::l=>by rw[zaM,zg0 p l];simp
mutual
theorem zj2 {p q:Str→Prop}(h:∀w,p w→q w):∀f:zab,zbQ p f→zbQ q f
 | .mk k nm ws s,hf=>by
  rw[zbQ]at hf ⊢
  exact⟨fun w hw=>h w (hf.1 w hw),fun hk=>h nm (hf.2.1 hk),zic h s hf.2.2⟩
theorem zic {p q:Str→Prop}(h:∀w,p w→q w):∀fs:List zab,zaM p fs→zaM q fs
 |[],_=>by rw[zaM];trivial
 |f::fs,hf=>by rw[zaM]at hf ⊢;exact⟨zj2 h f hf.1,zic h fs hf.2⟩
end
mutual
theorem znE {p:Str→Prop}(h:∀w,p w→¬zlx w):∀f:zab,zbQ p f→zfR f
 | .mk k nm ws s,hf=>by rw[zbQ]at hf;rw[zfR];exact⟨fun w hw=>h w (hf.1 w hw),zgZ h s hf.2.2⟩
theorem zgZ {p:Str→Prop}(h:∀w,p w→¬zlx w):∀fs:List zab,zaM p fs→zcE fs
 |[],_=>by rw[zcE];trivial
 |f::fs,hf=>by rw[zaM]at hf;rw[zcE];exact⟨znE h f hf.1,zgZ h fs hf.2⟩
end
mutual
theorem zqg (σ:Str→Str):∀f:zab,(zfq σ f).size=f.size
 | .mk k nm ws s=>by rw[zfq,zab.size,zab.size,zhp σ s]
theorem zhp (σ:Str→Str):∀fs:List zab,zab.sizes (zbO σ fs)=zab.sizes fs
 |[]=>by rw[zbO]
 |f::fs=>by rw[zbO,zab.sizes,zab.sizes,zqg σ f,zhp σ fs]
end
mutual
theorem zop (σ:Str→Str):∀f:zab,(zfq σ f).depth=f.depth
 | .mk k nm ws s=>by rw[zfq,zab.depth,zab.depth,zgm σ s]
theorem zgm (σ:Str→Str):∀fs:List zab,zab.depths (zbO σ fs)=zab.depths fs
 |[]=>by rw[zbO]
 |f::fs=>by rw[zbO,zab.depths,zab.depths,zop σ f,zgm σ fs]
end
theorem zqh (σ:Str→Str)(l:List zab):(zbO σ l).length=l.length:=by rw[zkO,List.length_map]
mutual
theorem zsi (σ:Str→Str):∀f:zab,(zfq σ f).fit=f.fit
 | .mk k nm ws s=>by rw[zfq,zab.fit,zab.fit,ziC σ s,List.length_map,zqh]
theorem ziC (σ:Str→Str):∀fs:List zab,zab.fits (zbO σ fs)=zab.fits fs
 |[]=>by rw[zbO]
 |f::fs=>by rw[zbO,zab.fits,zab.fits,zsi σ f,ziC σ fs]
end
theorem foldl_map (σ:Str→Str)(k:Int)(hk:¬isQ k):∀(l:List zab) (f:zab),zfq σ (l.foldl (fun a x=>zab.mk k ⟨[]⟩ [] [a,x]) f)=(l.map (zfq σ)).foldl (fun a x=>zab.mk k ⟨[]⟩ [] [a,x]) (zfq σ f)
 |[],f=>rfl
 |x::l,f=>by
  rw[List.foldl_cons,foldl_map σ k hk l,List.map_cons,List.foldl_cons]
  simp only[zfq,zbO,if_neg hk,List.map_nil]
theorem zp8 (σ:Str→Str)(k:Int)(hk:¬isQ k)(l:List zab):zfq σ (zdQ k l)=zdQ k (l.map (zfq σ)):=by
 cases l with
 |nil=>simp[zdQ,zfq,zbO,isQ]
 |cons f l=>exact foldl_map σ k hk l f
theorem ziw (p:Str→Prop)(k:Int)(hk:¬isQ k):∀(l:List zab) (f:zab),zbQ p f→zaM p l→zbQ p (l.foldl (fun a x=>zab.mk k ⟨[]⟩ [] [a,x]) f)
 |[],f,h,_=>h
 |x::l,f,h,hl=>by
  rw[List.foldl_cons]
  rw[zaM]at hl
  refine ziw p k hk l _ ?_ hl.2
  simp only[zbQ,zaM]
  exact⟨by simp,fun h=>absurd h hk,h,hl.1,trivial⟩
theorem ziz (p:Str→Prop)(k:Int)(hk:¬isQ k){l:List zab}(h:zaM p l):zbQ p (zdQ k l):=by
 cases l with
 |nil=>simp[zdQ,zbQ,zaM,isQ]
 |cons f l=>rw[zaM]at h;exact ziw p k hk l f h.1 h.2
mutual
theorem zka:∀(f:zab) (bd:List Str) (x:Str),x∈cst f bd→x∉bd
 | .mk k nm ws s,bd,x,h=>by
  rw[cst,List.mem_append]at h
  rcases h with h|h
  ·simpa using(List.mem_filter.1 h).2
  ·have:=zik s _ x h
   split at this
   ·exact fun hb=>this (List.mem_append_left _ hb)
   ·exact this
theorem zik:∀(fs:List zab) (bd:List Str) (x:Str),x∈zb3 fs bd→x∉bd
 |[],bd,x,h=>by rw[zb3]at h;simp at h
 |f::fs,bd,x,h=>by
  rw[zb3,List.mem_append]at h
  rcases h with h|h
  ·exact zka f bd x h
  ·exact zik fs bd x h
end
mutual
theorem zmL {p:Str→Prop}:∀(f:zab) (bd:List Str) (x:Str),zbQ p f→x∈cst f bd→p x
 | .mk k nm ws s,bd,x,hf,h=>by
  rw[zbQ]at hf
  rw[cst,List.mem_append]at h
  rcases h with h|h
  ·exact hf.1 x (List.mem_filter.1 h).1
  ·exact zkb s _ x hf.2.2 h
theorem zkb {p:Str→Prop}:∀(fs:List zab) (bd:List Str) (x:Str),zaM p fs→x∈zb3 fs bd→p x
 |[],bd,x,_,h=>by rw[zb3]at h;simp at h
 |f::fs,bd,x,hf,h=>by
  rw[zaM]at hf
  rw[zb3,List.mem_append]at h
  rcases h with h|h
  ·exact zmL f bd x hf.1 h
  ·exact zkb fs bd x hf.2 h
end
mutual
theorem ztF {σ:Str→Str}{p:Str→Prop}(hi:∀a b,p a→p b→σ a=σ b→a=b):∀(f:zab) (bd:List Str),zbQ p f→(∀b∈bd,p b)→cst (zfq σ f) (bd.map σ)=(cst f bd).map σ
 | .mk k nm ws s,bd,hf,hb=>by
  rw[zbQ]at hf
  rw[zfq,cst,cst,List.map_append]
  congr 1
  ·rw[List.filter_map]
   congr 1
   refine List.filter_congr fun w hw=>?_
   simp only[Function.comp]
   rw[decide_eq_decide]
   constructor
   ·intro h hw2;exact h (List.mem_map_of_mem hw2)
   ·intro h hw2
    obtain⟨b,hb2,e⟩:=List.mem_map.1 hw2
    exact h (hi b w (hb b hb2) (hf.1 w hw) e▸hb2)
  ·by_cases hq:isQ k
   ·rw[if_pos hq,if_pos hq,if_pos hq]
    have:=zjc hi s (bd++[nm]) hf.2.2 fun b hb2=>by
     rcases List.mem_append.1 hb2 with h|h
     ·exact hb b h
     ·rw[List.mem_singleton.1 h];exact hf.2.1 hq
    rw[List.map_append]at this
    exact this
   ·rw[if_neg hq,if_neg hq]
    exact zjc hi s bd hf.2.2 hb
theorem zjc {σ:Str→Str}{p:Str→Prop}(hi:∀a b,p a→p b→σ a=σ b→a=b):∀(fs:List zab) (bd:List Str),zaM p fs→(∀b∈bd,p b)→zb3 (zbO σ fs) (bd.map σ)=(zb3 fs bd).map σ
 |[],bd,_,_=>by rw[zbO,zb3,zb3];rfl
 |f::fs,bd,hf,hb=>by
  rw[zaM]at hf
  rw[zbO,zb3,zb3,List.map_append,ztF hi f bd hf.1 hb,zjc hi fs bd hf.2 hb]
end
theorem zqf {σ:Str→Str}{p:Str→Prop}(hi:∀a b,p a→p b→σ a=σ b→a=b){env:List zbH}{w:Str}(hw:p w)(he:∀b∈env,p b.fr):
  lkp (env.map fun b=>⟨σ b.fr,b.to⟩) (σ w)=lkp env w∨(lkp (env.map fun b=>⟨σ b.fr,b.to⟩) (σ w)=σ w∧lkp env w=w∧w∉env.map (·.fr)):=by
 have key:∀i,i≤env.length→zh6 (env.map fun b=>⟨σ b.fr,b.to⟩) (σ w) i=zh6 env w i∨(zh6 (env.map fun b=>⟨σ b.fr,b.to⟩) (σ w) i=σ w∧zh6 env w i=w∧∀j (h:j<env.length),j<i→env[j].fr≠w):=by
  intro i
  induction i with
  |zero=>intro _;exact .inr ⟨rfl,rfl,fun j h1 h2=>by omega⟩
  |succ i ih=>
   intro hi2
   have hlt:i<env.length:=by omega
   have e1:env.getD i default=env[i]:=by rw[List.getD_eq_getElem?_getD,List.getElem?_eq_getElem hlt];rfl
   have e2:(env.map fun b=>(⟨σ b.fr,b.to⟩:zbH)).getD i default=⟨σ env[i].fr,env[i].to⟩:=by
    rw[List.getD_eq_getElem?_getD,List.getElem?_map,List.getElem?_eq_getElem hlt];rfl
   rw[zh6,zh6,e1,e2]
   by_cases hc:env[i].fr=w
   ·rw[if_pos hc,if_pos (by simp only;rw[hc])]
    exact .inl rfl
   ·rw[if_neg hc,if_neg (fun e=>hc (hi _ _ (he _ (List.getElem_mem hlt)) hw e))]
    rcases ih (by omega)with h|⟨h1,h2,h3⟩
    ·exact .inl h
    ·refine .inr ⟨h1,h2,fun j hj hji=>?_⟩
     rcases Nat.lt_or_ge j i with h|h
     ·exact h3 j hj h
     ·obtain rfl:j=i:=by omega
      exact hc
 rcases key env.length (Nat.le_refl _)with h|⟨h1,h2,h3⟩
 ·refine .inl ?_
  unfold lkp;rw[List.length_map];exact h
 ·refine .inr ⟨?_,h2,fun hm=>?_⟩
  ·unfold lkp;rw[List.length_map];exact h1
  ·obtain⟨b,hb,e⟩:=List.mem_map.1 hm
   obtain⟨j,hj,rfl⟩:=List.getElem_of_mem hb
   exact h3 j hj hj e
mutual
theorem zzw {g:Nat→Str×Nat}{σ:Str→Str}{p:Str→Prop}(hi:∀a b,p a→p b→σ a=σ b→a=b):∀(f:zab) (env:List zbH) (n:Nat),zbQ p f→(∀b∈env,p b.fr)→(∀x∈cst f (env.map (·.fr)),σ x=x)→
  ren g (zfq σ f) (env.map fun b=>⟨σ b.fr,b.to⟩) n=ren g f env n
 | .mk k nm ws s,env,n,hf,he,hc=>by
  rw[zbQ]at hf
  rw[cst]at hc
  have hw:(ws.map σ).map (lkp (env.map fun b=>⟨σ b.fr,b.to⟩))=ws.map (lkp env):=by
   rw[List.map_map]
   refine List.map_congr_left fun w hw=>?_
   rcases zqf hi (hf.1 w hw) he with e|⟨e1,e2,e3⟩
   ·exact e
   ·show lkp _ (σ w)=_
    rw[e1,e2]
    exact hc w (List.mem_append_left _ (List.mem_filter.2 ⟨hw,by simpa using e3⟩))
  rw[zfq,ren,ren,hw]
  by_cases hq:isQ k
  ·rw[if_pos hq]at hc
   simp only[if_pos hq]
   have h3:=zpf (g:=g) hi s (env++[⟨nm,(g n).1⟩]) (g n).2 hf.2.2 (fun b hb=>by
    rcases List.mem_append.1 hb with h|h
    ·exact he b h
    ·rw[List.mem_singleton.1 h];exact hf.2.1 hq) (fun x hx=>hc x (List.mem_append_right _ (by rw[List.map_append]at hx;exact hx)))
   rw[List.map_append]at h3
   simp only[List.map_cons,List.map_nil]at h3
   rw[h3]
  ·rw[if_neg hq]at hc
   simp only[if_neg hq]
   rw[zpf hi s env n hf.2.2 he fun x hx=>hc x (List.mem_append_right _ hx)]
theorem zpf {g:Nat→Str×Nat}{σ:Str→Str}{p:Str→Prop}(hi:∀a b,p a→p b→σ a=σ b→a=b):∀(fs:List zab) (env:List zbH) (n:Nat),zaM p fs→(∀b∈env,p b.fr)→(∀x∈zb3 fs (env.map (·.fr)),σ x=x)→
  zbJ g (zbO σ fs) (env.map fun b=>⟨σ b.fr,b.to⟩) n=zbJ g fs env n
 |[],env,n,_,_,_=>by rw[zbO,zbJ,zbJ]
 |f::fs,env,n,hf,he,hc=>by
  rw[zaM]at hf
  rw[zb3]at hc
  rw[zbO,zbJ,zbJ,zzw hi f env n hf.1 he fun x hx=>hc x (List.mem_append_left _ hx)]
  rw[zpf hi fs env _ hf.2 he fun x hx=>hc x (List.mem_append_right _ hx)]
end
mutual
theorem zuC {g:Nat→Str×Nat}{σ:Str→Str}(hg:∀k,σ (g k).1=(g k).1):∀(f:zab) (env env':List zbH) (n:Nat),zbQ (fun w=>σ w=w) f→env'.map (·.fr)=env.map (·.fr)→env'.map (·.to)=env.map (fun b=>σ b.to)→
  ren g f env' n=(zfq σ (ren g f env n).1,(ren g f env n).2)
 | .mk k nm ws s,env,env',n,hf,e1,e2=>by
  rw[zbQ]at hf
  have hw:ws.map (lkp env')=(ws.map (lkp env)).map σ:=by
   rw[List.map_map]
   exact List.map_congr_left fun w hw=>zuu e1 e2 (hf.1 w hw)
  rw[ren,ren,hw]
  by_cases hq:isQ k
  ·simp only[if_pos hq]
   have h3:=zjG (g:=g) hg s (env++[⟨nm,(g n).1⟩]) (env'++[⟨nm,(g n).1⟩]) (g n).2 hf.2.2 (by rw[List.map_append,List.map_append,e1]) (by rw[List.map_append,List.map_append,e2];simp only[List.map_cons,List.map_nil,hg])
   rw[h3]
   simp only[zfq,if_pos hq,hg]
  ·simp only[if_neg hq]
   rw[zjG hg s env env' n hf.2.2 e1 e2]
   simp only[zfq,if_neg hq]
theorem zjG {g:Nat→Str×Nat}{σ:Str→Str}(hg:∀k,σ (g k).1=(g k).1):∀(fs:List zab) (env env':List zbH) (n:Nat),zaM (fun w=>σ w=w) fs→env'.map (·.fr)=env.map (·.fr)→env'.map (·.to)=env.map (fun b=>σ b.to)→
  zbJ g fs env' n=(zbO σ (zbJ g fs env n).1,(zbJ g fs env n).2)
 |[],env,env',n,_,_,_=>by rw[zbJ,zbJ,zbO]
 |f::fs,env,env',n,hf,e1,e2=>by
  rw[zaM]at hf
  rw[zbJ,zbJ,zuC hg f env env' n hf.1 e1 e2]
  simp only
  rw[zjG hg fs env env' _ hf.2 e1 e2,zbO]
end
mutual
theorem zsx {g:Nat→Str×Nat}{p:Str→Prop}(hg:∀k,p (g k).1):∀(f:zab) (env:List zbH) (n:Nat),zbQ p f→(∀b∈env,p b.to)→zbQ p (ren g f env n).1
 | .mk k nm ws s,env,n,hf,he=>by
  rw[zbQ]at hf
  have hw:∀w∈ws.map (lkp env),p w:=fun w hw=>by
   obtain⟨x,hx,rfl⟩:=List.mem_map.1 hw
   rcases ztf env x with e|⟨b,hb,e⟩
   ·rw[e];exact hf.1 x hx
   ·rw[e];exact he b hb
  rw[ren]
  split
  ·rw[zbQ]
   refine⟨hw,fun _=>hg n,zhD hg s _ _ hf.2.2 fun b hb=>?_⟩
   rcases List.mem_append.1 hb with h|h
   ·exact he b h
   ·rw[List.mem_singleton.1 h];exact hg n
  ·rename_i hq
   rw[zbQ]
   exact⟨hw,fun h=>absurd h hq,zhD hg s _ _ hf.2.2 he⟩
theorem zhD {g:Nat→Str×Nat}{p:Str→Prop}(hg:∀k,p (g k).1):∀(fs:List zab) (env:List zbH) (n:Nat),zaM p fs→(∀b∈env,p b.to)→zaM p (zbJ g fs env n).1
 |[],env,n,_,_=>by rw[zbJ,zaM];trivial
 |f::fs,env,n,hf,he=>by
  rw[zaM]at hf
  rw[zbJ,zaM]
  exact⟨zsx hg f _ _ hf.1 he,zhD hg fs _ _ hf.2 he⟩
end
mutual
theorem zmE {op:Bool}:∀(f:zab) (d:Int) (n:Nat),(chk op f d n).1.code=0→zbQ (fun w=>zax w=true) f
 | .mk k nm w s,d,n,h=>by
  rw[chk]at h
  split at h
  ·rename_i h1;exact absurd h h1
  ·rename_i h1
   have h2:=zch (Decidable.not_not.1 h1)
   rw[zbQ]
   refine⟨fun x hx=>List.all_eq_true.1 h2.1 x hx,fun hq=>h2.2.1 ?_,zj7 s _ _ h⟩
   unfold named
   have hq':k=8∨k=9:=hq
   have:(zab.mk k nm w s).kind=k:=rfl
   rw[this]
   exact decide_eq_true (by omega)
theorem zj7 {op:Bool}:∀(fs:List zab) (d:Int) (n:Nat),(zdH op fs d n).1.code=0→zaM (fun w=>zax w=true) fs
 |[],d,n,_=>by rw[zaM];trivial
 |f::fs,d,n,h=>by
  rw[zdH]at h
  split at h
  ·rename_i h1;exact absurd h h1
  ·rename_i h1
   rw[zaM]
   exact⟨zmE f d n (Decidable.not_not.1 h1),zj7 fs d _ h⟩
end
theorem zlQ {op:Bool}{f:zab}(h:(zaP op f).code=0):zbQ (fun w=>zax w=true) f:=zmE f 1 0 h
def qn (i:Nat):Str:=⟨63::zca i⟩
def sg (w:Str):Str:=match w with
 |⟨c::t⟩=>if c=63 then⟨36::t⟩else⟨c::t⟩
 |⟨[]⟩=>⟨[]⟩
def wrap (v:Nat→Str):Nat→zab→zab
 |0,c=>c
 |i+1,c=>wrap v i (.mk 9 (v i) [] [c])
def lwP (n:Nat)(x:Str):Prop:=(x.l.head? =some 63→∃i,i<n∧x=qn i)∧x.l.head? ≠some 36∧¬zlx x
theorem zsh {n:Nat}{x:Str}(h:zax x=true):lwP n x:=by
 unfold zax at h
 have h:=(of_decide_eq_true h).2.2.1
 have hd:∀c:UInt8,x.l.head? =some c→zgC c:=fun c hc=>by
  have h0:x.l.getD 0 0=c:=by rw[List.getD_eq_getElem?_getD,←List.head?_eq_getElem?,hc];rfl
  rwa [h0]at h
 exact⟨fun e=>absurd (hd 63 e) (by decide),fun e=>absurd (hd 36 e) (by decide),fun e=>absurd (hd 33 e) (by decide)⟩
def zEz (f:zab):zab:= .mk 4 ⟨[]⟩ [] [f]
end Go.Abs
namespace Go.Abs
open Go
mutual
def wfE:zab→Prop
 | .mk k nm _ s=>(k=5→s.length=2)∧(k=9→s.length=1)∧(k=2→nm.l≠[])∧zoV s
def zoV:List zab→Prop
 |[]=>True
 |f::fs=>wfE f∧zoV fs
end
mutual
theorem ztC {op:Bool}:∀(f:zab) (d:Int) (n:Nat),(chk op f d n).1.code=0→wfE f
 | .mk k nm w s,d,n,h=>by
  rw[chk]at h
  split at h
  ·rename_i h1;exact absurd h h1
  ·rename_i h1
   have h2:=zch (Decidable.not_not.1 h1)
   have h3:=h2.2.2.2.2
   simp only[zby]at h3
   rw[wfE]
   refine⟨fun e=>?_,fun e=>?_,fun e=>?_,zmJ s _ _ h⟩
   ·subst e
    have:za1 op (zab.mk 5 nm w s)=2:=by simp[za1,zdb,zaR]
    omega
   ·subst e
    have:za1 op (zab.mk 9 nm w s)=1:=by simp[za1,zdb,zaR]
    omega
   ·have hn:=h2.2.1 (by unfold named;exact decide_eq_true (.inl e))
    simp only[zei]at hn
    unfold zax at hn
    have:=(of_decide_eq_true hn).1
    intro e2;rw[e2]at this;simp at this
theorem zmJ {op:Bool}:∀(fs:List zab) (d:Int) (n:Nat),(zdH op fs d n).1.code=0→zoV fs
 |[],d,n,_=>by rw[zoV];trivial
 |f::fs,d,n,h=>by
  rw[zdH]at h
  split at h
  ·rename_i h1;exact absurd h h1
  ·rename_i h1
   rw[zoV]
   exact⟨ztC f d n (Decidable.not_not.1 h1),zmJ fs d _ h⟩
end
mutual
def zfp:zab→List zab
 | .mk k nm ws s=>if k=5∧s.length=2 then zhn s else[.mk k nm ws s]
def zhn:List zab→List zab
 |[]=>[]
 |f::fs=>zfp f++fs
end
theorem zqc {f a b:zab}(hk:f.kind=5)(hs:f.subs=[a,b]):zfp f=zfp a++[b]:=by
 cases f with
 |mk k nm ws s=>
  simp only[zaR,zby]at hk hs
  subst hk hs
  rw[zfp,if_pos ⟨rfl,rfl⟩,zhn]
theorem zqd {f:zab}(h:¬(f.kind=5∧f.subs.length=2)):zfp f=[f]:=by
 cases f with
 |mk k nm ws s=>
  simp only[zaR,zby]at h
  rw[zfp,if_neg h]
def zmO:zab:= .mk 0 ⟨[]⟩ [] []
def zb2 (f:zab):List zab:=zfp (f.subs.getD 0 zmO)
def zgA (f:zab):zab:=(zb2 f).getD 0 zmO
def okE (f:zab):Bool:=decide (f.kind=9)&&decide ((zgA f).kind=2)&&decide ((zgA f).words.length=1)&&decide ((zgA f).words.getD 0 ⟨[]⟩=f.name)
def zph (i:Nat):Str:=⟨97::114::103::zca (i+1)⟩
def zl9 (f:zab)(i:Nat)(x:zab):Bool:=decide (x.kind=2)&&decide (x.name=zph i)&&decide (x.words.length=2)&&decide (x.words.getD 0 ⟨[]⟩=f.name)&& !decide (x.words.getD 1 ⟨[]⟩=f.name)
def zfn (f:zab):Nat→Bool
 |0=>true
 |i+1=>zfn f i&&zl9 f i ((zb2 f).getD (i+1) zmO)
def ziV (f:zab)(i:Nat):List Str:=(List.range i).map fun j=>((zb2 f).getD (j+1) zmO).words.getD 1 ⟨[]⟩
def zcA (f:zab):Bool:=okE f&&decide (2≤(zb2 f).length)&&decide ((zb2 f).length≤4)&&zfn f ((zb2 f).length-1)
def zbm (f:zab):zab:=if zcA f then .mk 2 (zgA f).name (ziV f ((zb2 f).length-1)) []else f
mutual
def zav (by':zab→zab):zab→zab
 | .mk k nm ws s=>by' (.mk k nm ws (zao by' s))
def zao (by':zab→zab):List zab→List zab
 |[]=>[]
 |f::fs=>zav by' f::zao by' fs
end
theorem zbc (by':zab→zab):∀l:List zab,zao by' l=l.map (zav by')
 |[]=>by rw[zao];rfl
 |f::l=>by rw[zao,zbc by' l];rfl
theorem znJ (by':zab→zab)(f:zab):zav by' f=by' (.mk f.kind f.name f.words (f.subs.map (zav by'))):=by cases f;rw[zav,zbc];rfl
theorem zmV {f:zab}:∀{n i:Nat},zfn f n=true→i<n→zl9 f i ((zb2 f).getD (i+1) zmO)=true
 |n+1,i,h,hi=>by
  rw[zfn,Bool.and_eq_true]at h
  rcases Nat.lt_or_ge i n with h1|h1
  ·exact zmV h.1 h1
  ·obtain rfl:i=n:=by omega
   exact h.2
theorem zjC {f:zab}(h:okE f=true):f.kind=9∧(zgA f).kind=2:=by
 unfold okE at h
 simp only[Bool.and_eq_true,decide_eq_true_eq]at h
 exact⟨h.1.1.1,h.1.1.2⟩
theorem zeB {f:zab}(h:zcA f=true):okE f=true:=by
 unfold zcA at h
 simp only[Bool.and_eq_true]at h
 exact h.1.1.1
mutual
theorem zlP {by':zab→zab}(hb:∀f,wfE f→wfE (by' f)):∀f:zab,wfE f→wfE (zav by' f)
 | .mk k nm ws s,h=>by
  rw[wfE]at h
  rw[zav]
  refine hb _ ?_
  rw[wfE,zbc,List.length_map]
  refine⟨h.1,h.2.1,h.2.2.1,?_⟩
  rw[←zbc]
  exact zd6 hb s h.2.2.2
theorem zd6 {by':zab→zab}(hb:∀f,wfE f→wfE (by' f)):∀fs:List zab,zoV fs→zoV (zao by' fs)
 |[],_=>by rw[zao,zoV];trivial
 |f::fs,h=>by rw[zoV]at h;rw[zao,zoV];exact⟨zlP hb f h.1,zd6 hb fs h.2⟩
end
theorem zkT (f:zab):(zbm f).size≤f.size:=by
 unfold zbm
 split
 ·have:=f.size_pos;simp only[zab.size,zab.sizes];omega
 ·exact Nat.le_refl _
mutual
theorem zgf {by':zab→zab}{c:Nat}(hb:∀f,(by' f).size≤f.size+c):∀f:zab,(zav by' f).size≤f.size*(c+1)
 | .mk k nm ws s=>by
  rw[zav]
  have h1:=hb (.mk k nm ws (zao by' s))
  have h2:=zfb hb s
  rw[zab.size]at h1 ⊢
  rw[Nat.add_mul,Nat.one_mul]
  omega
theorem zfb {by':zab→zab}{c:Nat}(hb:∀f,(by' f).size≤f.size+c):∀fs:List zab,zab.sizes (zao by' fs)≤zab.sizes fs*(c+1)
 |[]=>by rw[zao,zab.sizes];omega
 |f::fs=>by
  rw[zao,zab.sizes,zab.sizes,Nat.add_mul]
  have h1:=zgf hb f
  have h2:=zfb hb fs
  omega
end
mutual
theorem zg6 {by':zab→zab}(hb:∀f,f.fit=true→(by' f).fit=true):∀f:zab,f.fit=true→(zav by' f).fit=true
 | .mk k nm ws s,h=>by
  rw[zab.fit]at h
  simp only[Bool.and_eq_true]at h
  rw[zav]
  refine hb _ ?_
  rw[zab.fit,zbc,List.length_map,←zbc,zgh hb s h.2,h.1.1,h.1.2]
  rfl
theorem zgh {by':zab→zab}(hb:∀f,f.fit=true→(by' f).fit=true):∀fs:List zab,zab.fits fs=true→zab.fits (zao by' fs)=true
 |[],_=>by rw[zao,zab.fits]
 |f::fs,h=>by rw[zab.fits,Bool.and_eq_true]at h;rw[zao,zab.fits,zg6 hb f h.1,zgh hb fs h.2];rfl
end
mutual
theorem zj5 {by':zab→zab}{p:Str→Prop}(hb:∀f,wfE f→zbQ p f→zbQ p (by' f))(hw:∀f,wfE f→wfE (by' f)):∀f:zab,wfE f→zbQ p f→zbQ p (zav by' f)
 | .mk k nm ws s,h2,h=>by
  have h3:=h2
  rw[wfE]at h3
  rw[zbQ]at h
  rw[zav]
  refine hb _ ?_ ?_
  ·rw[wfE,zbc,List.length_map]
   refine⟨h3.1,h3.2.1,h3.2.2.1,?_⟩
   rw[←zbc]
   exact zd6 hw s h3.2.2.2
  ·rw[zbQ];exact⟨h.1,h.2.1,zfa hb hw s h3.2.2.2 h.2.2⟩
theorem zfa {by':zab→zab}{p:Str→Prop}(hb:∀f,wfE f→zbQ p f→zbQ p (by' f))(hw:∀f,wfE f→wfE (by' f)):∀fs:List zab,zoV fs→zaM p fs→zaM p (zao by' fs)
 |[],_,_=>by rw[zao,zaM];trivial
 |f::fs,h2,h=>by rw[zaM]at h;rw[zoV]at h2;rw[zao,zaM];exact⟨zj5 hb hw f h2.1 h.1,zfa hb hw fs h2.2 h.2⟩
end
def qM:Str:=⟨[63]⟩
def dM:Str:=⟨[36]⟩
def zcI (v:Str)(nm:Str)(ws:List Str):zab:= .mk 9 v [] [zdQ 5 (.mk 2 nm [v] []::(List.range ws.length).map fun i=> .mk 2 (zph i) [v,ws.getD i ⟨[]⟩] [])]
def zaZ (v:Str)(ps:List Str)(f:zab):zab:=if f.kind=2∧0<f.words.length∧f.name∈ps then zcI v f.name f.words else f
theorem zci (v:Str)(ps:List Str)(k:Int)(nm:Str)(ws:List Str)(s:List zab):zaZ v ps (.mk k nm ws s)=if k=2∧0<ws.length∧nm∈ps then zcI v nm ws else .mk k nm ws s:=rfl
theorem zoE (nm:Str)(ws:List Str)(h:∀w∈ws,sg w=w):zfq sg (zcI qM nm ws)=zcI dM nm ws:=by
 have e:sg qM=dM:=rfl
 have hh:(zab.mk 2 nm [qM] []::(List.range ws.length).map fun i=>zab.mk 2 (zph i) [qM,ws.getD i ⟨[]⟩] []).map (zfq sg)=zab.mk 2 nm [dM] []::(List.range ws.length).map fun i=>zab.mk 2 (zph i) [dM,ws.getD i ⟨[]⟩] []:=by
  rw[List.map_cons,List.map_map]
  congr 1
  refine List.map_congr_left fun i hi=>?_
  have hi:=List.mem_range.1 hi
  have hm:ws.getD i ⟨[]⟩∈ws:=by
   rw[List.getD_eq_getElem?_getD,List.getElem?_eq_getElem hi]
   exact List.getElem_mem _
  show zfq sg (zab.mk 2 (zph i) [qM,ws.getD i ⟨[]⟩] [])=_
  rw[zfq,if_neg (by decide),List.map_cons,List.map_cons,List.map_nil,e,h _ hm,zbO]
 unfold zcI
 rw[zfq,zbO,zbO,zp8 sg 5 (by decide),hh,if_pos (show isQ 9 from .inr rfl),e,List.map_nil]
mutual
theorem zqJ (ps:List Str):∀f:zab,zbQ (fun w=>sg w=w) f→zav (zaZ dM ps) f=zfq sg (zav (zaZ qM ps) f)
 | .mk k nm ws s,h=>by
  have h2:=h
  rw[zbQ]at h
  rw[zav,zav,ziO ps s h.2.2]
  rw[zci,zci]
  split
  ·rw[zoE nm ws h.1]
  ·rw[zfq]
   congr 1
   ·by_cases hq:isQ k
    ·rw[if_pos hq];exact(h.2.1 hq).symm
    ·rw[if_neg hq]
   ·conv=>lhs;rw[←List.map_id ws]
    exact List.map_congr_left fun w hw=>(h.1 w hw).symm
theorem ziO (ps:List Str):∀fs:List zab,zaM (fun w=>sg w=w) fs→zao (zaZ dM ps) fs=zbO sg (zao (zaZ qM ps) fs)
 |[],_=>by rw[zao,zao,zbO]
 |f::fs,h=>by rw[zaM]at h;rw[zao,zao,zbO,zqJ ps f h.1,ziO ps fs h.2]
end
def swP (x:Str):Prop:=(x.l.head? =some 63→x=qM)∧x.l.head? ≠some 36∧¬zlx x
theorem zjS {x:Str}(h:zax x=true):swP x:=by
 have:=zsh (n:=0) h
 exact⟨fun e=>by obtain⟨i,hi,_⟩:=this.1 e;omega,this.2⟩
theorem zuL:swP qM:=⟨fun _=>rfl,by simp[qM],by simp[zlx,qM]⟩
theorem zjq {ws:List Str}{i:Nat}(h:i<ws.length):ws.getD i ⟨[]⟩∈ws:=by
 rw[List.getD_eq_getElem?_getD,List.getElem?_eq_getElem h]
 exact List.getElem_mem _
theorem zmp {nm:Str}{ws:List Str}(h:∀w∈ws,swP w):zbQ swP (zcI qM nm ws):=by
 unfold zcI
 simp only[zbQ,zaM]
 refine⟨by simp,fun _=>zuL,ziz swP 5 (by decide) ((zg0 _ _).2 fun g hg=>?_),trivial⟩
 rcases List.mem_cons.1 hg with rfl|hg
 ·rw[zbQ,zaM]
  exact⟨fun w hw=>by rw[List.mem_singleton.1 hw];exact zuL,fun e=>absurd e (by decide),trivial⟩
 ·obtain⟨i,hi,rfl⟩:=List.mem_map.1 hg
  have hi:=List.mem_range.1 hi
  rw[zbQ,zaM]
  refine⟨fun w hw=>?_,fun e=>absurd e (by decide),trivial⟩
  simp only[List.mem_cons,List.not_mem_nil,or_false]at hw
  rcases hw with rfl|rfl
  ·exact zuL
  ·exact h _ (zjq hi)
mutual
theorem zoG (ps:List Str):∀f:zab,zbQ (fun w=>zax w=true) f→zbQ swP (zav (zaZ qM ps) f)
 | .mk k nm ws s,h=>by
  rw[zbQ]at h
  rw[zav]
  rw[zci]
  split
  ·exact zmp fun w hw=>zjS (h.1 w hw)
  ·rw[zbQ]
   exact⟨fun w hw=>zjS (h.1 w hw),fun hq=>zjS (h.2.1 hq),zhI ps s h.2.2⟩
theorem zhI (ps:List Str):∀fs:List zab,zaM (fun w=>zax w=true) fs→zaM swP (zao (zaZ qM ps) fs)
 |[],_=>by rw[zao,zaM];trivial
 |f::fs,h=>by rw[zaM]at h;rw[zao,zaM];exact⟨zoG ps f h.1,zhI ps fs h.2⟩
end
mutual
theorem ziN (ps:List Str):∀(f:zab) (bd:List Str) (x:Str),zbQ (fun w=>zax w=true) f→x∈cst (zav (zaZ qM ps) f) bd→x≠qM
 | .mk k nm ws s,bd,x,h,hx=>by
  rw[zbQ]at h
  rw[zav]at hx
  rw[zci]at hx
  split at hx
  ·unfold zcI at hx
   rw[cst,if_pos (show isQ 9 from .inr rfl),zb3,zb3]at hx
   simp only[List.filter_nil,List.nil_append,List.append_nil]at hx
   have:=zka _ _ _ hx
   intro e
   exact this (by rw[e];simp)
  ·rw[cst,List.mem_append]at hx
   rcases hx with hx|hx
   ·have:=h.1 x (List.mem_filter.1 hx).1
    intro e
    rw[e]at this
    exact absurd this (by decide)
   ·exact zhJ ps s _ x h.2.2 hx
theorem zhJ (ps:List Str):∀(fs:List zab) (bd:List Str) (x:Str),zaM (fun w=>zax w=true) fs→x∈zb3 (zao (zaZ qM ps) fs) bd→x≠qM
 |[],bd,x,_,hx=>by rw[zao,zb3]at hx;simp at hx
 |f::fs,bd,x,h,hx=>by
  rw[zaM]at h
  rw[zao,zb3,List.mem_append]at hx
  rcases hx with hx|hx
  ·exact ziN ps f bd x h.1 hx
  ·exact zhJ ps fs bd x h.2 hx
end
theorem zmq (v nm:Str)(ws:List Str):(zcI v nm ws).size≤2*ws.length+4∧(zcI v nm ws).fit=true:=by
 unfold zcI
 have h1:=zom 5 (.mk 2 nm [v] []::(List.range ws.length).map fun i=> .mk 2 (zph i) [v,ws.getD i ⟨[]⟩] [])
 have hl:∀g∈(zab.mk 2 nm [v] []::(List.range ws.length).map fun i=>zab.mk 2 (zph i) [v,ws.getD i ⟨[]⟩] []),g.size≤1∧g.fit=true:=fun g hg=>by
  rcases List.mem_cons.1 hg with rfl|hg
  ·exact⟨by simp[zab.size,zab.sizes],by simp[zab.fit,zab.fits]⟩
  ·obtain⟨i,_,rfl⟩:=List.mem_map.1 hg
   exact⟨by simp[zab.size,zab.sizes],by simp[zab.fit,zab.fits]⟩
 have h2:=zlb (c:=1) _ fun g hg=>(hl g hg).1
 have h3:=zp7 5 ((fits_mem _).2 fun g hg=>(hl g hg).2)
 rw[List.length_cons,List.length_map,List.length_range]at h1 h2
 refine⟨by simp only[zab.size,zab.sizes];omega,?_⟩
 rw[zab.fit,zab.fits,zab.fits,h3];rfl
theorem zmo {v:Str}{ps:List Str}{f:zab}(h:f.fit=true):(zaZ v ps f).fit=true:=by
 unfold zaZ;split
 ·exact(zmq _ _ _).2
 ·exact h
end Go.Abs
namespace Go.Abs
open Go
abbrev PE:=List (Str×Str)
def zlu:PE→Str→Str→Prop
 |[],w,w'=>w=w'
 |(a,b)::E,w,w'=>(w=a∧w'=b)∨(w≠a∧w'≠b∧zlu E w w')
def zb9 (E:PE):List Str→List Str→Prop
 |[],[]=>True
 |w::ws,w'::ws'=>zlu E w w'∧zb9 E ws ws'
 |[],_::_=>False
 |_::_,[]=>False
mutual
def Aeq:PE→zab→zab→Prop
 |E,.mk k nm ws s,.mk k' nm' ws' s'=>k=k'∧(¬isQ k→nm=nm')∧zb9 E ws ws'∧zb4 (if isQ k then(nm,nm')::E else E) s s'
def zb4:PE→List zab→List zab→Prop
 |_,[],[]=>True
 |E,f::fs,g::gs=>Aeq E f g∧zb4 E fs gs
 |_,[],_::_=>False
 |_,_::_,[]=>False
end
theorem zfK {E:PE}:∀{a b:List Str},zb9 E a b→a.length=b.length
 |[],[],_=>rfl
 |_::a,_::b,h=>by rw[zb9]at h;rw[List.length_cons,List.length_cons,zfK h.2]
 |[],_::_,h=>by rw[zb9]at h;exact h.elim
 |_::_,[],h=>by rw[zb9]at h;exact h.elim
theorem zfJ {E:PE}:∀{a b:List Str} {i:Nat},zb9 E a b→i<a.length→zlu E (a.getD i ⟨[]⟩) (b.getD i ⟨[]⟩)
 |[],[],i,_,hi=>by simp at hi
 |w::a,w'::b,0,h,_=>by rw[zb9]at h;exact h.1
 |w::a,w'::b,i+1,h,hi=>by rw[zb9]at h;exact zfJ (i:=i) h.2 (by simpa using hi)
 |[],_::_,_,h,_=>by rw[zb9]at h;exact h.elim
 |_::_,[],_,h,_=>by rw[zb9]at h;exact h.elim
theorem ziX {E:PE}:∀{a b:List zab},zb4 E a b→a.length=b.length
 |[],[],_=>rfl
 |_::a,_::b,h=>by rw[zb4]at h;rw[List.length_cons,List.length_cons,ziX h.2]
 |[],_::_,h=>by rw[zb4]at h;exact h.elim
 |_::_,[],h=>by rw[zb4]at h;exact h.elim
theorem zmv {E:PE}:∀{a b c d:List zab},zb4 E a b→zb4 E c d→zb4 E (a++c) (b++d)
 |[],[],_,_,_,h=>h
 |_::a,_::b,_,_,h,h2=>by rw[zb4]at h;rw[List.cons_append,List.cons_append,zb4];exact⟨h.1,zmv h.2 h2⟩
 |[],_::_,_,_,h,_=>by rw[zb4]at h;exact h.elim
 |_::_,[],_,_,h,_=>by rw[zb4]at h;exact h.elim
theorem ztn {E:PE}:Aeq E zmO zmO:=by
 unfold zmO
 rw[Aeq,if_neg (by decide)]
 exact⟨rfl,fun _=>rfl,by rw[zb9];trivial,by rw[zb4];trivial⟩
theorem zdm {E:PE}:∀{a b:List zab} (i:Nat),zb4 E a b→Aeq E (a.getD i zmO) (b.getD i zmO)
 |[],[],i,_=>by simp only[List.getD_nil];exact ztn
 |_::a,_::b,0,h=>by rw[zb4]at h;exact h.1
 |_::a,_::b,i+1,h=>by rw[zb4]at h;exact zdm i h.2
 |[],_::_,_,h=>by rw[zb4]at h;exact h.elim
 |_::_,[],_,h=>by rw[zb4]at h;exact h.elim
theorem zh7 {E:PE}{f f':zab}:Aeq E f f'↔f.kind=f'.kind∧(¬isQ f.kind→f.name=f'.name)∧zb9 E f.words f'.words∧zb4 (if isQ f.kind then(f.name,f'.name)::E else E) f.subs f'.subs:=by
 cases f;cases f';rw[Aeq];rfl
theorem zlv {E:PE}{s s':Str→Str}(h:∀w w',zlu E w w'→s w=s' w'):∀{a b:List Str},zb9 E a b→a.map s=b.map s'
 |[],[],_=>rfl
 |w::a,w'::b,hw=>by rw[zb9]at hw;rw[List.map_cons,List.map_cons,h _ _ hw.1,zlv h hw.2]
 |[],_::_,h=>by rw[zb9]at h;exact h.elim
 |_::_,[],h=>by rw[zb9]at h;exact h.elim
mutual
theorem zpe {g:Nat→Str×Nat}:∀(f f':zab) (E:PE) (env env':List zbH) (n:Nat),Aeq E f f'→(∀w w',zlu E w w'→lkp env w=lkp env' w')→ren g f env n=ren g f' env' n
 | .mk k nm ws s,.mk k' nm' ws' s',E,env,env',n,h,he=>by
  rw[Aeq]at h
  obtain⟨rfl,h2,h3,h4⟩:=h
  rw[ren,ren,zlv he h3]
  by_cases hq:isQ k
  ·rw[if_pos hq]at h4
   simp only[if_pos hq]
   rw[zi2 (g:=g) s s' ((nm,nm')::E) (env++[(⟨nm,(g n).1⟩:zbH)]) (env'++[(⟨nm',(g n).1⟩:zbH)]) (g n).2 h4 fun w w' hw=>?_]
   rw[zeA,zeA]
   rw[zlu]at hw
   rcases hw with⟨rfl,rfl⟩|⟨h5,h6,h7⟩
   ·rw[if_pos rfl,if_pos rfl]
   ·rw[if_neg (fun e=>h5 e.symm),if_neg (fun e=>h6 e.symm)]
    exact he w w' h7
  ·rw[if_neg hq]at h4
   simp only[if_neg hq]
   rw[zi2 (g:=g) s s' E env env' n h4 he,h2 hq]
theorem zi2 {g:Nat→Str×Nat}:∀(f f':List zab) (E:PE) (env env':List zbH) (n:Nat),zb4 E f f'→(∀w w',zlu E w w'→lkp env w=lkp env' w')→zbJ g f env n=zbJ g f' env' n
 |[],[],E,env,env',n,_,_=>by rw[zbJ,zbJ]
 |f::fs,f'::fs',E,env,env',n,h,he=>by
  rw[zb4]at h
  rw[zbJ,zbJ,zpe f f' E env env' n h.1 he]
  rw[zi2 fs fs' E env env' _ h.2 he]
 |[],_::_,_,_,_,_,h,_=>by rw[zb4]at h;exact h.elim
 |_::_,[],_,_,_,_,h,_=>by rw[zb4]at h;exact h.elim
end
theorem zgx {E:PE}{bd bd':List Str}(hb:∀w w',zlu E w w'→(w∈bd↔w'∈bd')∧(w∉bd→w=w')):∀{a b:List Str},zb9 E a b→a.filter (fun w=>decide (w∉bd))=b.filter (fun w=>decide (w∉bd'))
 |[],[],_=>rfl
 |w::a,w'::b,hw=>by
  rw[zb9]at hw
  rw[List.filter_cons,List.filter_cons,zgx hb hw.2]
  obtain⟨h1,h2⟩:=hb w w' hw.1
  by_cases h:w∈bd
  ·rw[if_neg (by simpa using h),if_neg (by simpa using h1.1 h)]
  ·have e:=h2 h
   rw[if_pos (by simpa using h),if_pos (by simpa using fun h3=>h (h1.2 h3)),e]
 |[],_::_,h=>by rw[zb9]at h;exact h.elim
 |_::_,[],h=>by rw[zb9]at h;exact h.elim
mutual
theorem zpd:∀(f f':zab) (E:PE) (bd bd':List Str),Aeq E f f'→(∀w w',zlu E w w'→(w∈bd↔w'∈bd')∧(w∉bd→w=w'))→cst f bd=cst f' bd'
 | .mk k nm ws s,.mk k' nm' ws' s',E,bd,bd',h,he=>by
  rw[Aeq]at h
  obtain⟨rfl,h2,h3,h4⟩:=h
  rw[cst,cst,zgx he h3]
  by_cases hq:isQ k
  ·rw[if_pos hq]at h4
   rw[if_pos hq,if_pos hq]
   rw[zi1 s s' ((nm,nm')::E) (bd++[nm]) (bd'++[nm']) h4 fun w w' hw=>?_]
   rw[zlu]at hw
   simp only[List.mem_append,List.mem_singleton]
   rcases hw with⟨rfl,rfl⟩|⟨h5,h6,h7⟩
   ·exact⟨⟨fun _=> .inr rfl,fun _=> .inr rfl⟩,fun h=>absurd (.inr rfl) h⟩
   ·obtain⟨h8,h9⟩:=he w w' h7
    refine⟨⟨fun h=>?_,fun h=>?_⟩,fun h=>h9 fun h0=>h (.inl h0)⟩
    ·rcases h with h|h
     ·exact .inl (h8.1 h)
     ·exact absurd h h5
    ·rcases h with h|h
     ·exact .inl (h8.2 h)
     ·exact absurd h h6
  ·rw[if_neg hq]at h4
   rw[if_neg hq,if_neg hq,zi1 s s' E bd bd' h4 he]
theorem zi1:∀(f f':List zab) (E:PE) (bd bd':List Str),zb4 E f f'→(∀w w',zlu E w w'→(w∈bd↔w'∈bd')∧(w∉bd→w=w'))→zb3 f bd=zb3 f' bd'
 |[],[],E,bd,bd',_,_=>by rw[zb3,zb3]
 |f::fs,f'::fs',E,bd,bd',h,he=>by
  rw[zb4]at h
  rw[zb3,zb3,zpd f f' E bd bd' h.1 he,zi1 fs fs' E bd bd' h.2 he]
 |[],_::_,_,_,_,h,_=>by rw[zb4]at h;exact h.elim
 |_::_,[],_,_,_,h,_=>by rw[zb4]at h;exact h.elim
end
theorem zpc {f f':zab}(h:Aeq [] f f'):zbX f []=zbX f' []:=by
 have h1:cst f []=cst f' []:=zpd f f' [] [] [] h fun w w' hw=>⟨by simp,fun _=>hw⟩
 unfold zbX zcw
 rw[h1,zpe f f' [] [] [] 0 h fun w w' hw=>by rw[zjy,zjy];exact hw]
mutual
theorem zqy {used:List Str}:∀(f:zab) (E:PE) (env:List zbH) (bd:List Str) (n:Nat),(∀w,w∈bd∨w∈used→zlu E w (lkp env w)∧(lkp env w∈used∨∃j,j<n∧lkp env w=zhT j))→(∀x∈cst f bd,x∈used)→Aeq E f (ren (vg used) f env n).1
 | .mk k nm ws s,E,env,bd,n,he,hc=>by
  rw[cst]at hc
  have hw:zb9 E ws (ws.map (lkp env)):=by
   have:∀l:List Str,(∀w∈l,w∈ws)→zb9 E l (l.map (lkp env)):=by
    intro l
    induction l with
    |nil=>intro _;rw[List.map_nil,zb9];trivial
    |cons w l ih=>
     intro hl
     rw[List.map_cons,zb9]
     refine⟨(he w ?_).1,ih fun x hx=>hl x (List.mem_cons_of_mem _ hx)⟩
     by_cases hb:w∈bd
     ·exact .inl hb
     ·exact .inr (hc w (List.mem_append_left _ (List.mem_filter.2 ⟨hl w (by simp),by simpa using hb⟩)))
   exact this ws fun _ h=>h
  rw[ren]
  by_cases hq:isQ k
  ·rw[if_pos hq]at hc
   rw[if_pos hq,Aeq,if_pos hq]
   obtain⟨a1,_,a3,_⟩:=zeC used n
   refine⟨rfl,fun h=>absurd hq h,hw,zjE s _ _ (bd++[nm]) _ (fun w hw2=>?_) fun x hx=>hc x (List.mem_append_right _ hx)⟩
   rw[zeA,zlu]
   by_cases e:nm=w
   ·rw[if_pos e]
    exact⟨.inl ⟨e.symm,rfl⟩,.inr ⟨zd0 used n,Nat.lt_succ_self _,rfl⟩⟩
   ·rw[if_neg e]
    have hw3:w∈bd∨w∈used:=by
     rcases hw2 with h|h
     ·rcases List.mem_append.1 h with h|h
      ·exact .inl h
      ·exact absurd (List.mem_singleton.1 h).symm e
     ·exact .inr h
    obtain⟨h1,h2⟩:=he w hw3
    refine⟨.inr ⟨fun h=>e h.symm,fun h=>?_,h1⟩,?_⟩
    ·rw[h]at h2
     rcases h2 with h2|⟨j,hj,h2⟩
     ·exact a3 h2
     ·have:=zjU h2;omega
    ·rcases h2 with h2|⟨j,hj,h2⟩
     ·exact .inl h2
     ·refine .inr ⟨j,?_,h2⟩
      have:(vg used n).2=zd0 used n+1:=rfl
      omega
  ·rw[if_neg hq]at hc
   rw[if_neg hq,Aeq,if_neg hq]
   exact⟨rfl,fun _=>rfl,hw,zjE s _ _ bd _ he fun x hx=>hc x (List.mem_append_right _ hx)⟩
theorem zjE {used:List Str}:∀(fs:List zab) (E:PE) (env:List zbH) (bd:List Str) (n:Nat),(∀w,w∈bd∨w∈used→zlu E w (lkp env w)∧(lkp env w∈used∨∃j,j<n∧lkp env w=zhT j))→(∀x∈zb3 fs bd,x∈used)→zb4 E fs (zbJ (vg used) fs env n).1
 |[],E,env,bd,n,_,_=>by rw[zbJ,zb4];trivial
 |f::fs,E,env,bd,n,he,hc=>by
  rw[zb3]at hc
  rw[zbJ,zb4]
  refine⟨zqy f E env bd n he fun x hx=>hc x (List.mem_append_left _ hx),zjE fs E env bd _ (fun w hw=>?_) fun x hx=>hc x (List.mem_append_right _ hx)⟩
  obtain⟨h1,h2⟩:=he w hw
  refine⟨h1,?_⟩
  rcases h2 with h2|⟨j,hj,h2⟩
  ·exact .inl h2
  ·have:=((zqA (zuR used)).1 f env n).1
   exact .inr ⟨j,by omega,h2⟩
end
theorem zpm (f:zab):Aeq [] f (zbX f []):=by
 refine zqy f [] [] [] 0 (fun w hw=>?_) fun x hx=>(zhq f x).2 hx
 rw[zjy]
 rcases hw with h|h
 ·simp at h
 ·exact⟨rfl,.inl h⟩
mutual
theorem zkN:∀(f f':zab) (E:PE),Aeq E f f'→zb4 E (zfp f) (zfp f')
 | .mk k nm ws s,.mk k' nm' ws' s',E,h=>by
  have h0:=h
  rw[Aeq]at h
  obtain⟨rfl,h2,h3,h4⟩:=h
  have hl:=ziX h4
  rw[zfp,zfp,←hl]
  by_cases hk:k=5∧s.length=2
  ·rw[if_pos hk,if_pos hk]
   rw[if_neg (by rw[hk.1];decide)]at h4
   exact zoo s s' E h4
  ·rw[if_neg hk,if_neg hk,zb4]
   exact⟨h0,by rw[zb4];trivial⟩
theorem zoo:∀(f f':List zab) (E:PE),zb4 E f f'→zb4 E (zhn f) (zhn f')
 |[],[],E,_=>by rw[zhn,zb4];trivial
 |f::fs,f'::fs',E,h=>by
  rw[zb4]at h
  rw[zhn,zhn]
  exact zmv (zkN f f' E h.1) h.2
 |[],_::_,_,h=>by rw[zb4]at h;exact h.elim
 |_::_,[],_,h=>by rw[zb4]at h;exact h.elim
end
theorem zkX {E:PE}{f f':zab}(h:Aeq E f f')(hk:f.kind=9):zb4 ((f.name,f'.name)::E) (zb2 f) (zb2 f'):=by
 rw[zh7,if_pos (show isQ f.kind from .inr hk)]at h
 unfold zb2
 exact zkN _ _ _ (zdm 0 h.2.2.2)
theorem zfH {E:PE}{a b w w':Str}(h:zlu ((a,b)::E) w w'):(w=a↔w'=b)∧(w≠a→zlu E w w'):=by
 rw[zlu]at h
 rcases h with⟨rfl,rfl⟩|⟨h1,h2,h3⟩
 ·exact⟨⟨fun _=>rfl,fun _=>rfl⟩,fun h=>absurd rfl h⟩
 ·exact⟨⟨fun h=>absurd h h1,fun h=>absurd h h2⟩,fun _=>h3⟩
theorem zux {E:PE}{f f':zab}(h:Aeq E f f'):okE f=okE f':=by
 have hk:=(zh7.1 h).1
 unfold okE
 rw[←hk]
 by_cases h9:f.kind=9
 ·have hp:=zkX h h9
  have hh:Aeq ((f.name,f'.name)::E) (zgA f) (zgA f'):=zdm 0 hp
  rw[zh7]at hh
  obtain⟨e1,_,e2,_⟩:=hh
  rw[←e1,←zfK e2]
  by_cases hl:(zgA f).words.length=1
  ·have:=(zfH (zfJ (i:=0) e2 (by omega))).1
   rw[show decide ((zgA f).words.getD 0 ⟨[]⟩=f.name)=decide ((zgA f').words.getD 0 ⟨[]⟩=f'.name)from decide_eq_decide.2 this]
  ·simp[hl]
 ·simp[h9]
theorem zpX {E:PE}{f f' x x':zab}(h:Aeq ((f.name,f'.name)::E) x x')(i:Nat):zl9 f i x=zl9 f' i x':=by
 rw[zh7]at h
 obtain⟨e1,e0,e2,_⟩:=h
 unfold zl9
 rw[←e1,←zfK e2]
 by_cases hk:x.kind=2
 ·rw[e0 (by rw[hk];decide)]
  by_cases hl:x.words.length=2
  ·have h0:=(zfH (zfJ (i:=0) e2 (by omega))).1
   have h1:=(zfH (zfJ (i:=1) e2 (by omega))).1
   rw[show decide (x.words.getD 0 ⟨[]⟩=f.name)=decide (x'.words.getD 0 ⟨[]⟩=f'.name)from decide_eq_decide.2 h0,
    show decide (x.words.getD 1 ⟨[]⟩=f.name)=decide (x'.words.getD 1 ⟨[]⟩=f'.name)from decide_eq_decide.2 h1]
  ·simp[hl]
 ·simp[hk]
theorem zkD {E:PE}{f f':zab}(h:zb4 ((f.name,f'.name)::E) (zb2 f) (zb2 f')):∀n,zfn f n=zfn f' n
 |0=>by rw[zfn,zfn]
 |n+1=>by rw[zfn,zfn,zkD h n,zpX (zdm (n+1) h) n]
theorem zoL {E:PE}{f f':zab}(h:zb4 ((f.name,f'.name)::E) (zb2 f) (zb2 f')){n:Nat}(hg:zfn f n=true):zb9 E (ziV f n) (ziV f' n):=by
 unfold ziV
 have:∀l:List Nat,(∀j∈l,j<n)→zb9 E (l.map fun j=>((zb2 f).getD (j+1) zmO).words.getD 1 ⟨[]⟩) (l.map fun j=>((zb2 f').getD (j+1) zmO).words.getD 1 ⟨[]⟩):=by
  intro l
  induction l with
  |nil=>intro _;rw[List.map_nil,List.map_nil,zb9];trivial
  |cons j l ih=>
   intro hl
   rw[List.map_cons,List.map_cons,zb9]
   refine⟨?_,ih fun x hx=>hl x (List.mem_cons_of_mem _ hx)⟩
   have hj:=zmV hg (hl j (by simp))
   have hx:=zdm (j+1) h
   unfold zl9 at hj
   simp only[Bool.and_eq_true,decide_eq_true_eq,Bool.not_eq_true',decide_eq_false_iff_not]at hj
   have hw:=(zh7.1 hx).2.2.1
   exact(zfH (zfJ (i:=1) hw (by omega))).2 hj.2
 exact this _ fun j hj=>List.mem_range.1 hj
theorem zmi {E:PE}{f f':zab}(h:Aeq E f f'):Aeq E (zbm f) (zbm f'):=by
 have ho:=zux h
 by_cases ht:okE f=true
 ·have hk:=(zjC ht).1
  have hp:=zkX h hk
  have hl:=ziX hp
  have hm:zcA f=zcA f':=by
   unfold zcA
   rw[ho,hl,zkD hp]
  unfold zbm
  rw[←hm,←hl]
  by_cases hmt:zcA f=true
  ·rw[if_pos hmt,if_pos hmt,Aeq,if_neg (by decide)]
   have hh:=zdm 0 hp
   have hh2:=zh7.1 hh
   refine⟨rfl,fun _=>hh2.2.1 ?_,zoL hp ?_,by rw[zb4];trivial⟩
   ·rw[show((zb2 f).getD 0 zmO).kind=2 from(zjC ht).2];decide
   ·unfold zcA at hmt
    simp only[Bool.and_eq_true]at hmt
    exact hmt.2
  ·rw[if_neg hmt,if_neg hmt];exact h
 ·have h1:¬zcA f=true:=fun hm=>ht (zeB hm)
  have h2:¬zcA f'=true:=fun hm=>ht (by rw[ho];exact zeB hm)
  unfold zbm
  rw[if_neg h1,if_neg h2];exact h
mutual
theorem zg5 {by':zab→zab}(hb:∀E f f',Aeq E f f'→Aeq E (by' f) (by' f')):∀(f f':zab) (E:PE),Aeq E f f'→Aeq E (zav by' f) (zav by' f')
 | .mk k nm ws s,.mk k' nm' ws' s',E,h=>by
  rw[Aeq]at h
  rw[zav,zav]
  refine hb _ _ _ ?_
  rw[Aeq]
  exact⟨h.1,h.2.1,h.2.2.1,zgg hb s s' _ h.2.2.2⟩
theorem zgg {by':zab→zab}(hb:∀E f f',Aeq E f f'→Aeq E (by' f) (by' f')):∀(f f':List zab) (E:PE),zb4 E f f'→zb4 E (zao by' f) (zao by' f')
 |[],[],E,_=>by rw[zao,zb4];trivial
 |f::fs,f'::fs',E,h=>by
  rw[zb4]at h
  rw[zao,zao,zb4]
  exact⟨zg5 hb f f' E h.1,zgg hb fs fs' E h.2⟩
 |[],_::_,_,h=>by rw[zb4]at h;exact h.elim
 |_::_,[],_,h=>by rw[zb4]at h;exact h.elim
end
mutual
theorem ze9 {by':zab→zab}(hb:∀f,(by' f).depth≤f.depth):∀f:zab,(zav by' f).depth≤f.depth
 | .mk k nm ws s=>by
  rw[zav]
  refine Nat.le_trans (hb _) ?_
  rw[zab.depth,zab.depth]
  have:=zeH hb s
  omega
theorem zeH {by':zab→zab}(hb:∀f,(by' f).depth≤f.depth):∀fs:List zab,zab.depths (zao by' fs)≤zab.depths fs
 |[]=>by rw[zao];exact Nat.le_refl _
 |f::fs=>by
  rw[zao,zab.depths,zab.depths]
  have h1:=ze9 hb f
  have h2:=zeH hb fs
  omega
end
theorem zpD (f:zab):1≤f.depth:=by cases f;rw[zab.depth];omega
theorem zjz (f:zab):(zbm f).depth≤f.depth:=by
 unfold zbm
 split
 ·have:=zpD f;simp only[zab.depth,zab.depths];omega
 ·exact Nat.le_refl _
mutual
theorem zk3 (g:Nat→Str×Nat):∀(f:zab) (env:List zbH) (n:Nat),(ren g f env n).1.depth=f.depth
 | .mk k nm ws s,env,n=>by
  rw[ren]
  split
  ·rw[zab.depth,zab.depth,zf2 g s]
  ·rw[zab.depth,zab.depth,zf2 g s]
theorem zf2 (g:Nat→Str×Nat):∀(fs:List zab) (env:List zbH) (n:Nat),zab.depths (zbJ g fs env n).1=zab.depths fs
 |[],env,n=>by rw[zbJ]
 |f::fs,env,n=>by rw[zbJ,zab.depths,zab.depths,zk3 g f,zf2 g fs]
end
theorem zge (f:zab)(env:List zbH):(zbX f env).depth=f.depth:=zk3 _ f env 0
theorem zlN (f:zab)(env:List zbH):zjl (zbX f env)=zjl f:=by unfold zjl;rw[zg4,zge]
def zsl (op:Bool)(f:zab):Prop:=(f.subs.length:Int)=za1 op f∧zdl f=true∧(named f=true→¬isQ f.kind→zax f.name=true)∧(named f=false→f.name=⟨[]⟩)
mutual
def shp (op:Bool):zab→Prop
 | .mk k nm w s=>zsl op (.mk k nm w s)∧zeG op s
def zeG (op:Bool):List zab→Prop
 |[]=>True
 |f::fs=>shp op f∧zeG op fs
end
theorem zsk {op:Bool}{f:zab}{d:Int}{n:Nat}(hs:zsl op f)(hn:n+1≤200)(hd:d≤40)(hw:∀w∈f.words,zax w=true)(hq:isQ f.kind→zax f.name=true):zcB op f d n=0:=by
 obtain⟨h1,h2,h3,h4⟩:=hs
 unfold zcB
 rw[if_neg (by omega),if_neg (by omega),if_neg (by rw[Decidable.not_not];exact⟨h1,h2⟩),if_neg,if_neg,if_neg]
 ·rw[show f.words.all zax=true from List.all_eq_true.2 hw];simp
 ·rintro⟨h5,h6⟩;exact h6 (h4 h5)
 ·rintro⟨h5,h6⟩
  by_cases hk:isQ f.kind
  ·rw[hq hk]at h6;cases h6
  ·rw[h3 h5 hk]at h6;cases h6
mutual
theorem zsU {op:Bool}:∀(f:zab) (d:Int) (n:Nat),shp op f→zbQ (fun w=>zax w=true) f→n+f.size≤200→d+f.depth≤41→chk op f d n=(⟨0,0⟩,n+f.size)
 | .mk k nm ws s,d,n,hs,ha,hn,hd=>by
  rw[shp]at hs
  rw[zbQ]at ha
  rw[zab.size]at hn ⊢
  rw[zab.depth]at hd
  have:=zsk (d:=d) (n:=n) hs.1 (by omega) (by omega) ha.1 ha.2.1
  rw[chk,if_neg (by simp[this]),zpu s (d+1) (n+1) hs.2 ha.2.2 (by omega) (by omega)]
  rw[show n+1+zab.sizes s=n+(zab.sizes s+1) by omega]
theorem zpu {op:Bool}:∀(fs:List zab) (d:Int) (n:Nat),zeG op fs→zaM (fun w=>zax w=true) fs→n+zab.sizes fs≤200→d+zab.depths fs≤41→zdH op fs d n=(⟨0,0⟩,n+zab.sizes fs)
 |[],d,n,_,_,_,_=>by rw[zdH,zab.sizes];rfl
 |f::fs,d,n,hs,ha,hn,hd=>by
  rw[zeG]at hs
  rw[zaM]at ha
  rw[zab.sizes]at hn ⊢
  rw[zab.depths]at hd
  rw[zdH,zsU f d n hs.1 ha.1 (by omega) (by omega),if_neg (by simp),zpu fs d _ hs.2 ha.2 (by omega) (by omega)]
  rw[Nat.add_assoc]
end
theorem zpo {op:Bool}{f:zab}(hs:shp op f)(ha:zbQ (fun w=>zax w=true) f)(hf:zjl f=true):zaP op f=⟨0,0⟩:=by
 unfold zjl at hf
 have hf:=of_decide_eq_true hf
 unfold zaP
 rw[zsU f 1 0 hs ha (by omega) (by omega)]
mutual
theorem zpt {op:Bool}:∀(f:zab) (d:Int) (n:Nat),(chk op f d n).1.code=0→shp op f∧d+f.depth≤41
 | .mk k nm w s,d,n,h=>by
  rw[chk]at h
  split at h
  ·rename_i h1;exact absurd h h1
  ·rename_i h1
   have h1:=Decidable.not_not.1 h1
   have h2:=zch h1
   have h3:=zmH s _ _ h
   have hd:d≤40:=by
    unfold zcB at h1
    split at h1
    ·simp at h1
    ·omega
   rw[shp,zab.depth]
   exact⟨⟨⟨h2.2.2.2.2,h2.2.2.2.1,fun hn _=>h2.2.1 hn,h2.2.2.1⟩,h3.1⟩,by have:=h3.2;omega⟩
theorem zmH {op:Bool}:∀(fs:List zab) (d:Int) (n:Nat),(zdH op fs d n).1.code=0→zeG op fs∧(zab.depths fs=0∨d+zab.depths fs≤41)
 |[],d,n,_=>by rw[zeG,zab.depths];exact⟨trivial,.inl rfl⟩
 |f::fs,d,n,h=>by
  rw[zdH]at h
  split at h
  ·rename_i h1;exact absurd h h1
  ·rename_i h1
   have h2:=zpt f d n (Decidable.not_not.1 h1)
   have h3:=zmH fs d _ h
   rw[zeG,zab.depths]
   exact⟨⟨h2.1,h3.1⟩,.inr (by have:=h2.2;rcases h3.2 with h|h<;>omega)⟩
end
theorem znK {op:Bool}{f:zab}(h:(zaP op f).code=0):shp op f:=(zpt f 1 0 h).1
theorem zhv {op:Bool}{k:Int}{nm nm':Str}{w w':List Str}{s s':List zab}(h:zsl op (.mk k nm w s))(hl:w'.length=w.length)(hs:s'.length=s.length)(hn:¬isQ k→nm'=nm)(_hq:isQ k→True):zsl op (.mk k nm' w' s'):=by
 obtain⟨h1,h2,h3,h4⟩:=h
 refine⟨?_,?_,fun h5 h6=>?_,fun h5=>?_⟩
 ·simp only[zby]at h1 ⊢
  rw[hs,h1];rfl
 ·have:zdl (.mk k nm' w' s')=zdl (.mk k nm w s):=by
   show(if k=2 then decide (w'.length≤3)else if k=3 then decide (w'.length=2)else decide (w'.length=0))=_
   rw[hl];rfl
  rw[this];exact h2
 ·simp only[zaR,zei]at h6 h3 ⊢
  rw[hn h6];exact h3 h5 h6
 ·have h6:=h4 h5
  simp only[zei]at h6 ⊢
  have:¬isQ k:=by
   intro hq
   have:named (.mk k nm' w' s')=true:=by
    unfold named
    refine decide_eq_true ?_
    simp only[zaR]
    rcases hq with e|e<;>omega
   rw[h5]at this;cases this
  rw[hn this];exact h6
mutual
theorem zqB {op:Bool}(g:Nat→Str×Nat):∀(f:zab) (env:List zbH) (n:Nat),shp op f→shp op (ren g f env n).1
 | .mk k nm ws s,env,n,h=>by
  rw[shp]at h
  rw[ren]
  split
  ·rename_i hq
   rw[shp]
   exact⟨zhv h.1 (List.length_map _) (zdR g _ s _) (fun h=>absurd hq h) fun _=>trivial,zjH g s _ _ h.2⟩
  ·rw[shp]
   exact⟨zhv h.1 (List.length_map _) (zdR g _ s _) (fun _=>rfl) fun _=>trivial,zjH g s _ _ h.2⟩
theorem zjH {op:Bool}(g:Nat→Str×Nat):∀(fs:List zab) (env:List zbH) (n:Nat),zeG op fs→zeG op (zbJ g fs env n).1
 |[],env,n,_=>by rw[zbJ,zeG];trivial
 |f::fs,env,n,h=>by
  rw[zeG]at h
  rw[zbJ,zeG]
  exact⟨zqB g f _ _ h.1,zjH g fs _ _ h.2⟩
end
theorem zdN {n:Nat}(h:n<10):zca n=[UInt8.ofNat (48+n)]:=by unfold zca;rw[Lib.decDigits,dif_pos h]
theorem zpF:∀(k u:Nat),u<10^(k+1)→(zca u).length≤k+1∧∀c∈zca u,48≤c.toNat∧c.toNat≤57:=by
 intro k
 induction k with
 |zero=>
  intro u h
  rw[zdN (by omega)]
  refine⟨by simp,fun c hc=>?_⟩
  rw[List.mem_singleton.1 hc,UInt8.toNat_ofNat',Nat.mod_eq_of_lt (by omega)];omega
 |succ k ih=>
  intro u h
  rcases Nat.lt_or_ge u 10 with h1|h1
  ·rw[zdN h1]
   refine⟨by simp,fun c hc=>?_⟩
   rw[List.mem_singleton.1 hc,UInt8.toNat_ofNat',Nat.mod_eq_of_lt (by omega)];omega
  ·have h2:=ih (u / 10) (by rw[Nat.pow_succ]at h;omega)
   have e:zca u=zca (u / 10)++[UInt8.ofNat (48+u % 10)]:=by
    unfold zca
    rw[Lib.decDigits,dif_neg (by omega)]
   rw[e,List.length_append,List.length_singleton]
   refine⟨by omega,fun c hc=>?_⟩
   rcases List.mem_append.1 hc with hc|hc
   ·exact h2.2 c hc
   ·rw[List.mem_singleton.1 hc,UInt8.toNat_ofNat',Nat.mod_eq_of_lt (by omega)];omega
theorem zq6 {j:Nat}(h:j<10^20):zax (zhT j)=true:=by
 have h1:=zpF 19 j h
 refine zhs ?_ ?_ ?_ fun i hi=>?_
 ·simp[zhT]
 ·simp only[zhT,List.length_cons];omega
 ·simp[zhT,zgC]
 ·simp only[zhT,List.length_cons]at hi ⊢
  cases i with
  |zero=>show okc (118:UInt8);decide
  |succ i=>
   rw[List.getD_cons_succ]
   have hm:(zca j).getD i 0∈zca j:=by
    rw[List.getD_eq_getElem?_getD,List.getElem?_eq_getElem (by omega)]
    exact List.getElem_mem _
   have:=h1.2 _ hm
   exact .inr (.inl ⟨by omega,by omega⟩)
mutual
theorem zk4 {used:List Str}{B:Nat}{p:Str→Prop}(hv:∀j,j<B→p (zhT j)):∀(f:zab) (env:List zbH) (bd:List Str) (n:Nat),n+(used.length+1)*f.size≤B→(∀w∈bd,p (lkp env w))→(∀w,w∉bd→lkp env w=w)→(∀x∈cst f bd,p x)→zbQ p (ren (vg used) f env n).1
 | .mk k nm ws s,env,bd,n,hn,h1,h2,hc=>by
  rw[zab.size,Nat.mul_add,Nat.mul_one]at hn
  rw[cst]at hc
  have hw:∀w∈ws.map (lkp env),p w:=fun w hw=>by
   obtain⟨x,hx,rfl⟩:=List.mem_map.1 hw
   by_cases hb:x∈bd
   ·exact h1 x hb
   ·rw[h2 x hb]
    exact hc x (List.mem_append_left _ (List.mem_filter.2 ⟨hx,by simpa using hb⟩))
  have hg:=zeC used n
  rw[ren]
  by_cases hq:isQ k
  ·rw[if_pos hq]at hc
   have hvn:p (zhT (zd0 used n)):=hv _ (by omega)
   rw[if_pos hq,zbQ]
   refine⟨hw,fun _=>hvn,zf3 hv s _ (bd++[nm]) _ ?_ (fun w hw2=>?_) (fun w hw2=>?_) fun x hx=>hc x (List.mem_append_right _ hx)⟩
   ·show zd0 used n+1+_≤B
    omega
   ·rw[zeA]
    by_cases e:nm=w
    ·rw[if_pos e];exact hvn
    ·rw[if_neg e]
     rcases List.mem_append.1 hw2 with h|h
     ·exact h1 w h
     ·exact absurd (List.mem_singleton.1 h).symm e
   ·rw[zeA,if_neg (fun e=>hw2 (List.mem_append_right _ (List.mem_singleton.2 e.symm)))]
    exact h2 w fun h=>hw2 (List.mem_append_left _ h)
  ·rw[if_neg hq]at hc
   rw[if_neg hq,zbQ]
   exact⟨hw,fun h=>absurd h hq,zf3 hv s _ bd _ (by omega) h1 h2 fun x hx=>hc x (List.mem_append_right _ hx)⟩
theorem zf3 {used:List Str}{B:Nat}{p:Str→Prop}(hv:∀j,j<B→p (zhT j)):∀(fs:List zab) (env:List zbH) (bd:List Str) (n:Nat),n+(used.length+1)*zab.sizes fs≤B→(∀w∈bd,p (lkp env w))→(∀w,w∉bd→lkp env w=w)→(∀x∈zb3 fs bd,p x)→zaM p (zbJ (vg used) fs env n).1
 |[],env,bd,n,_,_,_,_=>by rw[zbJ,zaM];trivial
 |f::fs,env,bd,n,hn,h1,h2,hc=>by
  rw[zab.sizes,Nat.mul_add]at hn
  rw[zb3]at hc
  rw[zbJ,zaM]
  have:=((zqA (zuR used)).1 f env n).2
  exact⟨zk4 hv f env bd n (by omega) h1 h2 fun x hx=>hc x (List.mem_append_left _ hx),zf3 hv fs env bd _ (by omega) h1 h2 fun x hx=>hc x (List.mem_append_right _ hx)⟩
end
mutual
theorem zja:∀(f:zab) (bd:List Str),f.fit=true→(cst f bd).length≤1000*f.size
 | .mk k nm ws s,bd,h=>by
  rw[zab.fit]at h
  simp only[Bool.and_eq_true,decide_eq_true_eq]at h
  rw[cst,List.length_append,zab.size]
  have h1:=List.length_filter_le (fun w=>decide (w∉bd)) ws
  have h2:=zmN s (if isQ k then bd++[nm]else bd) h.2
  omega
theorem zmN:∀(fs:List zab) (bd:List Str),zab.fits fs=true→(zb3 fs bd).length≤1000*zab.sizes fs
 |[],bd,_=>by rw[zb3];simp
 |f::fs,bd,h=>by
  rw[zab.fits,Bool.and_eq_true]at h
  rw[zb3,List.length_append,zab.sizes]
  have h1:=zja f bd h.1
  have h2:=zmN fs bd h.2
  omega
end
theorem zlO {f:zab}(hf:f.fit=true)(hs:f.size≤200)(hc:∀x∈cst f [],zax x=true):zbQ (fun w=>zax w=true) (zbX f []):=by
 have h1:=zja f [] hf
 have h2:=zq3 f
 refine zk4 (B:=10^20) (fun j hj=>zq6 hj) f [] [] 0 ?_ (by simp) (fun w _=>zjy w) hc
 show 0+((zcw f).length+1)*f.size≤10^20
 have h3:((zcw f).length+1)*f.size≤200001*200:=Nat.mul_le_mul (by omega) hs
 omega
theorem zrv {op:Bool}{f:zab}(hs:shp op f)(hf:f.fit=true)(hl:zjl f=true)(hc:∀x∈cst f [],zax x=true):zaP op (zbX f [])=⟨0,0⟩:=by
 have h1:=of_decide_eq_true (show decide (f.size≤200∧f.depth≤40)=true from hl)
 exact zpo (zqB _ f [] 0 hs) (zlO hf h1.1 hc) (by rw[zlN];exact hl)
mutual
def zjA:zab→Bool
 | .mk k nm ws s=>okE (.mk k nm ws s)||zgN s
def zgN:List zab→Bool
 |[]=>false
 |f::fs=>zjA f||zgN fs
end
theorem ziB:∀(l:List zab) (f:zab),(∀g∈l,g.kind≠5)→zfp (l.foldl (fun a x=>zab.mk 5 ⟨[]⟩ [] [a,x]) f)=zfp f++l
 |[],f,_=>by simp
 |x::l,f,h=>by
  rw[List.foldl_cons,ziB l _ fun g hg=>h g (List.mem_cons_of_mem _ hg),zqc (a:=f) (b:=x) rfl rfl]
  simp
theorem zg7 {by':zab→zab}(hb:∀f,f.kind≠9→by' f=f):∀(l:List zab) (f:zab),(∀g∈l,zav by' g=g)→zav by' f=f→zav by' (l.foldl (fun a x=>zab.mk 5 ⟨[]⟩ [] [a,x]) f)=l.foldl (fun a x=>zab.mk 5 ⟨[]⟩ [] [a,x]) f
 |[],f,_,h=>h
 |x::l,f,h,hf=>by
  rw[List.foldl_cons]
  refine zg7 hb l _ (fun g hg=>h g (List.mem_cons_of_mem _ hg)) ?_
  rw[zav,zao,zao,zao,hf,h x (by simp),hb (.mk 5 ⟨[]⟩ [] [f,x]) (show(5:Int)≠9 by decide)]
theorem zfs {f:zab}(h:f.kind≠9):zbm f=f:=by
 unfold zbm
 rw[if_neg]
 intro hm
 exact h (zjC (zeB hm)).1
theorem zow {α:Type}(l:List α)(d:α):(List.range l.length).map (fun i=>l.getD i d)=l:=by
 refine List.ext_getElem (by simp) fun i h1 h2=>?_
 simp only[List.getElem_map,List.getElem_range]
 rw[List.getD_eq_getElem?_getD,List.getElem?_eq_getElem h2];rfl
theorem zmj {v nm:Str}{ws:List Str}(h1:0<ws.length)(h3:ws.length≤3)(hv:∀w∈ws,w≠v):zav zbm (zcI v nm ws)= .mk 2 nm ws []:=by
 obtain⟨l,hl⟩:∃l,((List.range ws.length).map fun i=>zab.mk 2 (zph i) [v,ws.getD i ⟨[]⟩] [])=l:=⟨_,rfl⟩
 have hll:l.length=ws.length:=by rw[←hl];simp
 have hat:∀i,i<ws.length→l.getD i zmO= .mk 2 (zph i) [v,ws.getD i ⟨[]⟩] []:=fun i hi=>by
  rw[←hl,List.getD_eq_getElem?_getD,List.getElem?_map,List.getElem?_range hi];rfl
 have hmem:∀g∈l,g.kind=2∧g.subs=[]:=fun g hg=>by
  rw[←hl]at hg
  obtain⟨i,_,rfl⟩:=List.mem_map.1 hg
  exact⟨rfl,rfl⟩
 have hid:∀g:zab,g.kind=2→g.subs=[]→zav zbm g=g:=fun g hk hs=>by
  rw[znJ,hs,List.map_nil,zfs (by simp only[zaR];omega)]
  cases g;simp only[zby]at hs;subst hs;rfl
 unfold zcI
 rw[hl]
 have hj:zav zbm (zdQ 5 (.mk 2 nm [v] []::l))=zdQ 5 (.mk 2 nm [v] []::l):=
  zg7 (fun f h=>zfs h) l _ (fun g hg=>hid g (hmem g hg).1 (hmem g hg).2) (hid _ rfl rfl)
 rw[zav,zao,zao,hj]
 have hp:zb2 (.mk 9 v [] [zdQ 5 (.mk 2 nm [v] []::l)])= .mk 2 nm [v] []::l:=by
  unfold zb2
  show zfp (zdQ 5 (.mk 2 nm [v] []::l))=_
  have:=ziB l (.mk 2 nm [v] []) fun g hg=>by rw[(hmem g hg).1];decide
  rw[zqd (f:= .mk 2 nm [v] []) (fun h=>absurd h.1 (show¬(2:Int)=5 by decide))]at this
  exact this
 have hh:zgA (.mk 9 v [] [zdQ 5 (.mk 2 nm [v] []::l)])= .mk 2 nm [v] []:=by unfold zgA;rw[hp];rfl
 have hok:okE (.mk 9 v [] [zdQ 5 (.mk 2 nm [v] []::l)])=true:=by
  unfold okE;rw[hh];simp[zaR,ziy,zei]
 have hgd:∀n,n≤ws.length→zfn (.mk 9 v [] [zdQ 5 (.mk 2 nm [v] []::l)]) n=true:=by
  intro n
  induction n with
  |zero=>intro _;rw[zfn]
  |succ n ih=>
   intro hn
   rw[zfn,ih (by omega),hp,List.getD_cons_succ,hat n (by omega)]
   have:=hv _ (zjq (ws:=ws) (i:=n) (by omega))
   simp only[zl9,zaR,ziy,zei,List.getD_cons_zero,List.getD_cons_succ,List.length_cons,List.length_nil,decide_eq_false this]
   simp
 have hwn:ziV (.mk 9 v [] [zdQ 5 (.mk 2 nm [v] []::l)]) ws.length=ws:=by
  unfold ziV
  rw[hp]
  conv=>rhs;rw[←zow ws ⟨[]⟩]
  refine List.map_congr_left fun j hj=>?_
  rw[List.getD_cons_succ,hat j (List.mem_range.1 hj)]
  rfl
 unfold zbm
 have hm:zcA (.mk 9 v [] [zdQ 5 (.mk 2 nm [v] []::l)])=true:=by
  unfold zcA
  rw[hok,hp,List.length_cons,hll]
  simp only[Nat.add_sub_cancel,hgd ws.length (Nat.le_refl _)]
  simp only[Bool.true_and,Bool.and_true,Bool.and_eq_true,decide_eq_true_eq]
  omega
 rw[if_pos hm,hh,hp,List.length_cons,hll,Nat.add_sub_cancel,hwn]
 rfl
mutual
theorem zhK {v:Str}{ps:List Str}:∀f:zab,shp false f→zbQ (fun w=>w≠v) f→zjA f=false→zav zbm (zav (zaZ v ps) f)=f
 | .mk k nm ws s,hs,ha,hm=>by
  rw[shp]at hs
  rw[zbQ]at ha
  rw[zjA,Bool.or_eq_false_iff]at hm
  rw[zav,zci]
  split
  ·rename_i hc
   obtain⟨rfl,h0,_⟩:=hc
   have h3:ws.length≤3:=by
    have:=hs.1.2.1
    rw[show zdl (.mk 2 nm ws s)=decide (ws.length≤3)from rfl]at this
    exact of_decide_eq_true this
   have h4:s=[]:=by
    have:=hs.1.1
    rw[show za1 false (.mk 2 nm ws s)=0 from rfl]at this
    simp only[zby]at this
    exact List.eq_nil_of_length_eq_zero (by omega)
   subst h4
   exact zmj h0 h3 ha.1
  ·rw[zav,zgq s hs.2 ha.2.2 hm.2]
   unfold zbm
   rw[if_neg]
   intro h
   rw[zeB h]at hm
   exact absurd hm.1 (by decide)
theorem zgq {v:Str}{ps:List Str}:∀fs:List zab,zeG false fs→zaM (fun w=>w≠v) fs→zgN fs=false→zao zbm (zao (zaZ v ps) fs)=fs
 |[],_,_,_=>by rw[zao,zao]
 |f::fs,hs,ha,hm=>by
  rw[zeG]at hs
  rw[zaM]at ha
  rw[zgN,Bool.or_eq_false_iff]at hm
  rw[zao,zao,zhK f hs.1 ha.1 hm.1,zgq fs hs.2 ha.2 hm.2]
end
theorem zm1 {op:Bool}:∀(l:List zab) (f:zab),zeG op l→shp op f→shp op (l.foldl (fun a x=>zab.mk 5 ⟨[]⟩ [] [a,x]) f)
 |[],f,_,h=>h
 |x::l,f,hl,h=>by
  rw[zeG]at hl
  rw[List.foldl_cons]
  refine zm1 l _ hl.2 ?_
  rw[shp,zeG,zeG,zeG]
  refine⟨⟨rfl,rfl,fun h2=>absurd (show false=true from h2) (by decide),fun _=>rfl⟩,h,hl.1,trivial⟩
theorem znh {op:Bool}:∀l:List zab,zeG op l↔∀f∈l,shp op f
 |[]=>by rw[zeG];simp
 |f::l=>by rw[zeG,znh l];simp
theorem zpi {i:Nat}(h:i<3):zax (zph i)=true:=by
 have:i=0∨i=1∨i=2:=by omega
 unfold zph
 rw[zdN (by omega)]
 rcases this with rfl|rfl|rfl<;>decide
theorem zoF {v nm:Str}{ws:List Str}(hn:zax nm=true)(h3:ws.length≤3):shp false (zcI v nm ws):=by
 unfold zcI
 rw[shp,zeG,zeG]
 refine⟨⟨rfl,rfl,fun _ h=>absurd (.inr rfl) h,fun h=>?_⟩,zm1 _ _ ((znh _).2 fun g hg=>?_) ?_,trivial⟩
 ·exact absurd h (by simp[named,zaR])
 ·obtain⟨i,hi,rfl⟩:=List.mem_map.1 hg
  have hi:=List.mem_range.1 hi
  rw[shp,zeG]
  refine⟨⟨rfl,rfl,fun _ _=>zpi (by omega),fun h=>?_⟩,trivial⟩
  exact absurd h (by simp[named,zaR])
 ·rw[shp,zeG]
  refine⟨⟨rfl,rfl,fun _ _=>hn,fun h=>?_⟩,trivial⟩
  exact absurd h (by simp[named,zaR])
mutual
theorem zlf {v:Str}{ps:List Str}:∀f:zab,shp false f→shp false (zav (zaZ v ps) f)
 | .mk k nm ws s,h=>by
  rw[shp]at h
  rw[zav,zci]
  split
  ·rename_i hc
   obtain⟨rfl,h0,_⟩:=hc
   have h3:ws.length≤3:=by
    have:=h.1.2.1
    rw[show zdl (.mk 2 nm ws s)=decide (ws.length≤3)from rfl]at this
    exact of_decide_eq_true this
   exact zoF (h.1.2.2.1 rfl (by simp[isQ,zaR])) h3
  ·rw[shp]
   exact⟨zhv h.1 rfl (by rw[zbc,List.length_map]) (fun _=>rfl) fun _=>trivial,ziP s h.2⟩
theorem ziP {v:Str}{ps:List Str}:∀fs:List zab,zeG false fs→zeG false (zao (zaZ v ps) fs)
 |[],_=>by rw[zao,zeG];trivial
 |f::fs,h=>by
  rw[zeG]at h
  rw[zao,zeG]
  exact⟨zlf f h.1,ziP fs h.2⟩
end
mutual
theorem zhL (ps:List Str):∀f:zab,zbQ (fun w=>zax w=true) f→zbQ (fun w=>zax w=true∨w=qM) (zav (zaZ qM ps) f)
 | .mk k nm ws s,h=>by
  rw[zbQ]at h
  rw[zav,zci]
  split
  ·unfold zcI
   rw[zbQ,zaM,zaM]
   refine⟨by simp,fun _=> .inr rfl,ziz _ 5 (by decide) ((zg0 _ _).2 fun g hg=>?_),trivial⟩
   rcases List.mem_cons.1 hg with rfl|hg
   ·rw[zbQ,zaM]
    exact⟨fun w hw=> .inr (List.mem_singleton.1 hw),fun e=>absurd e (by decide),trivial⟩
   ·obtain⟨i,hi,rfl⟩:=List.mem_map.1 hg
    rw[zbQ,zaM]
    refine⟨fun w hw=>?_,fun e=>absurd e (by decide),trivial⟩
    simp only[List.mem_cons,List.not_mem_nil,or_false]at hw
    rcases hw with rfl|rfl
    ·exact .inr rfl
    ·exact .inl (h.1 _ (zjq (List.mem_range.1 hi)))
  ·rw[zbQ]
   exact⟨fun w hw=> .inl (h.1 w hw),fun hq=> .inl (h.2.1 hq),zgr ps s h.2.2⟩
theorem zgr (ps:List Str):∀fs:List zab,zaM (fun w=>zax w=true) fs→zaM (fun w=>zax w=true∨w=qM) (zao (zaZ qM ps) fs)
 |[],_=>by rw[zao,zaM];trivial
 |f::fs,h=>by
  rw[zaM]at h
  rw[zao,zaM]
  exact⟨zhL ps f h.1,zgr ps fs h.2⟩
end
theorem zDf {f:zab}{ps:List Str}(h:(zaP false f).code=0)(hf:zjl (zav (zaZ qM ps) f)=true)(hm:zjA f=false):
  zaP false (zbX (zav (zaZ qM ps) f) [])=⟨0,0⟩∧zjl (zav zbm (zbX (zav (zaZ qM ps) f) []))=true∧zbX (zav zbm (zbX (zav (zaZ qM ps) f) [])) []=zbX f []:=by
 have hn:=zlQ h
 have hs:=znK h
 refine⟨zrv (zlf f hs) (zg6 (fun f h=>zmo h) f (zew h)) hf fun x hx=>?_,?_,?_⟩
 ·rcases zmL _ _ x (zhL ps f hn) hx with h1|h1
  ·exact h1
  ·exact absurd h1 (ziN ps f [] x hn hx)
 ·have h1:=of_decide_eq_true (show decide ((zav (zaZ qM ps) f).size≤200∧(zav (zaZ qM ps) f).depth≤40)=true from hf)
  have h2:=zgf (c:=0) (fun f=>zkT f) (zbX (zav (zaZ qM ps) f) [])
  have h3:=ze9 (fun f=>zjz f) (zbX (zav (zaZ qM ps) f) [])
  rw[zg4]at h2
  rw[zge]at h3
  unfold zjl
  exact decide_eq_true ⟨by omega,by omega⟩
 ·have h1:=zg5 (fun E f f' h=>zmi h) _ _ [] (zpm (zav (zaZ qM ps) f))
  rw[zhK f hs (zj2 (fun w hw e=>by rw[e]at hw;exact absurd hw (by decide)) f hn) hm]at h1
  exact(zpc h1).symm
end Go.Abs
namespace Go.Abs
open Go
theorem zzx {l:List Bool}{i:Nat}(h:i<l.length):l.getD i false=l[i]:=by
 rw[List.getD_eq_getElem?_getD,List.getElem?_eq_getElem h];rfl
structure zrd (s:zal)(used:List Bool)(l:List Nat):Prop where
 len:used.length=nP s
 nod:l.Nodup
 lt:∀x∈l,x<nP s
 mem:∀i,i<nP s→(used.getD i false=true↔i∈l)
section
variable {s:zal} {used:List Bool} {l:List Nat}
theorem zp6:zrd s (List.replicate (nP s) false) [] where
 len:=List.length_replicate ..
 nod:=List.nodup_nil
 lt:=fun x hx=>by cases hx
 mem:=fun i hi=>by
  rw[List.getD_eq_getElem?_getD,List.getElem?_replicate]
  simp[hi]
theorem zrd.step (h:zrd s used l){i:Nat}(hi:i<nP s)(hu:used.getD i false=false):zrd s (used.set i true) (l++[i]) where
 len:=by rw[List.length_set];exact h.len
 nod:=by
  rw[List.nodup_append]
  refine⟨h.nod,by simp,fun a ha b hb=>?_⟩
  rw[List.mem_singleton]at hb
  subst hb
  rintro rfl
  have:=(h.mem a hi).2 ha
  rw[hu]at this;cases this
 lt:=fun x hx=>by
  rcases List.mem_append.1 hx with hx|hx
  ·exact h.lt x hx
  ·rw[List.mem_singleton]at hx;rw[hx];exact hi
 mem:=fun j hj=>by
  by_cases e:i=j
  ·subst e
   have:=zc2 (l:=used) (i:=i) (by rw[h.len];exact hi)
   exact⟨fun _=>by simp,fun _=>this⟩
  ·rw[zlL e,h.mem j hj,List.mem_append,List.mem_singleton]
   exact⟨fun g=> .inl g,fun g=>g.resolve_right fun g2=>e g2.symm⟩
theorem zrd.ok (hs:zhx s)(h:zrd s used l)(hl:l.length=(zaU s.pieces).length)(hn:(zaU s.pieces).length+1=nP s):okL s l:=⟨hs.hol,h.nod,hl,by rw[hl];exact hn,h.lt⟩
theorem zrd.top (h:zrd s used l)(hk:okL s l):false∈used∧used.idxOf false=zdT (nP s) l:=by
 obtain⟨t1,t2,t3⟩:=hk.t
 have hin:false∈used:=by
  cases hg:used.getD (zdT s.pieces.length l) false with
  |true=>exact absurd ((h.mem _ t1).1 hg) t2
  |false=>
   have hlt:zdT s.pieces.length l<used.length:=by rw[h.len];exact t1
   rw[zzx hlt]at hg
   rw[←hg];exact List.getElem_mem hlt
 refine⟨hin,?_⟩
 have hlt:=List.idxOf_lt_length_of_mem hin
 refine t3 _ (by rw[h.len]at hlt;exact hlt) fun hm=>?_
 have hlt2:used.idxOf false<nP s:=by rw[h.len]at hlt;exact hlt
 have h4:=(h.mem _ hlt2).2 hm
 rw[zzx hlt,List.getElem_idxOf]at h4
 cases h4
theorem zl6 {β:Type}{f:Nat→List β}{b:Nat}(h:∀i,(f i).length≤b):∀n,((List.range n).flatMap f).length≤n*b
 |0=>by simp
 |n+1=>by
  have h1:=zl6 h n
  have h2:=h n
  rw[List.range_succ,List.flatMap_append,List.length_append,Nat.add_mul,Nat.one_mul]
  have h3:([n].flatMap f).length=(f n).length:=by simp
  omega
theorem zhU:∀(r:Nat) (used:List Bool) (l:List Nat),(zdV s r used l).length≤nP s^r
 |0,used,l=>by
  rw[zdV];split<;>simp
 |r+1,used,l=>by
  rw[zdV,Nat.pow_succ,Nat.mul_comm]
  refine zl6 (fun i=>?_) _
  split
  ·simp
  ·exact zhU r _ _
theorem zqq (hs:zhx s)(h:okL s l):onP (zbV s l) s:=⟨by rw[show(zbV s l).pieces=zay l from rfl,zcr];exact h,by rw[show(zbV s l).pieces=zay l from rfl,zcr],hs⟩
theorem zc4:zaz (zbV s l).pieces=l:=zcr l
theorem ziT (h:okL s l)(ht:zcO s l=true):zeh (zbV s l) s (zbE s (zdT (nP s) l))=zdG s l:=by
 unfold zeh zdG
 rw[zc4]
 exact(zna h ht h.t.1).symm
theorem zeZ (hs:zhx s)(h:okL s l)(ht:zcO s l=true):(zdG s l).size≤200:=Nat.le_trans (zml h ht h.t.1) hs.nod
theorem zgM {k:Nat}{l:List Nat}:((k:Nat):Int)∈zay l↔k∈l:=by
  unfold zay
  rw[List.mem_map]
  exact⟨fun⟨a,h1,h2⟩=>by have:a=k:=by omega
                         rw[←this];exact h1,fun h=>⟨k,h,rfl⟩⟩
theorem zsn (hs:zhx s)(h:okL s l){o:zlw}(ho:o∈s.overs):decide (((zek s o.label:Nat):Int)∈zbN (zbV s l) s ((inP s l o.hole:Nat):Int))=zfY s l o:=by
 obtain⟨h1,h2⟩:=hs.ovs o ho
 have hb:zek s o.label<nP s:=by
  have:=List.idxOf_lt_length_of_mem h2
  unfold zan at this
  rw[List.length_map]at this
  exact this
 have h3:=zie h (a:=inP s l o.hole) (b:=zek s o.label) (zmd h h1) hb
 unfold zfY zbN
 rw[zc4,Int.toNat_natCast]
 rw[Bool.eq_iff_iff,decide_eq_true_eq,zgM]
 exact h3
end
section
variable {s:zal} {l:List Nat}
theorem zpT (hs:zhx s)(i:Nat):(zbE s i).fit=true:=by
 unfold zbE
 cases h:s.pieces[i]? with
 |none=>rfl
 |some p=>exact zew (hs.chk p (List.mem_of_getElem? h))
theorem zfZ (hs:zhx s):∀(f i:Nat),(zcH s l f i).fit=true
 |0,i=>rfl
 |f+1,i=>by
  rw[zcH]
  exact ziQ _ _ (zpT hs i) fun h _=>zfZ hs f _
theorem zq9 (hs:zhx s)(h:okL s l)(ht:zcO s l=true):(cst (zdG s l) []).length≤1000000:=by
 have h1:=zja (zdG s l) [] (zfZ hs _ _)
 have h2:=zeZ hs h ht
 have h3:1000*(zdG s l).size≤1000*200:=Nat.mul_le_mul_left _ h2
 omega
end
end Go.Abs
