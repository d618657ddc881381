/- several texts of this proof in one; no conditions -/
import Derived.Test.YtmconmiemdinkaaGreatDoorY15
import Derived.Test.YtmconmiemdinkaaGreatDoorY17
set_option linter.unusedSimpArgs false
namespace Go.Abs
open Go
mutual
def zbu (p:Str→Prop):zab→Prop
 | .mk k nm ws s=>(∀w∈ws,p w)∧(isQ k→p nm)∧zaL p s
def zaL (p:Str→Prop):List zab→Prop
 |[]=>True
 |f::fs=>zbu p f∧zaL p fs
end
mutual
def zfR (σ:Str→Str):zab→zab
 | .mk k nm ws s=> .mk k (if isQ k then σ nm else nm) (ws.map σ) (zb1 σ s)
def zb1 (σ:Str→Str):List zab→List zab
 |[]=>[]
 |f::fs=>zfR σ f::zb1 σ fs
end
theorem zl4 (σ:Str→Str):∀l:List zab,zb1 σ l=l.map (zfR σ)
 |[]=>by rw[zb1];rfl
 |f::l=>by rw[zb1,zl4 σ l];rfl
theorem zfz (p:Str→Prop):∀l:List zab,zaL p l↔∀f∈l,zbu p f
 |[]=>by rw[zaL];simp
 |f::l=>by rw[zaL,zfz p l];simp
mutual
theorem zk9 {p q:Str→Prop}(h:∀w,p w→q w):∀f:zab,zbu p f→zbu q f
 | .mk k nm ws s,hf=>by
  rw[zbu]at hf ⊢
  exact⟨fun w hw=>h w (hf.1 w hw),fun hk=>h nm (hf.2.1 hk),ziY h s hf.2.2⟩
theorem ziY {p q:Str→Prop}(h:∀w,p w→q w):∀fs:List zab,zaL p fs→zaL q fs
 |[],_=>by rw[zaL];trivial
 |f::fs,hf=>by rw[zaL]at hf ⊢;exact⟨zk9 h f hf.1,ziY h fs hf.2⟩
end
mutual
theorem ziX {p:Str→Prop}(h:∀w,p w→¬zmY w):∀f:zab,zbu p f→zMv f
 | .mk k nm ws s,hf=>by rw[zbu]at hf;rw[zMv];exact⟨fun w hw=>h w (hf.1 w hw),zhv h s hf.2.2⟩
theorem zhv {p:Str→Prop}(h:∀w,p w→¬zmY w):∀fs:List zab,zaL p fs→zcP fs
 |[],_=>by rw[zcP];trivial
 |f::fs,hf=>by rw[zaL]at hf;rw[zcP];exact⟨ziX h f hf.1,zhv h fs hf.2⟩
end
mutual
theorem zsJ (σ:Str→Str):∀f:zab,(zfR σ f).size=f.size
 | .mk k nm ws s=>by rw[zfR,zab.size,zab.size,zh6 σ s]
theorem zh6 (σ:Str→Str):∀fs:List zab,zab.sizes (zb1 σ fs)=zab.sizes fs
 |[]=>by rw[zb1]
 |f::fs=>by rw[zb1,zab.sizes,zab.sizes,zsJ σ f,zh6 σ fs]
end
mutual
theorem zqr (σ:Str→Str):∀f:zab,(zfR σ f).depth=f.depth
 | .mk k nm ws s=>by rw[zfR,zab.depth,zab.depth,zgN σ s]
theorem zgN (σ:Str→Str):∀fs:List zab,zab.depths (zb1 σ fs)=zab.depths fs
 |[]=>by rw[zb1]
 |f::fs=>by rw[zb1,zab.depths,zab.depths,zqr σ f,zgN σ fs]
end
theorem zsK (σ:Str→Str)(l:List zab):(zb1 σ l).length=l.length:=by rw[zl4,List.length_map]
mutual
theorem zvb (σ:Str→Str):∀f:zab,(zfR σ f).fit=f.fit
 | .mk k nm ws s=>by rw[zfR,zab.fit,zab.fit,zjg σ s,List.length_map,zsK]
theorem zjg (σ:Str→Str):∀fs:List zab,zab.fits (zb1 σ fs)=zab.fits fs
 |[]=>by rw[zb1]
 |f::fs=>by rw[zb1,zab.fits,zab.fits,zvb σ f,zjg σ fs]
end
theorem foldl_map (σ:Str→Str)(k:Int)(hk:¬isQ k):∀(l:List zab) (f:zab),zfR σ (l.foldl (fun a x=>zab.mk k ⟨[]⟩ [] [a,x]) f)=(l.map (zfR σ)).foldl (fun a x=>zab.mk k ⟨[]⟩ [] [a,x]) (zfR σ f)
 |[],f=>rfl
 |x::l,f=>by
  rw[List.foldl_cons,foldl_map σ k hk l,List.map_cons,List.foldl_cons]
  simp only[zfR,zb1,if_neg hk,List.map_nil]
theorem zsx (σ:Str→Str)(k:Int)(hk:¬isQ k)(l:List zab):zfR σ (zdY k l)=zdY k (l.map (zfR σ)):=by
 cases l with
 |nil=>simp[zdY,zfR,zb1,isQ]
 |cons f l=>exact foldl_map σ k hk l f
theorem zjb (p:Str→Prop)(k:Int)(hk:¬isQ k):∀(l:List zab) (f:zab),zbu p f→zaL p l→zbu p (l.foldl (fun a x=>zab.mk k ⟨[]⟩ [] [a,x]) f)
 |[],f,h,_=>h
 |x::l,f,h,hl=>by
  rw[List.foldl_cons]
  rw[zaL]at hl
  refine zjb p k hk l _ ?_ hl.2
  simp only[zbu,zaL]
  exact⟨by simp,fun h=>absurd h hk,h,hl.1,trivial⟩
theorem zjd (p:Str→Prop)(k:Int)(hk:¬isQ k){l:List zab}(h:zaL p l):zbu p (zdY k l):=by
 cases l with
 |nil=>simp[zdY,zbu,zaL,isQ]
 |cons f l=>rw[zaL]at h;exact zjb p k hk l f h.1 h.2
mutual
theorem zlm:∀(f:zab) (bd:List Str) (x:Str),x∈cst f bd→x∉bd
 | .mk k nm ws s,bd,x,h=>by
  rw[cst,List.mem_append]at h
  rcases h with h|h
  ·simpa using(List.mem_filter.1 h).2
  ·have:=zgf s _ x h
   split at this
   ·exact fun hb=>this (List.mem_append_left _ hb)
   ·exact this
theorem zgf:∀(fs:List zab) (bd:List Str) (x:Str),x∈zbR fs bd→x∉bd
 |[],bd,x,h=>by rw[zbR]at h;simp at h
 |f::fs,bd,x,h=>by
  rw[zbR,List.mem_append]at h
  rcases h with h|h
  ·exact zlm f bd x h
  ·exact zgf fs bd x h
end
mutual
theorem zhe {p:Str→Prop}:∀(f:zab) (bd:List Str) (x:Str),zbu p f→x∈cst f bd→p x
 | .mk k nm ws s,bd,x,hf,h=>by
  rw[zbu]at hf
  rw[cst,List.mem_append]at h
  rcases h with h|h
  ·exact hf.1 x (List.mem_filter.1 h).1
  ·exact zlp s _ x hf.2.2 h
theorem zlp {p:Str→Prop}:∀(fs:List zab) (bd:List Str) (x:Str),zaL p fs→x∈zbR fs bd→p x
 |[],bd,x,_,h=>by rw[zbR]at h;simp at h
 |f::fs,bd,x,hf,h=>by
  rw[zaL]at hf
  rw[zbR,List.mem_append]at h
  rcases h with h|h
  ·exact zhe f bd x hf.1 h
  ·exact zlp fs bd x hf.2 h
end
mutual
theorem zw5 {σ:Str→Str}{p:Str→Prop}(hi:∀a b,p a→p b→σ a=σ b→a=b):∀(f:zab) (bd:List Str),zbu p f→(∀b∈bd,p b)→cst (zfR σ f) (bd.map σ)=(cst f bd).map σ
 | .mk k nm ws s,bd,hf,hb=>by
  rw[zbu]at hf
  rw[zfR,cst,cst,List.map_append]
  congr 1
  ·rw[List.filter_map]
   congr 1
   refine List.filter_congr fun w hw=>?_
   simp only[Function.comp]
   rw[decide_eq_decide]
   constructor
   ·intro h hw2;exact h (List.mem_map_of_mem hw2)
   ·intro h hw2
    obtain⟨b,hb2,e⟩:=List.mem_map.1 hw2
    exact h (hi b w (hb b hb2) (hf.1 w hw) e▸hb2)
  ·by_cases hq:isQ k
   ·rw[if_pos hq,if_pos hq,if_pos hq]
    have:=zjV hi s (bd++[nm]) hf.2.2 fun b hb2=>by
     rcases List.mem_append.1 hb2 with h|h
     ·exact hb b h
     ·rw[List.mem_singleton.1 h];exact hf.2.1 hq
    rw[List.map_append]at this
    exact this
   ·rw[if_neg hq,if_neg hq]
    exact zjV hi s bd hf.2.2 hb
theorem zjV {σ:Str→Str}{p:Str→Prop}(hi:∀a b,p a→p b→σ a=σ b→a=b):∀(fs:List zab) (bd:List Str),zaL p fs→(∀b∈bd,p b)→zbR (zb1 σ fs) (bd.map σ)=(zbR fs bd).map σ
 |[],bd,_,_=>by rw[zb1,zbR,zbR];rfl
 |f::fs,bd,hf,hb=>by
  rw[zaL]at hf
  rw[zb1,zbR,zbR,List.map_append,zw5 hi f bd hf.1 hb,zjV hi fs bd hf.2 hb]
end
theorem zsH {σ:Str→Str}{p:Str→Prop}(hi:∀a b,p a→p b→σ a=σ b→a=b){env:List za8}{w:Str}(hw:p w)(he:∀b∈env,p b.fr):
  lkp (env.map fun b=>⟨σ b.fr,b.to⟩) (σ w)=lkp env w∨(lkp (env.map fun b=>⟨σ b.fr,b.to⟩) (σ w)=σ w∧lkp env w=w∧w∉env.map (·.fr)):=by
 have key:∀i,i≤env.length→zh5 (env.map fun b=>⟨σ b.fr,b.to⟩) (σ w) i=zh5 env w i∨(zh5 (env.map fun b=>⟨σ b.fr,b.to⟩) (σ w) i=σ w∧zh5 env w i=w∧∀j (h:j<env.length),j<i→env[j].fr≠w):=by
  intro i
  induction i with
  |zero=>intro _;exact .inr ⟨rfl,rfl,fun j h1 h2=>by omega⟩
  |succ i ih=>
   intro hi2
   have hlt:i<env.length:=by omega
   have e1:env.getD i default=env[i]:=by rw[List.getD_eq_getElem?_getD,List.getElem?_eq_getElem hlt];rfl
   have e2:(env.map fun b=>(⟨σ b.fr,b.to⟩:za8)).getD i default=⟨σ env[i].fr,env[i].to⟩:=by
    rw[List.getD_eq_getElem?_getD,List.getElem?_map,List.getElem?_eq_getElem hlt];rfl
   rw[zh5,zh5,e1,e2]
   by_cases hc:env[i].fr=w
   ·rw[if_pos hc,if_pos (by simp only;rw[hc])]
    exact .inl rfl
   ·rw[if_neg hc,if_neg (fun e=>hc (hi _ _ (he _ (List.getElem_mem hlt)) hw e))]
    rcases ih (by omega)with h|⟨h1,h2,h3⟩
    ·exact .inl h
    ·refine .inr ⟨h1,h2,fun j hj hji=>?_⟩
     rcases Nat.lt_or_ge j i with h|h
     ·exact h3 j hj h
     ·obtain rfl:j=i:=by omega
      exact hc
 rcases key env.length (Nat.le_refl _)with h|⟨h1,h2,h3⟩
 ·refine .inl ?_
  unfold lkp;rw[List.length_map];exact h
 ·refine .inr ⟨?_,h2,fun hm=>?_⟩
  ·unfold lkp;rw[List.length_map];exact h1
  ·obtain⟨b,hb,e⟩:=List.mem_map.1 hm
   obtain⟨j,hj,rfl⟩:=List.getElem_of_mem hb
   exact h3 j hj hj e
mutual
theorem zDu {g:Nat→Str×Nat}{σ:Str→Str}{p:Str→Prop}(hi:∀a b,p a→p b→σ a=σ b→a=b):∀(f:zab) (env:List za8) (n:Nat),zbu p f→(∀b∈env,p b.fr)→(∀x∈cst f (env.map (·.fr)),σ x=x)→
  ren g (zfR σ f) (env.map fun b=>⟨σ b.fr,b.to⟩) n=ren g f env n
 | .mk k nm ws s,env,n,hf,he,hc=>by
  rw[zbu]at hf
  rw[cst]at hc
  have hw:(ws.map σ).map (lkp (env.map fun b=>⟨σ b.fr,b.to⟩))=ws.map (lkp env):=by
   rw[List.map_map]
   refine List.map_congr_left fun w hw=>?_
   rcases zsH hi (hf.1 w hw) he with e|⟨e1,e2,e3⟩
   ·exact e
   ·show lkp _ (σ w)=_
    rw[e1,e2]
    exact hc w (List.mem_append_left _ (List.mem_filter.2 ⟨hw,by simpa using e3⟩))
  rw[zfR,ren,ren,hw]
  by_cases hq:isQ k
  ·rw[if_pos hq]at hc
   simp only[if_pos hq]
   have h3:=zry (g:=g) hi s (env++[⟨nm,(g n).1⟩]) (g n).2 hf.2.2 (fun b hb=>by
    rcases List.mem_append.1 hb with h|h
    ·exact he b h
    ·rw[List.mem_singleton.1 h];exact hf.2.1 hq) (fun x hx=>hc x (List.mem_append_right _ (by rw[List.map_append]at hx;exact hx)))
   rw[List.map_append]at h3
   simp only[List.map_cons,List.map_nil]at h3
   rw[h3]
  ·rw[if_neg hq]at hc
   simp only[if_neg hq]
   rw[zry hi s env n hf.2.2 he fun x hx=>hc x (List.mem_append_right _ hx)]
theorem zry {g:Nat→Str×Nat}{σ:Str→Str}{p:Str→Prop}(hi:∀a b,p a→p b→σ a=σ b→a=b):∀(fs:List zab) (env:List za8) (n:Nat),zaL p fs→(∀b∈env,p b.fr)→(∀x∈zbR fs (env.map (·.fr)),σ x=x)→
  za5 g (zb1 σ fs) (env.map fun b=>⟨σ b.fr,b.to⟩) n=za5 g fs env n
 |[],env,n,_,_,_=>by rw[zb1,za5,za5]
 |f::fs,env,n,hf,he,hc=>by
  rw[zaL]at hf
  rw[zbR]at hc
  rw[zb1,za5,za5,zDu hi f env n hf.1 he fun x hx=>hc x (List.mem_append_left _ hx)]
  rw[zry hi fs env _ hf.2 he fun x hx=>hc x (List.mem_append_right _ hx)]
end
mutual
theorem zyb {g:Nat→Str×Nat}{σ:Str→Str}(hg:∀k,σ (g k).1=(g k).1):∀(f:zab) (env env':List za8) (n:Nat),zbu (fun w=>σ w=w) f→env'.map (·.fr)=env.map (·.fr)→env'.map (·.to)=env.map (fun b=>σ b.to)→
  ren g f env' n=(zfR σ (ren g f env n).1,(ren g f env n).2)
 | .mk k nm ws s,env,env',n,hf,e1,e2=>by
  rw[zbu]at hf
  have hw:ws.map (lkp env')=(ws.map (lkp env)).map σ:=by
   rw[List.map_map]
   exact List.map_congr_left fun w hw=>zxX e1 e2 (hf.1 w hw)
  rw[ren,ren,hw]
  by_cases hq:isQ k
  ·simp only[if_pos hq]
   have h3:=zkz (g:=g) hg s (env++[⟨nm,(g n).1⟩]) (env'++[⟨nm,(g n).1⟩]) (g n).2 hf.2.2 (by rw[List.map_append,List.map_append,e1]) (by rw[List.map_append,List.map_append,e2];simp only[List.map_cons,List.map_nil,hg])
   rw[h3]
   simp only[zfR,if_pos hq,hg]
  ·simp only[if_neg hq]
   rw[zkz hg s env env' n hf.2.2 e1 e2]
   simp only[zfR,if_neg hq]
theorem zkz {g:Nat→Str×Nat}{σ:Str→Str}(hg:∀k,σ (g k).1=(g k).1):∀(fs:List zab) (env env':List za8) (n:Nat),zaL (fun w=>σ w=w) fs→env'.map (·.fr)=env.map (·.fr)→env'.map (·.to)=env.map (fun b=>σ b.to)→
  za5 g fs env' n=(zb1 σ (za5 g fs env n).1,(za5 g fs env n).2)
 |[],env,env',n,_,_,_=>by rw[za5,za5,zb1]
 |f::fs,env,env',n,hf,e1,e2=>by
  rw[zaL]at hf
  rw[za5,za5,zyb hg f env env' n hf.1 e1 e2]
  simp only
  rw[zkz hg fs env env' _ hf.2 e1 e2,zb1]
end
mutual
theorem zvv {g:Nat→Str×Nat}{p:Str→Prop}(hg:∀k,p (g k).1):∀(f:zab) (env:List za8) (n:Nat),zbu p f→(∀b∈env,p b.to)→zbu p (ren g f env n).1
 | .mk k nm ws s,env,n,hf,he=>by
  rw[zbu]at hf
  have hw:∀w∈ws.map (lkp env),p w:=fun w hw=>by
   obtain⟨x,hx,rfl⟩:=List.mem_map.1 hw
   rcases zsI env x with e|⟨b,hb,e⟩
   ·rw[e];exact hf.1 x hx
   ·rw[e];exact he b hb
  rw[ren]
  split
  ·rw[zbu]
   refine⟨hw,fun _=>hg n,zif hg s _ _ hf.2.2 fun b hb=>?_⟩
   rcases List.mem_append.1 hb with h|h
   ·exact he b h
   ·rw[List.mem_singleton.1 h];exact hg n
  ·rename_i hq
   rw[zbu]
   exact⟨hw,fun h=>absurd h hq,zif hg s _ _ hf.2.2 he⟩
theorem zif {g:Nat→Str×Nat}{p:Str→Prop}(hg:∀k,p (g k).1):∀(fs:List zab) (env:List za8) (n:Nat),zaL p fs→(∀b∈env,p b.to)→zaL p (za5 g fs env n).1
 |[],env,n,_,_=>by rw[za5,zaL];trivial
 |f::fs,env,n,hf,he=>by
  rw[zaL]at hf
  rw[za5,zaL]
  exact⟨zvv hg f _ _ hf.1 he,zif hg fs _ _ hf.2 he⟩
end
mutual
theorem zoo {op:Bool}:∀(f:zab) (d:Int) (n:Nat),(chk op f d n).1.code=0→zbu (fun w=>zaq w=true) f
 | .mk k nm w s,d,n,h=>by
  rw[chk]at h
  split at h
  ·rename_i h1;exact absurd h h1
  ·rename_i h1
   have h2:=zb9 (Decidable.not_not.1 h1)
   rw[zbu]
   refine⟨fun x hx=>List.all_eq_true.1 h2.1 x hx,fun hq=>h2.2.1 ?_,zlj s _ _ h⟩
   unfold named
   have hq':k=8∨k=9:=hq
   have:(zab.mk k nm w s).kind=k:=rfl
   rw[this]
   exact decide_eq_true (by omega)
theorem zlj {op:Bool}:∀(fs:List zab) (d:Int) (n:Nat),(zea op fs d n).1.code=0→zaL (fun w=>zaq w=true) fs
 |[],d,n,_=>by rw[zaL];trivial
 |f::fs,d,n,h=>by
  rw[zea]at h
  split at h
  ·rename_i h1;exact absurd h h1
  ·rename_i h1
   rw[zaL]
   exact⟨zoo f d n (Decidable.not_not.1 h1),zlj fs d _ h⟩
end
theorem zdR {op:Bool}{f:zab}(h:(zaX op f).code=0):zbu (fun w=>zaq w=true) f:=zoo f 1 0 h
def qn (i:Nat):Str:=⟨63::zbm i⟩
def sg (w:Str):Str:=match w with
 |⟨c::t⟩=>if c=63 then⟨36::t⟩else⟨c::t⟩
 |⟨[]⟩=>⟨[]⟩
def wrap (v:Nat→Str):Nat→zab→zab
 |0,c=>c
 |i+1,c=>wrap v i (.mk 9 (v i) [] [c])
def lwP (n:Nat)(x:Str):Prop:=(x.l.head? =some 63→∃i,i<n∧x=qn i)∧x.l.head? ≠some 36∧¬zmY x
theorem zva {n:Nat}{x:Str}(h:zaq x=true):lwP n x:=by
 unfold zaq at h
 have h:=(of_decide_eq_true h).2.2.1
 have hd:∀c:UInt8,x.l.head? =some c→zkj c:=fun c hc=>by
  have h0:x.l.getD 0 0=c:=by rw[List.getD_eq_getElem?_getD,←List.head?_eq_getElem?,hc];rfl
  rwa [h0]at h
 exact⟨fun e=>absurd (hd 63 e) (by decide),fun e=>absurd (hd 36 e) (by decide),fun e=>absurd (hd 33 e) (by decide)⟩
def zsT (f:zab):zab:= .mk 4 ⟨[]⟩ [] [f]
theorem zsU {p:Str→Prop}{f:zab}(h:zbu p f):zbu p (zsT f):=by
 simp only[zsT,zbu,zaL];exact⟨by simp,fun h=>absurd h (by decide),h,trivial⟩
end Go.Abs
namespace Go.Abs
open Go
mutual
def wfE:zab→Prop
 | .mk k nm _ s=>(k=5→s.length=2)∧(k=9→s.length=1)∧(k=2→nm.l≠[])∧zrg s
def zrg:List zab→Prop
 |[]=>True
 |f::fs=>wfE f∧zrg fs
end
mutual
theorem zw2 {op:Bool}:∀(f:zab) (d:Int) (n:Nat),(chk op f d n).1.code=0→wfE f
 | .mk k nm w s,d,n,h=>by
  rw[chk]at h
  split at h
  ·rename_i h1;exact absurd h h1
  ·rename_i h1
   have h2:=zb9 (Decidable.not_not.1 h1)
   have h3:=h2.2.2.2.2
   simp only[zaR]at h3
   rw[wfE]
   refine⟨fun e=>?_,fun e=>?_,fun e=>?_,zou s _ _ h⟩
   ·subst e
    have:zbe op (zab.mk 5 nm w s)=2:=by simp[zbe,zcw,zae]
    omega
   ·subst e
    have:zbe op (zab.mk 9 nm w s)=1:=by simp[zbe,zcw,zae]
    omega
   ·have hn:=h2.2.1 (by unfold named;exact decide_eq_true (.inl e))
    simp only[zbg]at hn
    unfold zaq at hn
    have:=(of_decide_eq_true hn).1
    intro e2;rw[e2]at this;simp at this
theorem zou {op:Bool}:∀(fs:List zab) (d:Int) (n:Nat),(zea op fs d n).1.code=0→zrg fs
 |[],d,n,_=>by rw[zrg];trivial
 |f::fs,d,n,h=>by
  rw[zea]at h
  split at h
  ·rename_i h1;exact absurd h h1
  ·rename_i h1
   rw[zrg]
   exact⟨zw2 f d n (Decidable.not_not.1 h1),zou fs d _ h⟩
end
mutual
def zfQ:zab→List zab
 | .mk k nm ws s=>if k=5∧s.length=2 then zh3 s else[.mk k nm ws s]
def zh3:List zab→List zab
 |[]=>[]
 |f::fs=>zfQ f++fs
end
theorem zsE {f a b:zab}(hk:f.kind=5)(hs:f.subs=[a,b]):zfQ f=zfQ a++[b]:=by
 cases f with
 |mk k nm ws s=>
  simp only[zae,zaR]at hk hs
  subst hk hs
  rw[zfQ,if_pos ⟨rfl,rfl⟩,zh3]
theorem zsF {f:zab}(h:¬(f.kind=5∧f.subs.length=2)):zfQ f=[f]:=by
 cases f with
 |mk k nm ws s=>
  simp only[zae,zaR]at h
  rw[zfQ,if_neg h]
def zoz:zab:= .mk 0 ⟨[]⟩ [] []
def zce (f:zab):List zab:=zfQ (f.subs.getD 0 zoz)
def zg8 (f:zab):zab:=(zce f).getD 0 zoz
def okE (f:zab):Bool:=decide (f.kind=9)&&decide ((zg8 f).kind=2)&&decide ((zg8 f).words.length=1)&&decide ((zg8 f).words.getD 0 ⟨[]⟩=f.name)
def zrA (i:Nat):Str:=⟨97::114::103::zbm (i+1)⟩
def znC (f:zab)(i:Nat)(x:zab):Bool:=decide (x.kind=2)&&decide (x.name=zrA i)&&decide (x.words.length=2)&&decide (x.words.getD 0 ⟨[]⟩=f.name)&& !decide (x.words.getD 1 ⟨[]⟩=f.name)
def zfO (f:zab):Nat→Bool
 |0=>true
 |i+1=>zfO f i&&znC f i ((zce f).getD (i+1) zoz)
def zjx (f:zab)(i:Nat):List Str:=(List.range i).map fun j=>((zce f).getD (j+1) zoz).words.getD 1 ⟨[]⟩
def zcM (f:zab):Bool:=okE f&&decide (2≤(zce f).length)&&decide ((zce f).length≤4)&&zfO f ((zce f).length-1)
def zbF (f:zab):zab:=if zcM f then .mk 2 (zg8 f).name (zjx f ((zce f).length-1)) []else f
mutual
def zay (by':zab→zab):zab→zab
 | .mk k nm ws s=>by' (.mk k nm ws (zan by' s))
def zan (by':zab→zab):List zab→List zab
 |[]=>[]
 |f::fs=>zay by' f::zan by' fs
end
theorem zbl (by':zab→zab):∀l:List zab,zan by' l=l.map (zay by')
 |[]=>by rw[zan];rfl
 |f::l=>by rw[zan,zbl by' l];rfl
theorem zpC (by':zab→zab)(f:zab):zay by' f=by' (.mk f.kind f.name f.words (f.subs.map (zay by'))):=by cases f;rw[zay,zbl];rfl
theorem zoJ {f:zab}:∀{n i:Nat},zfO f n=true→i<n→znC f i ((zce f).getD (i+1) zoz)=true
 |n+1,i,h,hi=>by
  rw[zfO,Bool.and_eq_true]at h
  rcases Nat.lt_or_ge i n with h1|h1
  ·exact zoJ h.1 h1
  ·obtain rfl:i=n:=by omega
   exact h.2
theorem zko {f:zab}(h:okE f=true):f.kind=9∧(zg8 f).kind=2:=by
 unfold okE at h
 simp only[Bool.and_eq_true,decide_eq_true_eq]at h
 exact⟨h.1.1.1,h.1.1.2⟩
theorem zeQ {f:zab}(h:zcM f=true):okE f=true:=by
 unfold zcM at h
 simp only[Bool.and_eq_true]at h
 exact h.1.1.1
mutual
theorem zni {by':zab→zab}(hb:∀f,wfE f→wfE (by' f)):∀f:zab,wfE f→wfE (zay by' f)
 | .mk k nm ws s,h=>by
  rw[wfE]at h
  rw[zay]
  refine hb _ ?_
  rw[wfE,zbl,List.length_map]
  refine⟨h.1,h.2.1,h.2.2.1,?_⟩
  rw[←zbl]
  exact zen hb s h.2.2.2
theorem zen {by':zab→zab}(hb:∀f,wfE f→wfE (by' f)):∀fs:List zab,zrg fs→zrg (zan by' fs)
 |[],_=>by rw[zan,zrg];trivial
 |f::fs,h=>by rw[zrg]at h;rw[zan,zrg];exact⟨zni hb f h.1,zen hb fs h.2⟩
end
theorem zma (f:zab):(zbF f).size≤f.size:=by
 unfold zbF
 split
 ·have:=f.size_pos;simp only[zab.size,zab.sizes];omega
 ·exact Nat.le_refl _
mutual
theorem zgG {by':zab→zab}{c:Nat}(hb:∀f,(by' f).size≤f.size+c):∀f:zab,(zay by' f).size≤f.size*(c+1)
 | .mk k nm ws s=>by
  rw[zay]
  have h1:=hb (.mk k nm ws (zan by' s))
  have h2:=zfD hb s
  rw[zab.size]at h1 ⊢
  rw[Nat.add_mul,Nat.one_mul]
  omega
theorem zfD {by':zab→zab}{c:Nat}(hb:∀f,(by' f).size≤f.size+c):∀fs:List zab,zab.sizes (zan by' fs)≤zab.sizes fs*(c+1)
 |[]=>by rw[zan,zab.sizes];omega
 |f::fs=>by
  rw[zan,zab.sizes,zab.sizes,Nat.add_mul]
  have h1:=zgG hb f
  have h2:=zfD hb fs
  omega
end
mutual
theorem zhG {by':zab→zab}(hb:∀f,f.fit=true→(by' f).fit=true):∀f:zab,f.fit=true→(zay by' f).fit=true
 | .mk k nm ws s,h=>by
  rw[zab.fit]at h
  simp only[Bool.and_eq_true]at h
  rw[zay]
  refine hb _ ?_
  rw[zab.fit,zbl,List.length_map,←zbl,zgI hb s h.2,h.1.1,h.1.2]
  rfl
theorem zgI {by':zab→zab}(hb:∀f,f.fit=true→(by' f).fit=true):∀fs:List zab,zab.fits fs=true→zab.fits (zan by' fs)=true
 |[],_=>by rw[zan,zab.fits]
 |f::fs,h=>by rw[zab.fits,Bool.and_eq_true]at h;rw[zan,zab.fits,zhG hb f h.1,zgI hb fs h.2];rfl
end
mutual
theorem zlf {by':zab→zab}{p:Str→Prop}(hb:∀f,wfE f→zbu p f→zbu p (by' f))(hw:∀f,wfE f→wfE (by' f)):∀f:zab,wfE f→zbu p f→zbu p (zay by' f)
 | .mk k nm ws s,h2,h=>by
  have h3:=h2
  rw[wfE]at h3
  rw[zbu]at h
  rw[zay]
  refine hb _ ?_ ?_
  ·rw[wfE,zbl,List.length_map]
   refine⟨h3.1,h3.2.1,h3.2.2.1,?_⟩
   rw[←zbl]
   exact zen hw s h3.2.2.2
  ·rw[zbu];exact⟨h.1,h.2.1,zfC hb hw s h3.2.2.2 h.2.2⟩
theorem zfC {by':zab→zab}{p:Str→Prop}(hb:∀f,wfE f→zbu p f→zbu p (by' f))(hw:∀f,wfE f→wfE (by' f)):∀fs:List zab,zrg fs→zaL p fs→zaL p (zan by' fs)
 |[],_,_=>by rw[zan,zaL];trivial
 |f::fs,h2,h=>by rw[zaL]at h;rw[zrg]at h2;rw[zan,zaL];exact⟨zlf hb hw f h2.1 h.1,zfC hb hw fs h2.2 h.2⟩
end
def qM:Str:=⟨[63]⟩
def dM:Str:=⟨[36]⟩
def zcR (v:Str)(nm:Str)(ws:List Str):zab:= .mk 9 v [] [zdY 5 (.mk 2 nm [v] []::(List.range ws.length).map fun i=> .mk 2 (zrA i) [v,ws.getD i ⟨[]⟩] [])]
def za7 (v:Str)(ps:List Str)(f:zab):zab:=if f.kind=2∧0<f.words.length∧f.name∈ps then zcR v f.name f.words else f
theorem zcv (v:Str)(ps:List Str)(k:Int)(nm:Str)(ws:List Str)(s:List zab):za7 v ps (.mk k nm ws s)=if k=2∧0<ws.length∧nm∈ps then zcR v nm ws else .mk k nm ws s:=rfl
theorem zqO (nm:Str)(ws:List Str)(h:∀w∈ws,sg w=w):zfR sg (zcR qM nm ws)=zcR dM nm ws:=by
 have e:sg qM=dM:=rfl
 have hh:(zab.mk 2 nm [qM] []::(List.range ws.length).map fun i=>zab.mk 2 (zrA i) [qM,ws.getD i ⟨[]⟩] []).map (zfR sg)=zab.mk 2 nm [dM] []::(List.range ws.length).map fun i=>zab.mk 2 (zrA i) [dM,ws.getD i ⟨[]⟩] []:=by
  rw[List.map_cons,List.map_map]
  congr 1
  refine List.map_congr_left fun i hi=>?_
  have hi:=List.mem_range.1 hi
  have hm:ws.getD i ⟨[]⟩∈ws:=by
   rw[List.getD_eq_getElem?_getD,List.getElem?_eq_getElem hi]
   exact List.getElem_mem _
  show zfR sg (zab.mk 2 (zrA i) [qM,ws.getD i ⟨[]⟩] [])=_
  rw[zfR,if_neg (by decide),List.map_cons,List.map_cons,List.map_nil,e,h _ hm,zb1]
 unfold zcR
 rw[zfR,zb1,zb1,zsx sg 5 (by decide),hh,if_pos (show isQ 9 from .inr rfl),e,List.map_nil]
mutual
theorem ztl (ps:List Str):∀f:zab,zbu (fun w=>sg w=w) f→zay (za7 dM ps) f=zfR sg (zay (za7 qM ps) f)
 | .mk k nm ws s,h=>by
  have h2:=h
  rw[zbu]at h
  rw[zay,zay,zjp ps s h.2.2]
  rw[zcv,zcv]
  split
  ·rw[zqO nm ws h.1]
  ·rw[zfR]
   congr 1
   ·by_cases hq:isQ k
    ·rw[if_pos hq];exact(h.2.1 hq).symm
    ·rw[if_neg hq]
   ·conv=>lhs;rw[←List.map_id ws]
    exact List.map_congr_left fun w hw=>(h.1 w hw).symm
theorem zjp (ps:List Str):∀fs:List zab,zaL (fun w=>sg w=w) fs→zan (za7 dM ps) fs=zb1 sg (zan (za7 qM ps) fs)
 |[],_=>by rw[zan,zan,zb1]
 |f::fs,h=>by rw[zaL]at h;rw[zan,zan,zb1,ztl ps f h.1,zjp ps fs h.2]
end
def swP (x:Str):Prop:=(x.l.head? =some 63→x=qM)∧x.l.head? ≠some 36∧¬zmY x
theorem zkR {x:Str}(h:zaq x=true):swP x:=by
 have:=zva (n:=0) h
 exact⟨fun e=>by obtain⟨i,hi,_⟩:=this.1 e;omega,this.2⟩
theorem zym:swP qM:=⟨fun _=>rfl,by simp[qM],by simp[zmY,qM]⟩
theorem zj9 {ws:List Str}{i:Nat}(h:i<ws.length):ws.getD i ⟨[]⟩∈ws:=by
 rw[List.getD_eq_getElem?_getD,List.getElem?_eq_getElem h]
 exact List.getElem_mem _
theorem znY {nm:Str}{ws:List Str}(h:∀w∈ws,swP w):zbu swP (zcR qM nm ws):=by
 unfold zcR
 simp only[zbu,zaL]
 refine⟨by simp,fun _=>zym,zjd swP 5 (by decide) ((zfz _ _).2 fun g hg=>?_),trivial⟩
 rcases List.mem_cons.1 hg with rfl|hg
 ·rw[zbu,zaL]
  exact⟨fun w hw=>by rw[List.mem_singleton.1 hw];exact zym,fun e=>absurd e (by decide),trivial⟩
 ·obtain⟨i,hi,rfl⟩:=List.mem_map.1 hg
  have hi:=List.mem_range.1 hi
  rw[zbu,zaL]
  refine⟨fun w hw=>?_,fun e=>absurd e (by decide),trivial⟩
  simp only[List.mem_cons,List.not_mem_nil,or_false]at hw
  rcases hw with rfl|rfl
  ·exact zym
  ·exact h _ (zj9 hi)
mutual
theorem zqQ (ps:List Str):∀f:zab,zbu (fun w=>zaq w=true) f→zbu swP (zay (za7 qM ps) f)
 | .mk k nm ws s,h=>by
  rw[zbu]at h
  rw[zay]
  rw[zcv]
  split
  ·exact znY fun w hw=>zkR (h.1 w hw)
  ·rw[zbu]
   exact⟨fun w hw=>zkR (h.1 w hw),fun hq=>zkR (h.2.1 hq),zim ps s h.2.2⟩
theorem zim (ps:List Str):∀fs:List zab,zaL (fun w=>zaq w=true) fs→zaL swP (zan (za7 qM ps) fs)
 |[],_=>by rw[zan,zaL];trivial
 |f::fs,h=>by rw[zaL]at h;rw[zan,zaL];exact⟨zqQ ps f h.1,zim ps fs h.2⟩
end
mutual
theorem zjo (ps:List Str):∀(f:zab) (bd:List Str) (x:Str),zbu (fun w=>zaq w=true) f→x∈cst (zay (za7 qM ps) f) bd→x≠qM
 | .mk k nm ws s,bd,x,h,hx=>by
  rw[zbu]at h
  rw[zay]at hx
  rw[zcv]at hx
  split at hx
  ·unfold zcR at hx
   rw[cst,if_pos (show isQ 9 from .inr rfl),zbR,zbR]at hx
   simp only[List.filter_nil,List.nil_append,List.append_nil]at hx
   have:=zlm _ _ _ hx
   intro e
   exact this (by rw[e];simp)
  ·rw[cst,List.mem_append]at hx
   rcases hx with hx|hx
   ·have:=h.1 x (List.mem_filter.1 hx).1
    intro e
    rw[e]at this
    exact absurd this (by decide)
   ·exact zin ps s _ x h.2.2 hx
theorem zin (ps:List Str):∀(fs:List zab) (bd:List Str) (x:Str),zaL (fun w=>zaq w=true) fs→x∈zbR (zan (za7 qM ps) fs) bd→x≠qM
 |[],bd,x,_,hx=>by rw[zan,zbR]at hx;simp at hx
 |f::fs,bd,x,h,hx=>by
  rw[zaL]at h
  rw[zan,zbR,List.mem_append]at hx
  rcases hx with hx|hx
  ·exact zjo ps f bd x h.1 hx
  ·exact zin ps fs bd x h.2 hx
end
theorem znZ (v nm:Str)(ws:List Str):(zcR v nm ws).size≤2*ws.length+4∧(zcR v nm ws).fit=true:=by
 unfold zcR
 have h1:=zqo 5 (.mk 2 nm [v] []::(List.range ws.length).map fun i=> .mk 2 (zrA i) [v,ws.getD i ⟨[]⟩] [])
 have hl:∀g∈(zab.mk 2 nm [v] []::(List.range ws.length).map fun i=>zab.mk 2 (zrA i) [v,ws.getD i ⟨[]⟩] []),g.size≤1∧g.fit=true:=fun g hg=>by
  rcases List.mem_cons.1 hg with rfl|hg
  ·exact⟨by simp[zab.size,zab.sizes],by simp[zab.fit,zab.fits]⟩
  ·obtain⟨i,_,rfl⟩:=List.mem_map.1 hg
   exact⟨by simp[zab.size,zab.sizes],by simp[zab.fit,zab.fits]⟩
 have h2:=zmB (c:=1) _ fun g hg=>(hl g hg).1
 have h3:=zsw 5 ((fits_mem _).2 fun g hg=>(hl g hg).2)
 rw[List.length_cons,List.length_map,List.length_range]at h1 h2
 refine⟨by simp only[zab.size,zab.sizes];omega,?_⟩
 rw[zab.fit,zab.fits,zab.fits,h3];rfl
theorem znX {v:Str}{ps:List Str}{f:zab}(h:f.fit=true):(za7 v ps f).fit=true:=by
 unfold za7;split
 ·exact(znZ _ _ _).2
 ·exact h
end Go.Abs
namespace Go.Abs
open Go
abbrev PE:=List (Str×Str)
def zmW:PE→Str→Str→Prop
 |[],w,w'=>w=w'
 |(a,b)::E,w,w'=>(w=a∧w'=b)∨(w≠a∧w'≠b∧zmW E w w')
def zcm (E:PE):List Str→List Str→Prop
 |[],[]=>True
 |w::ws,w'::ws'=>zmW E w w'∧zcm E ws ws'
 |[],_::_=>False
 |_::_,[]=>False
mutual
def Aeq:PE→zab→zab→Prop
 |E,.mk k nm ws s,.mk k' nm' ws' s'=>k=k'∧(¬isQ k→nm=nm')∧zcm E ws ws'∧zcg (if isQ k then(nm,nm')::E else E) s s'
def zcg:PE→List zab→List zab→Prop
 |_,[],[]=>True
 |E,f::fs,g::gs=>Aeq E f g∧zcg E fs gs
 |_,[],_::_=>False
 |_,_::_,[]=>False
end
theorem zga {E:PE}:∀{a b:List Str},zcm E a b→a.length=b.length
 |[],[],_=>rfl
 |_::a,_::b,h=>by rw[zcm]at h;rw[List.length_cons,List.length_cons,zga h.2]
 |[],_::_,h=>by rw[zcm]at h;exact h.elim
 |_::_,[],h=>by rw[zcm]at h;exact h.elim
theorem zf9 {E:PE}:∀{a b:List Str} {i:Nat},zcm E a b→i<a.length→zmW E (a.getD i ⟨[]⟩) (b.getD i ⟨[]⟩)
 |[],[],i,_,hi=>by simp at hi
 |w::a,w'::b,0,h,_=>by rw[zcm]at h;exact h.1
 |w::a,w'::b,i+1,h,hi=>by rw[zcm]at h;exact zf9 (i:=i) h.2 (by simpa using hi)
 |[],_::_,_,h,_=>by rw[zcm]at h;exact h.elim
 |_::_,[],_,h,_=>by rw[zcm]at h;exact h.elim
theorem zjz {E:PE}:∀{a b:List zab},zcg E a b→a.length=b.length
 |[],[],_=>rfl
 |_::a,_::b,h=>by rw[zcg]at h;rw[List.length_cons,List.length_cons,zjz h.2]
 |[],_::_,h=>by rw[zcg]at h;exact h.elim
 |_::_,[],h=>by rw[zcg]at h;exact h.elim
theorem zn6 {E:PE}:∀{a b c d:List zab},zcg E a b→zcg E c d→zcg E (a++c) (b++d)
 |[],[],_,_,_,h=>h
 |_::a,_::b,_,_,h,h2=>by rw[zcg]at h;rw[List.cons_append,List.cons_append,zcg];exact⟨h.1,zn6 h.2 h2⟩
 |[],_::_,_,_,h,_=>by rw[zcg]at h;exact h.elim
 |_::_,[],_,_,h,_=>by rw[zcg]at h;exact h.elim
theorem zwN {E:PE}:Aeq E zoz zoz:=by
 unfold zoz
 rw[Aeq,if_neg (by decide)]
 exact⟨rfl,fun _=>rfl,by rw[zcm];trivial,by rw[zcg];trivial⟩
theorem zdz {E:PE}:∀{a b:List zab} (i:Nat),zcg E a b→Aeq E (a.getD i zoz) (b.getD i zoz)
 |[],[],i,_=>by simp only[List.getD_nil];exact zwN
 |_::a,_::b,0,h=>by rw[zcg]at h;exact h.1
 |_::a,_::b,i+1,h=>by rw[zcg]at h;exact zdz i h.2
 |[],_::_,_,h=>by rw[zcg]at h;exact h.elim
 |_::_,[],_,h=>by rw[zcg]at h;exact h.elim
theorem ziR {E:PE}{f f':zab}:Aeq E f f'↔f.kind=f'.kind∧(¬isQ f.kind→f.name=f'.name)∧zcm E f.words f'.words∧zcg (if isQ f.kind then(f.name,f'.name)::E else E) f.subs f'.subs:=by
 cases f;cases f';rw[Aeq];rfl
theorem zmX {E:PE}{s s':Str→Str}(h:∀w w',zmW E w w'→s w=s' w'):∀{a b:List Str},zcm E a b→a.map s=b.map s'
 |[],[],_=>rfl
 |w::a,w'::b,hw=>by rw[zcm]at hw;rw[List.map_cons,List.map_cons,h _ _ hw.1,zmX h hw.2]
 |[],_::_,h=>by rw[zcm]at h;exact h.elim
 |_::_,[],h=>by rw[zcm]at h;exact h.elim
mutual
theorem zrv {g:Nat→Str×Nat}:∀(f f':zab) (E:PE) (env env':List za8) (n:Nat),Aeq E f f'→(∀w w',zmW E w w'→lkp env w=lkp env' w')→ren g f env n=ren g f' env' n
 | .mk k nm ws s,.mk k' nm' ws' s',E,env,env',n,h,he=>by
  rw[Aeq]at h
  obtain⟨rfl,h2,h3,h4⟩:=h
  rw[ren,ren,zmX he h3]
  by_cases hq:isQ k
  ·rw[if_pos hq]at h4
   simp only[if_pos hq]
   rw[zjH (g:=g) s s' ((nm,nm')::E) (env++[(⟨nm,(g n).1⟩:za8)]) (env'++[(⟨nm',(g n).1⟩:za8)]) (g n).2 h4 fun w w' hw=>?_]
   rw[zcj,zcj]
   rw[zmW]at hw
   rcases hw with⟨rfl,rfl⟩|⟨h5,h6,h7⟩
   ·rw[if_pos rfl,if_pos rfl]
   ·rw[if_neg (fun e=>h5 e.symm),if_neg (fun e=>h6 e.symm)]
    exact he w w' h7
  ·rw[if_neg hq]at h4
   simp only[if_neg hq]
   rw[zjH (g:=g) s s' E env env' n h4 he,h2 hq]
theorem zjH {g:Nat→Str×Nat}:∀(f f':List zab) (E:PE) (env env':List za8) (n:Nat),zcg E f f'→(∀w w',zmW E w w'→lkp env w=lkp env' w')→za5 g f env n=za5 g f' env' n
 |[],[],E,env,env',n,_,_=>by rw[za5,za5]
 |f::fs,f'::fs',E,env,env',n,h,he=>by
  rw[zcg]at h
  rw[za5,za5,zrv f f' E env env' n h.1 he]
  rw[zjH fs fs' E env env' _ h.2 he]
 |[],_::_,_,_,_,_,h,_=>by rw[zcg]at h;exact h.elim
 |_::_,[],_,_,_,_,h,_=>by rw[zcg]at h;exact h.elim
end
theorem zg1 {E:PE}{bd bd':List Str}(hb:∀w w',zmW E w w'→(w∈bd↔w'∈bd')∧(w∉bd→w=w')):∀{a b:List Str},zcm E a b→a.filter (fun w=>decide (w∉bd))=b.filter (fun w=>decide (w∉bd'))
 |[],[],_=>rfl
 |w::a,w'::b,hw=>by
  rw[zcm]at hw
  rw[List.filter_cons,List.filter_cons,zg1 hb hw.2]
  obtain⟨h1,h2⟩:=hb w w' hw.1
  by_cases h:w∈bd
  ·rw[if_neg (by simpa using h),if_neg (by simpa using h1.1 h)]
  ·have e:=h2 h
   rw[if_pos (by simpa using h),if_pos (by simpa using fun h3=>h (h1.2 h3)),e]
 |[],_::_,h=>by rw[zcm]at h;exact h.elim
 |_::_,[],h=>by rw[zcm]at h;exact h.elim
mutual
theorem zm8:∀(f f':zab) (E:PE) (bd bd':List Str),Aeq E f f'→(∀w w',zmW E w w'→(w∈bd↔w'∈bd')∧(w∉bd→w=w'))→cst f bd=cst f' bd'
 | .mk k nm ws s,.mk k' nm' ws' s',E,bd,bd',h,he=>by
  rw[Aeq]at h
  obtain⟨rfl,h2,h3,h4⟩:=h
  rw[cst,cst,zg1 he h3]
  by_cases hq:isQ k
  ·rw[if_pos hq]at h4
   rw[if_pos hq,if_pos hq]
   rw[zjG s s' ((nm,nm')::E) (bd++[nm]) (bd'++[nm']) h4 fun w w' hw=>?_]
   rw[zmW]at hw
   simp only[List.mem_append,List.mem_singleton]
   rcases hw with⟨rfl,rfl⟩|⟨h5,h6,h7⟩
   ·exact⟨⟨fun _=> .inr rfl,fun _=> .inr rfl⟩,fun h=>absurd (.inr rfl) h⟩
   ·obtain⟨h8,h9⟩:=he w w' h7
    refine⟨⟨fun h=>?_,fun h=>?_⟩,fun h=>h9 fun h0=>h (.inl h0)⟩
    ·rcases h with h|h
     ·exact .inl (h8.1 h)
     ·exact absurd h h5
    ·rcases h with h|h
     ·exact .inl (h8.2 h)
     ·exact absurd h h6
  ·rw[if_neg hq]at h4
   rw[if_neg hq,if_neg hq,zjG s s' E bd bd' h4 he]
theorem zjG:∀(f f':List zab) (E:PE) (bd bd':List Str),zcg E f f'→(∀w w',zmW E w w'→(w∈bd↔w'∈bd')∧(w∉bd→w=w'))→zbR f bd=zbR f' bd'
 |[],[],E,bd,bd',_,_=>by rw[zbR,zbR]
 |f::fs,f'::fs',E,bd,bd',h,he=>by
  rw[zcg]at h
  rw[zbR,zbR,zm8 f f' E bd bd' h.1 he,zjG fs fs' E bd bd' h.2 he]
 |[],_::_,_,_,_,h,_=>by rw[zcg]at h;exact h.elim
 |_::_,[],_,_,_,h,_=>by rw[zcg]at h;exact h.elim
end
theorem zru {f f':zab}(h:Aeq [] f f'):zat f []=zat f' []:=by
 have h1:cst f []=cst f' []:=zm8 f f' [] [] [] h fun w w' hw=>⟨by simp,fun _=>hw⟩
 unfold zat zbX
 rw[h1,zrv f f' [] [] [] 0 h fun w w' hw=>by rw[zfh,zfh];exact hw]
mutual
theorem zs3 {used:List Str}:∀(f:zab) (E:PE) (env:List za8) (bd:List Str) (n:Nat),(∀w,w∈bd∨w∈used→zmW E w (lkp env w)∧(lkp env w∈used∨∃j,j<n∧lkp env w=zeW j))→(∀x∈cst f bd,x∈used)→Aeq E f (ren (vg used) f env n).1
 | .mk k nm ws s,E,env,bd,n,he,hc=>by
  rw[cst]at hc
  have hw:zcm E ws (ws.map (lkp env)):=by
   have:∀l:List Str,(∀w∈l,w∈ws)→zcm E l (l.map (lkp env)):=by
    intro l
    induction l with
    |nil=>intro _;rw[List.map_nil,zcm];trivial
    |cons w l ih=>
     intro hl
     rw[List.map_cons,zcm]
     refine⟨(he w ?_).1,ih fun x hx=>hl x (List.mem_cons_of_mem _ hx)⟩
     by_cases hb:w∈bd
     ·exact .inl hb
     ·exact .inr (hc w (List.mem_append_left _ (List.mem_filter.2 ⟨hl w (by simp),by simpa using hb⟩)))
   exact this ws fun _ h=>h
  rw[ren]
  by_cases hq:isQ k
  ·rw[if_pos hq]at hc
   rw[if_pos hq,Aeq,if_pos hq]
   obtain⟨a1,_,a3,_⟩:=zba used n
   refine⟨rfl,fun h=>absurd hq h,hw,zkx s _ _ (bd++[nm]) _ (fun w hw2=>?_) fun x hx=>hc x (List.mem_append_right _ hx)⟩
   rw[zcj,zmW]
   by_cases e:nm=w
   ·rw[if_pos e]
    exact⟨.inl ⟨e.symm,rfl⟩,.inr ⟨zb8 used n,Nat.lt_succ_self _,rfl⟩⟩
   ·rw[if_neg e]
    have hw3:w∈bd∨w∈used:=by
     rcases hw2 with h|h
     ·rcases List.mem_append.1 h with h|h
      ·exact .inl h
      ·exact absurd (List.mem_singleton.1 h).symm e
     ·exact .inr h
    obtain⟨h1,h2⟩:=he w hw3
    refine⟨.inr ⟨fun h=>e h.symm,fun h=>?_,h1⟩,?_⟩
    ·rw[h]at h2
     rcases h2 with h2|⟨j,hj,h2⟩
     ·exact a3 h2
     ·have:=zkX h2;omega
    ·rcases h2 with h2|⟨j,hj,h2⟩
     ·exact .inl h2
     ·refine .inr ⟨j,?_,h2⟩
      have:(vg used n).2=zb8 used n+1:=rfl
      omega
  ·rw[if_neg hq]at hc
   rw[if_neg hq,Aeq,if_neg hq]
   exact⟨rfl,fun _=>rfl,hw,zkx s _ _ bd _ he fun x hx=>hc x (List.mem_append_right _ hx)⟩
theorem zkx {used:List Str}:∀(fs:List zab) (E:PE) (env:List za8) (bd:List Str) (n:Nat),(∀w,w∈bd∨w∈used→zmW E w (lkp env w)∧(lkp env w∈used∨∃j,j<n∧lkp env w=zeW j))→(∀x∈zbR fs bd,x∈used)→zcg E fs (za5 (vg used) fs env n).1
 |[],E,env,bd,n,_,_=>by rw[za5,zcg];trivial
 |f::fs,E,env,bd,n,he,hc=>by
  rw[zbR]at hc
  rw[za5,zcg]
  refine⟨zs3 f E env bd n he fun x hx=>hc x (List.mem_append_left _ hx),zkx fs E env bd _ (fun w hw=>?_) fun x hx=>hc x (List.mem_append_right _ hx)⟩
  obtain⟨h1,h2⟩:=he w hw
  refine⟨h1,?_⟩
  rcases h2 with h2|⟨j,hj,h2⟩
  ·exact .inl h2
  ·have:=((zmu (zqX used)).1 f env n).1
   exact .inr ⟨j,by omega,h2⟩
end
theorem zlc (f:zab):Aeq [] f (zat f []):=by
 refine zs3 f [] [] [] 0 (fun w hw=>?_) fun x hx=>(zcE f x).2 hx
 rw[zfh]
 rcases hw with h|h
 ·simp at h
 ·exact⟨rfl,.inl h⟩
mutual
theorem zl1:∀(f f':zab) (E:PE),Aeq E f f'→zcg E (zfQ f) (zfQ f')
 | .mk k nm ws s,.mk k' nm' ws' s',E,h=>by
  have h0:=h
  rw[Aeq]at h
  obtain⟨rfl,h2,h3,h4⟩:=h
  have hl:=zjz h4
  rw[zfQ,zfQ,←hl]
  by_cases hk:k=5∧s.length=2
  ·rw[if_pos hk,if_pos hk]
   rw[if_neg (by rw[hk.1];decide)]at h4
   exact zqq s s' E h4
  ·rw[if_neg hk,if_neg hk,zcg]
   exact⟨h0,by rw[zcg];trivial⟩
theorem zqq:∀(f f':List zab) (E:PE),zcg E f f'→zcg E (zh3 f) (zh3 f')
 |[],[],E,_=>by rw[zh3,zcg];trivial
 |f::fs,f'::fs',E,h=>by
  rw[zcg]at h
  rw[zh3,zh3]
  exact zn6 (zl1 f f' E h.1) h.2
 |[],_::_,_,h=>by rw[zcg]at h;exact h.elim
 |_::_,[],_,h=>by rw[zcg]at h;exact h.elim
end
theorem zmh {E:PE}{f f':zab}(h:Aeq E f f')(hk:f.kind=9):zcg ((f.name,f'.name)::E) (zce f) (zce f'):=by
 rw[ziR,if_pos (show isQ f.kind from .inr hk)]at h
 unfold zce
 exact zl1 _ _ _ (zdz 0 h.2.2.2)
theorem zf7 {E:PE}{a b w w':Str}(h:zmW ((a,b)::E) w w'):(w=a↔w'=b)∧(w≠a→zmW E w w'):=by
 rw[zmW]at h
 rcases h with⟨rfl,rfl⟩|⟨h1,h2,h3⟩
 ·exact⟨⟨fun _=>rfl,fun _=>rfl⟩,fun h=>absurd rfl h⟩
 ·exact⟨⟨fun h=>absurd h h1,fun h=>absurd h h2⟩,fun _=>h3⟩
theorem zx4 {E:PE}{f f':zab}(h:Aeq E f f'):okE f=okE f':=by
 have hk:=(ziR.1 h).1
 unfold okE
 rw[←hk]
 by_cases h9:f.kind=9
 ·have hp:=zmh h h9
  have hh:Aeq ((f.name,f'.name)::E) (zg8 f) (zg8 f'):=zdz 0 hp
  rw[ziR]at hh
  obtain⟨e1,_,e2,_⟩:=hh
  rw[←e1,←zga e2]
  by_cases hl:(zg8 f).words.length=1
  ·have:=(zf7 (zf9 (i:=0) e2 (by omega))).1
   rw[show decide ((zg8 f).words.getD 0 ⟨[]⟩=f.name)=decide ((zg8 f').words.getD 0 ⟨[]⟩=f'.name)from decide_eq_decide.2 this]
  ·simp[hl]
 ·simp[h9]
theorem zsl {E:PE}{f f' x x':zab}(h:Aeq ((f.name,f'.name)::E) x x')(i:Nat):znC f i x=znC f' i x':=by
 rw[ziR]at h
 obtain⟨e1,e0,e2,_⟩:=h
 unfold znC
 rw[←e1,←zga e2]
 by_cases hk:x.kind=2
 ·rw[e0 (by rw[hk];decide)]
  by_cases hl:x.words.length=2
  ·have h0:=(zf7 (zf9 (i:=0) e2 (by omega))).1
   have h1:=(zf7 (zf9 (i:=1) e2 (by omega))).1
   rw[show decide (x.words.getD 0 ⟨[]⟩=f.name)=decide (x'.words.getD 0 ⟨[]⟩=f'.name)from decide_eq_decide.2 h0,
    show decide (x.words.getD 1 ⟨[]⟩=f.name)=decide (x'.words.getD 1 ⟨[]⟩=f'.name)from decide_eq_decide.2 h1]
  ·simp[hl]
 ·simp[hk]
theorem zlU {E:PE}{f f':zab}(h:zcg ((f.name,f'.name)::E) (zce f) (zce f')):∀n,zfO f n=zfO f' n
 |0=>by rw[zfO,zfO]
 |n+1=>by rw[zfO,zfO,zlU h n,zsl (zdz (n+1) h) n]
theorem zqZ {E:PE}{f f':zab}(h:zcg ((f.name,f'.name)::E) (zce f) (zce f')){n:Nat}(hg:zfO f n=true):zcm E (zjx f n) (zjx f' n):=by
 unfold zjx
 have:∀l:List Nat,(∀j∈l,j<n)→zcm E (l.map fun j=>((zce f).getD (j+1) zoz).words.getD 1 ⟨[]⟩) (l.map fun j=>((zce f').getD (j+1) zoz).words.getD 1 ⟨[]⟩):=by
  intro l
  induction l with
  |nil=>intro _;rw[List.map_nil,List.map_nil,zcm];trivial
  |cons j l ih=>
   intro hl
   rw[List.map_cons,List.map_cons,zcm]
   refine⟨?_,ih fun x hx=>hl x (List.mem_cons_of_mem _ hx)⟩
   have hj:=zoJ hg (hl j (by simp))
   have hx:=zdz (j+1) h
   unfold znC at hj
   simp only[Bool.and_eq_true,decide_eq_true_eq,Bool.not_eq_true',decide_eq_false_iff_not]at hj
   have hw:=(ziR.1 hx).2.2.1
   exact(zf7 (zf9 (i:=1) hw (by omega))).2 hj.2
 exact this _ fun j hj=>List.mem_range.1 hj
theorem znM {E:PE}{f f':zab}(h:Aeq E f f'):Aeq E (zbF f) (zbF f'):=by
 have ho:=zx4 h
 by_cases ht:okE f=true
 ·have hk:=(zko ht).1
  have hp:=zmh h hk
  have hl:=zjz hp
  have hm:zcM f=zcM f':=by
   unfold zcM
   rw[ho,hl,zlU hp]
  unfold zbF
  rw[←hm,←hl]
  by_cases hmt:zcM f=true
  ·rw[if_pos hmt,if_pos hmt,Aeq,if_neg (by decide)]
   have hh:=zdz 0 hp
   have hh2:=ziR.1 hh
   refine⟨rfl,fun _=>hh2.2.1 ?_,zqZ hp ?_,by rw[zcg];trivial⟩
   ·rw[show((zce f).getD 0 zoz).kind=2 from(zko ht).2];decide
   ·unfold zcM at hmt
    simp only[Bool.and_eq_true]at hmt
    exact hmt.2
  ·rw[if_neg hmt,if_neg hmt];exact h
 ·have h1:¬zcM f=true:=fun hm=>ht (zeQ hm)
  have h2:¬zcM f'=true:=fun hm=>ht (by rw[ho];exact zeQ hm)
  unfold zbF
  rw[if_neg h1,if_neg h2];exact h
mutual
theorem zhF {by':zab→zab}(hb:∀E f f',Aeq E f f'→Aeq E (by' f) (by' f')):∀(f f':zab) (E:PE),Aeq E f f'→Aeq E (zay by' f) (zay by' f')
 | .mk k nm ws s,.mk k' nm' ws' s',E,h=>by
  rw[Aeq]at h
  rw[zay,zay]
  refine hb _ _ _ ?_
  rw[Aeq]
  exact⟨h.1,h.2.1,h.2.2.1,zgH hb s s' _ h.2.2.2⟩
theorem zgH {by':zab→zab}(hb:∀E f f',Aeq E f f'→Aeq E (by' f) (by' f')):∀(f f':List zab) (E:PE),zcg E f f'→zcg E (zan by' f) (zan by' f')
 |[],[],E,_=>by rw[zan,zcg];trivial
 |f::fs,f'::fs',E,h=>by
  rw[zcg]at h
  rw[zan,zan,zcg]
  exact⟨zhF hb f f' E h.1,zgH hb fs fs' E h.2⟩
 |[],_::_,_,h=>by rw[zcg]at h;exact h.elim
 |_::_,[],_,h=>by rw[zcg]at h;exact h.elim
end
mutual
theorem zfB {by':zab→zab}(hb:∀f,(by' f).depth≤f.depth):∀f:zab,(zay by' f).depth≤f.depth
 | .mk k nm ws s=>by
  rw[zay]
  refine Nat.le_trans (hb _) ?_
  rw[zab.depth,zab.depth]
  have:=ze1 hb s
  omega
theorem ze1 {by':zab→zab}(hb:∀f,(by' f).depth≤f.depth):∀fs:List zab,zab.depths (zan by' fs)≤zab.depths fs
 |[]=>by rw[zan];exact Nat.le_refl _
 |f::fs=>by
  rw[zan,zab.depths,zab.depths]
  have h1:=zfB hb f
  have h2:=ze1 hb fs
  omega
end
theorem zrX (f:zab):1≤f.depth:=by cases f;rw[zab.depth];omega
theorem zkl (f:zab):(zbF f).depth≤f.depth:=by
 unfold zbF
 split
 ·have:=zrX f;simp only[zab.depth,zab.depths];omega
 ·exact Nat.le_refl _
mutual
theorem zmt (g:Nat→Str×Nat):∀(f:zab) (env:List za8) (n:Nat),(ren g f env n).1.depth=f.depth
 | .mk k nm ws s,env,n=>by
  rw[ren]
  split
  ·rw[zab.depth,zab.depth,zgo g s]
  ·rw[zab.depth,zab.depth,zgo g s]
theorem zgo (g:Nat→Str×Nat):∀(fs:List zab) (env:List za8) (n:Nat),zab.depths (za5 g fs env n).1=zab.depths fs
 |[],env,n=>by rw[za5]
 |f::fs,env,n=>by rw[za5,zab.depths,zab.depths,zmt g f,zgo g fs]
end
theorem zgF (f:zab)(env:List za8):(zat f env).depth=f.depth:=zmt _ f env 0
theorem znf (f:zab)(env:List za8):zhT (zat f env)=zhT f:=by unfold zhT;rw[zc4,zgF]
def zvi (op:Bool)(f:zab):Prop:=(f.subs.length:Int)=zbe op f∧zdf f=true∧(named f=true→¬isQ f.kind→zaq f.name=true)∧(named f=false→f.name=⟨[]⟩)
mutual
def shp (op:Bool):zab→Prop
 | .mk k nm w s=>zvi op (.mk k nm w s)∧zdy op s
def zdy (op:Bool):List zab→Prop
 |[]=>True
 |f::fs=>shp op f∧zdy op fs
end
theorem zvh {op:Bool}{f:zab}{d:Int}{n:Nat}(hs:zvi op f)(hn:n+1≤200)(hd:d≤40)(hw:∀w∈f.words,zaq w=true)(hq:isQ f.kind→zaq f.name=true):zeb op f d n=0:=by
 obtain⟨h1,h2,h3,h4⟩:=hs
 unfold zeb
 rw[if_neg (by omega),if_neg (by omega),if_neg (by rw[Decidable.not_not];exact⟨h1,h2⟩),if_neg,if_neg,if_neg]
 ·rw[show f.words.all zaq=true from List.all_eq_true.2 hw];simp
 ·rintro⟨h5,h6⟩;exact h6 (h4 h5)
 ·rintro⟨h5,h6⟩
  by_cases hk:isQ f.kind
  ·rw[hq hk]at h6;cases h6
  ·rw[h3 h5 hk]at h6;cases h6
mutual
theorem zwc {op:Bool}:∀(f:zab) (d:Int) (n:Nat),shp op f→zbu (fun w=>zaq w=true) f→n+f.size≤200→d+f.depth≤41→chk op f d n=(⟨0,0⟩,n+f.size)
 | .mk k nm ws s,d,n,hs,ha,hn,hd=>by
  rw[shp]at hs
  rw[zbu]at ha
  rw[zab.size]at hn ⊢
  rw[zab.depth]at hd
  have:=zvh (d:=d) (n:=n) hs.1 (by omega) (by omega) ha.1 ha.2.1
  rw[chk,if_neg (by simp[this]),zrN s (d+1) (n+1) hs.2 ha.2.2 (by omega) (by omega)]
  rw[show n+1+zab.sizes s=n+(zab.sizes s+1) by omega]
theorem zrN {op:Bool}:∀(fs:List zab) (d:Int) (n:Nat),zdy op fs→zaL (fun w=>zaq w=true) fs→n+zab.sizes fs≤200→d+zab.depths fs≤41→zea op fs d n=(⟨0,0⟩,n+zab.sizes fs)
 |[],d,n,_,_,_,_=>by rw[zea,zab.sizes];rfl
 |f::fs,d,n,hs,ha,hn,hd=>by
  rw[zdy]at hs
  rw[zaL]at ha
  rw[zab.sizes]at hn ⊢
  rw[zab.depths]at hd
  rw[zea,zwc f d n hs.1 ha.1 (by omega) (by omega),if_neg (by simp),zrN fs d _ hs.2 ha.2 (by omega) (by omega)]
  rw[Nat.add_assoc]
end
theorem zrJ {op:Bool}{f:zab}(hs:shp op f)(ha:zbu (fun w=>zaq w=true) f)(hf:zhT f=true):zaX op f=⟨0,0⟩:=by
 unfold zhT at hf
 have hf:=of_decide_eq_true hf
 unfold zaX
 rw[zwc f 1 0 hs ha (by omega) (by omega)]
mutual
theorem znj {op:Bool}:∀(f:zab) (d:Int) (n:Nat),(chk op f d n).1.code=0→shp op f∧d+f.depth≤41
 | .mk k nm w s,d,n,h=>by
  rw[chk]at h
  split at h
  ·rename_i h1;exact absurd h h1
  ·rename_i h1
   have h1:=Decidable.not_not.1 h1
   have h2:=zb9 h1
   have h3:=zos s _ _ h
   have hd:d≤40:=by
    unfold zeb at h1
    split at h1
    ·simp at h1
    ·omega
   rw[shp,zab.depth]
   exact⟨⟨⟨h2.2.2.2.2,h2.2.2.2.1,fun hn _=>h2.2.1 hn,h2.2.2.1⟩,h3.1⟩,by have:=h3.2;omega⟩
theorem zos {op:Bool}:∀(fs:List zab) (d:Int) (n:Nat),(zea op fs d n).1.code=0→zdy op fs∧(zab.depths fs=0∨d+zab.depths fs≤41)
 |[],d,n,_=>by rw[zdy,zab.depths];exact⟨trivial,.inl rfl⟩
 |f::fs,d,n,h=>by
  rw[zea]at h
  split at h
  ·rename_i h1;exact absurd h h1
  ·rename_i h1
   have h2:=znj f d n (Decidable.not_not.1 h1)
   have h3:=zos fs d _ h
   rw[zdy,zab.depths]
   exact⟨⟨h2.1,h3.1⟩,.inr (by have:=h2.2;rcases h3.2 with h|h<;>omega)⟩
end
theorem zeO {op:Bool}{f:zab}(h:(zaX op f).code=0):shp op f:=(znj f 1 0 h).1
theorem zlg {op:Bool}{f:zab}(h:(zaX op f).code=0):zhT f=true:=by
 have h1:=(znj f 1 0 h).2
 have h2:=zbo h
 unfold zhT
 exact decide_eq_true ⟨h2,by omega⟩
theorem zib {op:Bool}{k:Int}{nm nm':Str}{w w':List Str}{s s':List zab}(h:zvi op (.mk k nm w s))(hl:w'.length=w.length)(hs:s'.length=s.length)(hn:¬isQ k→nm'=nm)(_hq:isQ k→True):zvi op (.mk k nm' w' s'):=by
 obtain⟨h1,h2,h3,h4⟩:=h
 refine⟨?_,?_,fun h5 h6=>?_,fun h5=>?_⟩
 ·simp only[zaR]at h1 ⊢
  rw[hs,h1];rfl
 ·have:zdf (.mk k nm' w' s')=zdf (.mk k nm w s):=by
   show(if k=2 then decide (w'.length≤3)else if k=3 then decide (w'.length=2)else decide (w'.length=0))=_
   rw[hl];rfl
  rw[this];exact h2
 ·simp only[zae,zbg]at h6 h3 ⊢
  rw[hn h6];exact h3 h5 h6
 ·have h6:=h4 h5
  simp only[zbg]at h6 ⊢
  have:¬isQ k:=by
   intro hq
   have:named (.mk k nm' w' s')=true:=by
    unfold named
    refine decide_eq_true ?_
    simp only[zae]
    rcases hq with e|e<;>omega
   rw[h5]at this;cases this
  rw[hn this];exact h6
mutual
theorem zkw {op:Bool}(g:Nat→Str×Nat):∀(f:zab) (env:List za8) (n:Nat),shp op f→shp op (ren g f env n).1
 | .mk k nm ws s,env,n,h=>by
  rw[shp]at h
  rw[ren]
  split
  ·rename_i hq
   rw[shp]
   exact⟨zib h.1 (List.length_map _) (zcB g _ s _) (fun h=>absurd hq h) fun _=>trivial,zkB g s _ _ h.2⟩
  ·rw[shp]
   exact⟨zib h.1 (List.length_map _) (zcB g _ s _) (fun _=>rfl) fun _=>trivial,zkB g s _ _ h.2⟩
theorem zkB {op:Bool}(g:Nat→Str×Nat):∀(fs:List zab) (env:List za8) (n:Nat),zdy op fs→zdy op (za5 g fs env n).1
 |[],env,n,_=>by rw[za5,zdy];trivial
 |f::fs,env,n,h=>by
  rw[zdy]at h
  rw[za5,zdy]
  exact⟨zkw g f _ _ h.1,zkB g fs _ _ h.2⟩
end
theorem zdU {n:Nat}(h:n<10):zbm n=[UInt8.ofNat (48+n)]:=by unfold zbm;rw[Lib.decDigits,dif_pos h]
theorem zrZ:∀(k u:Nat),u<10^(k+1)→(zbm u).length≤k+1∧∀c∈zbm u,48≤c.toNat∧c.toNat≤57:=by
 intro k
 induction k with
 |zero=>
  intro u h
  rw[zdU (by omega)]
  refine⟨by simp,fun c hc=>?_⟩
  rw[List.mem_singleton.1 hc,UInt8.toNat_ofNat',Nat.mod_eq_of_lt (by omega)];omega
 |succ k ih=>
  intro u h
  rcases Nat.lt_or_ge u 10 with h1|h1
  ·rw[zdU h1]
   refine⟨by simp,fun c hc=>?_⟩
   rw[List.mem_singleton.1 hc,UInt8.toNat_ofNat',Nat.mod_eq_of_lt (by omega)];omega
  ·have h2:=ih (u / 10) (by rw[Nat.pow_succ]at h;omega)
   have e:zbm u=zbm (u / 10)++[UInt8.ofNat (48+u % 10)]:=by
    unfold zbm
    rw[Lib.decDigits,dif_neg (by omega)]
   rw[e,List.length_append,List.length_singleton]
   refine⟨by omega,fun c hc=>?_⟩
   rcases List.mem_append.1 hc with hc|hc
   ·exact h2.2 c hc
   ·rw[List.mem_singleton.1 hc,UInt8.toNat_ofNat',Nat.mod_eq_of_lt (by omega)];omega
theorem zmT {j:Nat}(h:j<10^20):zaq (zeW j)=true:=by
 have h1:=zrZ 19 j h
 refine zmc ?_ ?_ ?_ fun i hi=>?_
 ·simp[zeW]
 ·simp only[zeW,List.length_cons];omega
 ·simp[zeW,zkj]
 ·simp only[zeW,List.length_cons]at hi ⊢
  cases i with
  |zero=>show okc (118:UInt8);decide
  |succ i=>
   rw[List.getD_cons_succ]
   have hm:(zbm j).getD i 0∈zbm j:=by
    rw[List.getD_eq_getElem?_getD,List.getElem?_eq_getElem (by omega)]
    exact List.getElem_mem _
   have:=h1.2 _ hm
   exact .inr (.inl ⟨by omega,by omega⟩)
mutual
theorem zmv {used:List Str}{B:Nat}{p:Str→Prop}(hv:∀j,j<B→p (zeW j)):∀(f:zab) (env:List za8) (bd:List Str) (n:Nat),n+(used.length+1)*f.size≤B→(∀w∈bd,p (lkp env w))→(∀w,w∉bd→lkp env w=w)→(∀x∈cst f bd,p x)→zbu p (ren (vg used) f env n).1
 | .mk k nm ws s,env,bd,n,hn,h1,h2,hc=>by
  rw[zab.size,Nat.mul_add,Nat.mul_one]at hn
  rw[cst]at hc
  have hw:∀w∈ws.map (lkp env),p w:=fun w hw=>by
   obtain⟨x,hx,rfl⟩:=List.mem_map.1 hw
   by_cases hb:x∈bd
   ·exact h1 x hb
   ·rw[h2 x hb]
    exact hc x (List.mem_append_left _ (List.mem_filter.2 ⟨hx,by simpa using hb⟩))
  have hg:=zba used n
  rw[ren]
  by_cases hq:isQ k
  ·rw[if_pos hq]at hc
   have hvn:p (zeW (zb8 used n)):=hv _ (by omega)
   rw[if_pos hq,zbu]
   refine⟨hw,fun _=>hvn,zgp hv s _ (bd++[nm]) _ ?_ (fun w hw2=>?_) (fun w hw2=>?_) fun x hx=>hc x (List.mem_append_right _ hx)⟩
   ·show zb8 used n+1+_≤B
    omega
   ·rw[zcj]
    by_cases e:nm=w
    ·rw[if_pos e];exact hvn
    ·rw[if_neg e]
     rcases List.mem_append.1 hw2 with h|h
     ·exact h1 w h
     ·exact absurd (List.mem_singleton.1 h).symm e
   ·rw[zcj,if_neg (fun e=>hw2 (List.mem_append_right _ (List.mem_singleton.2 e.symm)))]
    exact h2 w fun h=>hw2 (List.mem_append_left _ h)
  ·rw[if_neg hq]at hc
   rw[if_neg hq,zbu]
   exact⟨hw,fun h=>absurd h hq,zgp hv s _ bd _ (by omega) h1 h2 fun x hx=>hc x (List.mem_append_right _ hx)⟩
theorem zgp {used:List Str}{B:Nat}{p:Str→Prop}(hv:∀j,j<B→p (zeW j)):∀(fs:List zab) (env:List za8) (bd:List Str) (n:Nat),n+(used.length+1)*zab.sizes fs≤B→(∀w∈bd,p (lkp env w))→(∀w,w∉bd→lkp env w=w)→(∀x∈zbR fs bd,p x)→zaL p (za5 (vg used) fs env n).1
 |[],env,bd,n,_,_,_,_=>by rw[za5,zaL];trivial
 |f::fs,env,bd,n,hn,h1,h2,hc=>by
  rw[zab.sizes,Nat.mul_add]at hn
  rw[zbR]at hc
  rw[za5,zaL]
  have:=((zmu (zqX used)).1 f env n).2
  exact⟨zmv hv f env bd n (by omega) h1 h2 fun x hx=>hc x (List.mem_append_left _ hx),zgp hv fs env bd _ (by omega) h1 h2 fun x hx=>hc x (List.mem_append_right _ hx)⟩
end
mutual
theorem zge:∀(f:zab) (bd:List Str),f.fit=true→(cst f bd).length≤1000*f.size
 | .mk k nm ws s,bd,h=>by
  rw[zab.fit]at h
  simp only[Bool.and_eq_true,decide_eq_true_eq]at h
  rw[cst,List.length_append,zab.size]
  have h1:=List.length_filter_le (fun w=>decide (w∉bd)) ws
  have h2:=zox s (if isQ k then bd++[nm]else bd) h.2
  omega
theorem zox:∀(fs:List zab) (bd:List Str),zab.fits fs=true→(zbR fs bd).length≤1000*zab.sizes fs
 |[],bd,_=>by rw[zbR];simp
 |f::fs,bd,h=>by
  rw[zab.fits,Bool.and_eq_true]at h
  rw[zbR,List.length_append,zab.sizes]
  have h1:=zge f bd h.1
  have h2:=zox fs bd h.2
  omega
end
theorem zhD {f:zab}(hf:f.fit=true)(hs:f.size≤200)(hc:∀x∈cst f [],zaq x=true):zbu (fun w=>zaq w=true) (zat f []):=by
 have h1:=zge f [] hf
 have h2:=ziA f
 refine zmv (B:=10^20) (fun j hj=>zmT hj) f [] [] 0 ?_ (by simp) (fun w _=>zfh w) hc
 show 0+((zbX f).length+1)*f.size≤10^20
 have h3:((zbX f).length+1)*f.size≤200001*200:=Nat.mul_le_mul (by omega) hs
 omega
theorem zon {op:Bool}{f:zab}(hs:shp op f)(hf:f.fit=true)(hl:zhT f=true)(hc:∀x∈cst f [],zaq x=true):zaX op (zat f [])=⟨0,0⟩:=by
 have h1:=of_decide_eq_true (show decide (f.size≤200∧f.depth≤40)=true from hl)
 exact zrJ (zkw _ f [] 0 hs) (zhD hf h1.1 hc) (by rw[znf];exact hl)
theorem zng {op:Bool}{f:zab}(h:(zaX op f).code=0):zaX op (zat f [])=⟨0,0⟩:=
 zon (zeO h) (zcZ h) (zlg h) fun x hx=>zhe f [] x (zdR h) hx
mutual
def zkm:zab→Bool
 | .mk k nm ws s=>okE (.mk k nm ws s)||zhj s
def zhj:List zab→Bool
 |[]=>false
 |f::fs=>zkm f||zhj fs
end
theorem zjf:∀(l:List zab) (f:zab),(∀g∈l,g.kind≠5)→zfQ (l.foldl (fun a x=>zab.mk 5 ⟨[]⟩ [] [a,x]) f)=zfQ f++l
 |[],f,_=>by simp
 |x::l,f,h=>by
  rw[List.foldl_cons,zjf l _ fun g hg=>h g (List.mem_cons_of_mem _ hg),zsE (a:=f) (b:=x) rfl rfl]
  simp
theorem zhH {by':zab→zab}(hb:∀f,f.kind≠9→by' f=f):∀(l:List zab) (f:zab),(∀g∈l,zay by' g=g)→zay by' f=f→zay by' (l.foldl (fun a x=>zab.mk 5 ⟨[]⟩ [] [a,x]) f)=l.foldl (fun a x=>zab.mk 5 ⟨[]⟩ [] [a,x]) f
 |[],f,_,h=>h
 |x::l,f,h,hf=>by
  rw[List.foldl_cons]
  refine zhH hb l _ (fun g hg=>h g (List.mem_cons_of_mem _ hg)) ?_
  rw[zay,zan,zan,zan,hf,h x (by simp),hb (.mk 5 ⟨[]⟩ [] [f,x]) (show(5:Int)≠9 by decide)]
theorem zfT {f:zab}(h:f.kind≠9):zbF f=f:=by
 unfold zbF
 rw[if_neg]
 intro hm
 exact h (zko (zeQ hm)).1
theorem zqB {α:Type}(l:List α)(d:α):(List.range l.length).map (fun i=>l.getD i d)=l:=by
 refine List.ext_getElem (by simp) fun i h1 h2=>?_
 simp only[List.getElem_map,List.getElem_range]
 rw[List.getD_eq_getElem?_getD,List.getElem?_eq_getElem h2];rfl
theorem znN {v nm:Str}{ws:List Str}(h1:0<ws.length)(h3:ws.length≤3)(hv:∀w∈ws,w≠v):zay zbF (zcR v nm ws)= .mk 2 nm ws []:=by
 obtain⟨l,hl⟩:∃l,((List.range ws.length).map fun i=>zab.mk 2 (zrA i) [v,ws.getD i ⟨[]⟩] [])=l:=⟨_,rfl⟩
 have hll:l.length=ws.length:=by rw[←hl];simp
 have hat:∀i,i<ws.length→l.getD i zoz= .mk 2 (zrA i) [v,ws.getD i ⟨[]⟩] []:=fun i hi=>by
  rw[←hl,List.getD_eq_getElem?_getD,List.getElem?_map,List.getElem?_range hi];rfl
 have hmem:∀g∈l,g.kind=2∧g.subs=[]:=fun g hg=>by
  rw[←hl]at hg
  obtain⟨i,_,rfl⟩:=List.mem_map.1 hg
  exact⟨rfl,rfl⟩
 have hid:∀g:zab,g.kind=2→g.subs=[]→zay zbF g=g:=fun g hk hs=>by
  rw[zpC,hs,List.map_nil,zfT (by simp only[zae];omega)]
  cases g;simp only[zaR]at hs;subst hs;rfl
 unfold zcR
 rw[hl]
 have hj:zay zbF (zdY 5 (.mk 2 nm [v] []::l))=zdY 5 (.mk 2 nm [v] []::l):=
  zhH (fun f h=>zfT h) l _ (fun g hg=>hid g (hmem g hg).1 (hmem g hg).2) (hid _ rfl rfl)
 rw[zay,zan,zan,hj]
 have hp:zce (.mk 9 v [] [zdY 5 (.mk 2 nm [v] []::l)])= .mk 2 nm [v] []::l:=by
  unfold zce
  show zfQ (zdY 5 (.mk 2 nm [v] []::l))=_
  have:=zjf l (.mk 2 nm [v] []) fun g hg=>by rw[(hmem g hg).1];decide
  rw[zsF (f:= .mk 2 nm [v] []) (fun h=>absurd h.1 (show¬(2:Int)=5 by decide))]at this
  exact this
 have hh:zg8 (.mk 9 v [] [zdY 5 (.mk 2 nm [v] []::l)])= .mk 2 nm [v] []:=by unfold zg8;rw[hp];rfl
 have hok:okE (.mk 9 v [] [zdY 5 (.mk 2 nm [v] []::l)])=true:=by
  unfold okE;rw[hh];simp[zae,zbJ,zbg]
 have hgd:∀n,n≤ws.length→zfO (.mk 9 v [] [zdY 5 (.mk 2 nm [v] []::l)]) n=true:=by
  intro n
  induction n with
  |zero=>intro _;rw[zfO]
  |succ n ih=>
   intro hn
   rw[zfO,ih (by omega),hp,List.getD_cons_succ,hat n (by omega)]
   have:=hv _ (zj9 (ws:=ws) (i:=n) (by omega))
   simp only[znC,zae,zbJ,zbg,List.getD_cons_zero,List.getD_cons_succ,List.length_cons,List.length_nil,decide_eq_false this]
   simp
 have hwn:zjx (.mk 9 v [] [zdY 5 (.mk 2 nm [v] []::l)]) ws.length=ws:=by
  unfold zjx
  rw[hp]
  conv=>rhs;rw[←zqB ws ⟨[]⟩]
  refine List.map_congr_left fun j hj=>?_
  rw[List.getD_cons_succ,hat j (List.mem_range.1 hj)]
  rfl
 unfold zbF
 have hm:zcM (.mk 9 v [] [zdY 5 (.mk 2 nm [v] []::l)])=true:=by
  unfold zcM
  rw[hok,hp,List.length_cons,hll]
  simp only[Nat.add_sub_cancel,hgd ws.length (Nat.le_refl _)]
  simp only[Bool.true_and,Bool.and_true,Bool.and_eq_true,decide_eq_true_eq]
  omega
 rw[if_pos hm,hh,hp,List.length_cons,hll,Nat.add_sub_cancel,hwn]
 rfl
mutual
theorem zio {v:Str}{ps:List Str}:∀f:zab,shp false f→zbu (fun w=>w≠v) f→zkm f=false→zay zbF (zay (za7 v ps) f)=f
 | .mk k nm ws s,hs,ha,hm=>by
  rw[shp]at hs
  rw[zbu]at ha
  rw[zkm,Bool.or_eq_false_iff]at hm
  rw[zay,zcv]
  split
  ·rename_i hc
   obtain⟨rfl,h0,_⟩:=hc
   have h3:ws.length≤3:=by
    have:=hs.1.2.1
    rw[show zdf (.mk 2 nm ws s)=decide (ws.length≤3)from rfl]at this
    exact of_decide_eq_true this
   have h4:s=[]:=by
    have:=hs.1.1
    rw[show zbe false (.mk 2 nm ws s)=0 from rfl]at this
    simp only[zaR]at this
    exact List.eq_nil_of_length_eq_zero (by omega)
   subst h4
   exact znN h0 h3 ha.1
  ·rw[zay,zgQ s hs.2 ha.2.2 hm.2]
   unfold zbF
   rw[if_neg]
   intro h
   rw[zeQ h]at hm
   exact absurd hm.1 (by decide)
theorem zgQ {v:Str}{ps:List Str}:∀fs:List zab,zdy false fs→zaL (fun w=>w≠v) fs→zhj fs=false→zan zbF (zan (za7 v ps) fs)=fs
 |[],_,_,_=>by rw[zan,zan]
 |f::fs,hs,ha,hm=>by
  rw[zdy]at hs
  rw[zaL]at ha
  rw[zhj,Bool.or_eq_false_iff]at hm
  rw[zan,zan,zio f hs.1 ha.1 hm.1,zgQ fs hs.2 ha.2 hm.2]
end
theorem zoN {op:Bool}:∀(l:List zab) (f:zab),zdy op l→shp op f→shp op (l.foldl (fun a x=>zab.mk 5 ⟨[]⟩ [] [a,x]) f)
 |[],f,_,h=>h
 |x::l,f,hl,h=>by
  rw[zdy]at hl
  rw[List.foldl_cons]
  refine zoN l _ hl.2 ?_
  rw[shp,zdy,zdy,zdy]
  refine⟨⟨rfl,rfl,fun h2=>absurd (show false=true from h2) (by decide),fun _=>rfl⟩,h,hl.1,trivial⟩
theorem zkJ {op:Bool}:∀l:List zab,zdy op l↔∀f∈l,shp op f
 |[]=>by rw[zdy];simp
 |f::l=>by rw[zdy,zkJ l];simp
theorem zrB {i:Nat}(h:i<3):zaq (zrA i)=true:=by
 have:i=0∨i=1∨i=2:=by omega
 unfold zrA
 rw[zdU (by omega)]
 rcases this with rfl|rfl|rfl<;>decide
theorem zqP {v nm:Str}{ws:List Str}(hn:zaq nm=true)(h3:ws.length≤3):shp false (zcR v nm ws):=by
 unfold zcR
 rw[shp,zdy,zdy]
 refine⟨⟨rfl,rfl,fun _ h=>absurd (.inr rfl) h,fun h=>?_⟩,zoN _ _ ((zkJ _).2 fun g hg=>?_) ?_,trivial⟩
 ·exact absurd h (by simp[named,zae])
 ·obtain⟨i,hi,rfl⟩:=List.mem_map.1 hg
  have hi:=List.mem_range.1 hi
  rw[shp,zdy]
  refine⟨⟨rfl,rfl,fun _ _=>zrB (by omega),fun h=>?_⟩,trivial⟩
  exact absurd h (by simp[named,zae])
 ·rw[shp,zdy]
  refine⟨⟨rfl,rfl,fun _ _=>hn,fun h=>?_⟩,trivial⟩
  exact absurd h (by simp[named,zae])
mutual
theorem zmH {v:Str}{ps:List Str}:∀f:zab,shp false f→shp false (zay (za7 v ps) f)
 | .mk k nm ws s,h=>by
  rw[shp]at h
  rw[zay,zcv]
  split
  ·rename_i hc
   obtain⟨rfl,h0,_⟩:=hc
   have h3:ws.length≤3:=by
    have:=h.1.2.1
    rw[show zdf (.mk 2 nm ws s)=decide (ws.length≤3)from rfl]at this
    exact of_decide_eq_true this
   exact zqP (h.1.2.2.1 rfl (by simp[isQ,zae])) h3
  ·rw[shp]
   exact⟨zib h.1 rfl (by rw[zbl,List.length_map]) (fun _=>rfl) fun _=>trivial,zjq s h.2⟩
theorem zjq {v:Str}{ps:List Str}:∀fs:List zab,zdy false fs→zdy false (zan (za7 v ps) fs)
 |[],_=>by rw[zan,zdy];trivial
 |f::fs,h=>by
  rw[zdy]at h
  rw[zan,zdy]
  exact⟨zmH f h.1,zjq fs h.2⟩
end
mutual
theorem zip (ps:List Str):∀f:zab,zbu (fun w=>zaq w=true) f→zbu (fun w=>zaq w=true∨w=qM) (zay (za7 qM ps) f)
 | .mk k nm ws s,h=>by
  rw[zbu]at h
  rw[zay,zcv]
  split
  ·unfold zcR
   rw[zbu,zaL,zaL]
   refine⟨by simp,fun _=> .inr rfl,zjd _ 5 (by decide) ((zfz _ _).2 fun g hg=>?_),trivial⟩
   rcases List.mem_cons.1 hg with rfl|hg
   ·rw[zbu,zaL]
    exact⟨fun w hw=> .inr (List.mem_singleton.1 hw),fun e=>absurd e (by decide),trivial⟩
   ·obtain⟨i,hi,rfl⟩:=List.mem_map.1 hg
    rw[zbu,zaL]
    refine⟨fun w hw=>?_,fun e=>absurd e (by decide),trivial⟩
    simp only[List.mem_cons,List.not_mem_nil,or_false]at hw
    rcases hw with rfl|rfl
    ·exact .inr rfl
    ·exact .inl (h.1 _ (zj9 (List.mem_range.1 hi)))
  ·rw[zbu]
   exact⟨fun w hw=> .inl (h.1 w hw),fun hq=> .inl (h.2.1 hq),zgR ps s h.2.2⟩
theorem zgR (ps:List Str):∀fs:List zab,zaL (fun w=>zaq w=true) fs→zaL (fun w=>zaq w=true∨w=qM) (zan (za7 qM ps) fs)
 |[],_=>by rw[zan,zaL];trivial
 |f::fs,h=>by
  rw[zaL]at h
  rw[zan,zaL]
  exact⟨zip ps f h.1,zgR ps fs h.2⟩
end
theorem zHk {f:zab}{ps:List Str}(h:(zaX false f).code=0)(hf:zhT (zay (za7 qM ps) f)=true)(hm:zkm f=false):
  zaX false (zat (zay (za7 qM ps) f) [])=⟨0,0⟩∧zhT (zay zbF (zat (zay (za7 qM ps) f) []))=true∧zat (zay zbF (zat (zay (za7 qM ps) f) [])) []=zat f []:=by
 have hn:=zdR h
 have hs:=zeO h
 refine⟨zon (zmH f hs) (zhG (fun f h=>znX h) f (zcZ h)) hf fun x hx=>?_,?_,?_⟩
 ·rcases zhe _ _ x (zip ps f hn) hx with h1|h1
  ·exact h1
  ·exact absurd h1 (zjo ps f [] x hn hx)
 ·have h1:=of_decide_eq_true (show decide ((zay (za7 qM ps) f).size≤200∧(zay (za7 qM ps) f).depth≤40)=true from hf)
  have h2:=zgG (c:=0) (fun f=>zma f) (zat (zay (za7 qM ps) f) [])
  have h3:=zfB (fun f=>zkl f) (zat (zay (za7 qM ps) f) [])
  rw[zc4]at h2
  rw[zgF]at h3
  unfold zhT
  exact decide_eq_true ⟨by omega,by omega⟩
 ·have h1:=zhF (fun E f f' h=>znM h) _ _ [] (zlc (zay (za7 qM ps) f))
  rw[zio f hs (zk9 (fun w hw e=>by rw[e]at hw;exact absurd hw (by decide)) f hn) hm]at h1
  exact(zru h1).symm
end Go.Abs
namespace Go.Abs
open Go
theorem zDv {l:List Bool}{i:Nat}(h:i<l.length):l.getD i false=l[i]:=by
 rw[List.getD_eq_getElem?_getD,List.getElem?_eq_getElem h];rfl
structure ztT (s:zao)(used:List Bool)(l:List Nat):Prop where
 len:used.length=nP s
 nod:l.Nodup
 lt:∀x∈l,x<nP s
 mem:∀i,i<nP s→(used.getD i false=true↔i∈l)
section
variable {s:zao} {used:List Bool} {l:List Nat}
theorem zsu:ztT s (List.replicate (nP s) false) [] where
 len:=List.length_replicate ..
 nod:=List.nodup_nil
 lt:=fun x hx=>by cases hx
 mem:=fun i hi=>by
  rw[List.getD_eq_getElem?_getD,List.getElem?_replicate]
  simp[hi]
theorem ztT.step (h:ztT s used l){i:Nat}(hi:i<nP s)(hu:used.getD i false=false):ztT s (used.set i true) (l++[i]) where
 len:=by rw[List.length_set];exact h.len
 nod:=by
  rw[List.nodup_append]
  refine⟨h.nod,by simp,fun a ha b hb=>?_⟩
  rw[List.mem_singleton]at hb
  subst hb
  rintro rfl
  have:=(h.mem a hi).2 ha
  rw[hu]at this;cases this
 lt:=fun x hx=>by
  rcases List.mem_append.1 hx with hx|hx
  ·exact h.lt x hx
  ·rw[List.mem_singleton]at hx;rw[hx];exact hi
 mem:=fun j hj=>by
  by_cases e:i=j
  ·subst e
   have:=zc9 (l:=used) (i:=i) (by rw[h.len];exact hi)
   exact⟨fun _=>by simp,fun _=>this⟩
  ·rw[znd e,h.mem j hj,List.mem_append,List.mem_singleton]
   exact⟨fun g=> .inl g,fun g=>g.resolve_right fun g2=>e g2.symm⟩
theorem ztT.ok (hs:zg9 s)(h:ztT s used l)(hl:l.length=(zbt s.pieces).length)(hn:(zbt s.pieces).length+1=nP s):okL s l:=⟨hs.hol,h.nod,hl,by rw[hl];exact hn,h.lt⟩
theorem ztT.top (h:ztT s used l)(hk:okL s l):false∈used∧used.idxOf false=zeG (nP s) l:=by
 obtain⟨t1,t2,t3⟩:=hk.t
 have hin:false∈used:=by
  cases hg:used.getD (zeG s.pieces.length l) false with
  |true=>exact absurd ((h.mem _ t1).1 hg) t2
  |false=>
   have hlt:zeG s.pieces.length l<used.length:=by rw[h.len];exact t1
   rw[zDv hlt]at hg
   rw[←hg];exact List.getElem_mem hlt
 refine⟨hin,?_⟩
 have hlt:=List.idxOf_lt_length_of_mem hin
 refine t3 _ (by rw[h.len]at hlt;exact hlt) fun hm=>?_
 have hlt2:used.idxOf false<nP s:=by rw[h.len]at hlt;exact hlt
 have h4:=(h.mem _ hlt2).2 hm
 rw[zDv hlt,List.getElem_idxOf]at h4
 cases h4
theorem zny {β:Type}{f:Nat→List β}{b:Nat}(h:∀i,(f i).length≤b):∀n,((List.range n).flatMap f).length≤n*b
 |0=>by simp
 |n+1=>by
  have h1:=zny h n
  have h2:=h n
  rw[List.range_succ,List.flatMap_append,List.length_append,Nat.add_mul,Nat.one_mul]
  have h3:([n].flatMap f).length=(f n).length:=by simp
  omega
theorem ziC:∀(r:Nat) (used:List Bool) (l:List Nat),(zd4 s r used l).length≤nP s^r
 |0,used,l=>by
  rw[zd4];split<;>simp
 |r+1,used,l=>by
  rw[zd4,Nat.pow_succ,Nat.mul_comm]
  refine zny (fun i=>?_) _
  split
  ·simp
  ·exact ziC r _ _
theorem zwC (hs:zg9 s)(h:okL s l):onP (zcN s l) s:=⟨by rw[show(zcN s l).pieces=zcn l from rfl,zh8];exact h,by rw[show(zcN s l).pieces=zcn l from rfl,zh8],hs⟩
theorem zfU:zaC (zcN s l).pieces=l:=zh8 l
theorem zjv (h:okL s l)(ht:zcX s l=true):zg7 (zcN s l) s (zbH s (zeG (nP s) l))=zcS s l:=by
 unfold zg7 zcS
 rw[zfU]
 exact(zoT h ht h.t.1).symm
theorem zde (hs:zg9 s)(h:okL s l)(ht:zcX s l=true):(zcS s l).size≤200:=Nat.le_trans (znR h ht h.t.1) hs.nod
theorem zvd {k:Nat}{l:List Nat}:((k:Nat):Int)∈zcn l↔k∈l:=by
  unfold zcn
  rw[List.mem_map]
  exact⟨fun⟨a,h1,h2⟩=>by have:a=k:=by omega
                         rw[←this];exact h1,fun h=>⟨k,h,rfl⟩⟩
theorem zvl (hs:zg9 s)(h:okL s l){o:zjC}(ho:o∈s.overs):decide (((zww s o.label:Nat):Int)∈zdk (zcN s l) s ((inP s l o.hole:Nat):Int))=zkr s l o:=by
 obtain⟨h1,h2⟩:=hs.ovs o ho
 have hb:zww s o.label<nP s:=by
  have:=List.idxOf_lt_length_of_mem h2
  unfold zaS at this
  rw[List.length_map]at this
  exact this
 have h3:=zpA h (a:=inP s l o.hole) (b:=zww s o.label) (zqm h h1) hb
 unfold zkr zdk
 rw[zfU,Int.toNat_natCast]
 rw[Bool.eq_iff_iff,decide_eq_true_eq,zvd]
 exact h3
end
section
variable {s:zao} {l:List Nat}
theorem zse (hs:zg9 s)(i:Nat):(zbH s i).fit=true:=by
 unfold zbH
 cases h:s.pieces[i]? with
 |none=>rfl
 |some p=>exact zcZ (hs.chk p (List.mem_of_getElem? h))
theorem zdJ (hs:zg9 s):∀(f i:Nat),(zb2 s l f i).fit=true
 |0,i=>rfl
 |f+1,i=>by
  rw[zb2]
  exact zjr _ _ (zse hs i) fun h _=>zdJ hs f _
theorem ztL (hs:zg9 s)(h:okL s l)(ht:zcX s l=true):(cst (zcS s l) []).length≤1000000:=by
 have h1:=zge (zcS s l) [] (zdJ hs _ _)
 have h2:=zde hs h ht
 have h3:1000*(zcS s l).size≤1000*200:=Nat.mul_le_mul_left _ h2
 omega
end
end Go.Abs
