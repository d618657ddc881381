import Derived.Test.YtkkffhphodngkaaGreatDoorTR
import Derived.Test.YtkkffhphodngkaaGreatDoorAE
set_option linter.unusedSimpArgs false
namespace Go.Abs
open Go
theorem zcy (m:zaB)(ev:List zaH)(nm:Str)(v:Int)(w:Str):za1 m (ev++[(⟨nm,v⟩:zaH)]) w=if nm=w then v else za1 m ev w:=by
 unfold za1
 rw[zjY]
 show(match(if nm=w then some v else zdH ev w)with|some v=>v|none=>ze2 m w)=_
 by_cases h:nm=w
 ·rw[if_pos h,if_pos h]
 ·rw[if_neg h,if_neg h];rfl
mutual
theorem zlp (m:zaB){used U:List Str}:∀(f:zab) (env:List za3) (bd:List Str) (n:Nat) (ev ev':List zaH),vok f→
  (∀w,w∈bd∨w∈U→za1 m ev w=za1 m ev' (lkp env w)∧(lkp env w∈used∨∃j,j<n∧lkp env w=zfB j))→(∀x∈cst f bd,x∈U)→zaT m (ren (vg used) f env n).1 ev'=zaT m f ev
 | .mk k nm ws s,env,bd,n,ev,ev',hv,he,hc=>by
  rw[vok]at hv
  rw[cst]at hc
  have hw1:∀w∈ws,za1 m ev w=za1 m ev' (lkp env w):=fun w hw=>by
   refine(he w ?_).1
   by_cases hb:w∈bd
   ·exact .inl hb
   ·exact .inr (hc w (List.mem_append_left _ (List.mem_filter.2 ⟨hw,by simpa using hb⟩)))
  have hw:(ws.map (lkp env)).map (za1 m ev')=ws.map (za1 m ev):=by
   rw[List.map_map]
   exact List.map_congr_left fun w hw=>(hw1 w hw).symm
  have hl:(ws.map (lkp env)).length=ws.length:=List.length_map _
  by_cases hq:isQ k
  ·have hs:∀v:Int,zbL m (zbb (vg used) s (env++[(⟨nm,(vg used n).1⟩:za3)]) (vg used n).2).1 (ev'++[(⟨(vg used n).1,v⟩:zaH)])=zbL m s (ev++[(⟨nm,v⟩:zaH)]):=fun v=>by
    obtain⟨a1,_,a3,_⟩:=zbj used n
    rw[if_pos hq]at hc
    refine zlu m s _ (bd++[nm]) _ _ _ hv.2.2.2.2.2.2 (fun w hw2=>?_) fun x hx=>hc x (List.mem_append_right _ hx)
    rw[zb7,zcy,zcy]
    have hvg:(vg used n).1=zfB (zcI used n):=rfl
    have hvg2:(vg used n).2=zcI used n+1:=rfl
    by_cases e:nm=w
    ·rw[if_pos e,if_pos e]
     exact⟨(if_pos rfl).symm,.inr ⟨zcI used n,by omega,hvg⟩⟩
    ·rw[if_neg e,if_neg e]
     have hw3:w∈bd∨w∈U:=by
      rcases hw2 with h|h
      ·rcases List.mem_append.1 h with h|h
       ·exact .inl h
       ·exact absurd (List.mem_singleton.1 h).symm e
      ·exact .inr h
     obtain⟨h1,h2⟩:=he w hw3
     refine⟨?_,?_⟩
     ·rw[if_neg (fun h=>?_)]
      ·exact h1
      ·rw[hvg]at h
       rcases h2 with h2|⟨j,hj,h2⟩
       ·exact a3 (by rw[h];exact h2)
       ·have:=zlO (h.trans h2);omega
     ·rcases h2 with h2|⟨j,hj,h2⟩
      ·exact .inl h2
      ·exact .inr ⟨j,by omega,h2⟩
   rw[ren,if_pos hq]
   rw[zaT,zaT]
   rcases hq with rfl|rfl<;>simp only[hs,reduceIte,show¬((8:Int)=1) by decide,show¬((8:Int)=2) by decide,show¬((8:Int)=3) by decide,show¬((8:Int)=4) by decide,show¬((8:Int)=5) by decide,show¬((8:Int)=6) by decide,show¬((8:Int)=7) by decide,
    show¬((9:Int)=1) by decide,show¬((9:Int)=2) by decide,show¬((9:Int)=3) by decide,show¬((9:Int)=4) by decide,show¬((9:Int)=5) by decide,show¬((9:Int)=6) by decide,show¬((9:Int)=7) by decide,show¬((9:Int)=8) by decide,if_false,if_true]
  ·rw[if_neg hq]at hc
   have hs:=zlu m s env bd n ev ev' hv.2.2.2.2.2.2 he fun x hx=>hc x (List.mem_append_right _ hx)
   have h8:¬k=8:=fun e=>hq (.inl e)
   have h9:¬k=9:=fun e=>hq (.inr e)
   rw[ren,if_neg hq]
   rw[zaT,zaT]
   simp only[hs,h8,h9,if_false,hw,hl]
   by_cases h3:k=3
   ·have h2:=hv.2.2.2.1 h3
    obtain⟨a,b,rfl⟩:∃a b,ws=[a,b]:=by
     match ws,h2 with
     |[a,b],_=>exact⟨a,b,rfl⟩
    subst h3
    have e0:=hw1 a (by simp)
    have e1:=hw1 b (by simp)
    simp only[List.map_cons,List.map_nil,List.getD_cons_zero,List.getD_cons_succ]
    rw[e0,e1]
   ·simp only[h3,if_false]
theorem zlu (m:zaB){used U:List Str}:∀(fs:List zab) (env:List za3) (bd:List Str) (n:Nat) (ev ev':List zaH),zhA fs→
  (∀w,w∈bd∨w∈U→za1 m ev w=za1 m ev' (lkp env w)∧(lkp env w∈used∨∃j,j<n∧lkp env w=zfB j))→(∀x∈zbC fs bd,x∈U)→zbL m (zbb (vg used) fs env n).1 ev'=zbL m fs ev
 |[],env,bd,n,ev,ev',hv,he,hc=>by rw[zbb,zbL,zbL]
 |f::fs,env,bd,n,ev,ev',hv,he,hc=>by
  rw[zhA]at hv
  rw[zbC]at hc
  rw[zbb]
  simp only
  rw[zbL,zbL,zlp m f env bd n ev ev' hv.1 he fun x hx=>hc x (List.mem_append_left _ hx),
   zlu m fs env bd _ ev ev' hv.2 (fun w hw=>?_) fun x hx=>hc x (List.mem_append_right _ hx)]
  obtain⟨h1,h2⟩:=he w hw
  refine⟨h1,?_⟩
  rcases h2 with h2|⟨j,hj,h2⟩
  ·exact .inl h2
  ·have:=((znC (zsE used)).1 f env n).1
   exact .inr ⟨j,by omega,h2⟩
end
theorem ztj {m:zaB}{f:zab}(hv:vok f):zaT m (zaD f []) []=zaT m f []:=by
 refine zlp m (U:=zaP f) f [] [] 0 [] [] hv (fun w hw=>?_) fun x hx=>(zbm f x).2 hx
 rw[zcS]
 rcases hw with h|h
 ·simp at h
 ·exact⟨rfl,.inl h⟩
mutual
theorem zwi:∀(f f':zab) (E:PE),Aeq E f f'→zco f=zco f'
 | .mk k nm ws s,.mk k' nm' ws' s',E,h=>by
  rw[Aeq]at h
  obtain⟨rfl,_,_,h4⟩:=h
  rw[zco,zco,zl3 s s' _ h4]
theorem zl3:∀(f f':List zab) (E:PE),zcB E f f'→zce f=zce f'
 |[],[],_,_=>rfl
 |f::fs,f'::fs',E,h=>by
  rw[zcB]at h
  rw[zce,zce,zwi f f' E h.1,zl3 fs fs' E h.2]
 |[],_::_,_,h=>by rw[zcB]at h;exact h.elim
 |_::_,[],_,h=>by rw[zcB]at h;exact h.elim
end
mutual
theorem zwh (m:zaB):∀(f f':zab) (E:PE),Aeq E f f'→zz3 m f=zz3 m f'
 | .mk k nm ws s,.mk k' nm' ws' s',E,h=>by
  rw[Aeq]at h
  obtain⟨rfl,h2,h3,h4⟩:=h
  rw[zz3,zz3,zl2 m s s' _ h4,zgG h3]
  by_cases hk:k=2
  ·rw[h2 (by rw[hk];decide)]
  ·simp[hk]
theorem zl2 (m:zaB):∀(f f':List zab) (E:PE),zcB E f f'→zk0 m f=zk0 m f'
 |[],[],_,_=>rfl
 |f::fs,f'::fs',E,h=>by
  rw[zcB]at h
  rw[zk0,zk0,zwh m f f' E h.1,zl2 m fs fs' E h.2]
 |[],_::_,_,h=>by rw[zcB]at h;exact h.elim
 |_::_,[],_,h=>by rw[zcB]at h;exact h.elim
end
end Go.Abs
