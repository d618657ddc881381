import Derived.Test.YtdlioodgfopmfaaGreatDoorTR
import Derived.Test.YtdlioodgfopmfaaGreatDoorAE
set_option linter.unusedSimpArgs false
namespace Go.Abs
open Go
theorem zkd (m:zdT)(ev:List zdg)(nm:Str)(v:Int)(w:Str):zgz m (ev++[(⟨nm,v⟩:zdg)]) w=if nm=w then v else zgz m ev w:=by
 unfold zgz
 rw[zqR]
 show(match(if nm=w then some v else zfO ev w)with|some v=>v|none=>zw9 m w)=_
 by_cases h:nm=w
 ·rw[if_pos h,if_pos h]
 ·rw[if_neg h,if_neg h];rfl
mutual
theorem zy5 (m:zdT){used U:List Str}:∀(f:zac) (env:List zaR) (bd:List Str) (n:Nat) (ev ev':List zdg),vok f→
  (∀w,w∈bd∨w∈U→zgz m ev w=zgz m ev' (lkp env w)∧(lkp env w∈used∨∃j,j<n∧lkp env w=zdR j))→(∀x∈cst f bd,x∈U)→zzq m (ren (vg used) f env n).1 ev'=zzq m f ev
 | .mk k nm ws s,env,bd,n,ev,ev',hv,he,hc=>by
  rw[vok]at hv
  rw[cst]at hc
  have hw1:∀w∈ws,zgz m ev w=zgz m ev' (lkp env w):=fun w hw=>by
   refine(he w ?_).1
   by_cases hb:w∈bd
   ·exact .inl hb
   ·exact .inr (hc w (List.mem_append_left _ (List.mem_filter.2 ⟨hw,by simpa using hb⟩)))
  have hw:(ws.map (lkp env)).map (zgz m ev')=ws.map (zgz m ev):=by
   rw[List.map_map]
   exact List.map_congr_left fun w hw=>(hw1 w hw).symm
  have hl:(ws.map (lkp env)).length=ws.length:=List.length_map _
  by_cases hq:isQ k
  ·have hs:∀v:Int,zeP m (za5 (vg used) s (env++[(⟨nm,(vg used n).1⟩:zaR)]) (vg used n).2).1 (ev'++[(⟨(vg used n).1,v⟩:zdg)])=zeP m s (ev++[(⟨nm,v⟩:zdg)]):=fun v=>by
    obtain⟨a1,_,a3,_⟩:=za4 used n
    rw[if_pos hq]at hc
    refine zlg m s _ (bd++[nm]) _ _ _ hv.2.2.2.2.2.2 (fun w hw2=>?_) fun x hx=>hc x (List.mem_append_right _ hx)
    rw[zcc,zkd,zkd]
    have hvg:(vg used n).1=zdR (zbR used n):=rfl
    have hvg2:(vg used n).2=zbR used n+1:=rfl
    by_cases e:nm=w
    ·rw[if_pos e,if_pos e]
     exact⟨(if_pos rfl).symm,.inr ⟨zbR used n,by omega,hvg⟩⟩
    ·rw[if_neg e,if_neg e]
     have hw3:w∈bd∨w∈U:=by
      rcases hw2 with h|h
      ·rcases List.mem_append.1 h with h|h
       ·exact .inl h
       ·exact absurd (List.mem_singleton.1 h).symm e
      ·exact .inr h
     obtain⟨h1,h2⟩:=he w hw3
     refine⟨?_,?_⟩
     ·rw[if_neg (fun h=>?_)]
      ·exact h1
      ·rw[hvg]at h
       rcases h2 with h2|⟨j,hj,h2⟩
       ·exact a3 (by rw[h];exact h2)
       ·have:=zlx (h.trans h2);omega
     ·rcases h2 with h2|⟨j,hj,h2⟩
      ·exact .inl h2
      ·exact .inr ⟨j,by omega,h2⟩
   rw[ren,if_pos hq]
   rw[zzq,zzq]
   rcases hq with rfl|rfl<;>simp only[hs,reduceIte,show¬((8:Int)=1) by decide,show¬((8:Int)=2) by decide,show¬((8:Int)=3) by decide,show¬((8:Int)=4) by decide,show¬((8:Int)=5) by decide,show¬((8:Int)=6) by decide,show¬((8:Int)=7) by decide,
    show¬((9:Int)=1) by decide,show¬((9:Int)=2) by decide,show¬((9:Int)=3) by decide,show¬((9:Int)=4) by decide,show¬((9:Int)=5) by decide,show¬((9:Int)=6) by decide,show¬((9:Int)=7) by decide,show¬((9:Int)=8) by decide,if_false,if_true]
  ·rw[if_neg hq]at hc
   have hs:=zlg m s env bd n ev ev' hv.2.2.2.2.2.2 he fun x hx=>hc x (List.mem_append_right _ hx)
   have h8:¬k=8:=fun e=>hq (.inl e)
   have h9:¬k=9:=fun e=>hq (.inr e)
   rw[ren,if_neg hq]
   rw[zzq,zzq]
   simp only[hs,h8,h9,if_false,hw,hl]
   by_cases h3:k=3
   ·have h2:=hv.2.2.2.1 h3
    obtain⟨a,b,rfl⟩:∃a b,ws=[a,b]:=by
     match ws,h2 with
     |[a,b],_=>exact⟨a,b,rfl⟩
    subst h3
    have e0:=hw1 a (by simp)
    have e1:=hw1 b (by simp)
    simp only[List.map_cons,List.map_nil,List.getD_cons_zero,List.getD_cons_succ]
    rw[e0,e1]
   ·simp only[h3,if_false]
theorem zlg (m:zdT){used U:List Str}:∀(fs:List zac) (env:List zaR) (bd:List Str) (n:Nat) (ev ev':List zdg),zkc fs→
  (∀w,w∈bd∨w∈U→zgz m ev w=zgz m ev' (lkp env w)∧(lkp env w∈used∨∃j,j<n∧lkp env w=zdR j))→(∀x∈zbU fs bd,x∈U)→zeP m (za5 (vg used) fs env n).1 ev'=zeP m fs ev
 |[],env,bd,n,ev,ev',hv,he,hc=>by rw[za5,zeP,zeP]
 |f::fs,env,bd,n,ev,ev',hv,he,hc=>by
  rw[zkc]at hv
  rw[zbU]at hc
  rw[za5]
  simp only
  rw[zeP,zeP,zy5 m f env bd n ev ev' hv.1 he fun x hx=>hc x (List.mem_append_left _ hx),
   zlg m fs env bd _ ev ev' hv.2 (fun w hw=>?_) fun x hx=>hc x (List.mem_append_right _ hx)]
  obtain⟨h1,h2⟩:=he w hw
  refine⟨h1,?_⟩
  rcases h2 with h2|⟨j,hj,h2⟩
  ·exact .inl h2
  ·have:=((zgu (zrx used)).1 f env n).1
   exact .inr ⟨j,by omega,h2⟩
end
mutual
theorem zvb:∀(f f':zac) (E:PE),Aeq E f f'→ztp f=ztp f'
 | .mk k nm ws s,.mk k' nm' ws' s',E,h=>by
  rw[Aeq]at h
  obtain⟨rfl,_,_,h4⟩:=h
  rw[ztp,ztp,zlJ s s' _ h4]
theorem zlJ:∀(f f':List zac) (E:PE),zcA E f f'→zjW f=zjW f'
 |[],[],_,_=>rfl
 |f::fs,f'::fs',E,h=>by
  rw[zcA]at h
  rw[zjW,zjW,zvb f f' E h.1,zlJ fs fs' E h.2]
 |[],_::_,_,h=>by rw[zcA]at h;exact h.elim
 |_::_,[],_,h=>by rw[zcA]at h;exact h.elim
end
mutual
theorem zva (m:zdT):∀(f f':zac) (E:PE),Aeq E f f'→zAX m f=zAX m f'
 | .mk k nm ws s,.mk k' nm' ws' s',E,h=>by
  rw[Aeq]at h
  obtain⟨rfl,h2,h3,h4⟩:=h
  rw[zAX,zAX,zlI m s s' _ h4,zgD h3]
  by_cases hk:k=2
  ·rw[h2 (by rw[hk];decide)]
  ·simp[hk]
theorem zlI (m:zdT):∀(f f':List zac) (E:PE),zcA E f f'→zqO m f=zqO m f'
 |[],[],_,_=>rfl
 |f::fs,f'::fs',E,h=>by
  rw[zcA]at h
  rw[zqO,zqO,zva m f f' E h.1,zlI m fs fs' E h.2]
 |[],_::_,_,h=>by rw[zcA]at h;exact h.elim
 |_::_,[],_,h=>by rw[zcA]at h;exact h.elim
end
end Go.Abs
