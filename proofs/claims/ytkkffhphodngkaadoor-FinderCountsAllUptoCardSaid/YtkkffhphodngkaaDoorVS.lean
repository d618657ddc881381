import Derived.Test.YtkkffhphodngkaaDoorTR
import Derived.Test.YtkkffhphodngkaaDoorAE
set_option linter.unusedSimpArgs false
namespace Go.Abs
open Go
theorem ziZ (m:zal)(ev:List zaB)(nm:Str)(v:Int)(w:Str):zbJ m (ev++[(⟨nm,v⟩:zaB)]) w=if nm=w then v else zbJ m ev w:=by
 unfold zbJ
 rw[zf1]
 show(match(if nm=w then some v else zcD ev w)with|some v=>v|none=>zeO m w)=_
 by_cases h:nm=w
 ·rw[if_pos h,if_pos h]
 ·rw[if_neg h,if_neg h];rfl
mutual
theorem zv3 (m:zal){used U:List Str}:∀(f:zac) (env:List zbI) (bd:List Str) (n:Nat) (ev ev':List zaB),vok f→
  (∀w,w∈bd∨w∈U→zbJ m ev w=zbJ m ev' (lkp env w)∧(lkp env w∈used∨∃j,j<n∧lkp env w=zh7 j))→(∀x∈cst f bd,x∈U)→zbU m (ren (vg used) f env n).1 ev'=zbU m f ev
 | .mk k nm ws s,env,bd,n,ev,ev',hv,he,hc=>by
  rw[vok]at hv
  rw[cst]at hc
  have hw1:∀w∈ws,zbJ m ev w=zbJ m ev' (lkp env w):=fun w hw=>by
   refine(he w ?_).1
   by_cases hb:w∈bd
   ·exact .inl hb
   ·exact .inr (hc w (List.mem_append_left _ (List.mem_filter.2 ⟨hw,by simpa using hb⟩)))
  have hw:(ws.map (lkp env)).map (zbJ m ev')=ws.map (zbJ m ev):=by
   rw[List.map_map]
   exact List.map_congr_left fun w hw=>(hw1 w hw).symm
  have hl:(ws.map (lkp env)).length=ws.length:=List.length_map _
  by_cases hq:isQ k
  ·have hs:∀v:Int,zbs m (zbK (vg used) s (env++[(⟨nm,(vg used n).1⟩:zbI)]) (vg used n).2).1 (ev'++[(⟨(vg used n).1,v⟩:zaB)])=zbs m s (ev++[(⟨nm,v⟩:zaB)]):=fun v=>by
    obtain⟨a1,_,a3,_⟩:=zeG used n
    rw[if_pos hq]at hc
    refine zjV m s _ (bd++[nm]) _ _ _ hv.2.2.2.2.2.2 (fun w hw2=>?_) fun x hx=>hc x (List.mem_append_right _ hx)
    rw[zeC,ziZ,ziZ]
    have hvg:(vg used n).1=zh7 (zeM used n):=rfl
    have hvg2:(vg used n).2=zeM used n+1:=rfl
    by_cases e:nm=w
    ·rw[if_pos e,if_pos e]
     exact⟨(if_pos rfl).symm,.inr ⟨zeM used n,by omega,hvg⟩⟩
    ·rw[if_neg e,if_neg e]
     have hw3:w∈bd∨w∈U:=by
      rcases hw2 with h|h
      ·rcases List.mem_append.1 h with h|h
       ·exact .inl h
       ·exact absurd (List.mem_singleton.1 h).symm e
      ·exact .inr h
     obtain⟨h1,h2⟩:=he w hw3
     refine⟨?_,?_⟩
     ·rw[if_neg (fun h=>?_)]
      ·exact h1
      ·rw[hvg]at h
       rcases h2 with h2|⟨j,hj,h2⟩
       ·exact a3 (by rw[h];exact h2)
       ·have:=zj5 (h.trans h2);omega
     ·rcases h2 with h2|⟨j,hj,h2⟩
      ·exact .inl h2
      ·exact .inr ⟨j,by omega,h2⟩
   rw[ren,if_pos hq]
   rw[zbU,zbU]
   rcases hq with rfl|rfl<;>simp only[hs,reduceIte,show¬((8:Int)=1) by decide,show¬((8:Int)=2) by decide,show¬((8:Int)=3) by decide,show¬((8:Int)=4) by decide,show¬((8:Int)=5) by decide,show¬((8:Int)=6) by decide,show¬((8:Int)=7) by decide,
    show¬((9:Int)=1) by decide,show¬((9:Int)=2) by decide,show¬((9:Int)=3) by decide,show¬((9:Int)=4) by decide,show¬((9:Int)=5) by decide,show¬((9:Int)=6) by decide,show¬((9:Int)=7) by decide,show¬((9:Int)=8) by decide,if_false,if_true]
  ·rw[if_neg hq]at hc
   have hs:=zjV m s env bd n ev ev' hv.2.2.2.2.2.2 he fun x hx=>hc x (List.mem_append_right _ hx)
   have h8:¬k=8:=fun e=>hq (.inl e)
   have h9:¬k=9:=fun e=>hq (.inr e)
   rw[ren,if_neg hq]
   rw[zbU,zbU]
   simp only[hs,h8,h9,if_false,hw,hl]
   by_cases h3:k=3
   ·have h2:=hv.2.2.2.1 h3
    obtain⟨a,b,rfl⟩:∃a b,ws=[a,b]:=by
     match ws,h2 with
     |[a,b],_=>exact⟨a,b,rfl⟩
    subst h3
    have e0:=hw1 a (by simp)
    have e1:=hw1 b (by simp)
    simp only[List.map_cons,List.map_nil,List.getD_cons_zero,List.getD_cons_succ]
    rw[e0,e1]
   ·simp only[h3,if_false]
theorem zjV (m:zal){used U:List Str}:∀(fs:List zac) (env:List zbI) (bd:List Str) (n:Nat) (ev ev':List zaB),zj7 fs→
  (∀w,w∈bd∨w∈U→zbJ m ev w=zbJ m ev' (lkp env w)∧(lkp env w∈used∨∃j,j<n∧lkp env w=zh7 j))→(∀x∈zbW fs bd,x∈U)→zbs m (zbK (vg used) fs env n).1 ev'=zbs m fs ev
 |[],env,bd,n,ev,ev',hv,he,hc=>by rw[zbK,zbs,zbs]
 |f::fs,env,bd,n,ev,ev',hv,he,hc=>by
  rw[zj7]at hv
  rw[zbW]at hc
  rw[zbK]
  simp only
  rw[zbs,zbs,zv3 m f env bd n ev ev' hv.1 he fun x hx=>hc x (List.mem_append_left _ hx),
   zjV m fs env bd _ ev ev' hv.2 (fun w hw=>?_) fun x hx=>hc x (List.mem_append_right _ hx)]
  obtain⟨h1,h2⟩:=he w hw
  refine⟨h1,?_⟩
  rcases h2 with h2|⟨j,hj,h2⟩
  ·exact .inl h2
  ·have:=((zrD (zwu used)).1 f env n).1
   exact .inr ⟨j,by omega,h2⟩
end
theorem znq {bd:List Str}{x:Str}:∀{l:List zac},x∈zbW l bd↔∃f∈l,x∈cst f bd
 |[]=>by rw[zbW];simp
 |f::l=>by rw[zbW,List.mem_append,znq (l:=l)];simp
mutual
theorem zsA:∀(f f':zac) (E:PE),Aeq E f f'→zaY f=zaY f'
 | .mk k nm ws s,.mk k' nm' ws' s',E,h=>by
  rw[Aeq]at h
  obtain⟨rfl,_,_,h4⟩:=h
  rw[zaY,zaY,zkc s s' _ h4]
theorem zkc:∀(f f':List zac) (E:PE),zb8 E f f'→zbA f=zbA f'
 |[],[],_,_=>rfl
 |f::fs,f'::fs',E,h=>by
  rw[zb8]at h
  rw[zbA,zbA,zsA f f' E h.1,zkc fs fs' E h.2]
 |[],_::_,_,h=>by rw[zb8]at h;exact h.elim
 |_::_,[],_,h=>by rw[zb8]at h;exact h.elim
end
mutual
theorem zsz (m:zal):∀(f f':zac) (E:PE),Aeq E f f'→zgn m f=zgn m f'
 | .mk k nm ws s,.mk k' nm' ws' s',E,h=>by
  rw[Aeq]at h
  obtain⟨rfl,h2,h3,h4⟩:=h
  rw[zgn,zgn,zkb m s s' _ h4,zfQ h3]
  by_cases hk:k=2
  ·rw[h2 (by rw[hk];decide)]
  ·simp[hk]
theorem zkb (m:zal):∀(f f':List zac) (E:PE),zb8 E f f'→zeL m f=zeL m f'
 |[],[],_,_=>rfl
 |f::fs,f'::fs',E,h=>by
  rw[zb8]at h
  rw[zeL,zeL,zsz m f f' E h.1,zkb m fs fs' E h.2]
 |[],_::_,_,h=>by rw[zb8]at h;exact h.elim
 |_::_,[],_,h=>by rw[zb8]at h;exact h.elim
end
def zch (m:zal)(f:zac):zcV:=if 5<zaY f then⟨17, -2⟩else if ziG m f=true then⟨6, -2⟩else⟨0,0⟩
end Go.Abs
