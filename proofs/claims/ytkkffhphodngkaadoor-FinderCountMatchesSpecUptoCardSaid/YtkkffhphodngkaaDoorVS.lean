import Derived.Test.YtkkffhphodngkaaDoorTR
import Derived.Test.YtkkffhphodngkaaDoorAE
set_option linter.unusedSimpArgs false
namespace Go.Abs
open Go
theorem zjB (m:zal)(ev:List zaF)(nm:Str)(v:Int)(w:Str):zbW m (ev++[(⟨nm,v⟩:zaF)]) w=if nm=w then v else zbW m ev w:=by
 unfold zbW
 rw[zgC]
 show(match(if nm=w then some v else zcL ev w)with|some v=>v|none=>zfb m w)=_
 by_cases h:nm=w
 ·rw[if_pos h,if_pos h]
 ·rw[if_neg h,if_neg h];rfl
mutual
theorem zxk (m:zal){used U:List Str}:∀(f:zaf) (env:List zbU) (bd:List Str) (n:Nat) (ev ev':List zaF),vok f→
  (∀w,w∈bd∨w∈U→zbW m ev w=zbW m ev' (lkp env w)∧(lkp env w∈used∨∃j,j<n∧lkp env w=ziM j))→(∀x∈cst f bd,x∈U)→zbY m (ren (vg used) f env n).1 ev'=zbY m f ev
 | .mk k nm ws s,env,bd,n,ev,ev',hv,he,hc=>by
  rw[vok]at hv
  rw[cst]at hc
  have hw1:∀w∈ws,zbW m ev w=zbW m ev' (lkp env w):=fun w hw=>by
   refine(he w ?_).1
   by_cases hb:w∈bd
   ·exact .inl hb
   ·exact .inr (hc w (List.mem_append_left _ (List.mem_filter.2 ⟨hw,by simpa using hb⟩)))
  have hw:(ws.map (lkp env)).map (zbW m ev')=ws.map (zbW m ev):=by
   rw[List.map_map]
   exact List.map_congr_left fun w hw=>(hw1 w hw).symm
  have hl:(ws.map (lkp env)).length=ws.length:=List.length_map _
  by_cases hq:isQ k
  ·have hs:∀v:Int,zbC m (zbX (vg used) s (env++[(⟨nm,(vg used n).1⟩:zbU)]) (vg used n).2).1 (ev'++[(⟨(vg used n).1,v⟩:zaF)])=zbC m s (ev++[(⟨nm,v⟩:zaF)]):=fun v=>by
    obtain⟨a1,_,a3,_⟩:=ze3 used n
    rw[if_pos hq]at hc
    refine zkD m s _ (bd++[nm]) _ _ _ hv.2.2.2.2.2.2 (fun w hw2=>?_) fun x hx=>hc x (List.mem_append_right _ hx)
    rw[zeZ,zjB,zjB]
    have hvg:(vg used n).1=ziM (ze9 used n):=rfl
    have hvg2:(vg used n).2=ze9 used n+1:=rfl
    by_cases e:nm=w
    ·rw[if_pos e,if_pos e]
     exact⟨(if_pos rfl).symm,.inr ⟨ze9 used n,by omega,hvg⟩⟩
    ·rw[if_neg e,if_neg e]
     have hw3:w∈bd∨w∈U:=by
      rcases hw2 with h|h
      ·rcases List.mem_append.1 h with h|h
       ·exact .inl h
       ·exact absurd (List.mem_singleton.1 h).symm e
      ·exact .inr h
     obtain⟨h1,h2⟩:=he w hw3
     refine⟨?_,?_⟩
     ·rw[if_neg (fun h=>?_)]
      ·exact h1
      ·rw[hvg]at h
       rcases h2 with h2|⟨j,hj,h2⟩
       ·exact a3 (by rw[h];exact h2)
       ·have:=zkM (h.trans h2);omega
     ·rcases h2 with h2|⟨j,hj,h2⟩
      ·exact .inl h2
      ·exact .inr ⟨j,by omega,h2⟩
   rw[ren,if_pos hq]
   rw[zbY,zbY]
   rcases hq with rfl|rfl<;>simp only[hs,reduceIte,show¬((8:Int)=1) by decide,show¬((8:Int)=2) by decide,show¬((8:Int)=3) by decide,show¬((8:Int)=4) by decide,show¬((8:Int)=5) by decide,show¬((8:Int)=6) by decide,show¬((8:Int)=7) by decide,
    show¬((9:Int)=1) by decide,show¬((9:Int)=2) by decide,show¬((9:Int)=3) by decide,show¬((9:Int)=4) by decide,show¬((9:Int)=5) by decide,show¬((9:Int)=6) by decide,show¬((9:Int)=7) by decide,show¬((9:Int)=8) by decide,if_false,if_true]
  ·rw[if_neg hq]at hc
   have hs:=zkD m s env bd n ev ev' hv.2.2.2.2.2.2 he fun x hx=>hc x (List.mem_append_right _ hx)
   have h8:¬k=8:=fun e=>hq (.inl e)
   have h9:¬k=9:=fun e=>hq (.inr e)
   rw[ren,if_neg hq]
   rw[zbY,zbY]
   simp only[hs,h8,h9,if_false,hw,hl]
   by_cases h3:k=3
   ·have h2:=hv.2.2.2.1 h3
    obtain⟨a,b,rfl⟩:∃a b,ws=[a,b]:=by
     match ws,h2 with
     |[a,b],_=>exact⟨a,b,rfl⟩
    subst h3
    have e0:=hw1 a (by simp)
    have e1:=hw1 b (by simp)
    simp only[List.map_cons,List.map_nil,List.getD_cons_zero,List.getD_cons_succ]
    rw[e0,e1]
   ·simp only[h3,if_false]
theorem zkD (m:zal){used U:List Str}:∀(fs:List zaf) (env:List zbU) (bd:List Str) (n:Nat) (ev ev':List zaF),zkO fs→
  (∀w,w∈bd∨w∈U→zbW m ev w=zbW m ev' (lkp env w)∧(lkp env w∈used∨∃j,j<n∧lkp env w=ziM j))→(∀x∈zb8 fs bd,x∈U)→zbC m (zbX (vg used) fs env n).1 ev'=zbC m fs ev
 |[],env,bd,n,ev,ev',hv,he,hc=>by rw[zbX,zbC,zbC]
 |f::fs,env,bd,n,ev,ev',hv,he,hc=>by
  rw[zkO]at hv
  rw[zb8]at hc
  rw[zbX]
  simp only
  rw[zbC,zbC,zxk m f env bd n ev ev' hv.1 he fun x hx=>hc x (List.mem_append_left _ hx),
   zkD m fs env bd _ ev ev' hv.2 (fun w hw=>?_) fun x hx=>hc x (List.mem_append_right _ hx)]
  obtain⟨h1,h2⟩:=he w hw
  refine⟨h1,?_⟩
  rcases h2 with h2|⟨j,hj,h2⟩
  ·exact .inl h2
  ·have:=((zsy (zxJ used)).1 f env n).1
   exact .inr ⟨j,by omega,h2⟩
end
theorem zol {bd:List Str}{x:Str}:∀{l:List zaf},x∈zb8 l bd↔∃f∈l,x∈cst f bd
 |[]=>by rw[zb8];simp
 |f::l=>by rw[zb8,List.mem_append,zol (l:=l)];simp
mutual
theorem ztF:∀(f f':zaf) (E:PE),Aeq E f f'→zbf f=zbf f'
 | .mk k nm ws s,.mk k' nm' ws' s',E,h=>by
  rw[Aeq]at h
  obtain⟨rfl,_,_,h4⟩:=h
  rw[zbf,zbf,zkT s s' _ h4]
theorem zkT:∀(f f':List zaf) (E:PE),zch E f f'→zbL f=zbL f'
 |[],[],_,_=>rfl
 |f::fs,f'::fs',E,h=>by
  rw[zch]at h
  rw[zbL,zbL,ztF f f' E h.1,zkT fs fs' E h.2]
 |[],_::_,_,h=>by rw[zch]at h;exact h.elim
 |_::_,[],_,h=>by rw[zch]at h;exact h.elim
end
mutual
theorem ztE (m:zal):∀(f f':zaf) (E:PE),Aeq E f f'→zgZ m f=zgZ m f'
 | .mk k nm ws s,.mk k' nm' ws' s',E,h=>by
  rw[Aeq]at h
  obtain⟨rfl,h2,h3,h4⟩:=h
  rw[zgZ,zgZ,zkS m s s' _ h4,zgn h3]
  by_cases hk:k=2
  ·rw[h2 (by rw[hk];decide)]
  ·simp[hk]
theorem zkS (m:zal):∀(f f':List zaf) (E:PE),zch E f f'→ze8 m f=ze8 m f'
 |[],[],_,_=>rfl
 |f::fs,f'::fs',E,h=>by
  rw[zch]at h
  rw[ze8,ze8,ztE m f f' E h.1,zkS m fs fs' E h.2]
 |[],_::_,_,h=>by rw[zch]at h;exact h.elim
 |_::_,[],_,h=>by rw[zch]at h;exact h.elim
end
def zcV (m:zal)(f:zaf):zcD:=if 5<zbf f then⟨17, -2⟩else if zoA m f=true then⟨6, -2⟩else⟨0,0⟩
end Go.Abs
