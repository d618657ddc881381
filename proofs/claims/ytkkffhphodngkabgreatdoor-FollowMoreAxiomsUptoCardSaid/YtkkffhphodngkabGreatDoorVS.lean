import Derived.Test.YtkkffhphodngkabGreatDoorTR
import Derived.Test.YtkkffhphodngkabGreatDoorAE
set_option linter.unusedSimpArgs false
namespace Go.Abs
open Go
theorem zcL (m:zay)(ev:List zaG)(nm:Str)(v:Int)(w:Str):zbi m (ev++[(⟨nm,v⟩:zaG)]) w=if nm=w then v else zbi m ev w:=by
 unfold zbi
 rw[zkw]
 show(match(if nm=w then some v else zdR ev w)with|some v=>v|none=>zgz m w)=_
 by_cases h:nm=w
 ·rw[if_pos h,if_pos h]
 ·rw[if_neg h,if_neg h];rfl
mutual
theorem zlY (m:zay){used U:List Str}:∀(f:zac) (env:List za4) (bd:List Str) (n:Nat) (ev ev':List zaG),vok f→
  (∀w,w∈bd∨w∈U→zbi m ev w=zbi m ev' (lkp env w)∧(lkp env w∈used∨∃j,j<n∧lkp env w=zfU j))→(∀x∈cst f bd,x∈U)→za2 m (ren (vg used) f env n).1 ev'=za2 m f ev
 | .mk k nm ws s,env,bd,n,ev,ev',hv,he,hc=>by
  rw[vok]at hv
  rw[cst]at hc
  have hw1:∀w∈ws,zbi m ev w=zbi m ev' (lkp env w):=fun w hw=>by
   refine(he w ?_).1
   by_cases hb:w∈bd
   ·exact .inl hb
   ·exact .inr (hc w (List.mem_append_left _ (List.mem_filter.2 ⟨hw,by simpa using hb⟩)))
  have hw:(ws.map (lkp env)).map (zbi m ev')=ws.map (zbi m ev):=by
   rw[List.map_map]
   exact List.map_congr_left fun w hw=>(hw1 w hw).symm
  have hl:(ws.map (lkp env)).length=ws.length:=List.length_map _
  by_cases hq:isQ k
  ·have hs:∀v:Int,zb5 m (zbj (vg used) s (env++[(⟨nm,(vg used n).1⟩:za4)]) (vg used n).2).1 (ev'++[(⟨(vg used n).1,v⟩:zaG)])=zb5 m s (ev++[(⟨nm,v⟩:zaG)]):=fun v=>by
    obtain⟨a1,_,a3,_⟩:=zbn used n
    rw[if_pos hq]at hc
    refine zl3 m s _ (bd++[nm]) _ _ _ hv.2.2.2.2.2.2 (fun w hw2=>?_) fun x hx=>hc x (List.mem_append_right _ hx)
    rw[zcf,zcL,zcL]
    have hvg:(vg used n).1=zfU (zcS used n):=rfl
    have hvg2:(vg used n).2=zcS used n+1:=rfl
    by_cases e:nm=w
    ·rw[if_pos e,if_pos e]
     exact⟨(if_pos rfl).symm,.inr ⟨zcS used n,by omega,hvg⟩⟩
    ·rw[if_neg e,if_neg e]
     have hw3:w∈bd∨w∈U:=by
      rcases hw2 with h|h
      ·rcases List.mem_append.1 h with h|h
       ·exact .inl h
       ·exact absurd (List.mem_singleton.1 h).symm e
      ·exact .inr h
     obtain⟨h1,h2⟩:=he w hw3
     refine⟨?_,?_⟩
     ·rw[if_neg (fun h=>?_)]
      ·exact h1
      ·rw[hvg]at h
       rcases h2 with h2|⟨j,hj,h2⟩
       ·exact a3 (by rw[h];exact h2)
       ·have:=zmr (h.trans h2);omega
     ·rcases h2 with h2|⟨j,hj,h2⟩
      ·exact .inl h2
      ·exact .inr ⟨j,by omega,h2⟩
   rw[ren,if_pos hq]
   rw[za2,za2]
   rcases hq with rfl|rfl<;>simp only[hs,reduceIte,show¬((8:Int)=1) by decide,show¬((8:Int)=2) by decide,show¬((8:Int)=3) by decide,show¬((8:Int)=4) by decide,show¬((8:Int)=5) by decide,show¬((8:Int)=6) by decide,show¬((8:Int)=7) by decide,
    show¬((9:Int)=1) by decide,show¬((9:Int)=2) by decide,show¬((9:Int)=3) by decide,show¬((9:Int)=4) by decide,show¬((9:Int)=5) by decide,show¬((9:Int)=6) by decide,show¬((9:Int)=7) by decide,show¬((9:Int)=8) by decide,if_false,if_true]
  ·rw[if_neg hq]at hc
   have hs:=zl3 m s env bd n ev ev' hv.2.2.2.2.2.2 he fun x hx=>hc x (List.mem_append_right _ hx)
   have h8:¬k=8:=fun e=>hq (.inl e)
   have h9:¬k=9:=fun e=>hq (.inr e)
   rw[ren,if_neg hq]
   rw[za2,za2]
   simp only[hs,h8,h9,if_false,hw,hl]
   by_cases h3:k=3
   ·have h2:=hv.2.2.2.1 h3
    obtain⟨a,b,rfl⟩:∃a b,ws=[a,b]:=by
     match ws,h2 with
     |[a,b],_=>exact⟨a,b,rfl⟩
    subst h3
    have e0:=hw1 a (by simp)
    have e1:=hw1 b (by simp)
    simp only[List.map_cons,List.map_nil,List.getD_cons_zero,List.getD_cons_succ]
    rw[e0,e1]
   ·simp only[h3,if_false]
theorem zl3 (m:zay){used U:List Str}:∀(fs:List zac) (env:List za4) (bd:List Str) (n:Nat) (ev ev':List zaG),ziu fs→
  (∀w,w∈bd∨w∈U→zbi m ev w=zbi m ev' (lkp env w)∧(lkp env w∈used∨∃j,j<n∧lkp env w=zfU j))→(∀x∈zbN fs bd,x∈U)→zb5 m (zbj (vg used) fs env n).1 ev'=zb5 m fs ev
 |[],env,bd,n,ev,ev',hv,he,hc=>by rw[zbj,zb5,zb5]
 |f::fs,env,bd,n,ev,ev',hv,he,hc=>by
  rw[ziu]at hv
  rw[zbN]at hc
  rw[zbj]
  simp only
  rw[zb5,zb5,zlY m f env bd n ev ev' hv.1 he fun x hx=>hc x (List.mem_append_left _ hx),
   zl3 m fs env bd _ ev ev' hv.2 (fun w hw=>?_) fun x hx=>hc x (List.mem_append_right _ hx)]
  obtain⟨h1,h2⟩:=he w hw
  refine⟨h1,?_⟩
  rcases h2 with h2|⟨j,hj,h2⟩
  ·exact .inl h2
  ·have:=((zoc (ztr used)).1 f env n).1
   exact .inr ⟨j,by omega,h2⟩
end
theorem zuc {m:zay}{f:zac}(hv:vok f):za2 m (zaC f []) []=za2 m f []:=by
 refine zlY m (U:=zaP f) f [] [] 0 [] [] hv (fun w hw=>?_) fun x hx=>(za9 f x).2 hx
 rw[zdn]
 rcases hw with h|h
 ·simp at h
 ·exact⟨rfl,.inl h⟩
mutual
theorem zxk:∀(f f':zac) (E:PE),Aeq E f f'→zbP f=zbP f'
 | .mk k nm ws s,.mk k' nm' ws' s',E,h=>by
  rw[Aeq]at h
  obtain⟨rfl,_,_,h4⟩:=h
  rw[zbP,zbP,zmF s s' _ h4]
theorem zmF:∀(f f':List zac) (E:PE),zcP E f f'→zcb f=zcb f'
 |[],[],_,_=>rfl
 |f::fs,f'::fs',E,h=>by
  rw[zcP]at h
  rw[zcb,zcb,zxk f f' E h.1,zmF fs fs' E h.2]
 |[],_::_,_,h=>by rw[zcP]at h;exact h.elim
 |_::_,[],_,h=>by rw[zcP]at h;exact h.elim
end
mutual
theorem zxj (m:zay):∀(f f':zac) (E:PE),Aeq E f f'→zhp m f=zhp m f'
 | .mk k nm ws s,.mk k' nm' ws' s',E,h=>by
  rw[Aeq]at h
  obtain⟨rfl,h2,h3,h4⟩:=h
  rw[zhp,zhp,zmE m s s' _ h4,zg9 h3]
  by_cases hk:k=2
  ·rw[h2 (by rw[hk];decide)]
  ·simp[hk]
theorem zmE (m:zay):∀(f f':List zac) (E:PE),zcP E f f'→ze7 m f=ze7 m f'
 |[],[],_,_=>rfl
 |f::fs,f'::fs',E,h=>by
  rw[zcP]at h
  rw[ze7,ze7,zxj m f f' E h.1,zmE m fs fs' E h.2]
 |[],_::_,_,h=>by rw[zcP]at h;exact h.elim
 |_::_,[],_,h=>by rw[zcP]at h;exact h.elim
end
def zck (m:zay)(f:zac):zbp:=if 5<zbP f then⟨17, -2⟩else if zgM m f=true then⟨6, -2⟩else⟨0,0⟩
end Go.Abs
