/- several texts of this proof in one; no conditions -/
import Derived.Test.YtmconmiemdinkaaGreatDoorY7
import Derived.Sort.Grow
import Derived.Sort.EncStr
import Derived.Lib.SlicesCompact
import Derived.Lib.ItoaNum
import Derived.Lib.LaidTab
import Derived.Deep.Draws
set_option linter.unusedSimpArgs false
namespace Go.Abs
open Go
section
variable {P:Program} {G:Nat→List FD} {w w':World} {L:Loc} {F:Nat→Nat→Prop} {U:Id→Prop} {H:zax}
theorem zoC (hok:OkW G w L F U H)(os:Array Obj)(hh:w'.heap=w.heap++os)(ho:w'.os=w.os)(ht:w'.tape=w.tape)(hu:w'.output=w.output)(hdr:w.drawn≤w'.drawn):
  OkW G w' L F U H∧zbv H w L F U H w' L F U:=by
 have old:∀{b},b<w.heap.size→w'.heap[b]?=w.heap[b]?:=fun hb=>by rw[hh,Array.getElem?_append_left hb]
 have hst:zbv H w L F U H w' L F U:=by
  refine⟨fun _ h=>h,fun _ _=>rfl,fun _ _ h=>h,by rw[hh];simp,fun b hb _=>old hb,fun b k hb _=>zeJ (old hb) k,fun b cs T fr hb h=>⟨cs,T,fr,by rw[←old hb];exact h,Nat.le_refl _⟩,fun _ _ h=> .inl h,fun _ _ h=> .inr h,ho,ht,hu,hdr⟩
 refine⟨⟨fun b k hb=>Nat.lt_of_lt_of_le (hok.fb b k hb) hst.size,fun i o h1=>?_,hok.inj,zce (fun _ _ h=>h) (hst.ext hok).fk hok.glob⟩,hst⟩
 obtain⟨g1,g2⟩:=hok.live i o h1
 exact⟨g1,g2.ext (hst.ext hok) g1 fun hv=>⟨old (hok.blk_lt h1 hv),fun k hk h=>(zaB g2 hv).1 k hk h⟩⟩
theorem zC6 (hok:OkW G w L F U H){nm:String}{g:Nat}{k:IntKind}{zs:List Int}(hg:P.globalNamed nm=some g)(hne:zs≠[])(hG:G g=zs.map (.i k)):Lib.TabIs P w nm k zs:=by
 have h0:0<(G g).length:=by rw[hG,List.length_map];exact List.length_pos_iff.2 hne
 obtain⟨_,v,hv,_⟩:=hok.glob.1 g 0 h0
 obtain⟨_,cs,T,fr,hb,_⟩:=cell?_some hv
 simp only at hb
 have hat:∀j,World.at w g j=cs[j]?:=fun j=>zft hb
 have hlen:(G g).length=zs.length:=by rw[hG,List.length_map]
 have hsz:cs.size≤zs.length:=by
  have:=(hok.glob.2 g (by rw[←List.length_pos_iff];exact h0)).2
  rw[hat,hlen]at this
  exact Array.getElem?_eq_none_iff.1 this
 have hget:∀j (hj:j<zs.length),cs[j]?=some (Value.int k zs[j]):=by
  intro j hj
  obtain⟨_,v,h1,h2⟩:=hok.glob.1 g j (by omega)
  rw[hat]at h1
  rw[h1]
  simp only[hG,List.getD_eq_getElem?_getD,List.getElem?_map,List.getElem?_eq_getElem hj,Option.map_some,Option.getD_some]at h2
  rw[h2.int_inv.1]
 unfold Lib.TabIs World.var?
 rw[hg]
 simp only[Option.bind_some,hb,Option.some.injEq]
 apply Array.ext_getElem?
 intro j
 rcases Nat.lt_or_ge j zs.length with hj|hj
 ·rw[hget j hj];simp[hj]
 ·rw[Array.getElem?_eq_none (by omega),Array.getElem?_eq_none (by simp;omega)]
theorem zga:∀(u:Nat),(Lib.decDigits u).length≤u+1:=by
 intro u
 induction u using Nat.strongRecOn with
 |_ u ih=>
  rw[Lib.decDigits]
  split
  ·simp
  ·rename_i h
   have:=ih (u / 10) (by omega)
   rw[List.length_append]
   simp only[List.length_singleton]
   omega
def zbb (n:Nat):List UInt8:=Lib.decDigits n
theorem zwh (n:Nat):Lib.itoa (n:Int)=zbb n:=by
 unfold Lib.itoa zbb
 rw[if_neg (by omega)]
 rfl
theorem zqx {f:FuncId}{nm:String}{g:Nat}(hc:zap P f)(hg:P.globalNamed nm=some g)(hG:G g=Lib.pow10Tab.map (.i .u64))
  (hk:∀(n:Int), -9223372036854775808≤n→n≤9223372036854775807→∀(w:World),Lib.TabIs P w nm .u64 Lib.pow10Tab→
   Calls P f #[.int .i64 n] w fun e w'=>e= .returned (.string ⟨(Lib.itoa n).toArray⟩)∧∃k os,w'=Sort.grow (w.drewN k) os)
  {n:Int}(h0:0≤n)(h1:n≤1000000000000){H:zax}{m:Nat}:zaH P G f [.fz (.i .i64 n)] H m fun d H' m'=>d= .fz (.s (Lib.itoa n))∧H'=H∧m'=m:=by
 refine⟨hc,fun w L F vs hok hvs=>?_⟩
 obtain⟨v,rfl,hv⟩:∃v,vs=[v]∧za8 w F v (.i .i64 n):=by
  match vs,hvs with
  |[v],h=>simp only[zao,zak]at h;exact⟨v,rfl,h.1⟩
  |[],h=>simp[zao]at h
  |_::_::_,h=>simp[zao]at h
 obtain rfl:=hv.int_inv.1
 refine(hk n (by omega) (by omega) w (zC6 hok hg (by unfold Lib.pow10Tab;decide) hG)).mono fun e w' he=>?_
 obtain⟨rfl,k,os,rfl⟩:=he
 obtain⟨g1,g2⟩:=zoC (w':=Sort.grow (w.drewN k) os) hok os rfl rfl rfl rfl (Nat.le_add_right _ _)
 refine⟨_,_,H,m,L,F,rfl,⟨rfl,rfl,rfl⟩,g1,?_,g2⟩
 simp only[zak]
 have hl:(Lib.itoa n).length≤1000000000001:=by
  unfold Lib.itoa
  rw[if_neg (by omega)]
  have:=zga n.toNat
  omega
 have:=za8.s (w:=Sort.grow (w.drewN k) os) (F:=F) ⟨(Lib.itoa n).toArray⟩ (by
  show((Lib.itoa n).toArray).size≤za6
  rw[List.size_toArray];unfold za6;omega)
 simpa using this
abbrev strCells (l:List (List UInt8)):List D:=l.map fun x=> .fz (.s x)
theorem znh {ys:List (List UInt8)}{off:Nat}{cs:Array Value}(h:off+ys.length≤cs.size){j:Nat}(hj:j<ys.length):
  (Sort.putCells Go.Proofs.encStr off ys.toArray cs)[off+j]?=some (Value.string ⟨ys[j].toArray⟩):=by
 unfold Sort.putCells
 rw[Array.getElem?_mapIdx,Array.getElem?_eq_getElem (by omega)]
 simp only[Option.map_some,List.size_toArray]
 rw[if_pos ⟨by omega,by omega⟩,show off+j-off=j by omega]
 simp[hj]
theorem zni {ys:List (List UInt8)}{off:Nat}{cs:Array Value}{k:Nat}(hk:k<off):(Sort.putCells Go.Proofs.encStr off ys.toArray cs)[k]?=cs[k]?:=by
 unfold Sort.putCells
 rw[Array.getElem?_mapIdx]
 cases cs[k]? with
 |none=>rfl
 |some x=>simp only[Option.map_some];rw[if_neg (by omega)]
theorem zt6 (hok:OkW G w L F U H){id:Id}{o:O}(ho:H id=some o)(hv:(L id).3=false){cs:Array Value}{T:TypeId}(hb:w.heap[(L id).1]?=some (.cells cs T (0,0)))
  {ys zs:List (List UInt8)}(hlen:(L id).2+ys.length≤cs.size)(hz:zs.length≤ys.length)(hyz:∀j (h:j<zs.length),ys[j]'(by omega)=zs[j])(hmax:∀y∈zs,y.length≤za6){n:Nat}{os:Array Obj}
  (hw:w'=Sort.grow (Sort.putRow Go.Proofs.encStr (Sort.ahead w n) (L id).1 (L id).2 ys.toArray) os):
  OkW G w' L F U (zaM H id (some ⟨strCells zs,o.box,o.virt⟩))∧zbv H w L F U (zaM H id (some ⟨strCells zs,o.box,o.virt⟩)) w' L F U:=by
 obtain⟨hU,_⟩:=hok.live id o ho
 have hH:zaM (zaM H id none) id (some (⟨strCells zs,o.box,o.virt⟩:O))=zaM H id (some ⟨strCells zs,o.box,o.virt⟩):=by
  funext i;simp only[zaM];split<;>rfl
 have hsz:(Sort.putCells Go.Proofs.encStr (L id).2 ys.toArray cs).size=cs.size:=by simp[Sort.putCells]
 obtain⟨g1,g2⟩:=zfe (id':=id) (o':=⟨strCells zs,o.box,o.virt⟩) (L':=L) (U':=U) hok ho hv hb hsz (fun k hk=>zni hk) (fun _ h=>h) hU (fun _ _=>rfl) rfl (Nat.le_refl _) hv (.inl rfl)
  (by simp only[List.length_map];omega) (fun j hj=>by
   simp only[List.length_map]at hj
   refine⟨_,znh hlen (by omega),?_⟩
   simp only[List.getD_eq_getElem?_getD,List.getElem?_map,List.getElem?_eq_getElem hj,Option.map_some,Option.getD_some,zak]
   rw[hyz j hj]
   have:=za8.s (w:=w) (F:=F) ⟨zs[j].toArray⟩ (by
    show(zs[j].toArray).size≤za6
    rw[List.size_toArray];exact hmax _ (List.getElem_mem hj))
   simpa using this)
 rw[hH]at g1 g2
 have hheap:w'.heap=(zhF w (L id).1 (.cells (Sort.putCells Go.Proofs.encStr (L id).2 ys.toArray cs) T (0,0))).heap++os:=by
  rw[hw]
  show(Array.modify w.heap (L id).1 _)++os=_
  congr 1
  apply Array.ext_getElem?
  intro k
  rw[Array.getElem?_modify]
  simp only[zhF]
  by_cases hk:(L id).1=k
  ·subst hk
   rw[Array.getElem?_setIfInBounds_self,if_pos rfl,hb,if_pos (zb5 hb)]
   rfl
  ·rw[if_neg hk,Array.getElem?_setIfInBounds_ne hk]
 obtain⟨k1,k2⟩:=zoC g1 os hheap (by rw[hw];rfl) (by rw[hw];rfl) (by rw[hw];rfl) (by rw[hw];exact Nat.le_add_right _ _)
 exact⟨k1,g2.trans k2⟩
theorem zpc (hok:OkW G w L F U H){id:Id}{ss:List (List UInt8)}{bx vt:Bool}(ho:H id=some ⟨strCells ss,bx,vt⟩){v:Value}(hx:zak w L F U (.arr id 1 0 ss.length) v)(hne:ss≠[]):
  ∃cap cs T,v= .slice (some ⟨(L id).1,(L id).2,none⟩) ss.length cap∧ss.length≤cap∧(L id).3=false∧w.heap[(L id).1]?=some (.cells cs T (0,0))∧(L id).2+ss.length≤cs.size∧(∀y∈ss,y.length≤za6)∧
   Sort.Holds Go.Proofs.encStr w (L id).1 (L id).2 ss.toArray:=by
 simp only[zak]at hx
 obtain⟨_,a,cap,rfl,h1,h2,h3⟩:=hx
 have hpos:0<ss.length:=List.length_pos_iff.2 hne
 rcases h3 with h3|⟨rfl,hv,_,_⟩
 ·omega
 obtain⟨_,cs,T,hb,h4,h5⟩:=zaB (hok.live id _ ho).2 hv
 simp only[List.length_map]at h4 h5
 have h6:∀j (hj:j<ss.length),cs[(L id).2+j]?=some (Value.string ⟨ss[j].toArray⟩)∧ss[j].length≤za6:=by
  intro j hj
  obtain⟨v,e1,e2⟩:=h5 j hj
  simp only[List.getD_eq_getElem?_getD,List.getElem?_map,List.getElem?_eq_getElem hj,Option.map_some,Option.getD_some,zak]at e2
  obtain⟨x,rfl,e3,_,e4⟩:=e2.s_inv
  refine⟨?_,e4⟩
  rw[e1,←e3]
 refine⟨cap,cs,T,by rw[Nat.add_zero],h1,hv,hb,h4,fun y hy=>?_,fun j hj=>?_⟩
 ·obtain⟨j,hj,rfl⟩:=List.getElem_of_mem hy
  exact(h6 j hj).2
 ·have hj':j<ss.length:=by simpa using hj
  constructor
  ·have:World.at w (L id).1 ((L id).2+j)=cs[(L id).2+j]?:=zft hb
   rw[(h6 j hj').1]at this
   rw[show w.cell? ⟨(L id).1,(L id).2+j,none⟩=World.at w (L id).1 ((L id).2+j)from rfl,this]
   simp[hj']
  ·simp only[World.frozen?,hb]
   simp
def zlF (l:List (List UInt8)):List (List UInt8):=l.mergeSort fun x y=>decide (x≤y)
theorem zg4 (l:List (List UInt8)):(zlF l).Perm l:=List.mergeSort_perm _ _
theorem zi2 (l:List (List UInt8)):(zlF l).length=l.length:=(zg4 l).length_eq
theorem zjy {f:FuncId}(hc:zap P f)
  (hk:∀(blk off cap:Nat) (ss:List (List UInt8)) (w:World),Sort.Holds Go.Proofs.encStr w blk off ss.toArray→blk<w.heap.size→ss.length<4611686018427387904→Calls P f #[.slice (some ⟨blk,off,none⟩) ss.length cap] w fun e w'=>
   e= .returned (.tuple #[])∧∃n os,w'=Sort.grow (Sort.putRow Go.Proofs.encStr (Sort.ahead w n) blk off (ss.mergeSort fun x y=>decide (x≤y)).toArray) os)
  (h0:∀(p:Option Addr) (cap:Nat) (w:World),Calls P f #[.slice p 0 cap] w fun e w'=>e= .returned (.tuple #[])∧w'=w)
  {H:zax}{id:Id}{ss:List (List UInt8)}{bx vt:Bool}{n:Nat}(ho:H id=some ⟨strCells ss,bx,vt⟩):
  zaH P G f [.arr id 1 0 ss.length] H n fun d H' n'=>d= .tup []∧H'=zaM H id (some ⟨strCells (zlF ss),bx,vt⟩)∧n'=n:=by
 refine⟨hc,fun w L F vs hok hvs=>?_⟩
 obtain⟨v,rfl,hv⟩:∃v,vs=[v]∧zak w L F (Ub n) (.arr id 1 0 ss.length) v:=by
  match vs,hvs with
  |[v],h=>rw[zao]at h;exact⟨v,rfl,h.1⟩
  |[],h=>simp[zao]at h
  |_::_::_,h=>simp[zao]at h
 by_cases hne:ss=[]
 ·subst hne
  have hv2:=hv
  simp only[zak]at hv2
  obtain⟨_,a,cap,rfl,_⟩:=hv2
  refine(h0 a cap w).mono fun e w' he=>?_
  obtain⟨rfl,rfl⟩:=he
  have hH:zaM H id (some ⟨strCells (zlF []),bx,vt⟩)=H:=by
   funext i;simp only[zaM];split
   ·rename_i e;subst e;rw[ho];simp[zlF]
   ·rfl
  exact⟨_,_,H,n,L,F,rfl,⟨rfl,hH.symm,rfl⟩,hok,by simp only[zak];exact⟨[],rfl,by simp[zao]⟩,zbv.refl _ _ _ _ _⟩
 ·obtain⟨cap,cs,T,rfl,h1,h2,h3,h4,h5,h6⟩:=zpc hok ho hv hne
  have hb:=hok.blk_lt ho h2
  have hlen:ss.length<4611686018427387904:=by
   simp only[zak]at hv
   obtain⟨_,a,c,_,_,h,_⟩:=hv
   unfold za6 at h;omega
  refine(hk _ _ cap ss w h6 hb hlen).mono fun e w' he=>?_
  obtain⟨rfl,m,os,hw⟩:=he
  obtain⟨g1,g2⟩:=zt6 hok ho h2 h3 (ys:=zlF ss) (zs:=zlF ss) (by rw[zi2];exact h4) (Nat.le_refl _) (fun _ _=>rfl) (fun y hy=>h5 y ((zg4 ss).mem_iff.1 hy)) hw
  exact⟨_,_,_,n,L,F,rfl,⟨rfl,rfl,rfl⟩,g1,by simp only[zak];exact⟨[],rfl,by simp[zao]⟩,g2⟩
def zen (l:List (List UInt8)):List (List UInt8):=Lib.compact l
theorem zmc (l:List (List UInt8)):(zen l).length≤l.length:=by
 unfold zen Lib.compact Lib.compactUpTo
 rw[List.length_map]
 refine Nat.le_trans (List.length_filter_le _ _) ?_
 simp
theorem zf1 {f:FuncId}(hc:zap P f)
  (hk:∀(blk off cap:Nat) (zs:List (List UInt8)) (w:World),Sort.Holds Go.Proofs.encStr w blk off zs.toArray→zs.length≤9223372036854775807→zs.length≤cap→Calls P f #[.slice (some ⟨blk,off,none⟩) zs.length cap] w fun e w'=>
   e= .returned (.slice (some ⟨blk,off,none⟩) (Lib.compact zs).length cap)∧∃q,w'=Sort.putRow Go.Proofs.encStr (Sort.ahead w q) blk off (Lib.compact zs++List.replicate (zs.length-(Lib.compact zs).length) []).toArray)
  (h0:∀(p:Option Addr) (cap:Nat) (w:World),Calls P f #[.slice p 0 cap] w fun e w'=>e= .returned (.slice p 0 cap)∧w'=w)
  {H:zax}{id:Id}{ss:List (List UInt8)}{bx vt:Bool}{n:Nat}(ho:H id=some ⟨strCells ss,bx,vt⟩):
  zaH P G f [.arr id 1 0 ss.length] H n fun d H' n'=>d= .arr id 1 0 (zen ss).length∧H'=zaM H id (some ⟨strCells (zen ss),bx,vt⟩)∧n'=n:=by
 refine⟨hc,fun w L F vs hok hvs=>?_⟩
 obtain⟨v,rfl,hv⟩:∃v,vs=[v]∧zak w L F (Ub n) (.arr id 1 0 ss.length) v:=by
  match vs,hvs with
  |[v],h=>rw[zao]at h;exact⟨v,rfl,h.1⟩
  |[],h=>simp[zao]at h
  |_::_::_,h=>simp[zao]at h
 by_cases hne:ss=[]
 ·subst hne
  have hv2:=hv
  simp only[zak]at hv2
  obtain⟨_,a,cap,rfl,_⟩:=hv2
  refine(h0 a cap w).mono fun e w' he=>?_
  obtain⟨rfl,rfl⟩:=he
  have hH:zaM H id (some ⟨strCells (zen []),bx,vt⟩)=H:=by
   funext i;simp only[zaM];split
   ·rename_i e;subst e;rw[ho];rfl
   ·rfl
  exact⟨_,_,H,n,L,F,rfl,⟨rfl,hH.symm,rfl⟩,hok,hv,zbv.refl _ _ _ _ _⟩
 ·obtain⟨cap,cs,T,rfl,h1,h2,h3,h4,h5,h6⟩:=zpc hok ho hv hne
  have hlen:ss.length≤za6:=by
   simp only[zak]at hv
   obtain⟨_,a,c,_,_,h,_⟩:=hv
   exact h
  refine(hk _ _ cap ss w h6 (by unfold za6 at hlen;omega) h1).mono fun e w' he=>?_
  obtain⟨rfl,q,hw⟩:=he
  have hcl:=zmc ss
  unfold zen at hcl
  have hmem:∀y∈zen ss,y∈ss:=by
   intro y hy
   unfold zen Lib.compact Lib.compactUpTo at hy
   obtain⟨j,hj,rfl⟩:=List.mem_map.1 hy
   have hj':j<ss.length:=List.mem_range.1 (List.mem_filter.1 hj).1
   have:(ss.toArray)[j]! =ss[j]:=by simp[hj']
   rw[this]
   exact List.getElem_mem hj'
  obtain⟨g1,g2⟩:=zt6 (w':=w') (n:=q) (os:= #[]) hok ho h2 h3 (ys:=Lib.compact ss++List.replicate (ss.length-(Lib.compact ss).length) []) (zs:=zen ss) (by rw[List.length_append,List.length_replicate];omega)
   (by rw[List.length_append];unfold zen;omega) (fun j hj=>List.getElem_append_left (by unfold zen at hj;exact hj)) (fun y hy=>h5 y (hmem y hy)) (by rw[hw,Sort.grow_empty])
  refine⟨_,_,_,n,L,F,rfl,⟨rfl,rfl,rfl⟩,g1,?_,g2⟩
  have hv2:=zak.ext (g2.ext hok) _ _ hv
  simp only[zak]at hv2 ⊢
  obtain⟨e1,a,c,e2,e3,e4,e5⟩:=hv2
  simp only[Value.slice.injEq]at e2
  obtain⟨rfl,_,rfl⟩:=e2
  refine⟨e1,_,_,rfl,?_,?_,e5⟩
  ·unfold zen;omega
  ·unfold zen;omega
end
end Go.Abs
namespace Go.Abs
open Go
section
variable {G:Nat→List FD} {N:Nat} {st:St}
theorem zsq (tag:Nat):zd2 G N st ⟨st.fr,zaM st.H (tag,st.n) (some tok),st.n+1⟩:=by
 intro a w L F h
 obtain⟨g1,g2⟩:=zgr h.ok (id:=(tag,st.n)) (U':=Ub (st.n+1)) (by unfold Ub;simp) (fun i hi=>by unfold Ub at hi ⊢;omega) (by unfold Ub;simp) false
 exact⟨_,F,⟨g1,h.size,fun t=>(h.fr t).ext (g2.ext h.ok),h.nd⟩,g2⟩
theorem zsp {id id2:Id}{o:O}{k es:Nat}{xs:List FD}(ho:st.H id=some o)(hv:o.virt=false)(hk:k<o.cells.length)(hc:o.cells.getD k .junk= .full xs)(h2:id2.2<st.n):
  zd2 G N st ⟨st.fr,zaM st.H id (some {o with cells:=o.cells.set k (.ow id2 es xs)}),st.n⟩:=by
 intro a w L F h
 have hold:∀i x,zaM st.H id (some {o with cells:=o.cells.set k (.ow id2 es xs)}) i=some x→∃y,st.H i=some y:=fun i x hx=>by
  unfold zaM at hx
  split at hx
  ·rename_i e;subst e;exact⟨_,ho⟩
  ·exact⟨_,hx⟩
 refine⟨L,F,⟨⟨h.ok.fb,fun i x hx=>?_,fun i1 i2 o1 o2 h1 h2=>?_,h.ok.glob⟩,h.size,h.fr,h.nd⟩,fun _ h=>h,fun _ _=>rfl,fun _ _ h=>h,Nat.le_refl _,fun _ _ _=>rfl,fun _ _ _ _=>rfl,
  fun b cs T fr _ h=>⟨cs,T,fr,h,Nat.le_refl _⟩,fun _ _ h=> .inl h,fun b k hb=> .inr ?_,rfl,rfl,rfl,Nat.le_refl _⟩
 ·simp only[zaM]at hx
  split at hx
  ·rename_i e
   subst e
   simp only[Option.some.injEq]at hx
   subst hx
   obtain⟨g1,g2⟩:=h.ok.live _ _ ho
   refine⟨g1,?_⟩
   unfold zbP at g2 ⊢
   cases e3:(L i).3 with
   |true=>
    rw[if_pos e3]at g2
    rw[hv]at g2
    cases g2.2
   |false=>
    simp only[e3,Bool.false_eq_true,if_false]at g2 ⊢
    obtain⟨q1,cs,T,q2,q3,q4⟩:=g2
    refine⟨q1,cs,T,q2,by rw[List.length_set];exact q3,fun j hj=>?_⟩
    rw[List.length_set]at hj
    obtain⟨v,q5,q6⟩:=q4 j hj
    refine⟨v,q5,?_⟩
    by_cases e:k=j
    ·subst e
     rw[hc]at q6
     rw[List.getD_eq_getElem?_getD,List.getElem?_set_self hk,Option.getD_some]
     simp only[zak]at q6 ⊢
     obtain⟨a',r1,r2⟩:=q6
     exact⟨h2,r2,a',_,r1,.inl rfl⟩
    ·rw[List.getD_eq_getElem?_getD,List.getElem?_set_ne e,←List.getD_eq_getElem?_getD]
     exact q6
  ·exact h.ok.live i x hx
 ·obtain⟨y1,h1⟩:=hold _ _ h1
  obtain⟨y2,h2⟩:=hold _ _ h2
  exact h.ok.inj i1 i2 y1 y2 h1 h2
 ·obtain⟨i,x,h1,h2,h3,h4⟩:=hb
  obtain⟨y,h1⟩:=hold _ _ h1
  exact⟨i,y,h1,h2,h3,h4⟩
theorem zd4 {l:List (Nat×D)}{hl:List (Id×Option O)}{X:zax}{n:Nat}(tag:Nat):zd2 G N ⟨frL l,hpX hl X,n⟩ ⟨frL l,hpX (((tag,n),some tok)::hl) X,n+1⟩:=by
 have:=zsq (G:=G) (N:=N) (st:=⟨frL l,hpX hl X,n⟩) tag
 rw[zzV]at this
 exact this
theorem zd3 {l:List (Nat×D)}{hl:List (Id×Option O)}{X:zax}{n:Nat}{id id2:Id}{cells:List D}{b:Bool}{k es:Nat}{xs:List FD}(ho:hpX hl X id=some ⟨cells,b,false⟩)(hk:k<cells.length)(hc:cells.getD k .junk= .full xs)(h2:id2.2<n):
  zd2 G N ⟨frL l,hpX hl X,n⟩ ⟨frL l,hpX ((id,some ⟨cells.set k (.ow id2 es xs),b,false⟩)::hl) X,n⟩:=by
 have:=zsp (G:=G) (N:=N) (st:=⟨frL l,hpX hl X,n⟩) (es:=es) ho rfl hk hc h2
 rw[zzV]at this
 exact this
theorem zbw {a b c:St}(h1:zd2 G N a b)(h2:zd2 G N b c):zd2 G N a c:=zd2.trans h1 h2
end
end Go.Abs
namespace Go.Abs
open Go
def Tbl.or (S T:Tbl):Tbl:=fun f=>(S f).or (T f)
@[go_sem] theorem zGX {S T:Tbl}{f:FuncId}:Tbl.or S T f=(S f).or (T f):=rfl
@[go_sem] theorem zEy {α:Type}{a:α}{b:Option α}:(some a).or b=some a:=rfl
@[go_sem] theorem zEx {α:Type}{b:Option α}:(none:Option α).or b=b:=by cases b<;>rfl
section
variable {P:Program} {G:Nat→List FD} {S T:Tbl}
theorem zf0 (hS:zan P G S)(hT:zan P G T):zan P G (Tbl.or S T):=fun f t xs r c ht hx hc=>by
 unfold Tbl.or at ht
 cases h:S f with
 |none=>rw[h]at ht;exact hT f t xs r c (by simpa using ht) hx hc
 |some t'=>rw[h]at ht;exact hS f t xs r c (by rw[h];simpa using ht) hx hc
theorem zao.tail {w:World}{L L':Loc}{F:Nat→Nat→Prop}{U U':Id→Prop}{g:FuncId}{xs:List FD}:∀{ds:List D} {vs:List Value},D.toFDs ds=some xs→zao w L F U (ds++[.fn g []]) vs→zao w L' F U' (xs.map .fz++[.fn g []]) vs:=by
 intro ds vs ha h
 rw[zao.iff]at h ⊢
 obtain⟨h1,h2⟩:=h
 have hl:xs.length=ds.length:=by
  have:=zao.toFDs (w:=w) (L:=L) (F:=F) (U:=U) ds (vs.take ds.length) xs (by
   rw[zao.iff]
   refine⟨by rw[List.length_append]at h1;simp only[List.length_take];omega,fun j hj=>?_⟩
   have:=h2 j (by rw[List.length_append];omega)
   rw[List.getD_eq_getElem?_getD,List.getElem?_append_left hj,←List.getD_eq_getElem?_getD]at this
   rwa [List.getD_eq_getElem?_getD (l:=vs.take _),List.getElem?_take,if_pos hj,←List.getD_eq_getElem?_getD (l:=vs)]) ha
  have h3:=this.1
  rw[List.length_append]at h1
  simp only[List.length_take]at h3
  omega
 refine⟨by rw[List.length_append,List.length_map,hl,←List.length_append];exact h1,fun j hj=>?_⟩
 rw[List.length_append,List.length_map]at hj
 have h3:=h2 j (by rw[List.length_append];omega)
 rcases Nat.lt_or_ge j ds.length with h4|h4
 ·have hv:zao w L F U ds (vs.take ds.length):=by
   rw[zao.iff]
   refine⟨by rw[List.length_append]at h1;simp only[List.length_take];omega,fun i hi=>?_⟩
   have:=h2 i (by rw[List.length_append];omega)
   rw[List.getD_eq_getElem?_getD,List.getElem?_append_left hi,←List.getD_eq_getElem?_getD]at this
   rwa [List.getD_eq_getElem?_getD (l:=vs.take _),List.getElem?_take,if_pos hi,←List.getD_eq_getElem?_getD (l:=vs)]
  have:=((zao.iff _ _).1 (hv.of_toFDs (L':=L') (U':=U') ha)).2 j (by rw[List.length_map];omega)
  rw[List.getD_eq_getElem?_getD,List.getElem?_append_left (by rw[List.length_map];omega),←List.getD_eq_getElem?_getD]
  rwa [List.getD_eq_getElem?_getD (l:=vs.take _),List.getElem?_take,if_pos h4,←List.getD_eq_getElem?_getD (l:=vs)]at this
 ·obtain rfl:j=ds.length:=by simp only[List.length_singleton]at hj;omega
  rw[List.getD_eq_getElem?_getD,List.getElem?_append_right (Nat.le_refl _),Nat.sub_self]at h3
  rw[List.getD_eq_getElem?_getD,List.getElem?_append_right (by rw[List.length_map];omega),List.length_map,hl,Nat.sub_self]
  simp only[List.getElem?_cons_zero,Option.getD_some,zak]at h3 ⊢
  obtain⟨us,e,h5⟩:=h3
  refine⟨us,e,?_⟩
  cases us with
  |nil=>simp only[zao]
  |cons u us=>simp only[zao]at h5
end
end Go.Abs
