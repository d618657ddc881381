import Derived.Test.YtkkffhphodngkaaDoorY6
import Derived.Sort.Grow
import Derived.Sort.EncStr
import Derived.Lib.SlicesCompact
import Derived.Lib.ItoaNum
import Derived.Lib.LaidTab
import Derived.Deep.Draws
set_option linter.unusedSimpArgs false
namespace Go.Abs
open Go
section
variable {P:Program} {G:Nat→List FD} {w w':World} {L:Loc} {F:Nat→Nat→Prop} {U:Id→Prop} {H:zau}
theorem zrP (hok:OkW G w L F U H)(os:Array Obj)(hh:w'.heap=w.heap++os)(ho:w'.os=w.os)(ht:w'.tape=w.tape)(hu:w'.output=w.output)(hdr:w.drawn≤w'.drawn):
  OkW G w' L F U H∧zby H w L F U H w' L F U:=by
 have old:∀{b},b<w.heap.size→w'.heap[b]?=w.heap[b]?:=fun hb=>by rw[hh,Array.getElem?_append_left hb]
 have hst:zby H w L F U H w' L F U:=by
  refine⟨fun _ h=>h,fun _ _=>rfl,fun _ _ h=>h,by rw[hh];simp,fun b hb _=>old hb,fun b k hb _=>zhN (old hb) k,fun b cs T fr hb h=>⟨cs,T,fr,by rw[←old hb];exact h,Nat.le_refl _⟩,fun _ _ h=> .inl h,fun _ _ h=> .inr h,ho,ht,hu,hdr⟩
 refine⟨⟨fun b k hb=>Nat.lt_of_lt_of_le (hok.fb b k hb) hst.size,fun i o h1=>?_,hok.inj,zdx (fun _ _ h=>h) (hst.ext hok).fk hok.glob⟩,hst⟩
 obtain⟨g1,g2⟩:=hok.live i o h1
 exact⟨g1,g2.ext (hst.ext hok) g1 fun hv=>⟨old (hok.blk_lt h1 hv),fun k hk h=>(zar g2 hv).1 k hk h⟩⟩
def zco (n:Nat):List UInt8:=Lib.decDigits n
abbrev zbx (l:List (List UInt8)):List D:=l.map fun x=> .fz (.s x)
theorem zma {ys:List (List UInt8)}{off:Nat}{cs:Array Value}(h:off+ys.length≤cs.size){j:Nat}(hj:j<ys.length):
  (Sort.putCells Go.Proofs.encStr off ys.toArray cs)[off+j]?=some (Value.string ⟨ys[j].toArray⟩):=by
 unfold Sort.putCells
 rw[Array.getElem?_mapIdx,Array.getElem?_eq_getElem (by omega)]
 simp only[Option.map_some,List.size_toArray]
 rw[if_pos ⟨by omega,by omega⟩,show off+j-off=j by omega]
 simp[hj]
theorem zmb {ys:List (List UInt8)}{off:Nat}{cs:Array Value}{k:Nat}(hk:k<off):(Sort.putCells Go.Proofs.encStr off ys.toArray cs)[k]?=cs[k]?:=by
 unfold Sort.putCells
 rw[Array.getElem?_mapIdx]
 cases cs[k]? with
 |none=>rfl
 |some x=>simp only[Option.map_some];rw[if_neg (by omega)]
theorem zsq (hok:OkW G w L F U H){id:Id}{o:O}(ho:H id=some o)(hv:(L id).3=false){cs:Array Value}{T:TypeId}(hb:w.heap[(L id).1]?=some (.cells cs T (0,0)))
  {ys zs:List (List UInt8)}(hlen:(L id).2+ys.length≤cs.size)(hz:zs.length≤ys.length)(hyz:∀j (h:j<zs.length),ys[j]'(by omega)=zs[j])(hmax:∀y∈zs,y.length≤zba){n:Nat}{os:Array Obj}
  (hw:w'=Sort.grow (Sort.putRow Go.Proofs.encStr (Sort.ahead w n) (L id).1 (L id).2 ys.toArray) os):
  OkW G w' L F U (zaG H id (some ⟨zbx zs,o.box,o.virt⟩))∧zby H w L F U (zaG H id (some ⟨zbx zs,o.box,o.virt⟩)) w' L F U:=by
 obtain⟨hU,_⟩:=hok.live id o ho
 have hH:zaG (zaG H id none) id (some (⟨zbx zs,o.box,o.virt⟩:O))=zaG H id (some ⟨zbx zs,o.box,o.virt⟩):=by
  funext i;simp only[zaG];split<;>rfl
 have hsz:(Sort.putCells Go.Proofs.encStr (L id).2 ys.toArray cs).size=cs.size:=by simp[Sort.putCells]
 obtain⟨g1,g2⟩:=zgk (id':=id) (o':=⟨zbx zs,o.box,o.virt⟩) (L':=L) (U':=U) hok ho hv hb hsz (fun k hk=>zmb hk) (fun _ h=>h) hU (fun _ _=>rfl) rfl (Nat.le_refl _) hv (.inl rfl)
  (by simp only[List.length_map];omega) (fun j hj=>by
   simp only[List.length_map]at hj
   refine⟨_,zma hlen (by omega),?_⟩
   simp only[List.getD_eq_getElem?_getD,List.getElem?_map,List.getElem?_eq_getElem hj,Option.map_some,Option.getD_some,zaj]
   rw[hyz j hj]
   have:=zbh.s (w:=w) (F:=F) ⟨zs[j].toArray⟩ (by
    show(zs[j].toArray).size≤zba
    rw[List.size_toArray];exact hmax _ (List.getElem_mem hj))
   simpa using this)
 rw[hH]at g1 g2
 have hheap:w'.heap=(zhc w (L id).1 (.cells (Sort.putCells Go.Proofs.encStr (L id).2 ys.toArray cs) T (0,0))).heap++os:=by
  rw[hw]
  show(Array.modify w.heap (L id).1 _)++os=_
  congr 1
  apply Array.ext_getElem?
  intro k
  rw[Array.getElem?_modify]
  simp only[zhc]
  by_cases hk:(L id).1=k
  ·subst hk
   rw[Array.getElem?_setIfInBounds_self,if_pos rfl,hb,if_pos (zbR hb)]
   rfl
  ·rw[if_neg hk,Array.getElem?_setIfInBounds_ne hk]
 obtain⟨k1,k2⟩:=zrP g1 os hheap (by rw[hw];rfl) (by rw[hw];rfl) (by rw[hw];rfl) (by rw[hw];exact Nat.le_add_right _ _)
 exact⟨k1,g2.trans k2⟩
theorem znU (hok:OkW G w L F U H){id:Id}{ss:List (List UInt8)}{bx vt:Bool}(ho:H id=some ⟨zbx ss,bx,vt⟩){v:Value}(hx:zaj w L F U (.arr id 1 0 ss.length) v)(hne:ss≠[]):
  ∃cap cs T,v= .slice (some ⟨(L id).1,(L id).2,none⟩) ss.length cap∧ss.length≤cap∧(L id).3=false∧w.heap[(L id).1]?=some (.cells cs T (0,0))∧(L id).2+ss.length≤cs.size∧(∀y∈ss,y.length≤zba)∧
   Sort.Holds Go.Proofs.encStr w (L id).1 (L id).2 ss.toArray:=by
 simp only[zaj]at hx
 obtain⟨_,a,cap,rfl,h1,h2,h3⟩:=hx
 have hpos:0<ss.length:=List.length_pos_iff.2 hne
 rcases h3 with h3|⟨rfl,hv,_,_⟩
 ·omega
 obtain⟨_,cs,T,hb,h4,h5⟩:=zar (hok.live id _ ho).2 hv
 simp only[List.length_map]at h4 h5
 have h6:∀j (hj:j<ss.length),cs[(L id).2+j]?=some (Value.string ⟨ss[j].toArray⟩)∧ss[j].length≤zba:=by
  intro j hj
  obtain⟨v,e1,e2⟩:=h5 j hj
  simp only[List.getD_eq_getElem?_getD,List.getElem?_map,List.getElem?_eq_getElem hj,Option.map_some,Option.getD_some,zaj]at e2
  obtain⟨x,rfl,e3,_,e4⟩:=e2.s_inv
  refine⟨?_,e4⟩
  rw[e1,←e3]
 refine⟨cap,cs,T,by rw[Nat.add_zero],h1,hv,hb,h4,fun y hy=>?_,fun j hj=>?_⟩
 ·obtain⟨j,hj,rfl⟩:=List.getElem_of_mem hy
  exact(h6 j hj).2
 ·have hj':j<ss.length:=by simpa using hj
  constructor
  ·have:World.at w (L id).1 ((L id).2+j)=cs[(L id).2+j]?:=zgp hb
   rw[(h6 j hj').1]at this
   rw[show w.cell? ⟨(L id).1,(L id).2+j,none⟩=World.at w (L id).1 ((L id).2+j)from rfl,this]
   simp[hj']
  ·simp only[World.frozen?,hb]
   simp
def zgL (l:List (List UInt8)):List (List UInt8):=l.mergeSort fun x y=>decide (x≤y)
theorem zd2 (l:List (List UInt8)):(zgL l).Perm l:=List.mergeSort_perm _ _
theorem zga (l:List (List UInt8)):(zgL l).length=l.length:=(zd2 l).length_eq
theorem zi3 {f:FuncId}(hc:zam P f)
  (hk:∀(blk off cap:Nat) (ss:List (List UInt8)) (w:World),Sort.Holds Go.Proofs.encStr w blk off ss.toArray→blk<w.heap.size→ss.length<4611686018427387904→Calls P f #[.slice (some ⟨blk,off,none⟩) ss.length cap] w fun e w'=>
   e= .returned (.tuple #[])∧∃n os,w'=Sort.grow (Sort.putRow Go.Proofs.encStr (Sort.ahead w n) blk off (ss.mergeSort fun x y=>decide (x≤y)).toArray) os)
  (h0:∀(p:Option Addr) (cap:Nat) (w:World),Calls P f #[.slice p 0 cap] w fun e w'=>e= .returned (.tuple #[])∧w'=w)
  {H:zau}{id:Id}{ss:List (List UInt8)}{bx vt:Bool}{n:Nat}(ho:H id=some ⟨zbx ss,bx,vt⟩):
  zay P G f [.arr id 1 0 ss.length] H n fun d H' n'=>d= .tup []∧H'=zaG H id (some ⟨zbx (zgL ss),bx,vt⟩)∧n'=n:=by
 refine⟨hc,fun w L F vs hok hvs=>?_⟩
 obtain⟨v,rfl,hv⟩:∃v,vs=[v]∧zaj w L F (Ub n) (.arr id 1 0 ss.length) v:=by
  match vs,hvs with
  |[v],h=>rw[zak]at h;exact⟨v,rfl,h.1⟩
  |[],h=>simp[zak]at h
  |_::_::_,h=>simp[zak]at h
 by_cases hne:ss=[]
 ·subst hne
  have hv2:=hv
  simp only[zaj]at hv2
  obtain⟨_,a,cap,rfl,_⟩:=hv2
  refine(h0 a cap w).mono fun e w' he=>?_
  obtain⟨rfl,rfl⟩:=he
  have hH:zaG H id (some ⟨zbx (zgL []),bx,vt⟩)=H:=by
   funext i;simp only[zaG];split
   ·rename_i e;subst e;rw[ho];simp[zgL]
   ·rfl
  exact⟨_,_,H,n,L,F,rfl,⟨rfl,hH.symm,rfl⟩,hok,by simp only[zaj];exact⟨[],rfl,by simp[zak]⟩,zby.refl _ _ _ _ _⟩
 ·obtain⟨cap,cs,T,rfl,h1,h2,h3,h4,h5,h6⟩:=znU hok ho hv hne
  have hb:=hok.blk_lt ho h2
  have hlen:ss.length<4611686018427387904:=by
   simp only[zaj]at hv
   obtain⟨_,a,c,_,_,h,_⟩:=hv
   unfold zba at h;omega
  refine(hk _ _ cap ss w h6 hb hlen).mono fun e w' he=>?_
  obtain⟨rfl,m,os,hw⟩:=he
  obtain⟨g1,g2⟩:=zsq hok ho h2 h3 (ys:=zgL ss) (zs:=zgL ss) (by rw[zga];exact h4) (Nat.le_refl _) (fun _ _=>rfl) (fun y hy=>h5 y ((zd2 ss).mem_iff.1 hy)) hw
  exact⟨_,_,_,n,L,F,rfl,⟨rfl,rfl,rfl⟩,g1,by simp only[zaj];exact⟨[],rfl,by simp[zak]⟩,g2⟩
def zda (l:List (List UInt8)):List (List UInt8):=Lib.compact l
theorem zfL (l:List (List UInt8)):(zda l).length≤l.length:=by
 unfold zda Lib.compact Lib.compactUpTo
 rw[List.length_map]
 refine Nat.le_trans (List.length_filter_le _ _) ?_
 simp
theorem zfz {f:FuncId}(hc:zam P f)
  (hk:∀(blk off cap:Nat) (zs:List (List UInt8)) (w:World),Sort.Holds Go.Proofs.encStr w blk off zs.toArray→zs.length≤9223372036854775807→zs.length≤cap→Calls P f #[.slice (some ⟨blk,off,none⟩) zs.length cap] w fun e w'=>
   e= .returned (.slice (some ⟨blk,off,none⟩) (Lib.compact zs).length cap)∧∃q,w'=Sort.putRow Go.Proofs.encStr (Sort.ahead w q) blk off (Lib.compact zs++List.replicate (zs.length-(Lib.compact zs).length) []).toArray)
  (h0:∀(p:Option Addr) (cap:Nat) (w:World),Calls P f #[.slice p 0 cap] w fun e w'=>e= .returned (.slice p 0 cap)∧w'=w)
  {H:zau}{id:Id}{ss:List (List UInt8)}{bx vt:Bool}{n:Nat}(ho:H id=some ⟨zbx ss,bx,vt⟩):
  zay P G f [.arr id 1 0 ss.length] H n fun d H' n'=>d= .arr id 1 0 (zda ss).length∧H'=zaG H id (some ⟨zbx (zda ss),bx,vt⟩)∧n'=n:=by
 refine⟨hc,fun w L F vs hok hvs=>?_⟩
 obtain⟨v,rfl,hv⟩:∃v,vs=[v]∧zaj w L F (Ub n) (.arr id 1 0 ss.length) v:=by
  match vs,hvs with
  |[v],h=>rw[zak]at h;exact⟨v,rfl,h.1⟩
  |[],h=>simp[zak]at h
  |_::_::_,h=>simp[zak]at h
 by_cases hne:ss=[]
 ·subst hne
  have hv2:=hv
  simp only[zaj]at hv2
  obtain⟨_,a,cap,rfl,_⟩:=hv2
  refine(h0 a cap w).mono fun e w' he=>?_
  obtain⟨rfl,rfl⟩:=he
  have hH:zaG H id (some ⟨zbx (zda []),bx,vt⟩)=H:=by
   funext i;simp only[zaG];split
   ·rename_i e;subst e;rw[ho];rfl
   ·rfl
  exact⟨_,_,H,n,L,F,rfl,⟨rfl,hH.symm,rfl⟩,hok,hv,zby.refl _ _ _ _ _⟩
 ·obtain⟨cap,cs,T,rfl,h1,h2,h3,h4,h5,h6⟩:=znU hok ho hv hne
  have hlen:ss.length≤zba:=by
   simp only[zaj]at hv
   obtain⟨_,a,c,_,_,h,_⟩:=hv
   exact h
  refine(hk _ _ cap ss w h6 (by unfold zba at hlen;omega) h1).mono fun e w' he=>?_
  obtain⟨rfl,q,hw⟩:=he
  have hcl:=zfL ss
  unfold zda at hcl
  have hmem:∀y∈zda ss,y∈ss:=by
   intro y hy
   unfold zda Lib.compact Lib.compactUpTo at hy
   obtain⟨j,hj,rfl⟩:=List.mem_map.1 hy
   have hj':j<ss.length:=List.mem_range.1 (List.mem_filter.1 hj).1
   have:(ss.toArray)[j]! =ss[j]:=by simp[hj']
   rw[this]
   exact List.getElem_mem hj'
  obtain⟨g1,g2⟩:=zsq (w':=w') (n:=q) (os:= #[]) hok ho h2 h3 (ys:=Lib.compact ss++List.replicate (ss.length-(Lib.compact ss).length) []) (zs:=zda ss) (by rw[List.length_append,List.length_replicate];omega)
   (by rw[List.length_append];unfold zda;omega) (fun j hj=>List.getElem_append_left (by unfold zda at hj;exact hj)) (fun y hy=>h5 y (hmem y hy)) (by rw[hw,Sort.grow_empty])
  refine⟨_,_,_,n,L,F,rfl,⟨rfl,rfl,rfl⟩,g1,?_,g2⟩
  have hv2:=zaj.ext (g2.ext hok) _ _ hv
  simp only[zaj]at hv2 ⊢
  obtain⟨e1,a,c,e2,e3,e4,e5⟩:=hv2
  simp only[Value.slice.injEq]at e2
  obtain⟨rfl,_,rfl⟩:=e2
  refine⟨e1,_,_,rfl,?_,?_,e5⟩
  ·unfold zda;omega
  ·unfold zda;omega
end
end Go.Abs
