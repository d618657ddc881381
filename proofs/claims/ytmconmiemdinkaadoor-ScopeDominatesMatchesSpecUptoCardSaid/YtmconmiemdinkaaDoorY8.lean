/- several texts of this proof in one; no conditions -/
import Derived.Test.YtmconmiemdinkaaDoorY7
import Derived.Sort.Grow
import Derived.Sort.EncStr
import Derived.Lib.SlicesCompact
import Derived.Lib.ItoaNum
import Derived.Lib.LaidTab
import Derived.Deep.Draws
set_option linter.unusedSimpArgs false
namespace Go.Abs
open Go
section
variable {P:Program} {G:Nat→List FD} {w w':World} {L:Loc} {F:Nat→Nat→Prop} {U:Id→Prop} {H:zau}
theorem zt3 (hok:OkW G w L F U H)(os:Array Obj)(hh:w'.heap=w.heap++os)(ho:w'.os=w.os)(ht:w'.tape=w.tape)(hu:w'.output=w.output)(hdr:w.drawn≤w'.drawn):
  OkW G w' L F U H∧zbt H w L F U H w' L F U:=by
 have old:∀{b},b<w.heap.size→w'.heap[b]?=w.heap[b]?:=fun hb=>by rw[hh,Array.getElem?_append_left hb]
 have hst:zbt H w L F U H w' L F U:=by
  refine⟨fun _ h=>h,fun _ _=>rfl,fun _ _ h=>h,by rw[hh];simp,fun b hb _=>old hb,fun b k hb _=>zg2 (old hb) k,fun b cs T fr hb h=>⟨cs,T,fr,by rw[←old hb];exact h,Nat.le_refl _⟩,fun _ _ h=> .inl h,fun _ _ h=> .inr h,ho,ht,hu,hdr⟩
 refine⟨⟨fun b k hb=>Nat.lt_of_lt_of_le (hok.fb b k hb) hst.size,fun i o h1=>?_,hok.inj,zcM (fun _ _ h=>h) (hst.ext hok).fk hok.glob⟩,hst⟩
 obtain⟨g1,g2⟩:=hok.live i o h1
 exact⟨g1,g2.ext (hst.ext hok) g1 fun hv=>⟨old (hok.blk_lt h1 hv),fun k hk h=>(zaC g2 hv).1 k hk h⟩⟩
def zca (n:Nat):List UInt8:=Lib.decDigits n
abbrev zbo (l:List (List UInt8)):List D:=l.map fun x=> .fz (.s x)
theorem zk0 {ys:List (List UInt8)}{off:Nat}{cs:Array Value}(h:off+ys.length≤cs.size){j:Nat}(hj:j<ys.length):
  (Sort.putCells Go.Proofs.encStr off ys.toArray cs)[off+j]?=some (Value.string ⟨ys[j].toArray⟩):=by
 unfold Sort.putCells
 rw[Array.getElem?_mapIdx,Array.getElem?_eq_getElem (by omega)]
 simp only[Option.map_some,List.size_toArray]
 rw[if_pos ⟨by omega,by omega⟩,show off+j-off=j by omega]
 simp[hj]
theorem zk1 {ys:List (List UInt8)}{off:Nat}{cs:Array Value}{k:Nat}(hk:k<off):(Sort.putCells Go.Proofs.encStr off ys.toArray cs)[k]?=cs[k]?:=by
 unfold Sort.putCells
 rw[Array.getElem?_mapIdx]
 cases cs[k]? with
 |none=>rfl
 |some x=>simp only[Option.map_some];rw[if_neg (by omega)]
theorem zqu (hok:OkW G w L F U H){id:Id}{o:O}(ho:H id=some o)(hv:(L id).3=false){cs:Array Value}{T:TypeId}(hb:w.heap[(L id).1]?=some (.cells cs T (0,0)))
  {ys zs:List (List UInt8)}(hlen:(L id).2+ys.length≤cs.size)(hz:zs.length≤ys.length)(hyz:∀j (h:j<zs.length),ys[j]'(by omega)=zs[j])(hmax:∀y∈zs,y.length≤zbj){n:Nat}{os:Array Obj}
  (hw:w'=Sort.grow (Sort.putRow Go.Proofs.encStr (Sort.ahead w n) (L id).1 (L id).2 ys.toArray) os):
  OkW G w' L F U (zaK H id (some ⟨zbo zs,o.box,o.virt⟩))∧zbt H w L F U (zaK H id (some ⟨zbo zs,o.box,o.virt⟩)) w' L F U:=by
 obtain⟨hU,_⟩:=hok.live id o ho
 have hH:zaK (zaK H id none) id (some (⟨zbo zs,o.box,o.virt⟩:O))=zaK H id (some ⟨zbo zs,o.box,o.virt⟩):=by
  funext i;simp only[zaK];split<;>rfl
 have hsz:(Sort.putCells Go.Proofs.encStr (L id).2 ys.toArray cs).size=cs.size:=by simp[Sort.putCells]
 obtain⟨g1,g2⟩:=zhV (id':=id) (o':=⟨zbo zs,o.box,o.virt⟩) (L':=L) (U':=U) hok ho hv hb hsz (fun k hk=>zk1 hk) (fun _ h=>h) hU (fun _ _=>rfl) rfl (Nat.le_refl _) hv (.inl rfl)
  (by simp only[List.length_map];omega) (fun j hj=>by
   simp only[List.length_map]at hj
   refine⟨_,zk0 hlen (by omega),?_⟩
   simp only[List.getD_eq_getElem?_getD,List.getElem?_map,List.getElem?_eq_getElem hj,Option.map_some,Option.getD_some,zaj]
   rw[hyz j hj]
   have:=zbf.s (w:=w) (F:=F) ⟨zs[j].toArray⟩ (by
    show(zs[j].toArray).size≤zbj
    rw[List.size_toArray];exact hmax _ (List.getElem_mem hj))
   simpa using this)
 rw[hH]at g1 g2
 have hheap:w'.heap=(zgS w (L id).1 (.cells (Sort.putCells Go.Proofs.encStr (L id).2 ys.toArray cs) T (0,0))).heap++os:=by
  rw[hw]
  show(Array.modify w.heap (L id).1 _)++os=_
  congr 1
  apply Array.ext_getElem?
  intro k
  rw[Array.getElem?_modify]
  simp only[zgS]
  by_cases hk:(L id).1=k
  ·subst hk
   rw[Array.getElem?_setIfInBounds_self,if_pos rfl,hb,if_pos (zb0 hb)]
   rfl
  ·rw[if_neg hk,Array.getElem?_setIfInBounds_ne hk]
 obtain⟨k1,k2⟩:=zt3 g1 os hheap (by rw[hw];rfl) (by rw[hw];rfl) (by rw[hw];rfl) (by rw[hw];exact Nat.le_add_right _ _)
 exact⟨k1,g2.trans k2⟩
theorem zmz (hok:OkW G w L F U H){id:Id}{ss:List (List UInt8)}{bx vt:Bool}(ho:H id=some ⟨zbo ss,bx,vt⟩){v:Value}(hx:zaj w L F U (.arr id 1 0 ss.length) v)(hne:ss≠[]):
  ∃cap cs T,v= .slice (some ⟨(L id).1,(L id).2,none⟩) ss.length cap∧ss.length≤cap∧(L id).3=false∧w.heap[(L id).1]?=some (.cells cs T (0,0))∧(L id).2+ss.length≤cs.size∧(∀y∈ss,y.length≤zbj)∧
   Sort.Holds Go.Proofs.encStr w (L id).1 (L id).2 ss.toArray:=by
 simp only[zaj]at hx
 obtain⟨_,a,cap,rfl,h1,h2,h3⟩:=hx
 have hpos:0<ss.length:=List.length_pos_iff.2 hne
 rcases h3 with h3|⟨rfl,hv,_,_⟩
 ·omega
 obtain⟨_,cs,T,hb,h4,h5⟩:=zaC (hok.live id _ ho).2 hv
 simp only[List.length_map]at h4 h5
 have h6:∀j (hj:j<ss.length),cs[(L id).2+j]?=some (Value.string ⟨ss[j].toArray⟩)∧ss[j].length≤zbj:=by
  intro j hj
  obtain⟨v,e1,e2⟩:=h5 j hj
  simp only[List.getD_eq_getElem?_getD,List.getElem?_map,List.getElem?_eq_getElem hj,Option.map_some,Option.getD_some,zaj]at e2
  obtain⟨x,rfl,e3,_,e4⟩:=e2.s_inv
  refine⟨?_,e4⟩
  rw[e1,←e3]
 refine⟨cap,cs,T,by rw[Nat.add_zero],h1,hv,hb,h4,fun y hy=>?_,fun j hj=>?_⟩
 ·obtain⟨j,hj,rfl⟩:=List.getElem_of_mem hy
  exact(h6 j hj).2
 ·have hj':j<ss.length:=by simpa using hj
  constructor
  ·have:World.at w (L id).1 ((L id).2+j)=cs[(L id).2+j]?:=zfP hb
   rw[(h6 j hj').1]at this
   rw[show w.cell? ⟨(L id).1,(L id).2+j,none⟩=World.at w (L id).1 ((L id).2+j)from rfl,this]
   simp[hj']
  ·simp only[World.frozen?,hb]
   simp
def zjM (l:List (List UInt8)):List (List UInt8):=l.mergeSort fun x y=>decide (x≤y)
theorem zf4 (l:List (List UInt8)):(zjM l).Perm l:=List.mergeSort_perm _ _
theorem zhH (l:List (List UInt8)):(zjM l).length=l.length:=(zf4 l).length_eq
theorem zia {f:FuncId}(hc:zat P f)
  (hk:∀(blk off cap:Nat) (ss:List (List UInt8)) (w:World),Sort.Holds Go.Proofs.encStr w blk off ss.toArray→blk<w.heap.size→ss.length<4611686018427387904→Calls P f #[.slice (some ⟨blk,off,none⟩) ss.length cap] w fun e w'=>
   e= .returned (.tuple #[])∧∃n os,w'=Sort.grow (Sort.putRow Go.Proofs.encStr (Sort.ahead w n) blk off (ss.mergeSort fun x y=>decide (x≤y)).toArray) os)
  (h0:∀(p:Option Addr) (cap:Nat) (w:World),Calls P f #[.slice p 0 cap] w fun e w'=>e= .returned (.tuple #[])∧w'=w)
  {H:zau}{id:Id}{ss:List (List UInt8)}{bx vt:Bool}{n:Nat}(ho:H id=some ⟨zbo ss,bx,vt⟩):
  zaE P G f [.arr id 1 0 ss.length] H n fun d H' n'=>d= .tup []∧H'=zaK H id (some ⟨zbo (zjM ss),bx,vt⟩)∧n'=n:=by
 refine⟨hc,fun w L F vs hok hvs=>?_⟩
 obtain⟨v,rfl,hv⟩:∃v,vs=[v]∧zaj w L F (Ub n) (.arr id 1 0 ss.length) v:=by
  match vs,hvs with
  |[v],h=>rw[zaq]at h;exact⟨v,rfl,h.1⟩
  |[],h=>simp[zaq]at h
  |_::_::_,h=>simp[zaq]at h
 by_cases hne:ss=[]
 ·subst hne
  have hv2:=hv
  simp only[zaj]at hv2
  obtain⟨_,a,cap,rfl,_⟩:=hv2
  refine(h0 a cap w).mono fun e w' he=>?_
  obtain⟨rfl,rfl⟩:=he
  have hH:zaK H id (some ⟨zbo (zjM []),bx,vt⟩)=H:=by
   funext i;simp only[zaK];split
   ·rename_i e;subst e;rw[ho];simp[zjM]
   ·rfl
  exact⟨_,_,H,n,L,F,rfl,⟨rfl,hH.symm,rfl⟩,hok,by simp only[zaj];exact⟨[],rfl,by simp[zaq]⟩,zbt.refl _ _ _ _ _⟩
 ·obtain⟨cap,cs,T,rfl,h1,h2,h3,h4,h5,h6⟩:=zmz hok ho hv hne
  have hb:=hok.blk_lt ho h2
  have hlen:ss.length<4611686018427387904:=by
   simp only[zaj]at hv
   obtain⟨_,a,c,_,_,h,_⟩:=hv
   unfold zbj at h;omega
  refine(hk _ _ cap ss w h6 hb hlen).mono fun e w' he=>?_
  obtain⟨rfl,m,os,hw⟩:=he
  obtain⟨g1,g2⟩:=zqu hok ho h2 h3 (ys:=zjM ss) (zs:=zjM ss) (by rw[zhH];exact h4) (Nat.le_refl _) (fun _ _=>rfl) (fun y hy=>h5 y ((zf4 ss).mem_iff.1 hy)) hw
  exact⟨_,_,_,n,L,F,rfl,⟨rfl,rfl,rfl⟩,g1,by simp only[zaj];exact⟨[],rfl,by simp[zaq]⟩,g2⟩
def zdM (l:List (List UInt8)):List (List UInt8):=Lib.compact l
theorem zj9 (l:List (List UInt8)):(zdM l).length≤l.length:=by
 unfold zdM Lib.compact Lib.compactUpTo
 rw[List.length_map]
 refine Nat.le_trans (List.length_filter_le _ _) ?_
 simp
theorem ze2 {f:FuncId}(hc:zat P f)
  (hk:∀(blk off cap:Nat) (zs:List (List UInt8)) (w:World),Sort.Holds Go.Proofs.encStr w blk off zs.toArray→zs.length≤9223372036854775807→zs.length≤cap→Calls P f #[.slice (some ⟨blk,off,none⟩) zs.length cap] w fun e w'=>
   e= .returned (.slice (some ⟨blk,off,none⟩) (Lib.compact zs).length cap)∧∃q,w'=Sort.putRow Go.Proofs.encStr (Sort.ahead w q) blk off (Lib.compact zs++List.replicate (zs.length-(Lib.compact zs).length) []).toArray)
  (h0:∀(p:Option Addr) (cap:Nat) (w:World),Calls P f #[.slice p 0 cap] w fun e w'=>e= .returned (.slice p 0 cap)∧w'=w)
  {H:zau}{id:Id}{ss:List (List UInt8)}{bx vt:Bool}{n:Nat}(ho:H id=some ⟨zbo ss,bx,vt⟩):
  zaE P G f [.arr id 1 0 ss.length] H n fun d H' n'=>d= .arr id 1 0 (zdM ss).length∧H'=zaK H id (some ⟨zbo (zdM ss),bx,vt⟩)∧n'=n:=by
 refine⟨hc,fun w L F vs hok hvs=>?_⟩
 obtain⟨v,rfl,hv⟩:∃v,vs=[v]∧zaj w L F (Ub n) (.arr id 1 0 ss.length) v:=by
  match vs,hvs with
  |[v],h=>rw[zaq]at h;exact⟨v,rfl,h.1⟩
  |[],h=>simp[zaq]at h
  |_::_::_,h=>simp[zaq]at h
 by_cases hne:ss=[]
 ·subst hne
  have hv2:=hv
  simp only[zaj]at hv2
  obtain⟨_,a,cap,rfl,_⟩:=hv2
  refine(h0 a cap w).mono fun e w' he=>?_
  obtain⟨rfl,rfl⟩:=he
  have hH:zaK H id (some ⟨zbo (zdM []),bx,vt⟩)=H:=by
   funext i;simp only[zaK];split
   ·rename_i e;subst e;rw[ho];rfl
   ·rfl
  exact⟨_,_,H,n,L,F,rfl,⟨rfl,hH.symm,rfl⟩,hok,hv,zbt.refl _ _ _ _ _⟩
 ·obtain⟨cap,cs,T,rfl,h1,h2,h3,h4,h5,h6⟩:=zmz hok ho hv hne
  have hlen:ss.length≤zbj:=by
   simp only[zaj]at hv
   obtain⟨_,a,c,_,_,h,_⟩:=hv
   exact h
  refine(hk _ _ cap ss w h6 (by unfold zbj at hlen;omega) h1).mono fun e w' he=>?_
  obtain⟨rfl,q,hw⟩:=he
  have hcl:=zj9 ss
  unfold zdM at hcl
  have hmem:∀y∈zdM ss,y∈ss:=by
   intro y hy
   unfold zdM Lib.compact Lib.compactUpTo at hy
   obtain⟨j,hj,rfl⟩:=List.mem_map.1 hy
   have hj':j<ss.length:=List.mem_range.1 (List.mem_filter.1 hj).1
   have:(ss.toArray)[j]! =ss[j]:=by simp[hj']
   rw[this]
   exact List.getElem_mem hj'
  obtain⟨g1,g2⟩:=zqu (w':=w') (n:=q) (os:= #[]) hok ho h2 h3 (ys:=Lib.compact ss++List.replicate (ss.length-(Lib.compact ss).length) []) (zs:=zdM ss) (by rw[List.length_append,List.length_replicate];omega)
   (by rw[List.length_append];unfold zdM;omega) (fun j hj=>List.getElem_append_left (by unfold zdM at hj;exact hj)) (fun y hy=>h5 y (hmem y hy)) (by rw[hw,Sort.grow_empty])
  refine⟨_,_,_,n,L,F,rfl,⟨rfl,rfl,rfl⟩,g1,?_,g2⟩
  have hv2:=zaj.ext (g2.ext hok) _ _ hv
  simp only[zaj]at hv2 ⊢
  obtain⟨e1,a,c,e2,e3,e4,e5⟩:=hv2
  simp only[Value.slice.injEq]at e2
  obtain⟨rfl,_,rfl⟩:=e2
  refine⟨e1,_,_,rfl,?_,?_,e5⟩
  ·unfold zdM;omega
  ·unfold zdM;omega
end
end Go.Abs
namespace Go.Abs
open Go
section
variable {G:Nat→List FD} {N:Nat} {st:St}
theorem zo7 (tag:Nat):zeu G N st ⟨st.fr,zaK st.H (tag,st.n) (some tok),st.n+1⟩:=by
 intro a w L F h
 obtain⟨g1,g2⟩:=zfu h.ok (id:=(tag,st.n)) (U':=Ub (st.n+1)) (by unfold Ub;simp) (fun i hi=>by unfold Ub at hi ⊢;omega) (by unfold Ub;simp) false
 exact⟨_,F,⟨g1,h.size,fun t=>(h.fr t).ext (g2.ext h.ok),h.nd⟩,g2⟩
theorem zo6 {id id2:Id}{o:O}{k es:Nat}{xs:List FD}(ho:st.H id=some o)(hv:o.virt=false)(hk:k<o.cells.length)(hc:o.cells.getD k .junk= .full xs)(h2:id2.2<st.n):
  zeu G N st ⟨st.fr,zaK st.H id (some {o with cells:=o.cells.set k (.ow id2 es xs)}),st.n⟩:=by
 intro a w L F h
 have hold:∀i x,zaK st.H id (some {o with cells:=o.cells.set k (.ow id2 es xs)}) i=some x→∃y,st.H i=some y:=fun i x hx=>by
  unfold zaK at hx
  split at hx
  ·rename_i e;subst e;exact⟨_,ho⟩
  ·exact⟨_,hx⟩
 refine⟨L,F,⟨⟨h.ok.fb,fun i x hx=>?_,fun i1 i2 o1 o2 h1 h2=>?_,h.ok.glob⟩,h.size,h.fr,h.nd⟩,fun _ h=>h,fun _ _=>rfl,fun _ _ h=>h,Nat.le_refl _,fun _ _ _=>rfl,fun _ _ _ _=>rfl,
  fun b cs T fr _ h=>⟨cs,T,fr,h,Nat.le_refl _⟩,fun _ _ h=> .inl h,fun b k hb=> .inr ?_,rfl,rfl,rfl,Nat.le_refl _⟩
 ·simp only[zaK]at hx
  split at hx
  ·rename_i e
   subst e
   simp only[Option.some.injEq]at hx
   subst hx
   obtain⟨g1,g2⟩:=h.ok.live _ _ ho
   refine⟨g1,?_⟩
   unfold zbK at g2 ⊢
   cases e3:(L i).3 with
   |true=>
    rw[if_pos e3]at g2
    rw[hv]at g2
    cases g2.2
   |false=>
    simp only[e3,Bool.false_eq_true,if_false]at g2 ⊢
    obtain⟨q1,cs,T,q2,q3,q4⟩:=g2
    refine⟨q1,cs,T,q2,by rw[List.length_set];exact q3,fun j hj=>?_⟩
    rw[List.length_set]at hj
    obtain⟨v,q5,q6⟩:=q4 j hj
    refine⟨v,q5,?_⟩
    by_cases e:k=j
    ·subst e
     rw[hc]at q6
     rw[List.getD_eq_getElem?_getD,List.getElem?_set_self hk,Option.getD_some]
     simp only[zaj]at q6 ⊢
     obtain⟨a',r1,r2⟩:=q6
     exact⟨h2,r2,a',_,r1,.inl rfl⟩
    ·rw[List.getD_eq_getElem?_getD,List.getElem?_set_ne e,←List.getD_eq_getElem?_getD]
     exact q6
  ·exact h.ok.live i x hx
 ·obtain⟨y1,h1⟩:=hold _ _ h1
  obtain⟨y2,h2⟩:=hold _ _ h2
  exact h.ok.inj i1 i2 y1 y2 h1 h2
 ·obtain⟨i,x,h1,h2,h3,h4⟩:=hb
  obtain⟨y,h1⟩:=hold _ _ h1
  exact⟨i,y,h1,h2,h3,h4⟩
theorem znB {l:List (Nat×D)}{hl:List (Id×Option O)}{X:zau}{n:Nat}(tag:Nat):zeu G N ⟨frL l,hpX hl X,n⟩ ⟨frL l,hpX (((tag,n),some tok)::hl) X,n+1⟩:=by
 have:=zo7 (G:=G) (N:=N) (st:=⟨frL l,hpX hl X,n⟩) tag
 rw[zxS]at this
 exact this
theorem znA {l:List (Nat×D)}{hl:List (Id×Option O)}{X:zau}{n:Nat}{id id2:Id}{cells:List D}{b:Bool}{k es:Nat}{xs:List FD}(ho:hpX hl X id=some ⟨cells,b,false⟩)(hk:k<cells.length)(hc:cells.getD k .junk= .full xs)(h2:id2.2<n):
  zeu G N ⟨frL l,hpX hl X,n⟩ ⟨frL l,hpX ((id,some ⟨cells.set k (.ow id2 es xs),b,false⟩)::hl) X,n⟩:=by
 have:=zo6 (G:=G) (N:=N) (st:=⟨frL l,hpX hl X,n⟩) (es:=es) ho rfl hk hc h2
 rw[zxS]at this
 exact this
theorem ze5 {a b c:St}(h1:zeu G N a b)(h2:zeu G N b c):zeu G N a c:=zeu.trans h1 h2
end
end Go.Abs
namespace Go.Abs
open Go
def Tbl.or (S T:Tbl):Tbl:=fun f=>(S f).or (T f)
@[go_sem] theorem zBk {S T:Tbl}{f:FuncId}:Tbl.or S T f=(S f).or (T f):=rfl
@[go_sem] theorem zy8 {α:Type}{a:α}{b:Option α}:(some a).or b=some a:=rfl
@[go_sem] theorem zy7 {α:Type}{b:Option α}:(none:Option α).or b=b:=by cases b<;>rfl
section
variable {P:Program} {G:Nat→List FD} {S T:Tbl}
theorem zgH (hS:zam P G S)(hT:zam P G T):zam P G (Tbl.or S T):=fun f t xs r c ht hx hc=>by
 unfold Tbl.or at ht
 cases h:S f with
 |none=>rw[h]at ht;exact hT f t xs r c (by simpa using ht) hx hc
 |some t'=>rw[h]at ht;exact hS f t xs r c (by rw[h];simpa using ht) hx hc
end
end Go.Abs
