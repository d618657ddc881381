/- several texts of this proof in one; no conditions -/
import Derived.Test.YtmconmiemdinkaaGreatDoorSH
import Derived.Test.YtmconmiemdinkaaGreatDoorFacts
import Derived.Test.YtmconmiemdinkaaGreatDoorY11
import Derived.Test.YtmconmiemdinkaaGreatDoorY20
import Derived.Test.YtmconmiemdinkaaGreatDoorAT
import Derived.Test.YtmconmiemdinkaaGreatDoorY19
import Derived.Test.YtmconmiemdinkaaGreatDoorY15
import Derived.Test.YtmconmiemdinkaaGreatDoorY12
set_option maxRecDepth 100000
set_option maxHeartbeats 1000000
set_option linter.unusedSimpArgs false
namespace Go.Abs
open Go
theorem ztz (sep:List UInt8):∀ws:List Str,Lib.join (ws.map (·.l)) sep=jn sep ws
 |[]=>rfl
 |w::ws=>by rw[List.map_cons,Lib.join_cons,jn,Lib.joinTail,List.map_map,List.flatMap_def];rfl
theorem zpi (l S:List UInt8):Lib.byteCells (l++S)=Lib.byteCells l++Lib.byteCells S:=by
 unfold Lib.byteCells;rw[List.map_append]
end Go.Abs
namespace Go.Proofs.YtmconmiemdinkaaGreatDoor
open Go Go.Abs Go.Proofs Go.RowKit
section
variable {G:Nat→List FD}
def zaT (ws:List Str)(s:Str):Str:=⟨jn s.l ws⟩
def Tx0:Tbl:=zbp.add 97 (sp2 zaT fun ws s=>(jn s.l ws).length≤100000000000∧ws.length≤100000000000)
theorem zpd {w w':World}{L:Abs.Loc}{F:Nat→Nat→Prop}{U:Abs.Id→Prop}{H:zax}(hok:OkW G w L F U H)(hb:Below w.heap.size w w')(hdr:w.drawn≤w'.drawn):OkW G w' L F U H∧zbv H w L F U H w' L F U:=by
 have old:∀{b},b<w.heap.size→w'.heap[b]?=w.heap[b]?:=fun hk=>hb.block _ hk
 have hst:zbv H w L F U H w' L F U:=by
  refine⟨fun _ h=>h,fun _ _=>rfl,fun _ _ h=>h,hb.size,fun b hk _=>old hk,fun b k hk _=>zeJ (old hk) k,fun b cs T fr hk h=>⟨cs,T,fr,by rw[←old hk];exact h,Nat.le_refl _⟩,fun _ _ h=> .inl h,fun _ _ h=> .inr h,hb.os,hb.tape,hb.output,hdr⟩
 refine⟨⟨fun b k hk=>Nat.lt_of_lt_of_le (hok.fb b k hk) hst.size,fun i o h1=>?_,hok.inj,zce (fun _ _ h=>h) (hst.ext hok).fk hok.glob⟩,hst⟩
 obtain⟨g1,g2⟩:=hok.live i o h1
 exact⟨g1,g2.ext (hst.ext hok) g1 fun hv=>⟨old (hok.blk_lt h1 hv),fun k hk h=>(zaB g2 hv).1 k hk h⟩⟩
theorem zpz {P:Program}{f:FuncId}{args:Array Value}{w:World}{r:Value}{X:World→Prop}(h:Calls P f args w fun e w'=>e= .returned r∧X w'):Calls P f args w fun e w'=>(e= .returned r∧X w')∧w.drawn≤w'.drawn:=zn0 (fun _ _ h=>⟨_,h.1⟩) h
theorem zBJ:zan Tryz.prog G Tx0:=by
 refine zbI zIT zcF fun ws s hp _ _=>⟨zIT,fun w L F vs hok hvs=>?_⟩
 obtain⟨v1,v2,rfl,h1,h2⟩:∃v1 v2,vs=[v1,v2]∧za8 w F v1 (.sl (ws.map enc))∧za8 w F v2 (.s s.l):=by
  match vs,hvs with
  |[v1,v2],h=>simp only[zao,zak]at h;exact⟨v1,v2,rfl,h.1,h.2.1⟩
  |[],h=>simp[zao]at h
  |[_],h=>simp[zao]at h
  |_::_::_::_,h=>simp[zao]at h
 obtain⟨x,rfl,hx,hxs,hxl⟩:=h2.s_inv
 obtain⟨ad,cap,rfl,c1,c2,c3⟩:=h1.sl_inv
 rw[List.length_map]at c1 c2 c3
 have hres:∀w' (r:Value),r= .string ⟨(jn s.l ws).toArray⟩→Below w.heap.size w w'→w.drawn≤w'.drawn→∃v d H' n' L' F',Ending.returned r= .returned v∧D.val d=some (.fz (enc (zaT ws s)))∧OkW G w' L' F' (Ub n') H'∧zak w' L' F' (Ub n') d v∧zbv (hpL []) w L F (Ub 0) H' w' L' F' (Ub n'):=fun w' r hr hb hd=>by
  obtain⟨g1,g2⟩:=zpd hok hb hd
  refine⟨r,.fz (.s (jn s.l ws)),hpL [],0,L,F,rfl,rfl,g1,?_,g2⟩
  simp only[zak]
  rw[hr]
  have:=za8.s (w:=w') (F:=F) ⟨(jn s.l ws).toArray⟩ (by
   show((jn s.l ws).toArray).size≤za6
   rw[List.size_toArray];unfold za6;have:=hp.1;omega)
  simpa using this
 by_cases hn:ws=[]
 ·subst hn
  refine(Tryz.strings_Join_none ad cap x w).mono fun e w' he=>?_
  obtain⟨rfl,rfl⟩:=he
  exact hres w' _ rfl (Below.refl _ _) (Nat.le_refl _)
 ·have hpos:0<ws.length:=List.length_pos_iff.2 hn
  obtain⟨b,off,es,vs,rfl,d1,d2,d3,d4⟩:=c3 hpos
  have hes:es=1:=by
   have:=d2 0 hpos
   rw[List.getD_eq_getElem?_getD,List.getElem?_map,List.getElem?_eq_getElem hpos]at this
   exact this.symm
  subst hes
  have hbl:b<w.heap.size:=hok.fb b _ (d1 0 (by omega))
  have hlen:(ws.map fun v:Str=>(⟨v.l.toArray⟩:ByteArray)).length=ws.length:=List.length_map ..
  have hmm:(ws.map fun v:Str=>(⟨v.l.toArray⟩:ByteArray)).map (·.data.toList)=ws.map (·.l):=by
   rw[List.map_map];exact List.map_congr_left fun v _=>by simp
  have hc:=Tryz.strings_Join b off cap (ws.map fun v=>(⟨v.l.toArray⟩:ByteArray)) x w (fun j y hj=>by
   rw[List.getElem?_map]at hj
   cases hq:ws[j]? with
   |none=>rw[hq]at hj;cases hj
   |some v=>
    rw[hq]at hj
    simp only[Option.map_some,Option.some.injEq]at hj
    have hjl:j<ws.length:=by
     rcases Nat.lt_or_ge j ws.length with h'|h'
     ·exact h'
     ·rw[List.getElem?_eq_none h']at hq;cases hq
    have e1:=d3 j 0 hjl (by omega)
    have e2:=d4 j 0 hjl (by omega)
    rw[show(ws.map enc).getD j .nilf= .s v.l from by rw[List.getD_eq_getElem?_getD,List.getElem?_map,hq];rfl]at e2
    obtain⟨z,hz1,hz2,_⟩:=za8.s_inv (l:=v.l) e2
    rw[Nat.mul_one,Nat.add_zero]at e1
    show World.at w b (off+j)=_
    rw[e1,hz1,←hj,←hz2]) hbl (by rw[hlen];have:=hp.2;omega) (by rw[hlen];exact c1) (by rw[hmm,hx,ztz];have:=hp.1;omega)
  rw[hlen,hmm,hx,ztz]at hc
  rw[show(ws.map enc).length=ws.length from List.length_map ..]
  refine(zpz hc).mono fun e w' he=>?_
  obtain⟨⟨rfl,hb⟩,hd⟩:=he
  exact hres w' _ rfl hb hd
theorem zhE {B b:Nat}{l S:List UInt8}(hlen:l.length+S.length≤100000000000)(w:World)(F:Nat→Nat→Prop)(v:Value)(hv:za8 w F v (.s S))(h:Lib.IsBuilderF 101 5 B b (Lib.byteCells l) w):
  Calls Tryz.prog 96 #[.pointer (some ⟨b,0,none⟩),v] w fun E w'=>∃r,E= .returned r∧Lib.IsBuilderF 101 5 B b (Lib.byteCells (l++S)) w'∧Below B w w'∧Lib.OthersKept 5 (some b) w w':=by
 obtain⟨x,rfl,rfl,hx,_⟩:=hv.s_inv
 have hlt:=zjF h
 refine(Tryz.Builder_WriteString_k B b (Lib.byteCells l) x w h (by rw[Lib.byteCells_length];omega) (by omega)).mono fun E w' he=>?_
 obtain⟨rfl,h1,h2,h3⟩:=he
 refine⟨_,rfl,.inr ?_,h2,h3⟩
 rw[zpi];exact h1
theorem zfU {B b:Nat}{l:List UInt8}{c:UInt8}(hlen:l.length≤100000000000)(w:World)(F:Nat→Nat→Prop)(v:Value)(hv:za8 w F v (.i .u8 c.toNat))(h:Lib.IsBuilderF 101 5 B b (Lib.byteCells l) w):
  Calls Tryz.prog 98 #[.pointer (some ⟨b,0,none⟩),v] w fun E w'=>∃r,E= .returned r∧Lib.IsBuilderF 101 5 B b (Lib.byteCells (l++[c])) w'∧Below B w w'∧Lib.OthersKept 5 (some b) w w':=by
 obtain⟨rfl,_,_⟩:=hv.int_inv
 have hlt:=zjF h
 refine(Tryz.Builder_WriteByte_k B b (Lib.byteCells l) c.toNat w h (by rw[Lib.byteCells_length];omega) (by omega)).mono fun E w' he=>?_
 obtain⟨rfl,h1,h2,h3⟩:=he
 refine⟨_,rfl,.inr ?_,h2,h3⟩
 rw[zpi];exact h1
end
end Go.Proofs.YtmconmiemdinkaaGreatDoor
namespace Go.Proofs.YtmconmiemdinkaaGreatDoor
open Go Go.Abs Go.Proofs
open Go.RowKit
section
variable {G:Nat→List FD}
theorem zFk {x y:Value}{n:Nat}:((#[x,y]:Array Value)++Array.replicate n undef)[0]?=some x:=by
 rw[Array.getElem?_append_left (by simp)];rfl
theorem zFl {x y:Value}{n:Nat}:((#[x,y]:Array Value)++Array.replicate n undef)[1]?=some y:=by
 rw[Array.getElem?_append_left (by simp)];rfl
set_option maxHeartbeats 8000000 in
theorem zxb:∀(n:Nat) (f:Abs.zac),f.size=n→txQ f→∀(w:World) (B b:Nat) (l:List UInt8) (F:Nat→Nat→Prop) (v:Value),(∀k j,F k j→k<w.heap.size∧k≠b∧(k<B∨∃o,w.heap[k]?=some o∧∀c fz,o≠ .cells c 5 fz))→zfX G w F→
  Lib.IsBuilderF 101 5 B b (Lib.byteCells l) w→za8 w F v (enc f)→l.length+(txt f).length≤10000000000→
  Calls Tryz.prog 63 #[.pointer (some ⟨b,0,none⟩),v] w fun E w'=>∃r,E= .returned r∧Lib.IsBuilderF 101 5 B b (Lib.byteCells (l++txt f)) w'∧Below B w w'∧Lib.OthersKept 5 (some b) w w':=by
 intro n
 induction n using Nat.strongRecOn with
 |ind n ih=>
 intro f hn hq w B b l F v hprot hglob hbld hv hlen
 obtain⟨hBb,hbw⟩:=zjF hbld
 rw[zaz]at hv
 obtain⟨vals,rfl,hvl,hvr⟩:=hv.agg_inv
 have hkb:=zqq.1 hq.p.v
 have hnb:=zCH.1 hq.n
 refine calls_of_wp Tryz.func63 rfl ?_
 obtain⟨a0,ha0⟩:∃a0:Act,a0={tmps:= #[.pointer (some ⟨b,0,none⟩),.agg vals.toArray]++Array.replicate (Tryz.f63.ntmps-(#[.pointer (some ⟨b,0,none⟩),.agg vals.toArray]:Array Value).size) undef,defers:=[]}:=⟨_,rfl⟩
 rw[←ha0]
 have z0:a0.tmps.size=92:=by rw[ha0];simp
 have z1:a0.tmps[0]?=some (.pointer (some ⟨b,0,none⟩)):=by rw[ha0];exact zFk
 have z2':a0.tmps[1]?=some (.agg vals.toArray):=by rw[ha0];exact zFl
 have z2:a0.eval (.tmp 1)= .agg vals.toArray:=getD_some z2'
 have z3:a0.defers=[]:=by rw[ha0]
 obtain⟨R,hR⟩:∃R:Ending→World→Prop,R=fun E w'=>∃r,E= .returned r∧Lib.IsBuilderF 101 5 B b (Lib.byteCells (l++txt f)) w'∧Below B w w'∧Lib.OthersKept 5 (some b) w w':=⟨_,rfl⟩
 rw[←hR]
 have hpost:∀ex a' w',WS 101 5 37 92 0 3 w B b w.heap.size F vals ex (l++txt f) a' w'→bodyPost Tryz.prog Tryz.f63 R .normal a' w':=fun ex a' w' h=>by
  refine⟨h.nd,.tuple #[],by simp[results,show Tryz.f63.results= #[]from rfl],?_⟩
  rw[hR]
  exact⟨_,rfl,h.bld,h.below,h.oth⟩
 obtain⟨Q,hQ⟩:∃Q,Q=bodyPost Tryz.prog Tryz.f63 R:=⟨_,rfl⟩
 rw[←hQ]at hpost ⊢
 clear hQ hR ha0
 refine wp_seq ?_
 refine zrE rfl rfl rfl ?_
 refine zaE ?_
 rw[z2]
 have s0:WF0 G 5 37 w B b w.heap.size F vals [.i .i64 f.kind,.s f.name.l,.sl (f.words.map enc),.sl (f.subs.map enc)]:=⟨hprot,hglob,hBb,by omega,by decide,hvl,hvr⟩
 have h0:WS 101 5 37 92 0 3 w B b w.heap.size F vals [] l (a0.put (some 3) (.pointer (some ⟨w.heap.size,0,none⟩))) (w.alloc (.cells vals.toArray 37)):=by
  have hkp:=zer (l:=[some 3]) (a:=a0) (d:=some 3) (v:= .pointer (some ⟨w.heap.size,0,none⟩)) (by simp)
  have hold:∀k,k<w.heap.size→(w.alloc (.cells vals.toArray 37)).heap[k]?=w.heap[k]?:=fun k hk=>by
   show(w.heap.push _)[k]?=_
   rw[Array.getElem?_push,if_neg (by omega)]
  have hsz:w.heap.size≤(w.alloc (.cells vals.toArray 37)).heap.size:=by
   show _≤(w.heap.push _).size
   rw[Array.size_push];omega
  refine⟨?_,z3,by rw[hkp 0 (by simp)];exact z1,?_,fun p hp=>(by cases hp),fun k j hf=>hold k (hprot k j hf).1,zpe hbld hold,?_,⟨rfl,rfl,rfl,hsz,fun k hk=>hold k (by omega)⟩,fun k o hk _ _=>?_⟩
  ·show(a0.tmps.setIfInBounds _ _).size=_
   rw[Array.size_setIfInBounds];exact z0
  ·show(a0.tmps.setIfInBounds 3 _)[3]?=_
   rw[Array.getElem?_setIfInBounds_self_of_lt (by omega)]
  ·show(w.heap.push _)[w.heap.size]?=_
   rw[Array.getElem?_push,if_pos rfl]
  ·rw[hold k ?_]
   ·exact hk
   ·rcases Nat.lt_or_ge k w.heap.size with h'|h'
    ·exact h'
    ·rw[Array.getElem?_eq_none h']at hk;cases hk
 refine wp_seq ?_
 have hpre:True:=trivial
 refine zaJ (am:=lst []) (tag0:=0) (Tb:=Tx0) s0 h0 6 (.i .i64 f.kind) [] [some 5,some 6] (by kernel_rfl) rfl (by decide) zGE (by simp) (by
   repeat'(first|refine And.intro ?_ ?_|exact True.intro|refine zaq.i hpre fun _=>?_|refine rq fun _=>?_|refine rf fun _=>?_|simp only[go_sem,stB,List.map_cons,List.map_nil,Array.toList_pop,List.dropLast,zab,zad,zaa,zaT,Tx0,zbp])
   all_goals first|done|rfl|exact⟨rfl,rfl⟩|omega) fun a1 h1=>?_
 refine zaE ?_
 refine wp_block ?_
 have hvr3:f.words.length≤za6:=by
  have h3:=hvr 2 (by simp)
  obtain⟨_,_,_,_,h4,_⟩:=za8.sl_inv (xs:=f.words.map enc) h3
  rw[List.length_map]at h4
  exact h4
 unfold za6 at hvr3
 clear hv hvr hglob hprot hbld h0 z0 z1 z2 z3
 have hcase:f.kind=1∨f.kind=2∨f.kind=3∨f.kind=4∨f.kind=5∨f.kind=6∨f.kind=7∨f.kind=8∨f.kind=9:=by
  have e1:=hkb.1
  have e2:=hkb.2.1
  omega
 have hsubs:=hnb.2
 have hn3:=hnb.1
 have hw3:=hkb.2.2.2.1
 have hw2:=hkb.2.2.1
 clear hkb hnb
 rcases hcase with hkd|hkd|hkd|hkd|hkd|hkd|hkd|hkd|hkd
 ·have htx:=zDc hkd
  rw[htx]at hlen
  refine wp_seq ?_
  refine zaJ (am:=lst []) (tag0:=0) (Tb:=Tx0) s0 h1 31 (.b true) [(6,.i .i64 f.kind)] [some 32,some 31] (by kernel_rfl) rfl (by decide) zbE (by simp) (by
     repeat'(first|refine And.intro ?_ ?_|exact True.intro|refine zaq.i hpre fun _=>?_|refine rq fun _=>?_|refine rf fun _=>?_|simp only[go_sem,stB,List.map_cons,List.map_nil,Array.toList_pop,List.dropLast,zab,zad,zaa,zaT,Tx0,zbp,hkd])
     all_goals first|done|rfl|exact⟨rfl,rfl⟩|omega) fun a2 h2=>?_
  refine zaE ?_
  refine wp_cond_true h2.bool ?_
  refine zbh (am:=lst []) (tag0:=0) (Tb:=Tx0) (g:=96) (y:= .s [116,114,117,101]) s0 h2 1 [some 33,some 34] rfl (by kernel_rfl) rfl rfl rfl rfl rfl zxM (by
     repeat'(first|refine And.intro ?_ ?_|exact True.intro|refine zaq.i hpre fun _=>?_|refine rq fun _=>?_|refine rf fun _=>?_|simp only[go_sem,stB,List.map_cons,List.map_nil,Array.toList_pop,List.dropLast,zab,zad,zaa,zaT,Tx0,zbp,hkd])
     all_goals first|done|rfl|exact⟨rfl,rfl⟩|omega) (fun v hv=>zhE (by simp only[List.length_append,List.length_cons,List.length_nil]at hlen ⊢;omega) _ _ v hv h2.bld) fun a20 w20 h20=>?_
  exact zel (hpost _ _ _ (by rw[htx];first|exact h20|simpa using h20))
 ·have htx:=zzN hkd
  rw[htx]at hlen
  have hlen2:=hlen
  simp only[List.length_append,List.length_cons,List.length_nil]at hlen2
  clear hpre
  have hpre:(jn [44] f.words).length≤100000000000∧f.words.length≤100000000000:=⟨by omega,by have:=hw2 hkd;omega⟩
  refine wp_seq ?_
  refine zaJ (am:=lst []) (tag0:=0) (Tb:=Tx0) s0 h1 31 (.b false) [(6,.i .i64 f.kind)] [some 32,some 31] (by kernel_rfl) rfl (by decide) zbE (by simp) (by
     repeat'(first|refine And.intro ?_ ?_|exact True.intro|refine zaq.i hpre fun _=>?_|refine rq fun _=>?_|refine rf fun _=>?_|simp only[go_sem,stB,List.map_cons,List.map_nil,Array.toList_pop,List.dropLast,zab,zad,zaa,zaT,Tx0,zbp,hkd])
     all_goals first|done|rfl|exact⟨rfl,rfl⟩|omega) fun a2 h2=>?_
  refine zaE ?_
  refine wp_cond_false h2.bool ?_
  refine wp_seq ?_
  refine zaJ (am:=lst []) (tag0:=0) (Tb:=Tx0) s0 h2 35 (.b true) [(31,.b false),(6,.i .i64 f.kind)] [some 36,some 35] (by kernel_rfl) rfl (by decide) zbE (by simp) (by
     repeat'(first|refine And.intro ?_ ?_|exact True.intro|refine zaq.i hpre fun _=>?_|refine rq fun _=>?_|refine rf fun _=>?_|simp only[go_sem,stB,List.map_cons,List.map_nil,Array.toList_pop,List.dropLast,zab,zad,zaa,zaT,Tx0,zbp,hkd])
     all_goals first|done|rfl|exact⟨rfl,rfl⟩|omega) fun a3 h3=>?_
  refine zaE ?_
  refine wp_cond_true h3.bool ?_
  refine zfY (am:=lst []) (tag0:=0) (Tb:=Tx0) (g:=96) (y:= .s (f.name.l++[40]++jn [44] f.words++[41])) s0 h3 hm zBJ true 9 [some 37,some 38,some 39,some 40,some 41,some 42,some 43,some 44,some 45,some 46] rfl (by kernel_rfl) (by kernel_rfl) rfl rfl rfl rfl rfl zxM (by
     repeat'(first|refine And.intro ?_ ?_|exact True.intro|refine zaq.i hpre fun _=>?_|refine rq fun _=>?_|refine rf fun _=>?_|simp only[go_sem,stB,List.map_cons,List.map_nil,Array.toList_pop,List.dropLast,zab,zad,zaa,zaT,Tx0,zbp,hkd])
     all_goals first|done|rfl|exact⟨rfl,rfl⟩|omega) (fun w1 F1 v hv hb=>zhE (by simp only[List.length_append,List.length_cons,List.length_nil]at hlen ⊢;omega) _ _ v hv hb) fun a20 w20 h20=>?_
  exact zel (hpost _ _ _ (by rw[htx];first|exact h20|simpa using h20))
 ·have htx0:=zzO hkd
  obtain⟨x,y,hws⟩:∃x y,f.words=[x,y]:=by
   match hw:f.words,hw3 hkd with
   |[x,y],_=>exact⟨x,y,rfl⟩
  have htx:txt f=[40]++x.l++[32,61,32]++y.l++[41]:=by
   rw[htx0,hn3 hkd,hws];simp[jn]
  rw[htx]at hlen
  have hlen2:=hlen
  simp only[List.length_append,List.length_cons,List.length_nil]at hlen2
  refine wp_seq ?_
  refine zaJ (am:=lst []) (tag0:=0) (Tb:=Tx0) s0 h1 31 (.b false) [(6,.i .i64 f.kind)] [some 32,some 31] (by kernel_rfl) rfl (by decide) zbE (by simp) (by
     repeat'(first|refine And.intro ?_ ?_|exact True.intro|refine zaq.i hpre fun _=>?_|refine rq fun _=>?_|refine rf fun _=>?_|simp only[go_sem,stB,List.map_cons,List.map_nil,Array.toList_pop,List.dropLast,zab,zad,zaa,zaT,Tx0,zbp,hkd])
     all_goals first|done|rfl|exact⟨rfl,rfl⟩|omega) fun a2 h2=>?_
  refine zaE ?_
  refine wp_cond_false h2.bool ?_
  refine wp_seq ?_
  refine zaJ (am:=lst []) (tag0:=0) (Tb:=Tx0) s0 h2 35 (.b false) [(31,.b false),(6,.i .i64 f.kind)] [some 36,some 35] (by kernel_rfl) rfl (by decide) zbE (by simp) (by
     repeat'(first|refine And.intro ?_ ?_|exact True.intro|refine zaq.i hpre fun _=>?_|refine rq fun _=>?_|refine rf fun _=>?_|simp only[go_sem,stB,List.map_cons,List.map_nil,Array.toList_pop,List.dropLast,zab,zad,zaa,zaT,Tx0,zbp,hkd])
     all_goals first|done|rfl|exact⟨rfl,rfl⟩|omega) fun a3 h3=>?_
  refine zaE ?_
  refine wp_cond_false h3.bool ?_
  refine wp_seq ?_
  refine zaJ (am:=lst []) (tag0:=0) (Tb:=Tx0) s0 h3 47 (.b true) [(35,.b false),(31,.b false),(6,.i .i64 f.kind)] [some 48,some 47] (by kernel_rfl) rfl (by decide) zbE (by simp) (by
     repeat'(first|refine And.intro ?_ ?_|exact True.intro|refine zaq.i hpre fun _=>?_|refine rq fun _=>?_|refine rf fun _=>?_|simp only[go_sem,stB,List.map_cons,List.map_nil,Array.toList_pop,List.dropLast,zab,zad,zaa,zaT,Tx0,zbp,hkd])
     all_goals first|done|rfl|exact⟨rfl,rfl⟩|omega) fun a4 h4=>?_
  refine zaE ?_
  refine wp_cond_true h4.bool ?_
  refine zfY (am:=lst []) (tag0:=0) (Tb:=Tx0) (g:=96) (y:= .s ([40]++x.l++[32,61,32]++y.l++[41])) s0 h4 hm zBJ true 13 [some 49,some 50,some 51,some 52,some 53,some 54,some 55,some 56,some 57,some 58,some 59,some 60,some 61,some 62] rfl (by kernel_rfl) (by kernel_rfl) rfl rfl rfl rfl rfl zxM (by
     repeat'(first|refine And.intro ?_ ?_|exact True.intro|refine zaq.i hpre fun _=>?_|refine rq fun _=>?_|refine rf fun _=>?_|simp only[go_sem,stB,List.map_cons,List.map_nil,Array.toList_pop,List.dropLast,zab,zad,zaa,zaT,Tx0,zbp,hkd,hws])
     all_goals first|done|rfl|exact⟨rfl,rfl⟩|omega) (fun w1 F1 v hv hb=>zhE (by simp only[List.length_append,List.length_cons,List.length_nil]at hlen ⊢;omega) _ _ v hv hb) fun a20 w20 h20=>?_
  exact zel (hpost _ _ _ (by rw[htx];first|exact h20|simpa using h20))
 ·obtain⟨x,hsb,hq1,hsz⟩:=zkq hq.p (by omega)
  have htx:=zw2 hkd hsb
  rw[htx]at hlen
  have hlen2:=hlen
  simp only[List.length_append,List.length_cons,List.length_nil]at hlen2
  rw[hsb]at hsubs
  have hq2:=(zcV _).1 hsubs x (by simp)
  refine wp_seq ?_
  refine zaJ (am:=lst []) (tag0:=0) (Tb:=Tx0) s0 h1 31 (.b false) [(6,.i .i64 f.kind)] [some 32,some 31] (by kernel_rfl) rfl (by decide) zbE (by simp) (by
     repeat'(first|refine And.intro ?_ ?_|exact True.intro|refine zaq.i hpre fun _=>?_|refine rq fun _=>?_|refine rf fun _=>?_|simp only[go_sem,stB,List.map_cons,List.map_nil,Array.toList_pop,List.dropLast,zab,zad,zaa,zaT,Tx0,zbp,hkd])
     all_goals first|done|rfl|exact⟨rfl,rfl⟩|omega) fun a2 h2=>?_
  refine zaE ?_
  refine wp_cond_false h2.bool ?_
  refine wp_seq ?_
  refine zaJ (am:=lst []) (tag0:=0) (Tb:=Tx0) s0 h2 35 (.b false) [(31,.b false),(6,.i .i64 f.kind)] [some 36,some 35] (by kernel_rfl) rfl (by decide) zbE (by simp) (by
     repeat'(first|refine And.intro ?_ ?_|exact True.intro|refine zaq.i hpre fun _=>?_|refine rq fun _=>?_|refine rf fun _=>?_|simp only[go_sem,stB,List.map_cons,List.map_nil,Array.toList_pop,List.dropLast,zab,zad,zaa,zaT,Tx0,zbp,hkd])
     all_goals first|done|rfl|exact⟨rfl,rfl⟩|omega) fun a3 h3=>?_
  refine zaE ?_
  refine wp_cond_false h3.bool ?_
  refine wp_seq ?_
  refine zaJ (am:=lst []) (tag0:=0) (Tb:=Tx0) s0 h3 47 (.b false) [(35,.b false),(31,.b false),(6,.i .i64 f.kind)] [some 48,some 47] (by kernel_rfl) rfl (by decide) zbE (by simp) (by
     repeat'(first|refine And.intro ?_ ?_|exact True.intro|refine zaq.i hpre fun _=>?_|refine rq fun _=>?_|refine rf fun _=>?_|simp only[go_sem,stB,List.map_cons,List.map_nil,Array.toList_pop,List.dropLast,zab,zad,zaa,zaT,Tx0,zbp,hkd])
     all_goals first|done|rfl|exact⟨rfl,rfl⟩|omega) fun a4 h4=>?_
  refine zaE ?_
  refine wp_cond_false h4.bool ?_
  refine wp_seq ?_
  refine zaJ (am:=lst []) (tag0:=0) (Tb:=Tx0) s0 h4 63 (.b true) [(47,.b false),(35,.b false),(31,.b false),(6,.i .i64 f.kind)] [some 64,some 63] (by kernel_rfl) rfl (by decide) zbE (by simp) (by
     repeat'(first|refine And.intro ?_ ?_|exact True.intro|refine zaq.i hpre fun _=>?_|refine rq fun _=>?_|refine rf fun _=>?_|simp only[go_sem,stB,List.map_cons,List.map_nil,Array.toList_pop,List.dropLast,zab,zad,zaa,zaT,Tx0,zbp,hkd])
     all_goals first|done|rfl|exact⟨rfl,rfl⟩|omega) fun a5 h5=>?_
  refine zaE ?_
  refine wp_cond_true h5.bool ?_
  refine wp_seq ?_
  refine zbh (am:=lst []) (tag0:=0) (Tb:=Tx0) (g:=98) (y:= .i .u8 (45:UInt8).toNat) s0 h5 1 [some 65,some 66] rfl (by kernel_rfl) rfl rfl rfl rfl rfl zzl (by
     repeat'(first|refine And.intro ?_ ?_|exact True.intro|refine zaq.i hpre fun _=>?_|refine rq fun _=>?_|refine rf fun _=>?_|simp only[go_sem,stB,List.map_cons,List.map_nil,Array.toList_pop,List.dropLast,zab,zad,zaa,zaT,Tx0,zbp,hkd])
     all_goals first|done|rfl|exact⟨rfl,rfl⟩|omega) (fun v hv=>zfU (by omega) _ _ v hv h5.bld) fun a20 w20 h20=>?_
  refine zaE ?_
  refine zbh (am:=lst []) (tag0:=0) (Tb:=Tx0) (g:=63) (y:=enc x) s0 h20 5 [some 67,some 68,some 69,some 70,some 71,some 72] rfl (by kernel_rfl) rfl rfl rfl rfl rfl zva (by
     repeat'(first|refine And.intro ?_ ?_|exact True.intro|refine zaq.i hpre fun _=>?_|refine rq fun _=>?_|refine rf fun _=>?_|simp only[go_sem,stB,List.map_cons,List.map_nil,Array.toList_pop,List.dropLast,zab,zad,zaa,zaT,Tx0,zbp,hkd,hsb])
     all_goals first|done|rfl|exact⟨rfl,rfl⟩|omega) (fun v hv=>ih x.size (by omega) x rfl ⟨hq1,hq2⟩ _ B b _ (FB F w.heap.size) v (s0.next h20) (h20.rel s0).ok.glob h20.bld hv (by simp only[List.length_append,List.length_cons,List.length_nil]at hlen ⊢;omega)) fun a21 w21 h21=>?_
  exact zel (hpost _ _ _ (by rw[htx];first|exact h21|simpa using h21))
 ·obtain⟨x,y,hsb,hq1,hq3,hsz1,hsz2,_⟩:=zql hq.p (by omega)
  have htx:=zrT (by omega) hsb
  rw[show sgn f.kind=[32,38,32]from by unfold sgn;rw[hkd];rfl]at htx
  rw[htx]at hlen
  have hlen2:=hlen
  simp only[List.length_append,List.length_cons,List.length_nil]at hlen2
  rw[hsb]at hsubs
  have hq2:=(zcV _).1 hsubs x (by simp)
  have hq4:=(zcV _).1 hsubs y (by simp)
  refine wp_seq ?_
  refine zaJ (am:=lst []) (tag0:=0) (Tb:=Tx0) s0 h1 31 (.b false) [(6,.i .i64 f.kind)] [some 32,some 31] (by kernel_rfl) rfl (by decide) zbE (by simp) (by
     repeat'(first|refine And.intro ?_ ?_|exact True.intro|refine zaq.i hpre fun _=>?_|refine rq fun _=>?_|refine rf fun _=>?_|simp only[go_sem,stB,List.map_cons,List.map_nil,Array.toList_pop,List.dropLast,zab,zad,zaa,zaT,Tx0,zbp,hkd])
     all_goals first|done|rfl|exact⟨rfl,rfl⟩|omega) fun a2 h2=>?_
  refine zaE ?_
  refine wp_cond_false h2.bool ?_
  refine wp_seq ?_
  refine zaJ (am:=lst []) (tag0:=0) (Tb:=Tx0) s0 h2 35 (.b false) [(31,.b false),(6,.i .i64 f.kind)] [some 36,some 35] (by kernel_rfl) rfl (by decide) zbE (by simp) (by
     repeat'(first|refine And.intro ?_ ?_|exact True.intro|refine zaq.i hpre fun _=>?_|refine rq fun _=>?_|refine rf fun _=>?_|simp only[go_sem,stB,List.map_cons,List.map_nil,Array.toList_pop,List.dropLast,zab,zad,zaa,zaT,Tx0,zbp,hkd])
     all_goals first|done|rfl|exact⟨rfl,rfl⟩|omega) fun a3 h3=>?_
  refine zaE ?_
  refine wp_cond_false h3.bool ?_
  refine wp_seq ?_
  refine zaJ (am:=lst []) (tag0:=0) (Tb:=Tx0) s0 h3 47 (.b false) [(35,.b false),(31,.b false),(6,.i .i64 f.kind)] [some 48,some 47] (by kernel_rfl) rfl (by decide) zbE (by simp) (by
     repeat'(first|refine And.intro ?_ ?_|exact True.intro|refine zaq.i hpre fun _=>?_|refine rq fun _=>?_|refine rf fun _=>?_|simp only[go_sem,stB,List.map_cons,List.map_nil,Array.toList_pop,List.dropLast,zab,zad,zaa,zaT,Tx0,zbp,hkd])
     all_goals first|done|rfl|exact⟨rfl,rfl⟩|omega) fun a4 h4=>?_
  refine zaE ?_
  refine wp_cond_false h4.bool ?_
  refine wp_seq ?_
  refine zaJ (am:=lst []) (tag0:=0) (Tb:=Tx0) s0 h4 63 (.b false) [(47,.b false),(35,.b false),(31,.b false),(6,.i .i64 f.kind)] [some 64,some 63] (by kernel_rfl) rfl (by decide) zbE (by simp) (by
     repeat'(first|refine And.intro ?_ ?_|exact True.intro|refine zaq.i hpre fun _=>?_|refine rq fun _=>?_|refine rf fun _=>?_|simp only[go_sem,stB,List.map_cons,List.map_nil,Array.toList_pop,List.dropLast,zab,zad,zaa,zaT,Tx0,zbp,hkd])
     all_goals first|done|rfl|exact⟨rfl,rfl⟩|omega) fun a5 h5=>?_
  refine zaE ?_
  refine wp_cond_false h5.bool ?_
  refine wp_seq ?_
  refine wp_seq ?_
  refine zaJ (am:=lst []) (tag0:=0) (Tb:=Tx0) s0 h5 73 (.b false) [(63,.b false),(47,.b false),(35,.b false),(31,.b false),(6,.i .i64 f.kind)] [some 74,some 73] (by kernel_rfl) rfl (by decide) zbE (by simp) (by
     repeat'(first|refine And.intro ?_ ?_|exact True.intro|refine zaq.i hpre fun _=>?_|refine rq fun _=>?_|refine rf fun _=>?_|simp only[go_sem,stB,List.map_cons,List.map_nil,Array.toList_pop,List.dropLast,zab,zad,zaa,zaT,Tx0,zbp,hkd])
     all_goals first|done|rfl|exact⟨rfl,rfl⟩|omega) fun a6 h6=>?_
  refine zaE ?_
  refine wp_cond_false h6.bool ?_
  refine zaJ (am:=lst []) (tag0:=0) (Tb:=Tx0) s0 h6 73 (.b false) [(63,.b false),(47,.b false),(35,.b false),(31,.b false),(6,.i .i64 f.kind)] [some 75,some 73] (by kernel_rfl) rfl (by decide) zbE (by simp) (by
     repeat'(first|refine And.intro ?_ ?_|exact True.intro|refine zaq.i hpre fun _=>?_|refine rq fun _=>?_|refine rf fun _=>?_|simp only[go_sem,stB,List.map_cons,List.map_nil,Array.toList_pop,List.dropLast,zab,zad,zaa,zaT,Tx0,zbp,hkd])
     all_goals first|done|rfl|exact⟨rfl,rfl⟩|omega) fun a7 h7=>?_
  refine zaE ?_
  refine wp_cond_false h7.bool ?_
  refine wp_seq ?_
  refine zbh (am:=lst []) (tag0:=0) (Tb:=Tx0) (g:=98) (y:= .i .u8 (40:UInt8).toNat) s0 h7 1 [some 7,some 8] rfl (by kernel_rfl) rfl rfl rfl rfl rfl zzl (by
     repeat'(first|refine And.intro ?_ ?_|exact True.intro|refine zaq.i hpre fun _=>?_|refine rq fun _=>?_|refine rf fun _=>?_|simp only[go_sem,stB,List.map_cons,List.map_nil,Array.toList_pop,List.dropLast,zab,zad,zaa,zaT,Tx0,zbp,hkd])
     all_goals first|done|rfl|exact⟨rfl,rfl⟩|omega) (fun v hv=>zfU (by omega) _ _ v hv h7.bld) fun a20 w20 h20=>?_
  refine zaE ?_
  refine wp_seq ?_
  refine zbh (am:=lst []) (tag0:=0) (Tb:=Tx0) (g:=63) (y:=enc x) s0 h20 5 [some 9,some 10,some 11,some 12,some 13,some 14] rfl (by kernel_rfl) rfl rfl rfl rfl rfl zva (by
     repeat'(first|refine And.intro ?_ ?_|exact True.intro|refine zaq.i hpre fun _=>?_|refine rq fun _=>?_|refine rf fun _=>?_|simp only[go_sem,stB,List.map_cons,List.map_nil,Array.toList_pop,List.dropLast,zab,zad,zaa,zaT,Tx0,zbp,hkd,hsb])
     all_goals first|done|rfl|exact⟨rfl,rfl⟩|omega) (fun v hv=>ih x.size (by omega) x rfl ⟨hq1,hq2⟩ _ B b _ (FB F w.heap.size) v (s0.next h20) (h20.rel s0).ok.glob h20.bld hv (by simp only[List.length_append,List.length_cons,List.length_nil]at hlen ⊢;omega)) fun a21 w21 h21=>?_
  refine zaE ?_
  refine wp_seq ?_
  refine zfY (am:=lst []) (tag0:=0) (Tb:=Tx0) (g:=96) (y:= .s [32,38,32]) s0 h21 hm zBJ false 7 [some 15,some 16,some 17,some 18,some 19,some 20,some 21,some 22] rfl (by kernel_rfl) (by kernel_rfl) rfl rfl rfl rfl rfl zxM (by
     repeat'(first|refine And.intro ?_ ?_|exact True.intro|refine zaq.i hpre fun _=>?_|refine rq fun _=>?_|refine rf fun _=>?_|simp only[go_sem,stB,List.map_cons,List.map_nil,Array.toList_pop,List.dropLast,zab,zad,zaa,zaT,Tx0,zbp,hkd])
     all_goals first|done|rfl|exact⟨rfl,rfl⟩|omega) (fun w1 F1 v hv hb=>zhE (by simp only[List.length_append,List.length_cons,List.length_nil]at hlen ⊢;omega) _ _ v hv hb) fun a22 w22 h22=>?_
  refine zaE ?_
  refine wp_seq ?_
  refine zbh (am:=lst []) (tag0:=0) (Tb:=Tx0) (g:=63) (y:=enc y) s0 h22 5 [some 23,some 24,some 25,some 26,some 27,some 28] rfl (by kernel_rfl) rfl rfl rfl rfl rfl zva (by
     repeat'(first|refine And.intro ?_ ?_|exact True.intro|refine zaq.i hpre fun _=>?_|refine rq fun _=>?_|refine rf fun _=>?_|simp only[go_sem,stB,List.map_cons,List.map_nil,Array.toList_pop,List.dropLast,zab,zad,zaa,zaT,Tx0,zbp,hkd,hsb])
     all_goals first|done|rfl|exact⟨rfl,rfl⟩|omega) (fun v hv=>ih y.size (by omega) y rfl ⟨hq3,hq4⟩ _ B b _ (FB F w.heap.size) v (s0.next h22) (h22.rel s0).ok.glob h22.bld hv (by simp only[List.length_append,List.length_cons,List.length_nil]at hlen ⊢;omega)) fun a23 w23 h23=>?_
  refine zaE ?_
  refine zbh (am:=lst []) (tag0:=0) (Tb:=Tx0) (g:=98) (y:= .i .u8 (41:UInt8).toNat) s0 h23 1 [some 29,some 30] rfl (by kernel_rfl) rfl rfl rfl rfl rfl zzl (by
     repeat'(first|refine And.intro ?_ ?_|exact True.intro|refine zaq.i hpre fun _=>?_|refine rq fun _=>?_|refine rf fun _=>?_|simp only[go_sem,stB,List.map_cons,List.map_nil,Array.toList_pop,List.dropLast,zab,zad,zaa,zaT,Tx0,zbp,hkd])
     all_goals first|done|rfl|exact⟨rfl,rfl⟩|omega) (fun v hv=>zfU (by simp only[List.length_append,List.length_cons,List.length_nil]at hlen ⊢;omega) _ _ v hv h23.bld) fun a24 w24 h24=>?_
  exact zel (hpost _ _ _ (by rw[htx];first|exact h24|simpa using h24))
 ·obtain⟨x,y,hsb,hq1,hq3,hsz1,hsz2,_⟩:=zql hq.p (by omega)
  have htx:=zrT (by omega) hsb
  rw[show sgn f.kind=[32,124,32]from by unfold sgn;rw[hkd];rfl]at htx
  rw[htx]at hlen
  have hlen2:=hlen
  simp only[List.length_append,List.length_cons,List.length_nil]at hlen2
  rw[hsb]at hsubs
  have hq2:=(zcV _).1 hsubs x (by simp)
  have hq4:=(zcV _).1 hsubs y (by simp)
  refine wp_seq ?_
  refine zaJ (am:=lst []) (tag0:=0) (Tb:=Tx0) s0 h1 31 (.b false) [(6,.i .i64 f.kind)] [some 32,some 31] (by kernel_rfl) rfl (by decide) zbE (by simp) (by
     repeat'(first|refine And.intro ?_ ?_|exact True.intro|refine zaq.i hpre fun _=>?_|refine rq fun _=>?_|refine rf fun _=>?_|simp only[go_sem,stB,List.map_cons,List.map_nil,Array.toList_pop,List.dropLast,zab,zad,zaa,zaT,Tx0,zbp,hkd])
     all_goals first|done|rfl|exact⟨rfl,rfl⟩|omega) fun a2 h2=>?_
  refine zaE ?_
  refine wp_cond_false h2.bool ?_
  refine wp_seq ?_
  refine zaJ (am:=lst []) (tag0:=0) (Tb:=Tx0) s0 h2 35 (.b false) [(31,.b false),(6,.i .i64 f.kind)] [some 36,some 35] (by kernel_rfl) rfl (by decide) zbE (by simp) (by
     repeat'(first|refine And.intro ?_ ?_|exact True.intro|refine zaq.i hpre fun _=>?_|refine rq fun _=>?_|refine rf fun _=>?_|simp only[go_sem,stB,List.map_cons,List.map_nil,Array.toList_pop,List.dropLast,zab,zad,zaa,zaT,Tx0,zbp,hkd])
     all_goals first|done|rfl|exact⟨rfl,rfl⟩|omega) fun a3 h3=>?_
  refine zaE ?_
  refine wp_cond_false h3.bool ?_
  refine wp_seq ?_
  refine zaJ (am:=lst []) (tag0:=0) (Tb:=Tx0) s0 h3 47 (.b false) [(35,.b false),(31,.b false),(6,.i .i64 f.kind)] [some 48,some 47] (by kernel_rfl) rfl (by decide) zbE (by simp) (by
     repeat'(first|refine And.intro ?_ ?_|exact True.intro|refine zaq.i hpre fun _=>?_|refine rq fun _=>?_|refine rf fun _=>?_|simp only[go_sem,stB,List.map_cons,List.map_nil,Array.toList_pop,List.dropLast,zab,zad,zaa,zaT,Tx0,zbp,hkd])
     all_goals first|done|rfl|exact⟨rfl,rfl⟩|omega) fun a4 h4=>?_
  refine zaE ?_
  refine wp_cond_false h4.bool ?_
  refine wp_seq ?_
  refine zaJ (am:=lst []) (tag0:=0) (Tb:=Tx0) s0 h4 63 (.b false) [(47,.b false),(35,.b false),(31,.b false),(6,.i .i64 f.kind)] [some 64,some 63] (by kernel_rfl) rfl (by decide) zbE (by simp) (by
     repeat'(first|refine And.intro ?_ ?_|exact True.intro|refine zaq.i hpre fun _=>?_|refine rq fun _=>?_|refine rf fun _=>?_|simp only[go_sem,stB,List.map_cons,List.map_nil,Array.toList_pop,List.dropLast,zab,zad,zaa,zaT,Tx0,zbp,hkd])
     all_goals first|done|rfl|exact⟨rfl,rfl⟩|omega) fun a5 h5=>?_
  refine zaE ?_
  refine wp_cond_false h5.bool ?_
  refine wp_seq ?_
  refine wp_seq ?_
  refine zaJ (am:=lst []) (tag0:=0) (Tb:=Tx0) s0 h5 73 (.b false) [(63,.b false),(47,.b false),(35,.b false),(31,.b false),(6,.i .i64 f.kind)] [some 74,some 73] (by kernel_rfl) rfl (by decide) zbE (by simp) (by
     repeat'(first|refine And.intro ?_ ?_|exact True.intro|refine zaq.i hpre fun _=>?_|refine rq fun _=>?_|refine rf fun _=>?_|simp only[go_sem,stB,List.map_cons,List.map_nil,Array.toList_pop,List.dropLast,zab,zad,zaa,zaT,Tx0,zbp,hkd])
     all_goals first|done|rfl|exact⟨rfl,rfl⟩|omega) fun a6 h6=>?_
  refine zaE ?_
  refine wp_cond_false h6.bool ?_
  refine zaJ (am:=lst []) (tag0:=0) (Tb:=Tx0) s0 h6 73 (.b false) [(63,.b false),(47,.b false),(35,.b false),(31,.b false),(6,.i .i64 f.kind)] [some 75,some 73] (by kernel_rfl) rfl (by decide) zbE (by simp) (by
     repeat'(first|refine And.intro ?_ ?_|exact True.intro|refine zaq.i hpre fun _=>?_|refine rq fun _=>?_|refine rf fun _=>?_|simp only[go_sem,stB,List.map_cons,List.map_nil,Array.toList_pop,List.dropLast,zab,zad,zaa,zaT,Tx0,zbp,hkd])
     all_goals first|done|rfl|exact⟨rfl,rfl⟩|omega) fun a7 h7=>?_
  refine zaE ?_
  refine wp_cond_false h7.bool ?_
  refine wp_seq ?_
  refine zbh (am:=lst []) (tag0:=0) (Tb:=Tx0) (g:=98) (y:= .i .u8 (40:UInt8).toNat) s0 h7 1 [some 7,some 8] rfl (by kernel_rfl) rfl rfl rfl rfl rfl zzl (by
     repeat'(first|refine And.intro ?_ ?_|exact True.intro|refine zaq.i hpre fun _=>?_|refine rq fun _=>?_|refine rf fun _=>?_|simp only[go_sem,stB,List.map_cons,List.map_nil,Array.toList_pop,List.dropLast,zab,zad,zaa,zaT,Tx0,zbp,hkd])
     all_goals first|done|rfl|exact⟨rfl,rfl⟩|omega) (fun v hv=>zfU (by omega) _ _ v hv h7.bld) fun a20 w20 h20=>?_
  refine zaE ?_
  refine wp_seq ?_
  refine zbh (am:=lst []) (tag0:=0) (Tb:=Tx0) (g:=63) (y:=enc x) s0 h20 5 [some 9,some 10,some 11,some 12,some 13,some 14] rfl (by kernel_rfl) rfl rfl rfl rfl rfl zva (by
     repeat'(first|refine And.intro ?_ ?_|exact True.intro|refine zaq.i hpre fun _=>?_|refine rq fun _=>?_|refine rf fun _=>?_|simp only[go_sem,stB,List.map_cons,List.map_nil,Array.toList_pop,List.dropLast,zab,zad,zaa,zaT,Tx0,zbp,hkd,hsb])
     all_goals first|done|rfl|exact⟨rfl,rfl⟩|omega) (fun v hv=>ih x.size (by omega) x rfl ⟨hq1,hq2⟩ _ B b _ (FB F w.heap.size) v (s0.next h20) (h20.rel s0).ok.glob h20.bld hv (by simp only[List.length_append,List.length_cons,List.length_nil]at hlen ⊢;omega)) fun a21 w21 h21=>?_
  refine zaE ?_
  refine wp_seq ?_
  refine zfY (am:=lst []) (tag0:=0) (Tb:=Tx0) (g:=96) (y:= .s [32,124,32]) s0 h21 hm zBJ false 7 [some 15,some 16,some 17,some 18,some 19,some 20,some 21,some 22] rfl (by kernel_rfl) (by kernel_rfl) rfl rfl rfl rfl rfl zxM (by
     repeat'(first|refine And.intro ?_ ?_|exact True.intro|refine zaq.i hpre fun _=>?_|refine rq fun _=>?_|refine rf fun _=>?_|simp only[go_sem,stB,List.map_cons,List.map_nil,Array.toList_pop,List.dropLast,zab,zad,zaa,zaT,Tx0,zbp,hkd])
     all_goals first|done|rfl|exact⟨rfl,rfl⟩|omega) (fun w1 F1 v hv hb=>zhE (by simp only[List.length_append,List.length_cons,List.length_nil]at hlen ⊢;omega) _ _ v hv hb) fun a22 w22 h22=>?_
  refine zaE ?_
  refine wp_seq ?_
  refine zbh (am:=lst []) (tag0:=0) (Tb:=Tx0) (g:=63) (y:=enc y) s0 h22 5 [some 23,some 24,some 25,some 26,some 27,some 28] rfl (by kernel_rfl) rfl rfl rfl rfl rfl zva (by
     repeat'(first|refine And.intro ?_ ?_|exact True.intro|refine zaq.i hpre fun _=>?_|refine rq fun _=>?_|refine rf fun _=>?_|simp only[go_sem,stB,List.map_cons,List.map_nil,Array.toList_pop,List.dropLast,zab,zad,zaa,zaT,Tx0,zbp,hkd,hsb])
     all_goals first|done|rfl|exact⟨rfl,rfl⟩|omega) (fun v hv=>ih y.size (by omega) y rfl ⟨hq3,hq4⟩ _ B b _ (FB F w.heap.size) v (s0.next h22) (h22.rel s0).ok.glob h22.bld hv (by simp only[List.length_append,List.length_cons,List.length_nil]at hlen ⊢;omega)) fun a23 w23 h23=>?_
  refine zaE ?_
  refine zbh (am:=lst []) (tag0:=0) (Tb:=Tx0) (g:=98) (y:= .i .u8 (41:UInt8).toNat) s0 h23 1 [some 29,some 30] rfl (by kernel_rfl) rfl rfl rfl rfl rfl zzl (by
     repeat'(first|refine And.intro ?_ ?_|exact True.intro|refine zaq.i hpre fun _=>?_|refine rq fun _=>?_|refine rf fun _=>?_|simp only[go_sem,stB,List.map_cons,List.map_nil,Array.toList_pop,List.dropLast,zab,zad,zaa,zaT,Tx0,zbp,hkd])
     all_goals first|done|rfl|exact⟨rfl,rfl⟩|omega) (fun v hv=>zfU (by simp only[List.length_append,List.length_cons,List.length_nil]at hlen ⊢;omega) _ _ v hv h23.bld) fun a24 w24 h24=>?_
  exact zel (hpost _ _ _ (by rw[htx];first|exact h24|simpa using h24))
 ·obtain⟨x,y,hsb,hq1,hq3,hsz1,hsz2,_⟩:=zql hq.p (by omega)
  have htx:=zrT (by omega) hsb
  rw[show sgn f.kind=[32,62,32]from by unfold sgn;rw[hkd];rfl]at htx
  rw[htx]at hlen
  have hlen2:=hlen
  simp only[List.length_append,List.length_cons,List.length_nil]at hlen2
  rw[hsb]at hsubs
  have hq2:=(zcV _).1 hsubs x (by simp)
  have hq4:=(zcV _).1 hsubs y (by simp)
  refine wp_seq ?_
  refine zaJ (am:=lst []) (tag0:=0) (Tb:=Tx0) s0 h1 31 (.b false) [(6,.i .i64 f.kind)] [some 32,some 31] (by kernel_rfl) rfl (by decide) zbE (by simp) (by
     repeat'(first|refine And.intro ?_ ?_|exact True.intro|refine zaq.i hpre fun _=>?_|refine rq fun _=>?_|refine rf fun _=>?_|simp only[go_sem,stB,List.map_cons,List.map_nil,Array.toList_pop,List.dropLast,zab,zad,zaa,zaT,Tx0,zbp,hkd])
     all_goals first|done|rfl|exact⟨rfl,rfl⟩|omega) fun a2 h2=>?_
  refine zaE ?_
  refine wp_cond_false h2.bool ?_
  refine wp_seq ?_
  refine zaJ (am:=lst []) (tag0:=0) (Tb:=Tx0) s0 h2 35 (.b false) [(31,.b false),(6,.i .i64 f.kind)] [some 36,some 35] (by kernel_rfl) rfl (by decide) zbE (by simp) (by
     repeat'(first|refine And.intro ?_ ?_|exact True.intro|refine zaq.i hpre fun _=>?_|refine rq fun _=>?_|refine rf fun _=>?_|simp only[go_sem,stB,List.map_cons,List.map_nil,Array.toList_pop,List.dropLast,zab,zad,zaa,zaT,Tx0,zbp,hkd])
     all_goals first|done|rfl|exact⟨rfl,rfl⟩|omega) fun a3 h3=>?_
  refine zaE ?_
  refine wp_cond_false h3.bool ?_
  refine wp_seq ?_
  refine zaJ (am:=lst []) (tag0:=0) (Tb:=Tx0) s0 h3 47 (.b false) [(35,.b false),(31,.b false),(6,.i .i64 f.kind)] [some 48,some 47] (by kernel_rfl) rfl (by decide) zbE (by simp) (by
     repeat'(first|refine And.intro ?_ ?_|exact True.intro|refine zaq.i hpre fun _=>?_|refine rq fun _=>?_|refine rf fun _=>?_|simp only[go_sem,stB,List.map_cons,List.map_nil,Array.toList_pop,List.dropLast,zab,zad,zaa,zaT,Tx0,zbp,hkd])
     all_goals first|done|rfl|exact⟨rfl,rfl⟩|omega) fun a4 h4=>?_
  refine zaE ?_
  refine wp_cond_false h4.bool ?_
  refine wp_seq ?_
  refine zaJ (am:=lst []) (tag0:=0) (Tb:=Tx0) s0 h4 63 (.b false) [(47,.b false),(35,.b false),(31,.b false),(6,.i .i64 f.kind)] [some 64,some 63] (by kernel_rfl) rfl (by decide) zbE (by simp) (by
     repeat'(first|refine And.intro ?_ ?_|exact True.intro|refine zaq.i hpre fun _=>?_|refine rq fun _=>?_|refine rf fun _=>?_|simp only[go_sem,stB,List.map_cons,List.map_nil,Array.toList_pop,List.dropLast,zab,zad,zaa,zaT,Tx0,zbp,hkd])
     all_goals first|done|rfl|exact⟨rfl,rfl⟩|omega) fun a5 h5=>?_
  refine zaE ?_
  refine wp_cond_false h5.bool ?_
  refine wp_seq ?_
  refine wp_seq ?_
  refine zaJ (am:=lst []) (tag0:=0) (Tb:=Tx0) s0 h5 73 (.b false) [(63,.b false),(47,.b false),(35,.b false),(31,.b false),(6,.i .i64 f.kind)] [some 74,some 73] (by kernel_rfl) rfl (by decide) zbE (by simp) (by
     repeat'(first|refine And.intro ?_ ?_|exact True.intro|refine zaq.i hpre fun _=>?_|refine rq fun _=>?_|refine rf fun _=>?_|simp only[go_sem,stB,List.map_cons,List.map_nil,Array.toList_pop,List.dropLast,zab,zad,zaa,zaT,Tx0,zbp,hkd])
     all_goals first|done|rfl|exact⟨rfl,rfl⟩|omega) fun a6 h6=>?_
  refine zaE ?_
  refine wp_cond_false h6.bool ?_
  refine zaJ (am:=lst []) (tag0:=0) (Tb:=Tx0) s0 h6 73 (.b false) [(63,.b false),(47,.b false),(35,.b false),(31,.b false),(6,.i .i64 f.kind)] [some 75,some 73] (by kernel_rfl) rfl (by decide) zbE (by simp) (by
     repeat'(first|refine And.intro ?_ ?_|exact True.intro|refine zaq.i hpre fun _=>?_|refine rq fun _=>?_|refine rf fun _=>?_|simp only[go_sem,stB,List.map_cons,List.map_nil,Array.toList_pop,List.dropLast,zab,zad,zaa,zaT,Tx0,zbp,hkd])
     all_goals first|done|rfl|exact⟨rfl,rfl⟩|omega) fun a7 h7=>?_
  refine zaE ?_
  refine wp_cond_false h7.bool ?_
  refine wp_seq ?_
  refine zbh (am:=lst []) (tag0:=0) (Tb:=Tx0) (g:=98) (y:= .i .u8 (40:UInt8).toNat) s0 h7 1 [some 7,some 8] rfl (by kernel_rfl) rfl rfl rfl rfl rfl zzl (by
     repeat'(first|refine And.intro ?_ ?_|exact True.intro|refine zaq.i hpre fun _=>?_|refine rq fun _=>?_|refine rf fun _=>?_|simp only[go_sem,stB,List.map_cons,List.map_nil,Array.toList_pop,List.dropLast,zab,zad,zaa,zaT,Tx0,zbp,hkd])
     all_goals first|done|rfl|exact⟨rfl,rfl⟩|omega) (fun v hv=>zfU (by omega) _ _ v hv h7.bld) fun a20 w20 h20=>?_
  refine zaE ?_
  refine wp_seq ?_
  refine zbh (am:=lst []) (tag0:=0) (Tb:=Tx0) (g:=63) (y:=enc x) s0 h20 5 [some 9,some 10,some 11,some 12,some 13,some 14] rfl (by kernel_rfl) rfl rfl rfl rfl rfl zva (by
     repeat'(first|refine And.intro ?_ ?_|exact True.intro|refine zaq.i hpre fun _=>?_|refine rq fun _=>?_|refine rf fun _=>?_|simp only[go_sem,stB,List.map_cons,List.map_nil,Array.toList_pop,List.dropLast,zab,zad,zaa,zaT,Tx0,zbp,hkd,hsb])
     all_goals first|done|rfl|exact⟨rfl,rfl⟩|omega) (fun v hv=>ih x.size (by omega) x rfl ⟨hq1,hq2⟩ _ B b _ (FB F w.heap.size) v (s0.next h20) (h20.rel s0).ok.glob h20.bld hv (by simp only[List.length_append,List.length_cons,List.length_nil]at hlen ⊢;omega)) fun a21 w21 h21=>?_
  refine zaE ?_
  refine wp_seq ?_
  refine zfY (am:=lst []) (tag0:=0) (Tb:=Tx0) (g:=96) (y:= .s [32,62,32]) s0 h21 hm zBJ false 7 [some 15,some 16,some 17,some 18,some 19,some 20,some 21,some 22] rfl (by kernel_rfl) (by kernel_rfl) rfl rfl rfl rfl rfl zxM (by
     repeat'(first|refine And.intro ?_ ?_|exact True.intro|refine zaq.i hpre fun _=>?_|refine rq fun _=>?_|refine rf fun _=>?_|simp only[go_sem,stB,List.map_cons,List.map_nil,Array.toList_pop,List.dropLast,zab,zad,zaa,zaT,Tx0,zbp,hkd])
     all_goals first|done|rfl|exact⟨rfl,rfl⟩|omega) (fun w1 F1 v hv hb=>zhE (by simp only[List.length_append,List.length_cons,List.length_nil]at hlen ⊢;omega) _ _ v hv hb) fun a22 w22 h22=>?_
  refine zaE ?_
  refine wp_seq ?_
  refine zbh (am:=lst []) (tag0:=0) (Tb:=Tx0) (g:=63) (y:=enc y) s0 h22 5 [some 23,some 24,some 25,some 26,some 27,some 28] rfl (by kernel_rfl) rfl rfl rfl rfl rfl zva (by
     repeat'(first|refine And.intro ?_ ?_|exact True.intro|refine zaq.i hpre fun _=>?_|refine rq fun _=>?_|refine rf fun _=>?_|simp only[go_sem,stB,List.map_cons,List.map_nil,Array.toList_pop,List.dropLast,zab,zad,zaa,zaT,Tx0,zbp,hkd,hsb])
     all_goals first|done|rfl|exact⟨rfl,rfl⟩|omega) (fun v hv=>ih y.size (by omega) y rfl ⟨hq3,hq4⟩ _ B b _ (FB F w.heap.size) v (s0.next h22) (h22.rel s0).ok.glob h22.bld hv (by simp only[List.length_append,List.length_cons,List.length_nil]at hlen ⊢;omega)) fun a23 w23 h23=>?_
  refine zaE ?_
  refine zbh (am:=lst []) (tag0:=0) (Tb:=Tx0) (g:=98) (y:= .i .u8 (41:UInt8).toNat) s0 h23 1 [some 29,some 30] rfl (by kernel_rfl) rfl rfl rfl rfl rfl zzl (by
     repeat'(first|refine And.intro ?_ ?_|exact True.intro|refine zaq.i hpre fun _=>?_|refine rq fun _=>?_|refine rf fun _=>?_|simp only[go_sem,stB,List.map_cons,List.map_nil,Array.toList_pop,List.dropLast,zab,zad,zaa,zaT,Tx0,zbp,hkd])
     all_goals first|done|rfl|exact⟨rfl,rfl⟩|omega) (fun v hv=>zfU (by simp only[List.length_append,List.length_cons,List.length_nil]at hlen ⊢;omega) _ _ v hv h23.bld) fun a24 w24 h24=>?_
  exact zel (hpost _ _ _ (by rw[htx];first|exact h24|simpa using h24))
 ·obtain⟨x,hsb,hq1,hsz⟩:=zkq hq.p (by omega)
  have htx:=zw3 hkd hsb
  rw[htx]at hlen
  have hlen2:=hlen
  simp only[List.length_append,List.length_cons,List.length_nil]at hlen2
  rw[hsb]at hsubs
  have hq2:=(zcV _).1 hsubs x (by simp)
  refine wp_seq ?_
  refine zaJ (am:=lst []) (tag0:=0) (Tb:=Tx0) s0 h1 31 (.b false) [(6,.i .i64 f.kind)] [some 32,some 31] (by kernel_rfl) rfl (by decide) zbE (by simp) (by
     repeat'(first|refine And.intro ?_ ?_|exact True.intro|refine zaq.i hpre fun _=>?_|refine rq fun _=>?_|refine rf fun _=>?_|simp only[go_sem,stB,List.map_cons,List.map_nil,Array.toList_pop,List.dropLast,zab,zad,zaa,zaT,Tx0,zbp,hkd])
     all_goals first|done|rfl|exact⟨rfl,rfl⟩|omega) fun a2 h2=>?_
  refine zaE ?_
  refine wp_cond_false h2.bool ?_
  refine wp_seq ?_
  refine zaJ (am:=lst []) (tag0:=0) (Tb:=Tx0) s0 h2 35 (.b false) [(31,.b false),(6,.i .i64 f.kind)] [some 36,some 35] (by kernel_rfl) rfl (by decide) zbE (by simp) (by
     repeat'(first|refine And.intro ?_ ?_|exact True.intro|refine zaq.i hpre fun _=>?_|refine rq fun _=>?_|refine rf fun _=>?_|simp only[go_sem,stB,List.map_cons,List.map_nil,Array.toList_pop,List.dropLast,zab,zad,zaa,zaT,Tx0,zbp,hkd])
     all_goals first|done|rfl|exact⟨rfl,rfl⟩|omega) fun a3 h3=>?_
  refine zaE ?_
  refine wp_cond_false h3.bool ?_
  refine wp_seq ?_
  refine zaJ (am:=lst []) (tag0:=0) (Tb:=Tx0) s0 h3 47 (.b false) [(35,.b false),(31,.b false),(6,.i .i64 f.kind)] [some 48,some 47] (by kernel_rfl) rfl (by decide) zbE (by simp) (by
     repeat'(first|refine And.intro ?_ ?_|exact True.intro|refine zaq.i hpre fun _=>?_|refine rq fun _=>?_|refine rf fun _=>?_|simp only[go_sem,stB,List.map_cons,List.map_nil,Array.toList_pop,List.dropLast,zab,zad,zaa,zaT,Tx0,zbp,hkd])
     all_goals first|done|rfl|exact⟨rfl,rfl⟩|omega) fun a4 h4=>?_
  refine zaE ?_
  refine wp_cond_false h4.bool ?_
  refine wp_seq ?_
  refine zaJ (am:=lst []) (tag0:=0) (Tb:=Tx0) s0 h4 63 (.b false) [(47,.b false),(35,.b false),(31,.b false),(6,.i .i64 f.kind)] [some 64,some 63] (by kernel_rfl) rfl (by decide) zbE (by simp) (by
     repeat'(first|refine And.intro ?_ ?_|exact True.intro|refine zaq.i hpre fun _=>?_|refine rq fun _=>?_|refine rf fun _=>?_|simp only[go_sem,stB,List.map_cons,List.map_nil,Array.toList_pop,List.dropLast,zab,zad,zaa,zaT,Tx0,zbp,hkd])
     all_goals first|done|rfl|exact⟨rfl,rfl⟩|omega) fun a5 h5=>?_
  refine zaE ?_
  refine wp_cond_false h5.bool ?_
  refine wp_seq ?_
  refine wp_seq ?_
  refine zaJ (am:=lst []) (tag0:=0) (Tb:=Tx0) s0 h5 73 (.b true) [(63,.b false),(47,.b false),(35,.b false),(31,.b false),(6,.i .i64 f.kind)] [some 74,some 73] (by kernel_rfl) rfl (by decide) zbE (by simp) (by
     repeat'(first|refine And.intro ?_ ?_|exact True.intro|refine zaq.i hpre fun _=>?_|refine rq fun _=>?_|refine rf fun _=>?_|simp only[go_sem,stB,List.map_cons,List.map_nil,Array.toList_pop,List.dropLast,zab,zad,zaa,zaT,Tx0,zbp,hkd])
     all_goals first|done|rfl|exact⟨rfl,rfl⟩|omega) fun a6 h6=>?_
  refine zaE ?_
  refine wp_cond_true h6.bool ?_
  refine wp_skip ?_
  refine zaE ?_
  refine wp_cond_true h6.bool ?_
  refine wp_seq ?_
  refine zaJ (am:=lst []) (tag0:=0) (Tb:=Tx0) s0 h6 4 (.s [115,111,109,101,32]) [(73,.b true),(63,.b false),(47,.b false),(35,.b false),(31,.b false),(6,.i .i64 f.kind)] [some 4] (by kernel_rfl) rfl (by decide) zzq (by simp) (by
     repeat'(first|refine And.intro ?_ ?_|exact True.intro|refine zaq.i hpre fun _=>?_|refine rq fun _=>?_|refine rf fun _=>?_|simp only[go_sem,stB,List.map_cons,List.map_nil,Array.toList_pop,List.dropLast,zab,zad,zaa,zaT,Tx0,zbp,hkd])
     all_goals first|done|rfl|exact⟨rfl,rfl⟩|omega) fun a8 h8=>?_
  refine zaE ?_
  refine wp_seq ?_
  refine wp_seq ?_
  refine zaJ (am:=lst []) (tag0:=0) (Tb:=Tx0) s0 h8 78 (.b true) [(4,.s [115,111,109,101,32]),(73,.b true),(63,.b false),(47,.b false),(35,.b false),(31,.b false),(6,.i .i64 f.kind)] [some 76,some 77,some 78] (by kernel_rfl) rfl (by decide) zbE (by simp) (by
     repeat'(first|refine And.intro ?_ ?_|exact True.intro|refine zaq.i hpre fun _=>?_|refine rq fun _=>?_|refine rf fun _=>?_|simp only[go_sem,stB,List.map_cons,List.map_nil,Array.toList_pop,List.dropLast,zab,zad,zaa,zaT,Tx0,zbp,hkd])
     all_goals first|done|rfl|exact⟨rfl,rfl⟩|omega) fun a9 h9=>?_
  refine zaE ?_
  refine wp_cond_true h9.bool ?_
  refine zaJ (am:=lst []) (tag0:=0) (Tb:=Tx0) s0 h9 4 (.s [97,108,108,32]) [(78,.b true),(73,.b true),(63,.b false),(47,.b false),(35,.b false),(31,.b false),(6,.i .i64 f.kind)] [some 4] (by kernel_rfl) rfl (by decide) zzq (by simp) (by
     repeat'(first|refine And.intro ?_ ?_|exact True.intro|refine zaq.i hpre fun _=>?_|refine rq fun _=>?_|refine rf fun _=>?_|simp only[go_sem,stB,List.map_cons,List.map_nil,Array.toList_pop,List.dropLast,zab,zad,zaa,zaT,Tx0,zbp,hkd])
     all_goals first|done|rfl|exact⟨rfl,rfl⟩|omega) fun a10 h10=>?_
  refine zaE ?_
  refine wp_seq ?_
  refine zbh (am:=lst []) (tag0:=0) (Tb:=Tx0) (g:=96) (y:= .s ([97,108,108,32]++f.name.l++[32])) s0 h10 6 [some 79,some 80,some 81,some 82,some 83,some 84,some 85] rfl (by kernel_rfl) rfl rfl rfl rfl rfl zxM (by
     repeat'(first|refine And.intro ?_ ?_|exact True.intro|refine zaq.i hpre fun _=>?_|refine rq fun _=>?_|refine rf fun _=>?_|simp only[go_sem,stB,List.map_cons,List.map_nil,Array.toList_pop,List.dropLast,zab,zad,zaa,zaT,Tx0,zbp,hkd])
     all_goals first|done|rfl|exact⟨rfl,rfl⟩|omega) (fun v hv=>zhE (by simp only[List.length_append,List.length_cons,List.length_nil]at hlen ⊢;omega) _ _ v hv h10.bld) fun a20 w20 h20=>?_
  refine zaE ?_
  refine zbh (am:=lst []) (tag0:=0) (Tb:=Tx0) (g:=63) (y:=enc x) s0 h20 5 [some 86,some 87,some 88,some 89,some 90,some 91] rfl (by kernel_rfl) rfl rfl rfl rfl rfl zva (by
     repeat'(first|refine And.intro ?_ ?_|exact True.intro|refine zaq.i hpre fun _=>?_|refine rq fun _=>?_|refine rf fun _=>?_|simp only[go_sem,stB,List.map_cons,List.map_nil,Array.toList_pop,List.dropLast,zab,zad,zaa,zaT,Tx0,zbp,hkd,hsb])
     all_goals first|done|rfl|exact⟨rfl,rfl⟩|omega) (fun v hv=>ih x.size (by omega) x rfl ⟨hq1,hq2⟩ _ B b _ (FB F w.heap.size) v (s0.next h20) (h20.rel s0).ok.glob h20.bld hv (by simp only[List.length_append,List.length_cons,List.length_nil]at hlen ⊢;omega)) fun a21 w21 h21=>?_
  exact zel (hpost _ _ _ (by rw[htx];first|exact h21|simpa using h21))
 ·obtain⟨x,hsb,hq1,hsz⟩:=zkq hq.p (by omega)
  have htx:=zw4 hkd hsb
  rw[htx]at hlen
  have hlen2:=hlen
  simp only[List.length_append,List.length_cons,List.length_nil]at hlen2
  rw[hsb]at hsubs
  have hq2:=(zcV _).1 hsubs x (by simp)
  refine wp_seq ?_
  refine zaJ (am:=lst []) (tag0:=0) (Tb:=Tx0) s0 h1 31 (.b false) [(6,.i .i64 f.kind)] [some 32,some 31] (by kernel_rfl) rfl (by decide) zbE (by simp) (by
     repeat'(first|refine And.intro ?_ ?_|exact True.intro|refine zaq.i hpre fun _=>?_|refine rq fun _=>?_|refine rf fun _=>?_|simp only[go_sem,stB,List.map_cons,List.map_nil,Array.toList_pop,List.dropLast,zab,zad,zaa,zaT,Tx0,zbp,hkd])
     all_goals first|done|rfl|exact⟨rfl,rfl⟩|omega) fun a2 h2=>?_
  refine zaE ?_
  refine wp_cond_false h2.bool ?_
  refine wp_seq ?_
  refine zaJ (am:=lst []) (tag0:=0) (Tb:=Tx0) s0 h2 35 (.b false) [(31,.b false),(6,.i .i64 f.kind)] [some 36,some 35] (by kernel_rfl) rfl (by decide) zbE (by simp) (by
     repeat'(first|refine And.intro ?_ ?_|exact True.intro|refine zaq.i hpre fun _=>?_|refine rq fun _=>?_|refine rf fun _=>?_|simp only[go_sem,stB,List.map_cons,List.map_nil,Array.toList_pop,List.dropLast,zab,zad,zaa,zaT,Tx0,zbp,hkd])
     all_goals first|done|rfl|exact⟨rfl,rfl⟩|omega) fun a3 h3=>?_
  refine zaE ?_
  refine wp_cond_false h3.bool ?_
  refine wp_seq ?_
  refine zaJ (am:=lst []) (tag0:=0) (Tb:=Tx0) s0 h3 47 (.b false) [(35,.b false),(31,.b false),(6,.i .i64 f.kind)] [some 48,some 47] (by kernel_rfl) rfl (by decide) zbE (by simp) (by
     repeat'(first|refine And.intro ?_ ?_|exact True.intro|refine zaq.i hpre fun _=>?_|refine rq fun _=>?_|refine rf fun _=>?_|simp only[go_sem,stB,List.map_cons,List.map_nil,Array.toList_pop,List.dropLast,zab,zad,zaa,zaT,Tx0,zbp,hkd])
     all_goals first|done|rfl|exact⟨rfl,rfl⟩|omega) fun a4 h4=>?_
  refine zaE ?_
  refine wp_cond_false h4.bool ?_
  refine wp_seq ?_
  refine zaJ (am:=lst []) (tag0:=0) (Tb:=Tx0) s0 h4 63 (.b false) [(47,.b false),(35,.b false),(31,.b false),(6,.i .i64 f.kind)] [some 64,some 63] (by kernel_rfl) rfl (by decide) zbE (by simp) (by
     repeat'(first|refine And.intro ?_ ?_|exact True.intro|refine zaq.i hpre fun _=>?_|refine rq fun _=>?_|refine rf fun _=>?_|simp only[go_sem,stB,List.map_cons,List.map_nil,Array.toList_pop,List.dropLast,zab,zad,zaa,zaT,Tx0,zbp,hkd])
     all_goals first|done|rfl|exact⟨rfl,rfl⟩|omega) fun a5 h5=>?_
  refine zaE ?_
  refine wp_cond_false h5.bool ?_
  refine wp_seq ?_
  refine wp_seq ?_
  refine zaJ (am:=lst []) (tag0:=0) (Tb:=Tx0) s0 h5 73 (.b false) [(63,.b false),(47,.b false),(35,.b false),(31,.b false),(6,.i .i64 f.kind)] [some 74,some 73] (by kernel_rfl) rfl (by decide) zbE (by simp) (by
     repeat'(first|refine And.intro ?_ ?_|exact True.intro|refine zaq.i hpre fun _=>?_|refine rq fun _=>?_|refine rf fun _=>?_|simp only[go_sem,stB,List.map_cons,List.map_nil,Array.toList_pop,List.dropLast,zab,zad,zaa,zaT,Tx0,zbp,hkd])
     all_goals first|done|rfl|exact⟨rfl,rfl⟩|omega) fun a6 h6=>?_
  refine zaE ?_
  refine wp_cond_false h6.bool ?_
  refine zaJ (am:=lst []) (tag0:=0) (Tb:=Tx0) s0 h6 73 (.b true) [(63,.b false),(47,.b false),(35,.b false),(31,.b false),(6,.i .i64 f.kind)] [some 75,some 73] (by kernel_rfl) rfl (by decide) zbE (by simp) (by
     repeat'(first|refine And.intro ?_ ?_|exact True.intro|refine zaq.i hpre fun _=>?_|refine rq fun _=>?_|refine rf fun _=>?_|simp only[go_sem,stB,List.map_cons,List.map_nil,Array.toList_pop,List.dropLast,zab,zad,zaa,zaT,Tx0,zbp,hkd])
     all_goals first|done|rfl|exact⟨rfl,rfl⟩|omega) fun a7 h7=>?_
  refine zaE ?_
  refine wp_cond_true h7.bool ?_
  refine wp_seq ?_
  refine zaJ (am:=lst []) (tag0:=0) (Tb:=Tx0) s0 h7 4 (.s [115,111,109,101,32]) [(73,.b true),(63,.b false),(47,.b false),(35,.b false),(31,.b false),(6,.i .i64 f.kind)] [some 4] (by kernel_rfl) rfl (by decide) zzq (by simp) (by
     repeat'(first|refine And.intro ?_ ?_|exact True.intro|refine zaq.i hpre fun _=>?_|refine rq fun _=>?_|refine rf fun _=>?_|simp only[go_sem,stB,List.map_cons,List.map_nil,Array.toList_pop,List.dropLast,zab,zad,zaa,zaT,Tx0,zbp,hkd])
     all_goals first|done|rfl|exact⟨rfl,rfl⟩|omega) fun a8 h8=>?_
  refine zaE ?_
  refine wp_seq ?_
  refine wp_seq ?_
  refine zaJ (am:=lst []) (tag0:=0) (Tb:=Tx0) s0 h8 78 (.b false) [(4,.s [115,111,109,101,32]),(73,.b true),(63,.b false),(47,.b false),(35,.b false),(31,.b false),(6,.i .i64 f.kind)] [some 76,some 77,some 78] (by kernel_rfl) rfl (by decide) zbE (by simp) (by
     repeat'(first|refine And.intro ?_ ?_|exact True.intro|refine zaq.i hpre fun _=>?_|refine rq fun _=>?_|refine rf fun _=>?_|simp only[go_sem,stB,List.map_cons,List.map_nil,Array.toList_pop,List.dropLast,zab,zad,zaa,zaT,Tx0,zbp,hkd])
     all_goals first|done|rfl|exact⟨rfl,rfl⟩|omega) fun a9 h9=>?_
  refine zaE ?_
  refine wp_cond_false h9.bool ?_
  refine wp_skip ?_
  refine zaE ?_
  refine wp_seq ?_
  refine zbh (am:=lst []) (tag0:=0) (Tb:=Tx0) (g:=96) (y:= .s ([115,111,109,101,32]++f.name.l++[32])) s0 h9 6 [some 79,some 80,some 81,some 82,some 83,some 84,some 85] rfl (by kernel_rfl) rfl rfl rfl rfl rfl zxM (by
     repeat'(first|refine And.intro ?_ ?_|exact True.intro|refine zaq.i hpre fun _=>?_|refine rq fun _=>?_|refine rf fun _=>?_|simp only[go_sem,stB,List.map_cons,List.map_nil,Array.toList_pop,List.dropLast,zab,zad,zaa,zaT,Tx0,zbp,hkd])
     all_goals first|done|rfl|exact⟨rfl,rfl⟩|omega) (fun v hv=>zhE (by simp only[List.length_append,List.length_cons,List.length_nil]at hlen ⊢;omega) _ _ v hv h9.bld) fun a20 w20 h20=>?_
  refine zaE ?_
  refine zbh (am:=lst []) (tag0:=0) (Tb:=Tx0) (g:=63) (y:=enc x) s0 h20 5 [some 86,some 87,some 88,some 89,some 90,some 91] rfl (by kernel_rfl) rfl rfl rfl rfl rfl zva (by
     repeat'(first|refine And.intro ?_ ?_|exact True.intro|refine zaq.i hpre fun _=>?_|refine rq fun _=>?_|refine rf fun _=>?_|simp only[go_sem,stB,List.map_cons,List.map_nil,Array.toList_pop,List.dropLast,zab,zad,zaa,zaT,Tx0,zbp,hkd,hsb])
     all_goals first|done|rfl|exact⟨rfl,rfl⟩|omega) (fun v hv=>ih x.size (by omega) x rfl ⟨hq1,hq2⟩ _ B b _ (FB F w.heap.size) v (s0.next h20) (h20.rel s0).ok.glob h20.bld hv (by simp only[List.length_append,List.length_cons,List.length_nil]at hlen ⊢;omega)) fun a21 w21 h21=>?_
  exact zel (hpost _ _ _ (by rw[htx];first|exact h21|simpa using h21))
end
end Go.Proofs.YtmconmiemdinkaaGreatDoor
namespace Go.Proofs.YtmconmiemdinkaaGreatDoor
open Go Go.Abs Go.Proofs
open Go.RowKit
section
variable {G:Nat→List FD}
theorem zFm {x:Value}{n:Nat}:((#[x]:Array Value)++Array.replicate n undef)[0]?=some x:=by
 rw[Array.getElem?_append_left (by simp)];rfl
theorem zls {a:Act}{d:Nat}{v:Value}(h:d<a.tmps.size):(a.put (some d) v).tmps[d]?=some v:=by
 show(a.tmps.setIfInBounds _ _)[d]?=_
 rw[Array.getElem?_setIfInBounds_self_of_lt h]
theorem zxO {a:Act}{d t:Nat}{v:Value}(h:d≠t):(a.put (some d) v).tmps[t]?=a.tmps[t]?:=Array.getElem?_setIfInBounds_ne h
theorem zkc {a:Act}{d:Nat}{v:Value}:(a.put (some d) v).tmps.size=a.tmps.size:=Array.size_setIfInBounds
set_option maxHeartbeats 8000000 in
theorem zzI {f:Abs.zac}(hq:txQ f){w:World}{F:Nat→Nat→Prop}{v:Value}(hfb:∀k j,F k j→k<w.heap.size)(hglob:zfX G w F)(hv:za8 w F v (enc f))(hlen:(txt f).length≤10000000000):
  Calls Tryz.prog 30 #[v] w fun E w'=>E= .returned (.string ⟨(txt f).toArray⟩)∧Below w.heap.size w w':=by
 have hv0:=hv
 rw[zaz]at hv
 obtain⟨vals,rfl,hvl,hvr⟩:=hv.agg_inv
 refine calls_of_wp Tryz.func30 rfl ?_
 obtain⟨a0,ha0⟩:∃a0:Act,a0={tmps:= #[.agg vals.toArray]++Array.replicate (Tryz.f30.ntmps-(#[.agg vals.toArray]:Array Value).size) undef,defers:=[]}:=⟨_,rfl⟩
 rw[←ha0]
 have z0:a0.tmps.size=7:=by rw[ha0];simp
 have z1':a0.tmps[0]?=some (.agg vals.toArray):=by rw[ha0];exact zFm
 have z1:a0.eval (.tmp 0)= .agg vals.toArray:=getD_some z1'
 have z3:a0.defers=[]:=by rw[ha0]
 obtain⟨R,hR⟩:∃R:Ending→World→Prop,R=fun E w'=>E= .returned (.string ⟨(txt f).toArray⟩)∧Below w.heap.size w w':=⟨_,rfl⟩
 rw[←hR]
 have hpost:∀a' w',a'.tmps[2]?=some (.string ⟨(txt f).toArray⟩)→a'.defers=[]→Below w.heap.size w w'→bodyPost Tryz.prog Tryz.f30 R .ret a' w':=fun a' w' h1 h2 h3=>by
  refine⟨h2,.string ⟨(txt f).toArray⟩,?_,?_⟩
  ·have e:Tryz.f30.results= #[.tmp 2]:=rfl
   unfold results
   rw[e]
   simp[getD_some h1,h1]
  ·rw[hR];exact⟨rfl,h3⟩
 obtain⟨Q,hQ⟩:∃Q,Q=bodyPost Tryz.prog Tryz.f30 R:=⟨_,rfl⟩
 rw[←hQ]at hpost ⊢
 clear hQ hR ha0
 refine wp_seq ?_
 refine wp_region ?_
 show wpOps Tryz.prog _ _ [0,1] _ _
 rw[wpOps_cons]
 refine ztZ rfl rfl (v:= .pointer (some ⟨w.heap.size,0,none⟩)) (w1:=w.alloc (.cells (a0.eval (.tmp 0)).cells 37)) (by
  simp only[execOp]
  exact zcg (by simp[Instr.box,newVar,newRow])) ?_
 rw[z1,show(Value.agg vals.toArray).cells=vals.toArray from rfl]
 rw[wpOps_cons]
 refine znb (d:=some 2) (v:= .string ⟨#[]⟩) rfl rfl rfl rfl rfl ?_
 show Exit.then _ _ .normal _ _
 refine zaE ?_
 refine wp_seq ?_
 refine wp_region ?_
 show wpOps Tryz.prog _ _ [0] _ _
 rw[wpOps_cons]
 refine ztZ rfl rfl (v:= .pointer (some ⟨w.heap.size+1,0,none⟩)) (w1:=(w.alloc (.cells vals.toArray 37)).alloc (.cells #[.pointer none,.slice none 0 0] 101)) (by
  simp only[execOp]
  exact zcg (by
   have hz:=Tryz.zeroValue101 (w.alloc (.cells vals.toArray 37))
   have hs1:(w.alloc (.cells vals.toArray 37)).heap.size=w.heap.size+1:=by
    show(w.heap.push _).size=_
    rw[Array.size_push]
   rw[←hs1]
   simp[Instr.alloc,hz,newVar,newRow]
   try rfl)) ?_
 show Exit.then _ _ .normal _ _
 refine zaE ?_
 obtain⟨a1,ha1⟩:∃a1,a1=((a0.put (some 1) (.pointer (some ⟨w.heap.size,0,none⟩))).put (some 2) (.string ⟨#[]⟩)).put (some 3) (.pointer (some ⟨w.heap.size+1,0,none⟩)):=⟨_,rfl⟩
 obtain⟨w2,hw2⟩:∃w2,w2=(w.alloc (.cells vals.toArray 37)).alloc (.cells #[.pointer none,.slice none 0 0] 101):=⟨_,rfl⟩
 show(Code.seq _ _).wp _ _ (((a0.put (some 1) _).put (some 2) _).put (some 3) _) _
 rw[←ha1,←hw2]
 have hsz:w2.heap.size=w.heap.size+2:=by
  rw[hw2];show((w.heap.push _).push _).size=_
  rw[Array.size_push,Array.size_push]
 have hold:∀k,k<w.heap.size→w2.heap[k]?=w.heap[k]?:=fun k hk=>by
  rw[hw2];show((w.heap.push _).push _)[k]?=_
  rw[Array.getElem?_push,if_neg (by rw[Array.size_push];omega),Array.getElem?_push,if_neg (by omega)]
 have hb1:w2.heap[w.heap.size]?=some (.cells vals.toArray 37 (0,0)):=by
  rw[hw2];show((w.heap.push _).push _)[w.heap.size]?=_
  rw[Array.getElem?_push,if_neg (by rw[Array.size_push];omega),Array.getElem?_push,if_pos rfl]
 have hb2:w2.heap[w.heap.size+1]?=some (.cells #[.pointer none,.slice none 0 0] 101 (0,0)):=by
  rw[hw2];show((w.heap.push _).push _)[w.heap.size+1]?=_
  rw[Array.getElem?_push,if_pos (by rw[Array.size_push])]
 have hbel:Below w.heap.size w w2:=by
  refine⟨?_,?_,?_,by omega,hold⟩<;>(rw[hw2];rfl)
 have hat:∀k j,F k j→World.at w2 k j=World.at w k j:=fun k j hf=>zeJ (hold k (hfb k j hf)) j
 have y1:a1.tmps[1]?=some (.pointer (some ⟨w.heap.size,0,none⟩)):=by
  rw[ha1,zxO (by decide),zxO (by decide),zls (by omega)]
 have y3:a1.tmps[3]?=some (.pointer (some ⟨w.heap.size+1,0,none⟩)):=by
  rw[ha1,zls (by rw[zkc,zkc];omega)]
 have ysz:a1.tmps.size=7:=by rw[ha1,zkc,zkc,zkc];exact z0
 have ynd:a1.defers=[]:=by rw[ha1];exact z3
 clear ha1 hw2
 have hbld:Lib.IsBuilderF 101 5 (w.heap.size+1) (w.heap.size+1) (Lib.byteCells []) w2:=
  .inl ⟨Nat.le_refl _,.slice none 0 0,hb2,⟨rfl,.inl ⟨rfl,rfl⟩⟩,by simp[Value.ownBlock]⟩
 have s0:WF0 G 5 37 w2 (w.heap.size+1) (w.heap.size+1) w.heap.size F vals [.i .i64 f.kind,.s f.name.l,.sl (f.words.map enc),.sl (f.subs.map enc)]:=by
  refine⟨fun k j hf=>?_,zce (fun _ _ h=>h) hat hglob,Nat.le_refl _,by omega,by decide,hvl,fun j hj=>(hvr j hj).mono hat fun _ _ h=>h⟩
  have:=hfb k j hf
  exact⟨by omega,by omega,.inl (by omega)⟩
 have h0:WS 101 5 37 7 3 1 w2 (w.heap.size+1) (w.heap.size+1) w.heap.size F vals [] [] a1 w2:=
  ⟨ysz,ynd,y3,y1,fun p hp=>(by cases hp),fun _ _ _=>rfl,hbld,hb1,Below.refl _ _,Lib.OthersKept.refl _ _ _⟩
 refine wp_seq ?_
 refine zbh (am:=lst []) (tag0:=0) (Tb:=Tx0) (g:=63) (y:=enc f) (S:=txt f) s0 h0 1 [some 4,some 5] rfl (by kernel_rfl) rfl rfl rfl rfl rfl zva (by
   repeat'(first|refine And.intro ?_ ?_|exact True.intro|refine rq fun _=>?_|refine rf fun _=>?_|simp only[go_sem,stB,List.map_cons,List.map_nil,Array.toList_pop,List.dropLast,zab,zad,zaa,zaT,Tx0,zbp])
   all_goals first|done|rfl|exact⟨rfl,rfl⟩|omega) (fun u hu=>zxb f.size f rfl hq _ _ _ _ (FB F w.heap.size) u (s0.next h0) (h0.rel s0).ok.glob h0.bld hu (by simpa using hlen)) fun a3 w3 h3=>?_
 refine zaE ?_
 rw[List.nil_append]at h3
 refine wp_seq ?_
 refine wp_region ?_
 show wpOps Tryz.prog _ _ [0,1] _ _
 rw[wpOps_cons]
 have e3:a3.eval (.tmp 3)= .pointer (some ⟨w.heap.size+1,0,none⟩):=getD_some h3.p0
 refine zzn (d:=some 6) rfl rfl rfl rfl rfl rfl zKy ?_
 show Calls _ _ #[a3.eval (.tmp 3)] _ _
 rw[e3]
 have hlt:=zjF h3.bld
 refine(Tryz.Builder_String_any_k (w.heap.size+1) (w.heap.size+1) (txt f) w3 h3.bld (by omega)).mono fun E w4 he=>?_
 obtain⟨rfl,_,h5,_⟩:=he
 refine⟨_,rfl,?_⟩
 rw[wpOps_cons]
 have e6:(a3.put (some 6) (.string ⟨(txt f).toArray⟩)).eval (.tmp 6)= .string ⟨(txt f).toArray⟩:=getD_some (zls (by rw[h3.sz];omega))
 refine znb (d:=some 2) (v:= .string ⟨(txt f).toArray⟩) rfl rfl rfl rfl e6 ?_
 show Exit.then _ _ .normal _ _
 refine zaE ?_
 refine wp_ret (hpost _ _ (zls (by rw[zkc,h3.sz];omega)) h3.nd ?_)
 have hle:∀{x y:World},Below (w.heap.size+1) x y→Below w.heap.size x y:=fun h=>⟨h.os,h.tape,h.output,h.size,fun k hk=>h.block k (by omega)⟩
 exact hbel.trans ((hle h3.below).trans (hle h5))
def Tx1:Tbl:=zbp.add 30 (sp1 txS fun f=>txQ f∧(txt f).length≤10000000000)
theorem zFg:zan Tryz.prog G Tx1:=by
 refine zbR zIj zcF fun f hp _=>⟨zIj,fun w L F vs hok hvs=>?_⟩
 obtain⟨v,rfl,hv⟩:∃v,vs=[v]∧za8 w F v (enc f):=by
  match vs,hvs with
  |[v],h=>simp only[zao,zak]at h;exact⟨v,rfl,h.1⟩
  |[],h=>simp[zao]at h
  |_::_::_,h=>simp[zao]at h
 refine(zpz (zzI hp.1 hok.fb hok.glob hv hp.2)).mono fun E w' he=>?_
 obtain⟨⟨rfl,hb⟩,hd⟩:=he
 obtain⟨g1,g2⟩:=zpd hok hb hd
 refine⟨_,.fz (.s (txt f)),hpL [],0,L,F,rfl,rfl,g1,?_,g2⟩
 simp only[zak]
 have:=za8.s (w:=w') (F:=F) ⟨(txt f).toArray⟩ (by
  show((txt f).toArray).size≤za6
  rw[List.size_toArray];unfold za6;have:=hp.2;omega)
 simpa using this
end
end Go.Proofs.YtmconmiemdinkaaGreatDoor
namespace Go.Proofs.YtmconmiemdinkaaGreatDoor
open Go Go.Abs Go.Proofs
open Go.RowKit
section
variable {G:Nat→List FD}
def txG (f:Abs.zac):Prop:=txQ f∧(txt f).length≤10000000000
def cfT (a b:Abs.zac):Int:=if txt a<txt b then-1 else if txt b<txt a then 1 else 0
theorem zeM {a b:Abs.zac}:cfT a b<0↔txt a<txt b:=by
 unfold cfT
 by_cases h:txt a<txt b
 ·rw[if_pos h];simp[h]
 ·rw[if_neg h]
  by_cases h2:txt b<txt a
  ·rw[if_pos h2];simp[h]
  ·rw[if_neg h2];simp[h]
def zeL (f:Abs.zac):List FD:=[.i .i64 f.kind,.s f.name.l,.sl (f.words.map enc),.sl (f.subs.map enc)]
theorem zl7 {f:Abs.zac}:FD.agg (zeL f)=enc f:=zaz.symm
theorem ztE {a b:List UInt8}(h:¬a<b):Op.bytesLess a b=false:=by rw[zem];exact decide_eq_false h
theorem ztF {a b:List UInt8}(h:a<b):Op.bytesLess a b=true:=by rw[zem];exact decide_eq_true h
set_option maxHeartbeats 4000000 in
theorem zJo {a b:Abs.zac}(hqa:txG a)(hqb:txG b):zaH Tryz.prog G 29 [.fz (.agg (zeL a)),.fz (.agg (zeL b))] H0 0 (fun d _ _=>D.val d=some (.fz (.i .i64 (cfT a b)))):=by
 unfold zeL
 rw[zfD]
 unfold txG at hqa hqb
 by_cases h:txt a<txt b
 ·have h5:=ztF h
  have e:cfT a b= -1:=by unfold cfT;rw[if_pos h]
  rw[e]
  refine zaj (N:=17) hm zFg 29000 (lst [1,3]) zEu Tryz.func29 rfl rfl (by simp) (by kernel_rfl) ?_
  repeat'(first|refine zaq.i ⟨rfl,hqa⟩ fun _=>?_|refine zaq.i ⟨rfl,hqb⟩ fun _=>?_|refine And.intro ?_ ?_|exact True.intro|refine rq fun _=>?_|refine rf fun _=>?_|simp only[go_sem,zab,zad,zaz,txS,Tx1,zbp,Tryz.f29,h5])
  all_goals first|done|rfl|omega
 ·have h5:=ztE h
  by_cases h2:txt b<txt a
  ·have h6:=ztF h2
   have h7:(txt a==txt b)=false:=beq_false_of_ne fun e=>zeK (e▸h2)
   have e:cfT a b=1:=by unfold cfT;rw[if_neg h,if_pos h2]
   rw[e]
   refine zaj (N:=17) hm zFg 29000 (lst [1,3]) zEu Tryz.func29 rfl rfl (by simp) (by kernel_rfl) ?_
   repeat'(first|refine zaq.i ⟨rfl,hqa⟩ fun _=>?_|refine zaq.i ⟨rfl,hqb⟩ fun _=>?_|refine And.intro ?_ ?_|exact True.intro|refine rq fun _=>?_|refine rf fun _=>?_|simp only[go_sem,zab,zad,zaz,txS,Tx1,zbp,Tryz.f29,h5,h6,h7])
   all_goals first|done|rfl|omega
  ·have h6:=ztE h2
   have h7:(txt a==txt b)=true:=beq_iff_eq.2 (Classical.byContradiction fun e=>h2 (zl6 h e))
   have e:cfT a b=0:=by unfold cfT;rw[if_neg h,if_neg h2]
   rw[e]
   refine zaj (N:=17) hm zFg 29000 (lst [1,3]) zEu Tryz.func29 rfl rfl (by simp) (by kernel_rfl) ?_
   repeat'(first|refine zaq.i ⟨rfl,hqa⟩ fun _=>?_|refine zaq.i ⟨rfl,hqb⟩ fun _=>?_|refine And.intro ?_ ?_|exact True.intro|refine rq fun _=>?_|refine rf fun _=>?_|simp only[go_sem,zab,zad,zaz,txS,Tx1,zbp,Tryz.f29,h5,h6,h7])
   all_goals first|done|rfl|omega
def zaY (l:List Abs.zac):List D:=zaf (l.map enc)
theorem zmD (l:List Abs.zac):zaY l=zaf ((l.map zeL).map .agg):=by
 unfold zaY;rw[List.map_map];congr 1
 exact List.map_congr_left fun f _=>zl7.symm
def zol (r:List FD):Abs.zac:=dec (.agg r)
theorem zeQ (f:Abs.zac):zol (zeL f)=f:=by unfold zol;rw[zl7];exact dec_enc f
theorem zGL {id':Abs.Id}{l:List Abs.zac}{bx vt:Bool}{H:zax}{n:Nat}(hl:∀f∈l,txG f)(ho:H id'=some ⟨zaY l,bx,vt⟩):
  zaH Tryz.prog G 28 [.arr id' 4 0 l.length,.fn 29 []] H n fun d H' n'=>d= .tup []∧∃S:List Abs.zac,S.Perm l∧(S.Pairwise fun a b=>¬txt b<txt a)∧H'=zaM H id' (some ⟨zaY S,bx,vt⟩)∧n'=n:=by
 have hin:∀{r:List FD},(∃f:Abs.zac,r=zeL f∧txG f)→zeL (zol r)=r∧txG (zol r):=by
  rintro r ⟨p,rfl,h⟩
  rw[zeQ];exact⟨rfl,h⟩
 have h:=zn5 (P:=Tryz.prog) (G:=G) (f:=28) (g:=29) (k:=4) (pre:=fun r=>∃f:Abs.zac,r=zeL f∧txG f) (cmp:=fun x y=>cfT (zol x) (zol y)) (by omega) zKv
  (fun α _ enc hk h1 cf hO blk off cap d w hc hH hb hs=>Tryz.slices_SortFunc_f28 enc hk h1 cf hO 29 #[] blk off cap d w zEu hc hH hb hs) Tryz.slices_SortFunc_none_f28
  (fun x y hx hy=>by
   obtain⟨ex,hx2⟩:=hin hx
   obtain⟨ey,hy2⟩:=hin hy
   have:=zJo (G:=G) hx2 hy2
   rw[←ex,←ey,zeQ,zeQ]
   exact this)
  (fun x _=>by rw[zeM];exact zeK) (fun x y z _ _ _=>by rw[zeM,zeM,zeM];exact zfh)
  (fun x y z _ _ _=>by
   rw[zeM,zeM,zeM]
   intro h1 h2 h3
   by_cases e:txt (zol x)=txt (zol y)
   ·rw[e]at h3;exact h2 h3
   ·exact h2 (zfh (zl6 h1 e) h3))
  (id':=id') (rows:=l.map zeL) (n:=n) (H:=H) (bx:=bx) (vt:=vt) (fun r hr=>by
   obtain⟨p,hp,rfl⟩:=List.mem_map.1 hr
   exact⟨⟨p,rfl,hl p hp⟩,rfl,fun y hy=>by
    unfold zeL at hy
    simp only[List.mem_cons,List.not_mem_nil,or_false]at hy
    rcases hy with rfl|rfl|rfl|rfl<;>rfl⟩) (by rw[ho,zmD])
 rw[List.length_map]at h
 refine zaL h ?_
 rintro d H' n' ⟨rfl,rows',hp,hs,rfl,rfl⟩
 have he:rows'=(rows'.map zol).map zeL:=by
  rw[List.map_map]
  have:∀r∈rows',(zeL∘zol) r=r:=fun r hr=>by
   obtain⟨p,_,rfl⟩:=List.mem_map.1 (hp.mem_iff.1 hr)
   show zeL (zol (zeL p))=_
   rw[zeQ]
  rw[List.map_congr_left this,List.map_id'']
  exact fun _=>rfl
 refine⟨rfl,rows'.map zol,?_,?_,by rw[zmD,←he],rfl⟩
 ·have:=hp.map zol
  rw[List.map_map]at this
  have e2:l.map (zol∘zeL)=l:=by
   rw[List.map_congr_left (f:=zol∘zeL) (g:=id) (fun p _=>zeQ p),List.map_id]
  rwa [e2]at this
 ·rw[List.pairwise_map]
  refine hs.imp fun{a b} h3=>?_
  rwa [zeM]at h3
end
end Go.Proofs.YtmconmiemdinkaaGreatDoor
