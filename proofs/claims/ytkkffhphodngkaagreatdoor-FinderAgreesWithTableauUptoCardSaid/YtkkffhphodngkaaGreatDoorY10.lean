/- several texts of this proof in one; no conditions -/
import Derived.Test.YtkkffhphodngkaaGreatDoorY9
set_option linter.unusedSimpArgs false
namespace Go.Abs
open Go
section
variable {P:Program} {G:Nat→List FD}
theorem zcq {f:FuncId}{T:Nat}{sid:Id}{ds:List D}{xs cs cs':List FD}{r:D}{H:zas}{n:Nat}{R:D→zas→Nat→Prop}(ha:D.toFDs ds=some xs)
  (h:zau P G f (.ptr (T,0) 0::xs.map .fz) (hpL [((T,0),some ⟨cs.map .fz,true,false⟩)]) 1 (fun d H' _=>D.val d=some r∧H' (T,0)=some ⟨cs'.map .fz,true,false⟩))
  (ho:H sid=some ⟨cs.map .fz,true,false⟩)(hR:R r (zaE H sid (some ⟨cs'.map .fz,true,false⟩)) n):zau P G f (.ptr sid 0::ds) H n R:=by
 refine⟨h.1,fun w L F vs hok hvs=>?_⟩
 obtain⟨hUs,hrs⟩:=hok.live sid _ ho
 have hv3:(L sid).3=false:=by
  cases hv:(L sid).3
  ·rfl
  ·unfold zbk at hrs
   rw[hv]at hrs
   simp only[if_true]at hrs
   exact absurd hrs.2 (by decide)
 obtain⟨r1,cs0,T0,r2,r3,r4⟩:=zar hrs hv3
 obtain⟨L1,hL1⟩:∃L1:Loc,L1=fun _=>L sid:=⟨_,rfl⟩
 have hL1':∀id,L1 id=L sid:=fun id=>by rw[hL1]
 obtain⟨K,hK⟩:∃K:zas,K=hpL [((T,0),some ⟨cs.map .fz,true,false⟩)]:=⟨_,rfl⟩
 have hKs:∀id o,K id=some o→id=(T,0)∧o=⟨cs.map .fz,true,false⟩:=fun id o e=>by
  rw[hK]at e
  simp only[hpL]at e
  split at e
  ·rename_i e1
   exact⟨e1,(Option.some.inj e).symm⟩
  ·cases e
 have hK0:K (T,0)=some ⟨cs.map .fz,true,false⟩:=by rw[hK];simp[hpL]
 have hfzs:∀(zs:List FD) (j:Nat) (L2:Loc) (F2:Nat→Nat→Prop) (U2 U3:Id→Prop) (L3:Loc) (w2:World) (v:Value),zak w2 L2 F2 U2 ((zs.map D.fz).getD j .junk) v→zak w2 L3 F2 U3 ((zs.map D.fz).getD j .junk) v:=fun zs j L2 F2 U2 U3 L3 w2 v hv=>by
  rcases Nat.lt_or_ge j zs.length with hj|hj
  ·have e:(zs.map D.fz).getD j .junk= .fz zs[j]:=by simp[List.getD_eq_getElem?_getD,hj]
   rw[e]at hv ⊢
   simpa only[zak]using hv
  ·have e:(zs.map D.fz).getD j .junk= .junk:=by simp[List.getD_eq_getElem?_getD,hj]
   rw[e];simp[zak]
 have hok1:OkW G w L1 F (Ub 1) K:=by
  refine⟨hok.fb,fun id o e=>?_,fun id id' o o' e e' _ _ _=>?_,hok.glob⟩
  ·obtain⟨rfl,rfl⟩:=hKs id o e
   refine⟨by unfold Ub;simp,?_⟩
   unfold zbk
   rw[hL1',hv3]
   simp only[Bool.false_eq_true,if_false]
   exact⟨r1,cs0,T0,r2,r3,fun j hj=>let⟨v,a,b⟩:=r4 j hj;⟨v,a,hfzs _ _ _ _ _ _ _ _ _ b⟩⟩
  ·rw[(hKs id o e).1,(hKs id' o' e').1]
 rw[←hK]at h
 have hvs1:zal w L1 F (Ub 1) (.ptr (T,0) 0::xs.map .fz) vs:=by
  cases vs with
  |nil=>simp[zal]at hvs
  |cons v vs=>
   simp only[zal]at hvs ⊢
   refine⟨?_,hvs.2.of_toFDs ha⟩
   have h1:=hvs.1
   simp only[zak]at h1 ⊢
   rw[hL1']
   exact⟨by unfold Ub;simp,h1.2⟩
 refine(h.2 w L1 F vs hok1 hvs1).mono fun e w' he=>?_
 obtain⟨v,d1,H1,n1,L2,F2,rfl,⟨hQ1,hQ2⟩,g1,g2,g3⟩:=he
 have hL2:L2 (T,0)=L sid:=(g3.l (T,0) (by unfold Ub;simp)).trans (hL1' _)
 have bk:∀b,Blk K L1 b→Blk H L b:=by
  rintro b ⟨id,o,e1,_,e3⟩
  obtain⟨rfl,_⟩:=hKs id o e1
  rw[hL1']at e3
  exact⟨sid,_,ho,hv3,e3⟩
 have ok':∀b k,Own K L1 b k→(L sid).1=b∧(L sid).2≤k:=by
  rintro b k ⟨id,o,e1,_,e3,e4⟩
  rw[hL1']at e3 e4
  exact⟨e3,e4⟩
 have own:∀b k,Own K L1 b k→Own H L b k:=fun b k hb=>let⟨e1,e2⟩:=ok' b k hb;⟨sid,_,ho,hv3,e1,e2⟩
 have ext:Ext w L F (Ub n) w' L F2 (Ub n):=⟨fun _ h=>h,fun _ _=>rfl,g3.f,fun b k hb=>g3.keepc b k (hok.fb b k hb) (fun hb'=>hok.not_own hb (own _ _ hb')),g3.size,g3.shape⟩
 have cas:∀id o,zaE H sid (some ⟨cs'.map .fz,true,false⟩) id=some o→(id=sid∧o=⟨cs'.map .fz,true,false⟩)∨(id≠sid∧H id=some o):=fun id o e=>by
  unfold zaE at e
  split at e
  ·rename_i e1;exact .inl ⟨e1,(Option.some.inj e).symm⟩
  ·rename_i e1;exact .inr ⟨e1,e⟩
 have some':∀id o,zaE H sid (some ⟨cs'.map .fz,true,false⟩) id=some o→∃o',H id=some o':=fun id o e=>by
  rcases cas id o e with⟨rfl,_⟩|⟨_,e1⟩
  ·exact⟨_,ho⟩
  ·exact⟨_,e1⟩
 refine⟨v,r,_,n,L,F2,rfl,hR,⟨g1.fb,fun id o e=>?_,fun id id' o o' e e' v1 v2 eb=>?_,g1.glob⟩,g2.val hQ1,?_⟩
 ·rcases cas id o e with⟨rfl,rfl⟩|⟨hne,e1⟩
  ·refine⟨hUs,?_⟩
   have hl:=(g1.live _ _ hQ2).2
   unfold zbk at hl ⊢
   rw[hL2]at hl
   rw[hv3]at hl ⊢
   simp only[Bool.false_eq_true,if_false]at hl ⊢
   obtain⟨a1,cs1,T1,a2,a3,a4⟩:=hl
   exact⟨a1,cs1,T1,a2,a3,fun j hj=>let⟨v,a,b⟩:=a4 j hj;⟨v,a,hfzs _ _ _ _ _ _ _ _ _ b⟩⟩
  ·obtain⟨a,b⟩:=hok.live id o e1
   refine⟨a,b.ext ext a fun hv=>?_⟩
   have hlt:=hok.blk_lt e1 hv
   have nb:¬(L sid).1=(L id).1:=fun eq=>hne (hok.inj id sid _ _ e1 ho hv hv3 eq.symm)
   refine⟨g3.keep _ hlt ?_,fun k hk hF=>?_⟩
   ·rintro⟨id2,o2,e2,_,e3⟩
    rw[hL1']at e3
    exact nb e3
   ·rcases g3.fnew _ _ hF with h|h|h
    ·exact(zar b hv).1 k hk h
    ·omega
    ·exact nb (ok' _ _ h).1
 ·obtain⟨o1,e1⟩:=some' _ _ e
  obtain⟨o2,e2⟩:=some' _ _ e'
  exact hok.inj _ _ _ _ e1 e2 v1 v2 eb
 ·refine⟨fun _ h=>h,fun _ _=>rfl,g3.f,g3.size,fun b hb nb=>g3.keep b hb fun hb'=>nb (bk b hb'),fun b k hb no=>g3.keepc b k hb fun hb'=>no (own b k hb'),g3.shape,fun b k hb=>?_,fun b k hb=>?_,g3.os,g3.tape,g3.output,g3.drawn⟩
  ·rcases g3.fnew b k hb with h|h|h
   ·exact .inl h
   ·exact .inr (.inl h)
   ·exact .inr (.inr (own b k h))
  ·obtain⟨id,o,e1,e2,e3,e4⟩:=hb
   obtain⟨o',e1'⟩:=some' _ _ e1
   exact .inr ⟨id,o',e1',e2,e3,e4⟩
end
end Go.Abs
namespace Go.Abs
open Go
def zkj (te:TI)(n:Nat):List D:=(List.range (n*te.size)).map fun j=>te.zero.getD (j % te.size) .junk
theorem zq2 {te:TI}{n:Nat}:(zkj te n).length=n*te.size:=by simp[zkj]
section
variable {P:Program} {w:World} {t u ty e:TypeId} {i:TypeInfo} {z:Value} {kk:IntKind}
theorem zzi {n:Nat}(h:n≤zbh):IntKind.i64.wrap (n:Int)=n:=by
 unfold zbh at h
 simp[IntKind.wrap,IntKind.min,IntKind.max,IntKind.bits,IntKind.signed]
 omega
theorem zci (ht:P.underlying t=some (.slice e))(hu:P.underlying u=some (.int kk))(hi:P.info? e=some i)(hz:i.zero=some z)
  {base:Option Addr}{sLen sCap:Nat}{n:Nat}(hzs:z.cells.size=i.size)(hm:n≤zbh)(hb:n*i.bytes≤281474976710656)(hg:sLen+n≤sCap){w':World}
  (hst:∀a,base=some a→(storeCells (a.add (sLen*i.size)) (Builtin.zeroCells z.cells n).toList).run P w= .ok () w')(hb0:base=none→w'=w):
  (Builtin.append_ #[t,u] ty #[.slice base sLen sCap,.int .i64 n]).run P w= .ok (.slice base (sLen+n) sCap) w':=by
 have hw:=zzi hm
 have h0:¬((n:Int)<0):=by omega
 have h1:¬(281474976710656<(n:Int)*(i.bytes:Int)):=by
  have e2:(n:Int)*(i.bytes:Int)=((n*i.bytes:Nat):Int):=by simp
  rw[e2];omega
 have he:n*i.size=0→Builtin.zeroCells z.cells n= #[]:=fun h=>by
  unfold Builtin.zeroCells;rw[hzs,h];simp
 by_cases hs:n*i.size=0
 ·have he':=he hs
  cases base with
  |none=>
   obtain rfl:=hb0 rfl
   simp[Builtin.append_,run_underlying ht,run_underlying hu,sizeOf,typeInfo,hi,asInt,asIntOf,hw,h0,h1,hg,hs]
  |some a=>
   have:=hst a rfl
   rw[he']at this
   simp[Builtin.append_,run_underlying ht,run_underlying hu,sizeOf,typeInfo,hi,asInt,asIntOf,hw,h0,h1,hg,hs]at this ⊢
   simp[this]
 ·cases base with
  |none=>
   obtain rfl:=hb0 rfl
   simp[Builtin.append_,run_underlying ht,run_underlying hu,sizeOf,typeInfo,zeroValue,hi,hz,asInt,asIntOf,hw,h0,h1,hg,hs]
  |some a=>
   have:=hst a rfl
   simp[Builtin.append_,run_underlying ht,run_underlying hu,sizeOf,typeInfo,zeroValue,hi,hz,asInt,asIntOf,hw,h0,h1,hg,hs,this]
theorem zfj (ht:P.underlying t=some (.slice e))(hu:P.underlying u=some (.int kk))(hi:P.info? e=some i)(hz:i.zero=some z)
  {base:Option Addr}{sLen sCap:Nat}{n:Nat}{olds:Array Value}(hzs:z.cells.size=i.size)
  (hold:(Builtin.firstCells i.size sLen (.slice base sLen sCap)).run P w.drew= .ok olds w.drew)
  (hg:sCap<sLen+n)(hf:fits (sLen+n) i.bytes):
  (Builtin.append_ #[t,u] ty #[.slice base sLen sCap,.int .i64 n]).run P w= .ok (.slice (some ⟨w.heap.size,0,none⟩) (sLen+n) (grownCap w (sLen+n) sCap e))
   (w.drew.alloc (.cells (olds++Builtin.zeroCells z.cells n++Builtin.zeroCells z.cells (grownCap w (sLen+n) sCap e-(sLen+n))) e)):=by
 have hn:¬(sLen+n≤sCap):=by omega
 have hm:n≤zbh:=by have:=hf.1;omega
 have hb:n*i.bytes≤281474976710656:=Nat.le_trans (Nat.mul_le_mul_right _ (by omega)) hf.2
 have hw:=zzi hm
 have h0:¬((n:Int)<0):=by omega
 have h1:¬(281474976710656<(n:Int)*(i.bytes:Int)):=by
  have e2:(n:Int)*(i.bytes:Int)=((n*i.bytes:Nat):Int):=by simp
  rw[e2];omega
 have h63':¬(9223372036854775807<((sLen:Int)+(n:Int))):=by have:=hf.1;unfold zbh at this;omega
 have h48':¬(281474976710656<Builtin.nextslicecap (sLen+n) sCap*i.bytes):=by have:=zmQ hf hg;omega
 by_cases hs:n*i.size=0
 ·have he':Builtin.zeroCells z.cells n= #[]:=by unfold Builtin.zeroCells;rw[hzs,hs];simp
  rw[he']
  simp[Builtin.append_,run_underlying ht,run_underlying hu,sizeOf,typeInfo,zeroValue,hi,hz,asInt,asIntOf,hw,h0,h1,hn,h63',h48',hs,Question.forced,hold,newRow,grownCap]
 ·simp[Builtin.append_,run_underlying ht,run_underlying hu,sizeOf,typeInfo,zeroValue,hi,hz,asInt,asIntOf,hw,h0,h1,hn,h63',h48',hs,Question.forced,hold,newRow,grownCap]
end
section
variable {P:Program} {G:Nat→List FD} {w:World} {L:Loc} {F:Nat→Nat→Prop} {U:Id→Prop} {H:zas}
theorem zgI {i:TypeInfo}{z:Value}(hz:z.cells.size=i.size){te:TI}(h0:te.zero=z.cells.toList.map zlQ)(h1:te.size=i.size){n j:Nat}(hj:j<n*i.size):
  zak w L F U ((zkj te n).getD j .junk) (z.cells[j % z.cells.size]!):=by
 have hp:0<i.size:=Nat.pos_of_ne_zero fun e=>by rw[e]at hj;simp at hj
 have hm:j % i.size<z.cells.toList.length:=by rw[Array.length_toList,hz];exact Nat.mod_lt _ hp
 have e:(zkj te n).getD j .junk=zlQ (z.cells[j % z.cells.size]!):=by
  unfold zkj
  rw[List.getD_eq_getElem?_getD,List.getElem?_map,List.getElem?_range (by rw[h1];exact hj)]
  simp only[Option.map_some,Option.getD_some]
  rw[h0,h1,List.getD_eq_getElem?_getD,List.getElem?_map,List.getElem?_eq_getElem hm,hz]
  simp only[Option.map_some,Option.getD_some]
  congr 1
  rw[Array.length_toList]at hm
  simp[hm]
 rw[e]
 exact zlR _
theorem zgH {i:TypeInfo}{z:Value}(hz:z.cells.size=i.size){n:Nat}:Builtin.zeroCells z.cells n=((List.range (n*i.size)).map fun j=>z.cells[j % z.cells.size]!).toArray:=by
 unfold Builtin.zeroCells
 rw[hz]
 apply Array.ext'
 simp
theorem zon (hok:OkW G w L F U H){t u ty e:TypeId}{te:TI}{kk:IntKind}(ht:P.underlying t=some (.slice e))(hu:P.underlying u=some (.int kk))(hte:zao P e=some te)
  {base:Option Addr}{len cap:Nat}{n:Nat}{c1 c2:List D}(h1:Src w L F U te.size (.slice base len cap) len c1)(h2:c2=zkj te n)
  (hg:cap<len+n)(hf:fits (len+n) te.bytes){H':zas}(hH:∀i o,H' i=some o→H i=some o){id:Id}{U':Id→Prop}(hid:¬U id)(hU:∀i,U i→U' i)(hid':U' id):
  ∃v w' L',(Builtin.append_ #[t,u] ty #[.slice base len cap,.int .i64 n]).run P w= .ok v w'∧OkW G w' L' F U' (zaE H' id (some ⟨c1++c2,false,false⟩))∧
   zak w' L' F U' (.arr id te.size 0 (len+n)) v∧zbt H w L F U (zaE H' id (some ⟨c1++c2,false,false⟩)) w' L' F U':=by
 obtain⟨i,z,d,g1,g2,g3,rfl⟩:=zaN hte
 have hz:=zb9 hte
 dsimp only at h1 h2 hf ⊢
 simp only[List.length_map,Array.length_toList]at hz
 obtain⟨f1,r1,v1⟩:=h1.run (P:=P) (w':=w.drew) rfl
 obtain⟨f2,hf2⟩:∃f2:Nat→Value,f2=fun j=>z.cells[j % z.cells.size]! :=⟨_,rfl⟩
 have hz':z.cells.size=i.size:=by have h:=zb9 hte;simpa using h
 have v2:∀j,j<n*i.size→zak w L F U ((c2).getD j .junk) (f2 j):=fun j hj=>by rw[hf2,h2];exact zgI hz' rfl rfl hj
 have hnews:Builtin.zeroCells z.cells n=((List.range (n*i.size)).map f2).toArray:=by rw[hf2];exact zgH hz'
 have l2:c2.length=n*i.size:=by rw[h2,zq2]
 obtain⟨a',cap',he,_,_,l1,_⟩:=h1
 have hrun:=zfj (P:=P) (w:=w) (ty:=ty) ht hu g1 g2 hz' r1 hg hf
 rw[hnews]at hrun
 have hge:=zdG w (len+n) cap e
 generalize grownCap w (len+n) cap e=gc at hrun hge
 have hp:=zbV.drewAlloc w (.cells (((List.range (len*i.size)).map f1).toArray++((List.range (n*i.size)).map f2).toArray++Builtin.zeroCells z.cells (gc-(len+n))) e)
 have hsub:=hok.sub hH
 obtain⟨k1,k2⟩:=zgV hsub hp (cells:=c1++c2) hid hU hid' (by simp[l1,l2]) (fun j hj=>by
  simp only[List.length_append,l1,l2]at hj
  by_cases hj1:j<len*i.size
  ·refine⟨f1 j,?_,by rw[zaV (by omega)];exact v1 j hj1⟩
   rw[Array.append_assoc,Array.getElem?_append_left (by simpa using hj1)]
   simp[hj1]
  ·have hj2:j-len*i.size<n*i.size:=by omega
   refine⟨f2 (j-len*i.size),?_,by rw[zaW (by omega),l1];exact v2 _ hj2⟩
   rw[Array.getElem?_append_left (by simp;omega),Array.getElem?_append_right (by simp;omega)]
   simp[hj2]) false
 refine⟨_,_,_,hrun,k1,?_,((zbt.refl H w L F U).sub hH).trans k2⟩
 simp only[zak]
 refine⟨hid',_,_,rfl,by omega,hf.1,.inr ⟨by simp[zca],by simp[zca],by simp[zca],fun cs T fr hcs=>?_⟩⟩
 have hL:zca L id ⟨w.heap.size,0,false⟩ id=⟨w.heap.size,0,false⟩:=by simp[zca]
 rw[hL]at hcs ⊢
 rw[hp.new]at hcs
 simp only[Option.some.injEq,Obj.cells.injEq]at hcs
 obtain⟨rfl,_,_⟩:=hcs
 have e1:gc*i.size=len*i.size+n*i.size+(gc-(len+n))*i.size:=by
  rw[←Nat.add_mul,←Nat.add_mul];congr 1;omega
 simp[Builtin.zeroCells,hz]
 omega
theorem zom (hok:OkW G w L F U H){t u ty e:TypeId}{te:TI}{kk:IntKind}(ht:P.underlying t=some (.slice e))(hu:P.underlying u=some (.int kk))(hte:zao P e=some te)
  {aid:Id}{s len:Nat}{vx:Value}{n:Nat}{c2:List D}(hx:zak w L F U (.arr aid te.size s len) vx){o:O}(ho:H aid=some o)(hb:s+len*te.size≤o.cells.length)
  (h2:c2=zkj te n)(hone:c2.all zcN=true)(hs:0<te.size)(hf:fits (len+n) te.bytes){id:Id}{U':Id→Prop}(hid:¬U id)(hU:∀i,U i→U' i)(hid':U' id):
  ∃v w' L',(Builtin.append_ #[t,u] ty #[vx,.int .i64 n]).run P w= .ok v w'∧
   OkW G w' L' F U' (zaE (zaE H aid none) id (some ⟨(o.cells.drop s).take (len*te.size)++c2,false,o.virt&&((o.cells.drop s).take (len*te.size)++c2).isEmpty⟩))∧
   zak w' L' F U' (.arr id te.size 0 (len+n)) v∧
   zbt H w L F U (zaE (zaE H aid none) id (some ⟨(o.cells.drop s).take (len*te.size)++c2,false,o.virt&&((o.cells.drop s).take (len*te.size)++c2).isEmpty⟩)) w' L' F U':=by
 have h1:=zpj hok hx ho hb
 have hx':=hx
 simp only[zak]at hx'
 obtain⟨hUa,a,cap,rfl,q1,q2,q3⟩:=hx'
 have l2:c2.length=n*te.size:=by rw[h2,zq2]
 have hsub:∀i x,zaE H aid none i=some x→H i=some x:=fun i x h=>by
  simp only[zaE]at h;split at h
  ·cases h
  ·exact h
 have hne:id≠aid:=by rintro rfl;exact hid hUa
 have hlen1:((o.cells.drop s).take (len*te.size)).length=len*te.size:=by simp;omega
 rcases Nat.lt_or_ge cap (len+n)with hg|hg
 ·have he:(o.virt&&((o.cells.drop s).take (len*te.size)++c2).isEmpty)=false:=by
   have:0<c2.length:=by rw[l2];exact Nat.mul_pos (by omega) hs
   cases c2 with
   |nil=>simp at this
   |cons=>simp
  rw[he]
  exact zon hok ht hu hte h1 h2 hg hf hsub hid hU hid'
 ·obtain⟨i,z,d,g1,g2,g3,rfl⟩:=zaN hte
  dsimp only at*
  obtain⟨f2,hf2⟩:∃f2:Nat→Value,f2=fun j=>z.cells[j % z.cells.size]! :=⟨_,rfl⟩
  have hz':z.cells.size=i.size:=by have h:=zb9 hte;simpa using h
  have v2:∀j,j<n*i.size→zak w L F U ((c2).getD j .junk) (f2 j):=fun j hj=>by rw[hf2,h2];exact zgI hz' rfl rfl hj
  have hnews:Builtin.zeroCells z.cells n=((List.range (n*i.size)).map f2).toArray:=by rw[hf2];exact zgH hz'
  cases hv:(L aid).3
  ·
   obtain⟨_,cs,T,hblk,hfit,hcell⟩:=zar (hok.live aid o ho).2 hv
   have hL':zca L id ⟨(L aid).1,(L aid).2+s,false⟩ id=⟨(L aid).1,(L aid).2+s,false⟩:=by simp[zca]
   have hLo:∀j,U j→zca L id ⟨(L aid).1,(L aid).2+s,false⟩ j=L j:=fun j hj=>by
    unfold zca;rw[if_neg (by rintro rfl;exact hid hj)]
   have hcapn:n=0∨(a=some ⟨(L aid).1,(L aid).2+s,none⟩∧(L aid).2+s+cap*i.size≤cs.size):=by
    rcases q3 with q3|⟨q3,_,_,q4⟩
    ·exact .inl (by omega)
    ·exact .inr ⟨q3,q4 _ _ _ hblk⟩
   have hroom:(L aid).2+s+len*i.size+n*i.size≤cs.size:=by
    rcases hcapn with rfl|⟨_,h⟩
    ·simp;omega
    ·have:(len+n)*i.size≤cap*i.size:=Nat.mul_le_mul_right _ hg
     rw[Nat.add_mul]at this;omega
   have hnl:((List.range (n*i.size)).map f2).length=n*i.size:=by simp
   have hone':∀u∈(List.range (n*i.size)).map f2,u.oneCell'=true:=by
    intro u hu'
    obtain⟨j,hj,rfl⟩:=List.mem_map.1 hu'
    have hj':j<n*i.size:=by simpa using hj
    rw[List.all_eq_true]at hone
    refine zff (v2 j hj') (hone _ ?_)
    rw[List.getD_eq_getElem?_getD,List.getElem?_eq_getElem (by omega)]
    exact List.getElem_mem _
   have hrun:=zbN (P:=P) (b:=(L aid).1) (off:=(L aid).2+s+len*i.size) (T:=T) ((List.range (n*i.size)).map f2) 0 w cs hblk hone' (by rw[hnl];omega)
   have key:=zfo hok ho hv hblk (za5 ((List.range (n*i.size)).map f2) 0 ((L aid).2+s+len*i.size) cs) (fun q hq=>by rw[zaZ _ _ _ _ _ (by rw[hnl];omega),if_neg (by omega)]) (id':=id)
    (o':=⟨(o.cells.drop s).take (len*i.size)++c2,false,o.virt&&((o.cells.drop s).take (len*i.size)++c2).isEmpty⟩) (L':=zca L id ⟨(L aid).1,(L aid).2+s,false⟩) (U':=U') hU hid' hLo (by rw[hL']) (by rw[hL'];simp) (by rw[hL']) (.inr hid)
    (by rw[hL'];simp only[List.length_append,hlen1,l2];omega) (fun j hj=>by
     simp only[List.length_append,hlen1,l2]at hj
     rw[hL',zaZ _ _ _ _ _ (by rw[hnl];omega),hnl]
     dsimp only
     by_cases hj1:j<len*i.size
     ·rw[if_neg (by omega),zaV (by omega),zd3 hj1,Nat.add_assoc]
      exact hcell (s+j) (by omega)
     ·have hj2:j-len*i.size<n*i.size:=by omega
      have e2:(L aid).2+s+j-((L aid).2+s+len*i.size+0)=j-len*i.size:=by omega
      rw[if_pos (by omega),zaW (by omega),hlen1,e2]
      exact⟨f2 (j-len*i.size),by simp[hj2],v2 _ hj2⟩)
   refine⟨.slice a (len+n) cap,_,_,?_,by simpa using key.1,?_,by simpa using key.2⟩
   ·refine zci (P:=P) (w:=w) (ty:=ty) ht hu g1 g2 hz' (by have:=hf.1;omega) (Nat.le_trans (Nat.mul_le_mul_right _ (by omega)) hf.2) hg (fun x hx=>?_) (fun hn=>?_)
    ·rcases hcapn with rfl|⟨h,_⟩
     ·simp[Builtin.zeroCells,storeCells,zje hblk]
     ·rw[h]at hx
      obtain rfl:=(Option.some.inj hx).symm
      rw[zby,hnews]
      simpa using hrun
    ·rcases hcapn with rfl|⟨h,_⟩
     ·simp[zje hblk]
     ·rw[h]at hn;cases hn
   ·simp only[zak]
    refine⟨hid',a,cap,rfl,hg,hf.1,?_⟩
    rcases q3 with q3|⟨q3,_,q5,q4⟩
    ·exact .inl q3
    ·refine .inr ⟨by rw[hL',q3];simp,by rw[hL'],by rw[hL',zeq];exact q5,fun cs1 T1 fr1 h=>?_⟩
     rw[hL']at h ⊢
     rw[zcg (zbu hblk)]at h
     simp only[Option.some.injEq,Obj.cells.injEq]at h
     obtain⟨rfl,_,_⟩:=h
     rw[za5]
     have:=q4 _ _ _ hblk
     simpa using this
  ·
   have hor:=(hok.live aid o ho).2
   simp only[zbk,hv,if_true]at hor
   obtain⟨hor1,hor2⟩:=hor
   have hcap:cap=0:=by
    rcases q3 with q3|⟨_,q3,_⟩
    ·exact q3
    ·rw[hv]at q3;cases q3
   subst hcap
   obtain rfl:len=0:=by omega
   obtain rfl:n=0:=by omega
   have hc2:c2=[]:=List.length_eq_zero_iff.1 (by simpa using l2)
   subst hc2
   obtain⟨k1,k2⟩:=zeF (hok.sub hsub) hid hU hid' false
   refine⟨.slice a 0 0,w,zca L id ⟨0,0,true⟩,?_,by simpa[hor2]using k1,?_,by simpa[hor2]using((zbt.refl H w L F U).sub hsub).trans k2⟩
   ·have:=zci (P:=P) (w:=w) (ty:=ty) (w':=w) ht hu g1 g2 hz' (base:=a) (sLen:=0) (sCap:=0) (n:=0) (by simp[zbh]) (by simp) (by omega) (fun a _=>by simp[Builtin.zeroCells,storeCells]) (fun _=>rfl)
    simpa using this
   ·simp only[zak]
    exact⟨hid',a,0,rfl,by simp,by simp[zbh],.inl rfl⟩
theorem zks (hok:OkW G w L F U H){t u ty e:TypeId}{te:TI}{kk:IntKind}(ht:P.underlying t=some (.slice e))(hu:P.underlying u=some (.int kk))(hte:zao P e=some te)
  {base:Option Addr}{cap:Nat}{xs ys:List FD}(hx:zbp w F (.slice base xs.length cap) (.sl xs))(h2:zad ys=zkj te ys.length)(hlx:zbx xs te.size)(hly:zbx ys te.size)
  (hg:cap<xs.length+ys.length)(hf:fits (xs.length+ys.length) te.bytes){H':zas}(hH:∀i o,H' i=some o→H i=some o){id:Id}{U':Id→Prop}(hid:¬U id)(hU:∀i,U i→U' i)(hid':U' id):
  ∃v w' L' F',(Builtin.append_ #[t,u] ty #[.slice base xs.length cap,.int .i64 ys.length]).run P w= .ok v w'∧OkW G w' L' F' U' (zaE H' id (some tok))∧
   zak w' L' F' U' (.ow id te.size (xs++ys)) v∧zbt H w L F U (zaE H' id (some tok)) w' L' F' U':=by
 have h1:=zd2 (L:=L) (U:=U) hx hlx
 obtain⟨i,z,d,g1,g2,g3,rfl⟩:=zaN hte
 have hz:=zb9 hte
 dsimp only at*
 simp only[List.length_map,Array.length_toList]at hz
 obtain⟨f1,r1,v1⟩:=h1.run (P:=P) (w':=w.drew) rfl
 obtain⟨f2,hf2⟩:∃f2:Nat→Value,f2=fun j=>z.cells[j % z.cells.size]! :=⟨_,rfl⟩
 have hz':z.cells.size=i.size:=by have h:=zb9 hte;simpa using h
 have v2:∀j,j<ys.length*i.size→zak w L F U ((zad ys).getD j .junk) (f2 j):=fun j hj=>by rw[hf2,h2];exact zgI hz' rfl rfl hj
 have hnews:Builtin.zeroCells z.cells ys.length=((List.range (ys.length*i.size)).map f2).toArray:=by rw[hf2];exact zgH hz'
 have hrun:=zfj (P:=P) (w:=w) (ty:=ty) ht hu g1 g2 hz' r1 hg hf
 rw[hnews]at hrun
 have hge:=zdG w (xs.length+ys.length) cap e
 generalize grownCap w (xs.length+ys.length) cap e=gc at hrun hge
 have hp:=zbV.drewAlloc w (.cells (((List.range (xs.length*i.size)).map f1).toArray++((List.range (ys.length*i.size)).map f2).toArray++Builtin.zeroCells z.cells (gc-(xs.length+ys.length))) e)
 have hsub:=hok.sub hH
 have hsz:((((List.range (xs.length*i.size)).map f1).toArray++((List.range (ys.length*i.size)).map f2).toArray++Builtin.zeroCells z.cells (gc-(xs.length+ys.length)))).size=xs.length*i.size+ys.length*i.size+(gc-(xs.length+ys.length))*i.size:=by
  simp[Builtin.zeroCells,hz]
 have hmul:(xs.length+ys.length)*i.size=xs.length*i.size+ys.length*i.size:=Nat.add_mul _ _ _
 obtain⟨k1,k2⟩:=zle hsub hp (s:=(xs.length+ys.length)*i.size) (cells:=[]) hid hU hid' (by rw[hsz];simp only[List.length_nil];omega) (fun j hj=>by simp at hj) false true
 refine⟨_,_,_,_,hrun,k1,?_,((zbt.refl H w L F U).sub hH).trans k2⟩
 have hlall:zbx (xs++ys) i.size:=fun x hx=>by
  rcases List.mem_append.1 hx with h|h
  ·exact hlx x h
  ·exact hly x h
 have hfl:zad (xs++ys)=zad xs++zad ys:=by simp[zad]
 have hll:=zaX (za0 hlx)
 have hll2:=zaX (za0 hly)
 have ex:=k2.ext hsub
 have key:zbp (w.drew.alloc (.cells (((List.range (xs.length*i.size)).map f1).toArray++((List.range (ys.length*i.size)).map f2).toArray++Builtin.zeroCells z.cells (gc-(xs.length+ys.length))) e)) (fun b k=>F b k∨(b=w.heap.size∧k<(xs.length+ys.length)*i.size)) (.slice (some ⟨w.heap.size,0,none⟩) (xs++ys).length gc) (.sl (xs++ys)):=by
  refine zgj (L:=L) (U:=U) hlall (by rw[List.length_append];exact hge) (by rw[List.length_append];exact hf.1) (fun k hk=>?_) (fun k hk=>?_)
  ·rw[List.length_append]at hk
   exact .inr ⟨rfl,by omega⟩
  ·rw[List.length_append,hmul]at hk
   rw[zeW hp.new,Nat.zero_add,hfl]
   by_cases hj1:k<xs.length*i.size
   ·refine⟨f1 k,?_,?_⟩
    ·rw[Array.append_assoc,Array.getElem?_append_left (by simpa using hj1)]
     simp[hj1]
    ·have h3:=v1 k hj1
     rw[zaV (by omega)]
     obtain⟨x,hx⟩:=zdT (xs:=xs) (k:=k) (by omega)
     rw[hx]at h3 ⊢
     exact h3.mono_ow ex.fk ex.f
   ·have hj2:k-xs.length*i.size<ys.length*i.size:=by omega
    refine⟨f2 (k-xs.length*i.size),?_,?_⟩
    ·rw[Array.getElem?_append_left (by simp;omega),Array.getElem?_append_right (by simp;omega)]
     simp[hj2]
    ·have h3:=v2 _ hj2
     rw[zaW (by omega),hll]
     obtain⟨x,hx⟩:=zdT (xs:=ys) (k:=k-xs.length*i.size) (by omega)
     rw[hx]at h3 ⊢
     exact h3.mono_ow ex.fk ex.f
 simp only[zak]
 rw[List.length_append]at key
 refine⟨hid',key,some ⟨w.heap.size,0,none⟩,gc,by rw[List.length_append],.inr ⟨w.heap.size,0,rfl,by simp[zca,List.length_append],by rw[hp.size];omega,fun cs T fr hcs=>?_⟩⟩
 rw[hp.new]at hcs
 simp only[Option.some.injEq,Obj.cells.injEq]at hcs
 obtain⟨rfl,_,_⟩:=hcs
 rw[hsz,Nat.zero_add,←Nat.add_mul,←Nat.add_mul]
 exact Nat.mul_le_mul_right _ (by omega)
theorem zrd (hok:OkW G w L F U H){t u ty e:TypeId}{te:TI}{kk:IntKind}(ht:P.underlying t=some (.slice e))(hu:P.underlying u=some (.int kk))(hte:zao P e=some te)
  {aid:Id}{vx:Value}{xs ys:List FD}(hx:zak w L F U (.ow aid te.size xs) vx){o:O}(ho:H aid=some o)(h2:zad ys=zkj te ys.length)(hlx:zbx xs te.size)(hly:zbx ys te.size)(hone:(zad ys).all zcN=true)
  (hf:fits (xs.length+ys.length) te.bytes){id:Id}{U':Id→Prop}(hid:¬U id)(hU:∀i,U i→U' i)(hid':U' id):
  ∃v w' L' F',(Builtin.append_ #[t,u] ty #[vx,.int .i64 ys.length]).run P w= .ok v w'∧OkW G w' L' F' U' (zaE (zaE H aid none) id (some tok))∧
   zak w' L' F' U' (.ow id te.size (xs++ys)) v∧zbt H w L F U (zaE (zaE H aid none) id (some tok)) w' L' F' U':=by
 simp only[zak]at hx
 obtain⟨hUa,hx,a,cap,rfl,hcap⟩:=hx
 have hle:xs.length≤cap:=by
  obtain⟨a',cap',he,h1,_⟩:=hx.sl_inv
  injection he with _ _ e3;omega
 have hsub:∀i x,zaE H aid none i=some x→H i=some x:=fun i x h=>by
  simp only[zaE]at h;split at h
  ·cases h
  ·exact h
 have hne:id≠aid:=by rintro rfl;exact hid hUa
 rcases Nat.lt_or_ge cap (xs.length+ys.length)with hg|hg
 ·exact zks hok ht hu hte hx h2 hlx hly hg hf hsub hid hU hid'
 obtain⟨i,z,d,g1,g2,g3,rfl⟩:=zaN hte
 dsimp only at*
 obtain⟨f2,hf2⟩:∃f2:Nat→Value,f2=fun j=>z.cells[j % z.cells.size]! :=⟨_,rfl⟩
 have hz':z.cells.size=i.size:=by have h:=zb9 hte;simpa using h
 have v2:∀j,j<ys.length*i.size→zak w L F U ((zad ys).getD j .junk) (f2 j):=fun j hj=>by rw[hf2,h2];exact zgI hz' rfl rfl hj
 have hnews:Builtin.zeroCells z.cells ys.length=((List.range (ys.length*i.size)).map f2).toArray:=by rw[hf2];exact zgH hz'
 rcases hcap with hcap|⟨b,off,rfl,hLa,hlt,hsz⟩
 ·
  have hy0:ys=[]:=List.eq_nil_of_length_eq_zero (by omega)
  subst hy0
  obtain⟨k1,k2⟩:=zeF (hok.sub hsub) hid hU hid' false
  refine⟨.slice a xs.length cap,w,zca L id ⟨0,0,true⟩,F,?_,k1,?_,((zbt.refl H w L F U).sub hsub).trans k2⟩
  ·have:=zci (P:=P) (w:=w) (ty:=ty) (w':=w) ht hu g1 g2 hz' (base:=a) (sLen:=xs.length) (sCap:=cap) (n:=0) (by simp[zbh]) (by simp) (by omega) (fun a _=>by simp[Builtin.zeroCells,storeCells]) (fun _=>rfl)
   simpa using this
  ·simp only[zak,List.append_nil]
   exact⟨hid',hx,a,cap,rfl,.inl hcap⟩
 ·have hv:(L aid).3=false:=by rw[hLa]
  obtain⟨hnF,cs,T,hblk,hfit,_⟩:=zar (hok.live aid o ho).2 hv
  have hLa1:(L aid).1=b:=by rw[hLa]
  have hLa2:(L aid).2=off+xs.length*i.size:=by rw[hLa]
  rw[hLa1]at hblk
  have hcs:=hsz _ _ _ hblk
  have hmul:(xs.length+ys.length)*i.size=xs.length*i.size+ys.length*i.size:=Nat.add_mul _ _ _
  have hroom:off+xs.length*i.size+ys.length*i.size≤cs.size:=by
   have:(xs.length+ys.length)*i.size≤cap*i.size:=Nat.mul_le_mul_right _ hg
   omega
  have hnl:((List.range (ys.length*i.size)).map f2).length=ys.length*i.size:=by simp
  have hll2:=zaX (za0 hly)
  have hone':∀u∈(List.range (ys.length*i.size)).map f2,u.oneCell'=true:=by
   intro u hu'
   obtain⟨j,hj,rfl⟩:=List.mem_map.1 hu'
   have hj':j<ys.length*i.size:=by simpa using hj
   rw[List.all_eq_true]at hone
   refine zff (v2 j hj') (hone _ ?_)
   rw[List.getD_eq_getElem?_getD,List.getElem?_eq_getElem (by omega)]
   exact List.getElem_mem _
  have hrun:=zbN (P:=P) (b:=b) (off:=off+xs.length*i.size) (T:=T) ((List.range (ys.length*i.size)).map f2) 0 w cs hblk hone' (by rw[hnl];omega)
  have hL':zca L id ⟨b,off+(xs.length+ys.length)*i.size,false⟩ id=⟨b,off+(xs.length+ys.length)*i.size,false⟩:=by simp[zca]
  have hLo:∀j,U j→zca L id ⟨b,off+(xs.length+ys.length)*i.size,false⟩ j=L j:=fun j hj=>by
   unfold zca;rw[if_neg (by rintro rfl;exact hid hj)]
  have hlow:∀q,q<off+xs.length*i.size→((((List.range (ys.length*i.size)).map f2).zipIdx 0).foldl (fun cs (p:Value×Nat)=>cs.setIfInBounds (off+xs.length*i.size+p.2) p.1) cs)[q]?=cs[q]?:=fun q hq=>by
   rw[zaZ _ _ _ _ _ (by rw[hnl];omega),if_neg (by omega)]
  have key:=zhc hok ho hv (by rw[hLa1];exact hblk) (za5 ((List.range (ys.length*i.size)).map f2) 0 (off+xs.length*i.size) cs) (fun q hq=>hlow q (by rw[←hLa2];exact hq)) (id':=id)
   (o':=tok) (L':=zca L id ⟨b,off+(xs.length+ys.length)*i.size,false⟩) (U':=U') hU hid' hLo (by rw[hL',hLa1]) (by rw[hL',hLa2];simp only;omega) (by rw[hL']) (.inr hid)
   (F':=fun b' k=>F b' k∨(b'=b∧off+xs.length*i.size≤k∧k<off+(xs.length+ys.length)*i.size)) (fun _ _ h=> .inl h) (fun b' k h=>by rw[hL',hLa1,hLa2];exact h)
   (by rw[hL'];simp only[tok,List.length_nil];omega) (fun j hj=>by simp[tok]at hj)
  rw[hLa1]at key
  obtain⟨k1,k2⟩:=key
  have e:=k2.ext hok
  refine⟨.slice (some ⟨b,off,none⟩) (xs.length+ys.length) cap,_,_,_,?_,k1,?_,k2⟩
  ·refine zci (P:=P) (w:=w) (ty:=ty) ht hu g1 g2 hz' (by have:=hf.1;omega) (Nat.le_trans (Nat.mul_le_mul_right _ (by omega)) hf.2) hg (fun x hx=>?_) (fun hn=>by cases hn)
   obtain rfl:=(Option.some.inj hx).symm
   rw[zby,hnews]
   simpa using hrun
  ·have hlall:zbx (xs++ys) i.size:=fun x hx=>by
    rcases List.mem_append.1 hx with h|h
    ·exact hlx x h
    ·exact hly x h
   have hfl:zad (xs++ys)=zad xs++zad ys:=by simp[zad]
   have hll:=zaX (za0 hlx)
   obtain⟨a1,c1,he1,q1,q2,_,q4⟩:=zd2 (L:=L) (U:=U) hx hlx
   injection he1 with e1 _ _
   subst e1
   simp only[zak]
   refine⟨hid',?_,some ⟨b,off,none⟩,cap,by rw[List.length_append],.inr ⟨b,off,rfl,by rw[hL',List.length_append],by rw[zeq];exact hlt,fun cs1 T1 fr1 h=>?_⟩⟩
   ·have hap:(xs++ys).length=xs.length+ys.length:=List.length_append
    have key2:=@zgj (w:=zhd w b (.cells ((((List.range (ys.length*i.size)).map f2).zipIdx 0).foldl (fun cs (p:Value×Nat)=>cs.setIfInBounds (off+xs.length*i.size+p.2) p.1) cs) T (0,0))) (F:=fun b' k=>F b' k∨(b'=b∧off+xs.length*i.size≤k∧k<off+(xs.length+ys.length)*i.size)) (L:=L) (U:=U) (xs:=xs++ys) (es:=i.size) (b:=b) (off:=off) (cap:=cap)
    rw[hap]at key2
    refine key2 hlall hg hf.1 (fun k hk=>?_) (fun k hk=>?_)
    ·rw[hmul]at hk
     by_cases hj1:k<xs.length*i.size
     ·left
      have hpos:0<xs.length:=by
       rcases Nat.eq_zero_or_pos xs.length with h|h
       ·rw[h]at hj1;simp at hj1
       ·exact h
      obtain⟨_,_,_,_,_,h3⟩:=hx.sl_inv
      rename_i he _ _
      obtain⟨b2,off2,es2,vs2,hab,hF2,hes2,_⟩:=h3 hpos
      injection he with he1 _ _
      rw[←he1]at hab
      injection hab with hab
      injection hab with hb2 hoff2
      have hes3:es2=i.size:=by rw[←hes2 0 hpos,za0 hlx 0 hpos]
      subst hb2 hoff2 hes3
      exact hF2 k hj1
     ·right
      exact⟨rfl,by omega,by omega⟩
    ·rw[hmul]at hk
     rw[zeW (zcg (zbu hblk)),hfl]
     by_cases hj1:k<xs.length*i.size
     ·have hpos:0<xs.length:=by
       rcases Nat.eq_zero_or_pos xs.length with h|h
       ·rw[h]at hj1;simp at hj1
       ·exact h
      obtain⟨b3,o3,hab,hc3⟩:=q4 hpos
      injection hab with hab
      injection hab with hb3 ho3
      subst hb3 ho3
      obtain⟨u,u1,u2⟩:=hc3 k (by omega)
      rw[zfO hblk]at u1
      rw[hlow _ (by omega)]
      refine⟨u,u1,?_⟩
      rw[zaV (by omega)]
      obtain⟨x,hx⟩:=zdT (xs:=xs) (k:=k) (by omega)
      rw[hx]at u2 ⊢
      exact u2.mono_ow e.fk e.f
     ·have hj2:k-xs.length*i.size<ys.length*i.size:=by omega
      rw[zaZ _ _ _ _ _ (by rw[hnl];omega),hnl,if_pos (by omega)]
      have e2:off+k-(off+xs.length*i.size+0)=k-xs.length*i.size:=by omega
      refine⟨f2 (k-xs.length*i.size),by rw[e2];simp[hj2],?_⟩
      have h3:=v2 _ hj2
      rw[zaW (by omega),hll]
      obtain⟨x,hx⟩:=zdT (xs:=ys) (k:=k-xs.length*i.size) (by omega)
      rw[hx]at h3 ⊢
      exact h3.mono_ow e.fk e.f
   ·rw[zcg (zbu hblk)]at h
    simp only[Option.some.injEq,Obj.cells.injEq]at h
    obtain⟨rfl,_,_⟩:=h
    rw[za5]
    exact hcs
end
end Go.Abs
namespace Go.Abs
open Go
section
variable {P:Program} {G:Nat→List FD} {T:Tbl} {N tag0:Nat} {am:Nat→Bool} {st:St} {a:Act} {w:World} {L:Loc} {F:Nat→Nat→Prop} {K:St→Prop} {ops:Array Oper}
def zFM (P:Program)(G:Nat→List FD)(N tag:Nat)(t u:TypeId)(x y:Operand)(d:Nat)(K:St→Prop)(st:St):Prop:=
  ∃te kk m,zaA P t=some te∧P.underlying u=some (.int kk)∧d<N∧st.ev G y= .fz (.i .i64 m)∧0≤m∧
    ((∃id xs ys o,st.ev G x= .ow id te.size xs∧ys.length=m.toNat∧zad ys=zkj te m.toNat∧st.H id=some o∧zbx xs te.size∧zbx ys te.size∧(zad ys).all zcN=true∧fits (xs.length+m.toNat) te.bytes∧
        K ({st with H:=zaE st.H id none}.new (tag,st.n) tok (some d) (.ow (tag,st.n) te.size (xs++ys))))∨
     (∃id s len o,st.ev G x= .arr id te.size s len∧st.H id=some o∧s+len*te.size≤o.cells.length∧(zkj te m.toNat).all zcN=true∧0<te.size∧fits (len+m.toNat) te.bytes∧
        K ({st with H:=zaE st.H id none}.new (tag,st.n) ⟨(o.cells.drop s).take (len*te.size)++zkj te m.toNat,false,o.virt&&((o.cells.drop s).take (len*te.size)++zkj te m.toNat).isEmpty⟩ (some d) (.arr (tag,st.n) te.size 0 (len+m.toNat)))))
theorem zA2 {o:Oper}{c:Call}{Q:Exit→Act→World→Prop}(h:Rel G N st a w L F)(ho:o.op= .call c)(hc:c.callee= .builtin .append){x y:Operand}{t u:TypeId}(ha:c.args.toList=[x,y])(ht:c.argTypes.toList=[t,u])
  {d tag:Nat}(hd:o.dst=some d)(hs:zFM P G N tag t u x y d K st):o.wp P a w (Sat G N st w L F K) Q:=by
 obtain⟨te,kk,m,hte,hu,hdN,hy,h0,hs⟩:=hs
 obtain⟨e,hut,he⟩:=zbf hte
 have hyr:=h.ev y
 rw[hy]at hyr
 obtain⟨hyv,_⟩:=zlW hyr
 have hm:(m.toNat:Int)=m:=by omega
 have hyv':a.eval y= .int .i64 (m.toNat:Int):=by rw[hm];exact hyv
 have hdk:zbe N o.dst=true:=by simp[hd,zbe,hdN]
 rcases hs with⟨id,xs,ys,ob,hx,hl,hz,hob,h2,h3,h4,h5,hK⟩|⟨id,s,len,ob,hx,hob,h1,h2,h3,h5,hK⟩
 ·have hxr:=h.ev x
  rw[hx]at hxr
  obtain⟨v,w',L',F',g1,g2,g3,g4⟩:=zrd (ty:=o.type) h.ok hut hu he hxr hob (by rw[hl];exact hz) h2 h3 h4 (by rw[hl];exact h5) (id:=(tag,st.n)) (U':=Ub (st.n+1)) zfG zdY zdX
  refine zfL h hdk (H':=zaE st.H id none) (by rw[hd];exact hK) ⟨v,w',L',F',zck ho hc ha ht ?_,g2,g3,g4⟩
  rw[hyv',←hl];exact g1
 ·have hxr:=h.ev x
  rw[hx]at hxr
  obtain⟨v,w',L',g1,g2,g3,g4⟩:=zom (ty:=o.type) h.ok hut hu he hxr hob h1 rfl h2 h3 h5 (id:=(tag,st.n)) (U':=Ub (st.n+1)) zfG zdY zdX
  refine zfL h hdk (H':=zaE st.H id none) (by rw[hd];exact hK) ⟨v,w',L',F,zck ho hc ha ht ?_,g2,g3,g4⟩
  rw[hyv'];exact g1
theorem zsZ (hT:zan P G T){Q:Exit→St→Prop}{rid:Nat}(pre post:List Oper){o:Oper}{c:Call}{x y t u d}(hops:ops.toList=pre++o::post)(ho:o.op= .call c)(hc:c.callee= .builtin .append)(ha:c.args.toList=[x,y])(ht:c.argTypes.toList=[t,u])(hd:o.dst=some d)(hg:o.guard=none)
  (h:zlE P G T N tag0 am ops pre (zFM P G N (tag0+d) t u x y d fun s=>zlE P G T N tag0 am ops post (Q .normal) s) st):W P G N (.region rid ops false) Q st:=by
 intro a w L F hr
 refine wp_region ?_
 have hget:∀(j:Nat) (o':Oper),ops.toList[j]?=some o'→ops[j]?=some o':=fun j o' h=>by simpa using h
 have e:List.range ops.size=(List.range pre.length).map (0+·)++(pre.length::((List.range post.length).map (pre.length+1+·)++[])):=by
  have hs:ops.size=pre.length+(1+post.length):=by rw[←Array.length_toList,hops];simp;omega
  rw[hs,List.range_add,List.append_nil]
  congr 1
  ·simp
  ·rw[Nat.add_comm 1,List.range_succ_eq_map]
   simp only[List.map_cons,List.map_map,Nat.add_zero]
   congr 1
   apply List.map_congr_left
   intro j _
   simp;omega
 rw[e]
 refine zi6 hT (Q':=fun e a' w'=>Sat G N st w L F (Q e) a' w') pre 0 (fun j o' h'=>by
  rw[Nat.zero_add];refine hget j o' ?_;rw[hops,List.getElem?_append_left ((List.getElem?_eq_some_iff.1 h').1)];exact h') st a w L F hr h ?_
 rintro a1 w1 ⟨st1,L1,F1,h1,h2,h3⟩
 have h0:ops[pre.length]?=some o:=hget _ _ (by rw[hops,List.getElem?_append_right (Nat.le_refl _)];simp)
 have hw:Region.wanted o (yielded ops a1.tmps)=true:=by simp[Region.wanted,hg]
 simp only[wpOps,h0,hw,if_true]
 refine .inl (Oper.wp_mono (fun a2 w2 hs=>?_) (zA2 (K:=fun s=>zlE P G T N tag0 am ops post (Q .normal) s) h2 ho hc ha ht hd h1))
 obtain⟨st2,L2,F2,k1,k2,k3⟩:=hs
 exact zi6 hT (Q':=fun e a' w'=>Sat G N st w L F (Q e) a' w') post (pre.length+1) (fun j o' h'=>by
  refine hget _ o' ?_;rw[hops,List.getElem?_append_right (by omega)];rw[show pre.length+1+j-pre.length=j+1 by omega];simpa using h') st2 a2 w2 L2 F2 k2 k1
  (fun a3 w3 hs=>by simp only[wpOps];exact(hs.trans k3).trans h3)
def zlX (P:Program)(G:Nat→List FD)(N tag:Nat)(t u:TypeId)(x y:Operand)(d:Nat)(st:St)[k:Kn St]:Prop:=zFM P G N tag t u x y d k.run st
theorem zjw (hT:zan P G T){q:Exit→St→Prop}{rid:Nat}(tag0:Nat)(am:Nat→Bool)(j:Nat){o:Oper}{c:Call}{x y t u d}(hj:ops.toList[j]?=some o)(ho:o.op= .call c)(hc:c.callee= .builtin .append)(ha:c.args.toList=[x,y])(ht:c.argTypes.toList=[t,u])(hd:o.dst=some d)(hg:o.guard=none)
  (h:@zgz P G T N tag0 am ops (ops.toList.take j) st ⟨fun s=>@zlX P G N (tag0+d) t u x y d s ⟨fun s=>@zgz P G T N tag0 am ops (ops.toList.drop (j+1)) s ⟨q .normal⟩⟩⟩):@WK P G N (.region rid ops false) st ⟨q⟩:=by
 unfold WK
 unfold zgz at h
 have hlt:=(List.getElem?_eq_some_iff.1 hj).1
 have he:=(List.getElem?_eq_some_iff.1 hj).2
 refine zsZ hT (ops.toList.take j) (ops.toList.drop (j+1)) ?_ ho hc ha ht hd hg h
 rw[←he,←List.drop_eq_getElem_cons hlt,List.take_append_drop]
theorem zlX.ow {t u x y d tag te kk m id xs}{kc:St→Prop}(ys:List FD)(hte:zaA P t=some te)(hu:P.underlying u=some (.int kk))(hd:d<N)(hx:st.ev G x= .ow id te.size xs)(hy:st.ev G y= .fz (.i .i64 m))(h0:0≤m)
  {o:O}(hl:ys.length=m.toNat)(hz:zad ys=zkj te m.toNat)(ho:st.H id=some o)(h2:zbx xs te.size)(h3:zbx ys te.size)(h4:(zad ys).all zcN=true)(h5:fits (xs.length+m.toNat) te.bytes)
  (h:kc ({st with H:=zaE st.H id none}.new (tag,st.n) tok (some d) (.ow (tag,st.n) te.size (xs++ys)))):@zlX P G N tag t u x y d st ⟨kc⟩:=
 ⟨te,kk,m,hte,hu,hd,hy,h0,.inl ⟨id,xs,ys,o,hx,hl,hz,ho,h2,h3,h4,h5,h⟩⟩
theorem zlX.arr {t u x y d tag te kk m id s len}{kc:St→Prop}(hte:zaA P t=some te)(hu:P.underlying u=some (.int kk))(hd:d<N)(hx:st.ev G x= .arr id te.size s len)(hy:st.ev G y= .fz (.i .i64 m))(h0:0≤m)
  {o:O}(ho:st.H id=some o)(h1:s+len*te.size≤o.cells.length)(h2:(zkj te m.toNat).all zcN=true)(h3:0<te.size)(h5:fits (len+m.toNat) te.bytes)
  (h:kc ({st with H:=zaE st.H id none}.new (tag,st.n) ⟨(o.cells.drop s).take (len*te.size)++zkj te m.toNat,false,o.virt&&((o.cells.drop s).take (len*te.size)++zkj te m.toNat).isEmpty⟩ (some d) (.arr (tag,st.n) te.size 0 (len+m.toNat)))):@zlX P G N tag t u x y d st ⟨kc⟩:=
 ⟨te,kk,m,hte,hu,hd,hy,h0,.inr ⟨id,s,len,o,hx,ho,h1,h2,h3,h5,h⟩⟩
end
attribute [irreducible] zlX
end Go.Abs
namespace Go.Abs
open Go
mutual
def fzD (id:Id)(xs:List FD):D→D
 | .arr i es s len=>if i=id∧es=1∧s=0∧len=xs.length then .fz (.sl xs)else .arr i es s len
 | .agg ds=> .agg (zsK id xs ds)
 | .ptr i k=> .ptr i k
 | .fn f caps=> .fn f caps
 | .tup ds=> .tup ds
 | .junk=> .junk
 | .fz x=> .fz x
 | .full xs=> .full xs
 | .rp xs=> .rp xs
 | .ow i es xs=> .ow i es xs
def zsK (id:Id)(xs:List FD):List D→List D
 |[]=>[]
 |d::ds=>fzD id xs d::zsK id xs ds
end
theorem zkT (id:Id)(xs:List FD):∀l:List D,zsK id xs l=l.map (fzD id xs)
 |[]=>rfl
 |d::l=>by rw[zsK,zkT id xs l];rfl
section
variable {w:World} {L:Loc} {F F':Nat→Nat→Prop} {U:Id→Prop} {id:Id} {xs:List FD}
theorem zge (hF:∀b k,F b k→F' b k):Ext w L F U w L F' U:=⟨fun _ h=>h,fun _ _=>rfl,hF,fun _ _ _=>rfl,Nat.le_refl _,fun _ cs T fr _ h=>⟨cs,T,fr,h,Nat.le_refl _⟩⟩
mutual
theorem zak.fzd (hF:∀b k,F b k→F' b k)(hp:∀v,zak w L F U (.arr id 1 0 xs.length) v→zbp w F' v (.sl xs)):
  ∀(d:D) (v:Value),zak w L F U d v→zak w L F' U (fzD id xs d) v
 | .arr i es s len,v,h=>by
  rw[fzD]
  split
  ·rename_i e
   obtain⟨rfl,rfl,rfl,rfl⟩:=e
   simp only[zak]
   exact hp v h
  ·exact zak.ext (zge hF) (.arr i es s len) v h
 | .agg ds,v,h=>by
  rw[fzD]
  simp only[zak]at h ⊢
  obtain⟨vs,h1,h2⟩:=h
  exact⟨vs,h1,zal.fzd hF hp _ _ h2⟩
 | .ptr i k,v,h=>zak.ext (zge hF) (.ptr i k) v h
 | .fn f caps,v,h=>zak.ext (zge hF) (.fn f caps) v h
 | .tup ds,v,h=>zak.ext (zge hF) (.tup ds) v h
 | .junk,v,h=>by rw[fzD];simp only[zak]
 | .fz x,v,h=>zak.ext (zge hF) (.fz x) v h
 | .full xs,v,h=>zak.ext (zge hF) (.full xs) v h
 | .rp xs,v,h=>zak.ext (zge hF) (.rp xs) v h
 | .ow i es xs,v,h=>zak.ext (zge hF) (.ow i es xs) v h
theorem zal.fzd (hF:∀b k,F b k→F' b k)(hp:∀v,zak w L F U (.arr id 1 0 xs.length) v→zbp w F' v (.sl xs)):
  ∀(ds:List D) (vs:List Value),zal w L F U ds vs→zal w L F' U (zsK id xs ds) vs
 |[],[],_=>by rw[zsK];simp only[zal]
 |d::ds,v::vs,h=>by
  rw[zsK]
  simp only[zal]at h ⊢
  exact⟨zak.fzd hF hp d v h.1,zal.fzd hF hp ds vs h.2⟩
 |[],_::_,h=>by simp only[zal]at h
 |_::_,[],h=>by simp only[zal]at h
end
end
theorem znX:∀{ds:List D} {xs:List FD},D.toFDs ds=some xs→ds.length=xs.length∧∀j,j<xs.length→(ds.getD j .junk).toFD=some (xs.getD j .nilf)
 |[],xs,h=>by
  simp only[D.toFDs,Option.some.injEq]at h
  subst h
  exact⟨rfl,fun j hj=>by simp at hj⟩
 |d::ds,xs,h=>by
  rw[D.toFDs]at h
  split at h
  ·rename_i x ys h1 h2
   simp only[Option.some.injEq]at h
   subst h
   obtain⟨g1,g2⟩:=znX h2
   refine⟨by simp[g1],fun j hj=>?_⟩
   cases j with
   |zero=>simpa using h1
   |succ j=>simpa using g2 j (by simpa using hj)
  ·cases h
section
variable {P:Program} {G:Nat→List FD} {N:Nat} {st:St}
theorem zwb {id:Id}{xs:List FD}{o:O}(ho:st.H id=some o)(_hv:o.virt=true→xs=[])(hc:D.toFDs o.cells=some xs)(h1:∀x∈xs,x.cells=[x]):zeQ G N st ⟨fun t=>fzD id xs (st.fr t),zaE st.H id none,st.n⟩:=by
 intro a w L F h
 obtain⟨hu,hob⟩:=h.ok.live id _ ho
 obtain⟨hlc,hgc⟩:=znX hc
 obtain⟨F',hF'⟩:∃F':Nat→Nat→Prop,F'=fun b k=>F b k∨((L id).3=false∧b=(L id).1∧(L id).2≤k):=⟨_,rfl⟩
 have hsub:∀b k,F b k→F' b k:=fun b k h=>by rw[hF'];exact .inl h
 have e:Ext w L F (Ub st.n) w L F' (Ub st.n):=zge hsub
 have hold:∀id' o',zaE st.H id none id'=some o'→id'≠id∧st.H id'=some o':=fun id' o' h=>by
  unfold zaE at h
  split at h
  ·cases h
  ·rename_i hne;exact⟨hne,h⟩
 have hfz:∀v,zak w L F (Ub st.n) (.arr id 1 0 xs.length) v→zbp w F' v (.sl xs):=fun v hv'=>by
  simp only[zak]at hv'
  obtain⟨_,a',cap,rfl,g1,g2,g3⟩:=hv'
  refine zbp.sl_mk g1 g2 fun hpos=>?_
  rcases g3 with g3|⟨rfl,hL3,hlt,_⟩
  ·omega
  ·obtain⟨hnF,cs,T,hcs,hsz,hcell⟩:=zar hob hL3
   have hL:zbx xs 1:=fun x hx=>by rw[h1 x hx];rfl
   refine⟨(L id).1,(L id).2+0,1,fun i j=>cs.getD ((L id).2+(i*1+j)) undef,rfl,fun k _=>by rw[hF'];exact .inr ⟨hL3,rfl,by omega⟩,za0 hL,fun i j hi hj=>?_,fun i j hi hj=>?_⟩
   ·obtain⟨u,hu1,_⟩:=hcell (i*1+j) (by omega)
    have he:cs.getD ((L id).2+(i*1+j)) undef=u:=by rw[Array.getD_eq_getD_getElem?,hu1];rfl
    rw[zeW hcs,show(L id).2+0+i*1+j=(L id).2+(i*1+j) by omega,hu1]
    exact congrArg some he.symm
   ·obtain rfl:j=0:=by omega
    obtain⟨u,hu1,hu2⟩:=hcell (i*1+0) (by omega)
    have hx:=zak.toFD _ _ _ hu2 (by rw[show i*1+0=i by omega];exact hgc i hi)
    have he:cs.getD ((L id).2+(i*1+0)) undef=u:=by rw[Array.getD_eq_getD_getElem?,hu1];rfl
    have hm:xs.getD i .nilf∈xs:=by rw[List.getD_eq_getElem?_getD,List.getElem?_eq_getElem hi];exact List.getElem_mem hi
    simp only
    rw[he,h1 _ hm]
    exact hx.mono (fun _ _ _=>rfl) hsub
 refine⟨L,F',⟨⟨fun b k hb=>?_,fun id' o' h1=>?_,fun i1 i2 o1 o2 h1 h2=>h.ok.inj i1 i2 o1 o2 (hold _ _ h1).2 (hold _ _ h2).2,zdt hsub (fun _ _ _=>rfl) h.ok.glob⟩,h.size,fun s=>zak.fzd hsub hfz _ _ (h.fr s),h.nd⟩,
  fun _ h=>h,fun _ _=>rfl,hsub,Nat.le_refl _,fun _ _ _=>rfl,fun _ _ _ _=>rfl,fun b cs T fr _ h=>⟨cs,T,fr,h,Nat.le_refl _⟩,fun b k hb=>?_,fun b k hb=>?_,rfl,rfl,rfl,Nat.le_refl _⟩
 ·rw[hF']at hb
  rcases hb with hb|⟨h3,rfl,_⟩
  ·exact h.ok.fb b k hb
  ·exact h.ok.blk_lt ho h3
 ·obtain⟨hne,h2⟩:=hold _ _ h1
  obtain⟨h3,h4⟩:=h.ok.live id' o' h2
  refine⟨h3,h4.ext e h3 fun hv=>⟨rfl,fun k hk hb=>?_⟩⟩
  rw[hF']at hb
  rcases hb with hb|⟨hv3,hb,_⟩
  ·exact(zar h4 hv).1 k hk hb
  ·exact hne (h.ok.inj id' id _ _ h2 ho hv hv3 hb)
 ·rw[hF']at hb
  rcases hb with hb|⟨hv3,rfl,hk⟩
  ·exact .inl hb
  ·exact .inr (.inr ⟨id,_,ho,hv3,rfl,hk⟩)
 ·obtain⟨id',o',h1,h2,h3,h4⟩:=hb
  exact .inr ⟨id',o',(hold _ _ h1).2,h2,h3,h4⟩
theorem zh0 {f:FuncId}{args args':List D}{H:zas}{n:Nat}{R:D→zas→Nat→Prop}(id:Id)(xs:List FD){o:O}(ho:H id=some o)(hv:o.virt=true→xs=[])(hc:D.toFDs o.cells=some xs)(h1:∀x∈xs,x.cells=[x])(ha:zsK id xs args=args')
  (h:zau P G f args' (zaE H id none) n R):zau P G f args H n R:=by
 subst ha
 refine zdy (by rw[zkT,List.length_map]) ?_ h
 have e:(fun t=>fzD id xs (frL (zf2 0 args) t))=frL (zf2 0 (zsK id xs args)):=by
  funext t
  rw[←zdR,←zdR]
  simp only[zku]
  rw[zkT,List.getD_eq_getElem?_getD,List.getD_eq_getElem?_getD,List.getElem?_map]
  cases args[t]?<;>rfl
 rw[←e]
 exact zwb (st:=⟨frL (zf2 0 args),H,n⟩) ho hv hc h1
end
section
attribute [local semireducible] BiK obK zaJ zhX zbd VvK XOK zko zjB zh2 zh3 zra zf0 zgz XCK zrq zy1 zf3 zzl zav WK zm8 XEK
theorem zwa {P:Program}{G:Nat→List FD}{T:Tbl}(hm:P.follows .mixedOrders=true)(hT:zan P G T){f:FuncId}{fn:Func}{c:Code}{args:List D}{H:zas}{n:Nat}{R:D→zas→Nat→Prop}(tag0:Nat)(am:Nat→Bool)(hcall:zam P f)(hf:P.funcs[f]?=some fn)(hb:fn.body=some c){N:Nat}(hN:fn.ntmps=N)(hl:args.length≤N)
  (hd:zbP am T c=true)(h:@XEK P G T N tag0 am c ⟨frL (zf2 0 args),H,n⟩ ⟨fun e st=>@zzl P fn e st ⟨R⟩⟩):zau P G f args H n R:=
 zh1 hcall hf hb hN hl (by rw[zdR];exact zoi hm hT _ _ _ hd h)
end
end Go.Abs
namespace Go.Abs
open Go
section
variable {P:Program} {G:Nat→List FD}
theorem zal.lastp {w:World}{L L':Loc}{F:Nat→Nat→Prop}{U U':Id→Prop}{p p':D}(hp:∀v,zak w L F U p v→zak w L' F U' p' v):∀{xs:List FD} {ds:List D} {vs:List Value},D.toFDs ds=some xs→zal w L F U (ds++[p]) vs→zal w L' F U' (xs.map .fz++[p']) vs:=by
 intro xs ds vs h hv
 have key:∀(ds:List D) (vs:List Value),zal w L F U (ds++[p]) vs→∃us v,vs=us++[v]∧zal w L F U ds us∧zak w L F U p v:=by
  intro ds
  induction ds with
  |nil=>
   intro vs hv
   match vs,hv with
   |[v],hv=>exact⟨[],v,rfl,by simp[zal],by simp only[List.nil_append,zal]at hv;exact hv.1⟩
   |[],hv=>simp[zal]at hv
   |_::_::_,hv=>simp[zal]at hv
  |cons d ds ih=>
   intro vs hv
   match vs,hv with
   |[],hv=>simp[zal]at hv
   |v::vs,hv=>
    rw[List.cons_append,zal]at hv
    obtain⟨us,u,rfl,h1,h2⟩:=ih vs hv.2
    exact⟨v::us,u,rfl,by rw[zal];exact⟨hv.1,h1⟩,h2⟩
 have back:∀(ds:List D) (us:List Value) (v:Value),zal w L' F U' ds us→zak w L' F U' p' v→zal w L' F U' (ds++[p']) (us++[v]):=by
  intro ds
  induction ds with
  |nil=>
   intro us v h1 h2
   match us,h1 with
   |[],_=>simp only[List.nil_append,zal];exact⟨h2,trivial⟩
   |_::_,h1=>simp[zal]at h1
  |cons d ds ih=>
   intro us v h1 h2
   match us,h1 with
   |[],h1=>simp[zal]at h1
   |u::us,h1=>
    rw[zal]at h1
    rw[List.cons_append,List.cons_append,zal]
    exact⟨h1.1,ih us v h1.2 h2⟩
 obtain⟨us,v,rfl,h1,h2⟩:=key ds vs hv
 exact back _ us v (h1.of_toFDs h) (hp v h2)
theorem zoe {f:FuncId}{T:Nat}{sid:Id}{ds:List D}{xs cs cs':List FD}{r:D}{H:zas}{n:Nat}{R:D→zas→Nat→Prop}(ha:D.toFDs ds=some xs)
  (h:zau P G f (xs.map .fz++[.ptr (T,0) 0]) (hpL [((T,0),some ⟨cs.map .fz,true,false⟩)]) 1 (fun d H' _=>D.val d=some r∧H' (T,0)=some ⟨cs'.map .fz,true,false⟩))
  (ho:H sid=some ⟨cs.map .fz,true,false⟩)(hR:R r (zaE H sid (some ⟨cs'.map .fz,true,false⟩)) n):zau P G f (ds++[.ptr sid 0]) H n R:=by
 refine⟨h.1,fun w L F vs hok hvs=>?_⟩
 obtain⟨hUs,hrs⟩:=hok.live sid _ ho
 have hv3:(L sid).3=false:=by
  cases hv:(L sid).3
  ·rfl
  ·unfold zbk at hrs
   rw[hv]at hrs
   simp only[if_true]at hrs
   exact absurd hrs.2 (by decide)
 obtain⟨r1,cs0,T0,r2,r3,r4⟩:=zar hrs hv3
 obtain⟨L1,hL1⟩:∃L1:Loc,L1=fun _=>L sid:=⟨_,rfl⟩
 have hL1':∀id,L1 id=L sid:=fun id=>by rw[hL1]
 obtain⟨K,hK⟩:∃K:zas,K=hpL [((T,0),some ⟨cs.map .fz,true,false⟩)]:=⟨_,rfl⟩
 have hKs:∀id o,K id=some o→id=(T,0)∧o=⟨cs.map .fz,true,false⟩:=fun id o e=>by
  rw[hK]at e
  simp only[hpL]at e
  split at e
  ·rename_i e1
   exact⟨e1,(Option.some.inj e).symm⟩
  ·cases e
 have hK0:K (T,0)=some ⟨cs.map .fz,true,false⟩:=by rw[hK];simp[hpL]
 have hfzs:∀(zs:List FD) (j:Nat) (L2:Loc) (F2:Nat→Nat→Prop) (U2 U3:Id→Prop) (L3:Loc) (w2:World) (v:Value),zak w2 L2 F2 U2 ((zs.map D.fz).getD j .junk) v→zak w2 L3 F2 U3 ((zs.map D.fz).getD j .junk) v:=fun zs j L2 F2 U2 U3 L3 w2 v hv=>by
  rcases Nat.lt_or_ge j zs.length with hj|hj
  ·have e:(zs.map D.fz).getD j .junk= .fz zs[j]:=by simp[List.getD_eq_getElem?_getD,hj]
   rw[e]at hv ⊢
   simpa only[zak]using hv
  ·have e:(zs.map D.fz).getD j .junk= .junk:=by simp[List.getD_eq_getElem?_getD,hj]
   rw[e];simp[zak]
 have hok1:OkW G w L1 F (Ub 1) K:=by
  refine⟨hok.fb,fun id o e=>?_,fun id id' o o' e e' _ _ _=>?_,hok.glob⟩
  ·obtain⟨rfl,rfl⟩:=hKs id o e
   refine⟨by unfold Ub;simp,?_⟩
   unfold zbk
   rw[hL1',hv3]
   simp only[Bool.false_eq_true,if_false]
   exact⟨r1,cs0,T0,r2,r3,fun j hj=>let⟨v,a,b⟩:=r4 j hj;⟨v,a,hfzs _ _ _ _ _ _ _ _ _ b⟩⟩
  ·rw[(hKs id o e).1,(hKs id' o' e').1]
 rw[←hK]at h
 have hvs1:zal w L1 F (Ub 1) (xs.map .fz++[.ptr (T,0) 0]) vs:=zal.lastp (fun v h1=>by
  simp only[zak]at h1 ⊢
  rw[hL1']
  exact⟨by unfold Ub;simp,h1.2⟩) ha hvs
 refine(h.2 w L1 F vs hok1 hvs1).mono fun e w' he=>?_
 obtain⟨v,d1,H1,n1,L2,F2,rfl,⟨hQ1,hQ2⟩,g1,g2,g3⟩:=he
 have hL2:L2 (T,0)=L sid:=(g3.l (T,0) (by unfold Ub;simp)).trans (hL1' _)
 have bk:∀b,Blk K L1 b→Blk H L b:=by
  rintro b ⟨id,o,e1,_,e3⟩
  obtain⟨rfl,_⟩:=hKs id o e1
  rw[hL1']at e3
  exact⟨sid,_,ho,hv3,e3⟩
 have ok':∀b k,Own K L1 b k→(L sid).1=b∧(L sid).2≤k:=by
  rintro b k ⟨id,o,e1,_,e3,e4⟩
  rw[hL1']at e3 e4
  exact⟨e3,e4⟩
 have own:∀b k,Own K L1 b k→Own H L b k:=fun b k hb=>let⟨e1,e2⟩:=ok' b k hb;⟨sid,_,ho,hv3,e1,e2⟩
 have ext:Ext w L F (Ub n) w' L F2 (Ub n):=⟨fun _ h=>h,fun _ _=>rfl,g3.f,fun b k hb=>g3.keepc b k (hok.fb b k hb) (fun hb'=>hok.not_own hb (own _ _ hb')),g3.size,g3.shape⟩
 have cas:∀id o,zaE H sid (some ⟨cs'.map .fz,true,false⟩) id=some o→(id=sid∧o=⟨cs'.map .fz,true,false⟩)∨(id≠sid∧H id=some o):=fun id o e=>by
  unfold zaE at e
  split at e
  ·rename_i e1;exact .inl ⟨e1,(Option.some.inj e).symm⟩
  ·rename_i e1;exact .inr ⟨e1,e⟩
 have some':∀id o,zaE H sid (some ⟨cs'.map .fz,true,false⟩) id=some o→∃o',H id=some o':=fun id o e=>by
  rcases cas id o e with⟨rfl,_⟩|⟨_,e1⟩
  ·exact⟨_,ho⟩
  ·exact⟨_,e1⟩
 refine⟨v,r,_,n,L,F2,rfl,hR,⟨g1.fb,fun id o e=>?_,fun id id' o o' e e' v1 v2 eb=>?_,g1.glob⟩,g2.val hQ1,?_⟩
 ·rcases cas id o e with⟨rfl,rfl⟩|⟨hne,e1⟩
  ·refine⟨hUs,?_⟩
   have hl:=(g1.live _ _ hQ2).2
   unfold zbk at hl ⊢
   rw[hL2]at hl
   rw[hv3]at hl ⊢
   simp only[Bool.false_eq_true,if_false]at hl ⊢
   obtain⟨a1,cs1,T1,a2,a3,a4⟩:=hl
   exact⟨a1,cs1,T1,a2,a3,fun j hj=>let⟨v,a,b⟩:=a4 j hj;⟨v,a,hfzs _ _ _ _ _ _ _ _ _ b⟩⟩
  ·obtain⟨a,b⟩:=hok.live id o e1
   refine⟨a,b.ext ext a fun hv=>?_⟩
   have hlt:=hok.blk_lt e1 hv
   have nb:¬(L sid).1=(L id).1:=fun eq=>hne (hok.inj id sid _ _ e1 ho hv hv3 eq.symm)
   refine⟨g3.keep _ hlt ?_,fun k hk hF=>?_⟩
   ·rintro⟨id2,o2,e2,_,e3⟩
    rw[hL1']at e3
    exact nb e3
   ·rcases g3.fnew _ _ hF with h|h|h
    ·exact(zar b hv).1 k hk h
    ·omega
    ·exact nb (ok' _ _ h).1
 ·obtain⟨o1,e1⟩:=some' _ _ e
  obtain⟨o2,e2⟩:=some' _ _ e'
  exact hok.inj _ _ _ _ e1 e2 v1 v2 eb
 ·refine⟨fun _ h=>h,fun _ _=>rfl,g3.f,g3.size,fun b hb nb=>g3.keep b hb fun hb'=>nb (bk b hb'),fun b k hb no=>g3.keepc b k hb fun hb'=>no (own b k hb'),g3.shape,fun b k hb=>?_,fun b k hb=>?_,g3.os,g3.tape,g3.output,g3.drawn⟩
  ·rcases g3.fnew b k hb with h|h|h
   ·exact .inl h
   ·exact .inr (.inl h)
   ·exact .inr (.inr (own b k h))
  ·obtain⟨id,o,e1,e2,e3,e4⟩:=hb
   obtain⟨o',e1'⟩:=some' _ _ e1
   exact .inr ⟨id,o',e1',e2,e3,e4⟩
end
end Go.Abs
