/- several texts of this proof in one; no conditions -/
import Derived.Test.YtmconmiemdinkaaGreatDoorY9
set_option linter.unusedSimpArgs false
namespace Go.Abs
open Go
section
variable {P:Program} {G:Nat→List FD}
theorem zzY {f:FuncId}{T:Nat}{sid:Id}{ds:List D}{xs cs cs':List FD}{r:D}{H:zax}{n:Nat}{R:D→zax→Nat→Prop}(ha:D.toFDs ds=some xs)
  (h:zaH P G f (.ptr (T,0) 0::xs.map .fz) (hpL [((T,0),some ⟨cs.map .fz,true,false⟩)]) 1 (fun d H' _=>D.val d=some r∧H' (T,0)=some ⟨cs'.map .fz,true,false⟩))
  (ho:H sid=some ⟨cs.map .fz,true,false⟩)(hR:R r (zaM H sid (some ⟨cs'.map .fz,true,false⟩)) n):zaH P G f (.ptr sid 0::ds) H n R:=by
 refine⟨h.1,fun w L F vs hok hvs=>?_⟩
 obtain⟨hUs,hrs⟩:=hok.live sid _ ho
 have hv3:(L sid).3=false:=by
  cases hv:(L sid).3
  ·rfl
  ·unfold zbP at hrs
   rw[hv]at hrs
   simp only[if_true]at hrs
   exact absurd hrs.2 (by decide)
 obtain⟨r1,cs0,T0,r2,r3,r4⟩:=zaB hrs hv3
 obtain⟨L1,hL1⟩:∃L1:Loc,L1=fun _=>L sid:=⟨_,rfl⟩
 have hL1':∀id,L1 id=L sid:=fun id=>by rw[hL1]
 obtain⟨K,hK⟩:∃K:zax,K=hpL [((T,0),some ⟨cs.map .fz,true,false⟩)]:=⟨_,rfl⟩
 have hKs:∀id o,K id=some o→id=(T,0)∧o=⟨cs.map .fz,true,false⟩:=fun id o e=>by
  rw[hK]at e
  simp only[hpL]at e
  split at e
  ·rename_i e1
   exact⟨e1,(Option.some.inj e).symm⟩
  ·cases e
 have hK0:K (T,0)=some ⟨cs.map .fz,true,false⟩:=by rw[hK];simp[hpL]
 have hfzs:∀(zs:List FD) (j:Nat) (L2:Loc) (F2:Nat→Nat→Prop) (U2 U3:Id→Prop) (L3:Loc) (w2:World) (v:Value),zak w2 L2 F2 U2 ((zs.map D.fz).getD j .junk) v→zak w2 L3 F2 U3 ((zs.map D.fz).getD j .junk) v:=fun zs j L2 F2 U2 U3 L3 w2 v hv=>by
  rcases Nat.lt_or_ge j zs.length with hj|hj
  ·have e:(zs.map D.fz).getD j .junk= .fz zs[j]:=by simp[List.getD_eq_getElem?_getD,hj]
   rw[e]at hv ⊢
   simpa only[zak]using hv
  ·have e:(zs.map D.fz).getD j .junk= .junk:=by simp[List.getD_eq_getElem?_getD,hj]
   rw[e];simp[zak]
 have hok1:OkW G w L1 F (Ub 1) K:=by
  refine⟨hok.fb,fun id o e=>?_,fun id id' o o' e e' _ _ _=>?_,hok.glob⟩
  ·obtain⟨rfl,rfl⟩:=hKs id o e
   refine⟨by unfold Ub;simp,?_⟩
   unfold zbP
   rw[hL1',hv3]
   simp only[Bool.false_eq_true,if_false]
   exact⟨r1,cs0,T0,r2,r3,fun j hj=>let⟨v,a,b⟩:=r4 j hj;⟨v,a,hfzs _ _ _ _ _ _ _ _ _ b⟩⟩
  ·rw[(hKs id o e).1,(hKs id' o' e').1]
 rw[←hK]at h
 have hvs1:zao w L1 F (Ub 1) (.ptr (T,0) 0::xs.map .fz) vs:=by
  cases vs with
  |nil=>simp[zao]at hvs
  |cons v vs=>
   simp only[zao]at hvs ⊢
   refine⟨?_,hvs.2.of_toFDs ha⟩
   have h1:=hvs.1
   simp only[zak]at h1 ⊢
   rw[hL1']
   exact⟨by unfold Ub;simp,h1.2⟩
 refine(h.2 w L1 F vs hok1 hvs1).mono fun e w' he=>?_
 obtain⟨v,d1,H1,n1,L2,F2,rfl,⟨hQ1,hQ2⟩,g1,g2,g3⟩:=he
 have hL2:L2 (T,0)=L sid:=(g3.l (T,0) (by unfold Ub;simp)).trans (hL1' _)
 have bk:∀b,Blk K L1 b→Blk H L b:=by
  rintro b ⟨id,o,e1,_,e3⟩
  obtain⟨rfl,_⟩:=hKs id o e1
  rw[hL1']at e3
  exact⟨sid,_,ho,hv3,e3⟩
 have ok':∀b k,Own K L1 b k→(L sid).1=b∧(L sid).2≤k:=by
  rintro b k ⟨id,o,e1,_,e3,e4⟩
  rw[hL1']at e3 e4
  exact⟨e3,e4⟩
 have own:∀b k,Own K L1 b k→Own H L b k:=fun b k hb=>let⟨e1,e2⟩:=ok' b k hb;⟨sid,_,ho,hv3,e1,e2⟩
 have ext:Ext w L F (Ub n) w' L F2 (Ub n):=⟨fun _ h=>h,fun _ _=>rfl,g3.f,fun b k hb=>g3.keepc b k (hok.fb b k hb) (fun hb'=>hok.not_own hb (own _ _ hb')),g3.size,g3.shape⟩
 have cas:∀id o,zaM H sid (some ⟨cs'.map .fz,true,false⟩) id=some o→(id=sid∧o=⟨cs'.map .fz,true,false⟩)∨(id≠sid∧H id=some o):=fun id o e=>by
  unfold zaM at e
  split at e
  ·rename_i e1;exact .inl ⟨e1,(Option.some.inj e).symm⟩
  ·rename_i e1;exact .inr ⟨e1,e⟩
 have some':∀id o,zaM H sid (some ⟨cs'.map .fz,true,false⟩) id=some o→∃o',H id=some o':=fun id o e=>by
  rcases cas id o e with⟨rfl,_⟩|⟨_,e1⟩
  ·exact⟨_,ho⟩
  ·exact⟨_,e1⟩
 refine⟨v,r,_,n,L,F2,rfl,hR,⟨g1.fb,fun id o e=>?_,fun id id' o o' e e' v1 v2 eb=>?_,g1.glob⟩,g2.val hQ1,?_⟩
 ·rcases cas id o e with⟨rfl,rfl⟩|⟨hne,e1⟩
  ·refine⟨hUs,?_⟩
   have hl:=(g1.live _ _ hQ2).2
   unfold zbP at hl ⊢
   rw[hL2]at hl
   rw[hv3]at hl ⊢
   simp only[Bool.false_eq_true,if_false]at hl ⊢
   obtain⟨a1,cs1,T1,a2,a3,a4⟩:=hl
   exact⟨a1,cs1,T1,a2,a3,fun j hj=>let⟨v,a,b⟩:=a4 j hj;⟨v,a,hfzs _ _ _ _ _ _ _ _ _ b⟩⟩
  ·obtain⟨a,b⟩:=hok.live id o e1
   refine⟨a,b.ext ext a fun hv=>?_⟩
   have hlt:=hok.blk_lt e1 hv
   have nb:¬(L sid).1=(L id).1:=fun eq=>hne (hok.inj id sid _ _ e1 ho hv hv3 eq.symm)
   refine⟨g3.keep _ hlt ?_,fun k hk hF=>?_⟩
   ·rintro⟨id2,o2,e2,_,e3⟩
    rw[hL1']at e3
    exact nb e3
   ·rcases g3.fnew _ _ hF with h|h|h
    ·exact(zaB b hv).1 k hk h
    ·omega
    ·exact nb (ok' _ _ h).1
 ·obtain⟨o1,e1⟩:=some' _ _ e
  obtain⟨o2,e2⟩:=some' _ _ e'
  exact hok.inj _ _ _ _ e1 e2 v1 v2 eb
 ·refine⟨fun _ h=>h,fun _ _=>rfl,g3.f,g3.size,fun b hb nb=>g3.keep b hb fun hb'=>nb (bk b hb'),fun b k hb no=>g3.keepc b k hb fun hb'=>no (own b k hb'),g3.shape,fun b k hb=>?_,fun b k hb=>?_,g3.os,g3.tape,g3.output,g3.drawn⟩
  ·rcases g3.fnew b k hb with h|h|h
   ·exact .inl h
   ·exact .inr (.inl h)
   ·exact .inr (.inr (own b k h))
  ·obtain⟨id,o,e1,e2,e3,e4⟩:=hb
   obtain⟨o',e1'⟩:=some' _ _ e1
   exact .inr ⟨id,o',e1',e2,e3,e4⟩
end
end Go.Abs
namespace Go.Abs
open Go
def zlS (te:TI)(n:Nat):List D:=(List.range (n*te.size)).map fun j=>te.zero.getD (j % te.size) .junk
theorem zxc {te:TI}{n:Nat}:(zlS te n).length=n*te.size:=by simp[zlS]
section
variable {P:Program} {w:World} {t u ty e:TypeId} {i:TypeInfo} {z:Value} {kk:IntKind}
end
section
variable {P:Program} {G:Nat→List FD} {w:World} {L:Loc} {F:Nat→Nat→Prop} {U:Id→Prop} {H:zax}
theorem zu2 {i:TypeInfo}{z:Value}(hz:z.cells.size=i.size){te:TI}(h0:te.zero=z.cells.toList.map zjv)(h1:te.size=i.size){n j:Nat}(hj:j<n*i.size):
  zak w L F U ((zlS te n).getD j .junk) (z.cells[j % z.cells.size]!):=by
 have hp:0<i.size:=Nat.pos_of_ne_zero fun e=>by rw[e]at hj;simp at hj
 have hm:j % i.size<z.cells.toList.length:=by rw[Array.length_toList,hz];exact Nat.mod_lt _ hp
 have e:(zlS te n).getD j .junk=zjv (z.cells[j % z.cells.size]!):=by
  unfold zlS
  rw[List.getD_eq_getElem?_getD,List.getElem?_map,List.getElem?_range (by rw[h1];exact hj)]
  simp only[Option.map_some,Option.getD_some]
  rw[h0,h1,List.getD_eq_getElem?_getD,List.getElem?_map,List.getElem?_eq_getElem hm,hz]
  simp only[Option.map_some,Option.getD_some]
  congr 1
  rw[Array.length_toList]at hm
  simp[hm]
 rw[e]
 exact zlT _
theorem zu0 {i:TypeInfo}{z:Value}(hz:z.cells.size=i.size){n:Nat}:Builtin.zeroCells z.cells n=((List.range (n*i.size)).map fun j=>z.cells[j % z.cells.size]!).toArray:=by
 unfold Builtin.zeroCells
 rw[hz]
 apply Array.ext'
 simp
end
end Go.Abs
namespace Go.Abs
open Go
section
variable {P:Program} {G:Nat→List FD} {T:Tbl} {N tag0:Nat} {am:Nat→Bool} {st:St} {a:Act} {w:World} {L:Loc} {F:Nat→Nat→Prop} {K:St→Prop} {ops:Array Oper}
def zI9 (P:Program)(G:Nat→List FD)(N tag:Nat)(t u:TypeId)(x y:Operand)(d:Nat)(K:St→Prop)(st:St):Prop:=
  ∃te kk m,zaA P t=some te∧P.underlying u=some (.int kk)∧d<N∧st.ev G y= .fz (.i .i64 m)∧0≤m∧
    ((∃id xs ys o,st.ev G x= .ow id te.size xs∧ys.length=m.toNat∧zaf ys=zlS te m.toNat∧st.H id=some o∧zbC xs te.size∧zbC ys te.size∧(zaf ys).all zcp=true∧fits (xs.length+m.toNat) te.bytes∧
        K ({st with H:=zaM st.H id none}.new (tag,st.n) tok (some d) (.ow (tag,st.n) te.size (xs++ys))))∨
     (∃id s len o,st.ev G x= .arr id te.size s len∧st.H id=some o∧s+len*te.size≤o.cells.length∧(zlS te m.toNat).all zcp=true∧0<te.size∧fits (len+m.toNat) te.bytes∧
        K ({st with H:=zaM st.H id none}.new (tag,st.n) ⟨(o.cells.drop s).take (len*te.size)++zlS te m.toNat,false,o.virt&&((o.cells.drop s).take (len*te.size)++zlS te m.toNat).isEmpty⟩ (some d) (.arr (tag,st.n) te.size 0 (len+m.toNat)))))
def zse (P:Program)(G:Nat→List FD)(N tag:Nat)(t u:TypeId)(x y:Operand)(d:Nat)(st:St)[k:Kn St]:Prop:=zI9 P G N tag t u x y d k.run st
theorem zse.ow {t u x y d tag te kk m id xs}{kc:St→Prop}(ys:List FD)(hte:zaA P t=some te)(hu:P.underlying u=some (.int kk))(hd:d<N)(hx:st.ev G x= .ow id te.size xs)(hy:st.ev G y= .fz (.i .i64 m))(h0:0≤m)
  {o:O}(hl:ys.length=m.toNat)(hz:zaf ys=zlS te m.toNat)(ho:st.H id=some o)(h2:zbC xs te.size)(h3:zbC ys te.size)(h4:(zaf ys).all zcp=true)(h5:fits (xs.length+m.toNat) te.bytes)
  (h:kc ({st with H:=zaM st.H id none}.new (tag,st.n) tok (some d) (.ow (tag,st.n) te.size (xs++ys)))):@zse P G N tag t u x y d st ⟨kc⟩:=
 ⟨te,kk,m,hte,hu,hd,hy,h0,.inl ⟨id,xs,ys,o,hx,hl,hz,ho,h2,h3,h4,h5,h⟩⟩
theorem zse.arr {t u x y d tag te kk m id s len}{kc:St→Prop}(hte:zaA P t=some te)(hu:P.underlying u=some (.int kk))(hd:d<N)(hx:st.ev G x= .arr id te.size s len)(hy:st.ev G y= .fz (.i .i64 m))(h0:0≤m)
  {o:O}(ho:st.H id=some o)(h1:s+len*te.size≤o.cells.length)(h2:(zlS te m.toNat).all zcp=true)(h3:0<te.size)(h5:fits (len+m.toNat) te.bytes)
  (h:kc ({st with H:=zaM st.H id none}.new (tag,st.n) ⟨(o.cells.drop s).take (len*te.size)++zlS te m.toNat,false,o.virt&&((o.cells.drop s).take (len*te.size)++zlS te m.toNat).isEmpty⟩ (some d) (.arr (tag,st.n) te.size 0 (len+m.toNat)))):@zse P G N tag t u x y d st ⟨kc⟩:=
 ⟨te,kk,m,hte,hu,hd,hy,h0,.inr ⟨id,s,len,o,hx,ho,h1,h2,h3,h5,h⟩⟩
end
attribute [irreducible] zse
end Go.Abs
namespace Go.Abs
open Go
mutual
def fzD (id:Id)(xs:List FD):D→D
 | .arr i es s len=>if i=id∧es=1∧s=0∧len=xs.length then .fz (.sl xs)else .arr i es s len
 | .agg ds=> .agg (zth id xs ds)
 | .ptr i k=> .ptr i k
 | .fn f caps=> .fn f caps
 | .tup ds=> .tup ds
 | .junk=> .junk
 | .fz x=> .fz x
 | .full xs=> .full xs
 | .rp xs=> .rp xs
 | .ow i es xs=> .ow i es xs
def zth (id:Id)(xs:List FD):List D→List D
 |[]=>[]
 |d::ds=>fzD id xs d::zth id xs ds
end
theorem zk3 (id:Id)(xs:List FD):∀l:List D,zth id xs l=l.map (fzD id xs)
 |[]=>rfl
 |d::l=>by rw[zth,zk3 id xs l];rfl
section
variable {w:World} {L:Loc} {F F':Nat→Nat→Prop} {U:Id→Prop} {id:Id} {xs:List FD}
theorem zge (hF:∀b k,F b k→F' b k):Ext w L F U w L F' U:=⟨fun _ h=>h,fun _ _=>rfl,hF,fun _ _ _=>rfl,Nat.le_refl _,fun _ cs T fr _ h=>⟨cs,T,fr,h,Nat.le_refl _⟩⟩
mutual
theorem zak.fzd (hF:∀b k,F b k→F' b k)(hp:∀v,zak w L F U (.arr id 1 0 xs.length) v→za8 w F' v (.sl xs)):
  ∀(d:D) (v:Value),zak w L F U d v→zak w L F' U (fzD id xs d) v
 | .arr i es s len,v,h=>by
  rw[fzD]
  split
  ·rename_i e
   obtain⟨rfl,rfl,rfl,rfl⟩:=e
   simp only[zak]
   exact hp v h
  ·exact zak.ext (zge hF) (.arr i es s len) v h
 | .agg ds,v,h=>by
  rw[fzD]
  simp only[zak]at h ⊢
  obtain⟨vs,h1,h2⟩:=h
  exact⟨vs,h1,zao.fzd hF hp _ _ h2⟩
 | .ptr i k,v,h=>zak.ext (zge hF) (.ptr i k) v h
 | .fn f caps,v,h=>zak.ext (zge hF) (.fn f caps) v h
 | .tup ds,v,h=>zak.ext (zge hF) (.tup ds) v h
 | .junk,v,h=>by rw[fzD];simp only[zak]
 | .fz x,v,h=>zak.ext (zge hF) (.fz x) v h
 | .full xs,v,h=>zak.ext (zge hF) (.full xs) v h
 | .rp xs,v,h=>zak.ext (zge hF) (.rp xs) v h
 | .ow i es xs,v,h=>zak.ext (zge hF) (.ow i es xs) v h
theorem zao.fzd (hF:∀b k,F b k→F' b k)(hp:∀v,zak w L F U (.arr id 1 0 xs.length) v→za8 w F' v (.sl xs)):
  ∀(ds:List D) (vs:List Value),zao w L F U ds vs→zao w L F' U (zth id xs ds) vs
 |[],[],_=>by rw[zth];simp only[zao]
 |d::ds,v::vs,h=>by
  rw[zth]
  simp only[zao]at h ⊢
  exact⟨zak.fzd hF hp d v h.1,zao.fzd hF hp ds vs h.2⟩
 |[],_::_,h=>by simp only[zao]at h
 |_::_,[],h=>by simp only[zao]at h
end
end
theorem znL:∀{ds:List D} {xs:List FD},D.toFDs ds=some xs→ds.length=xs.length∧∀j,j<xs.length→(ds.getD j .junk).toFD=some (xs.getD j .nilf)
 |[],xs,h=>by
  simp only[D.toFDs,Option.some.injEq]at h
  subst h
  exact⟨rfl,fun j hj=>by simp at hj⟩
 |d::ds,xs,h=>by
  rw[D.toFDs]at h
  split at h
  ·rename_i x ys h1 h2
   simp only[Option.some.injEq]at h
   subst h
   obtain⟨g1,g2⟩:=znL h2
   refine⟨by simp[g1],fun j hj=>?_⟩
   cases j with
   |zero=>simpa using h1
   |succ j=>simpa using g2 j (by simpa using hj)
  ·cases h
section
variable {P:Program} {G:Nat→List FD} {N:Nat} {st:St}
theorem zvl {id:Id}{xs:List FD}{o:O}(ho:st.H id=some o)(_hv:o.virt=true→xs=[])(hc:D.toFDs o.cells=some xs)(h1:∀x∈xs,x.cells=[x]):zd2 G N st ⟨fun t=>fzD id xs (st.fr t),zaM st.H id none,st.n⟩:=by
 intro a w L F h
 obtain⟨hu,hob⟩:=h.ok.live id _ ho
 obtain⟨hlc,hgc⟩:=znL hc
 obtain⟨F',hF'⟩:∃F':Nat→Nat→Prop,F'=fun b k=>F b k∨((L id).3=false∧b=(L id).1∧(L id).2≤k):=⟨_,rfl⟩
 have hsub:∀b k,F b k→F' b k:=fun b k h=>by rw[hF'];exact .inl h
 have e:Ext w L F (Ub st.n) w L F' (Ub st.n):=zge hsub
 have hold:∀id' o',zaM st.H id none id'=some o'→id'≠id∧st.H id'=some o':=fun id' o' h=>by
  unfold zaM at h
  split at h
  ·cases h
  ·rename_i hne;exact⟨hne,h⟩
 have hfz:∀v,zak w L F (Ub st.n) (.arr id 1 0 xs.length) v→za8 w F' v (.sl xs):=fun v hv'=>by
  simp only[zak]at hv'
  obtain⟨_,a',cap,rfl,g1,g2,g3⟩:=hv'
  refine za8.sl_mk g1 g2 fun hpos=>?_
  rcases g3 with g3|⟨rfl,hL3,hlt,_⟩
  ·omega
  ·obtain⟨hnF,cs,T,hcs,hsz,hcell⟩:=zaB hob hL3
   have hL:zbC xs 1:=fun x hx=>by rw[h1 x hx];rfl
   refine⟨(L id).1,(L id).2+0,1,fun i j=>cs.getD ((L id).2+(i*1+j)) undef,rfl,fun k _=>by rw[hF'];exact .inr ⟨hL3,rfl,by omega⟩,zbm hL,fun i j hi hj=>?_,fun i j hi hj=>?_⟩
   ·obtain⟨u,hu1,_⟩:=hcell (i*1+j) (by omega)
    have he:cs.getD ((L id).2+(i*1+j)) undef=u:=by rw[Array.getD_eq_getD_getElem?,hu1];rfl
    rw[zft hcs,show(L id).2+0+i*1+j=(L id).2+(i*1+j) by omega,hu1]
    exact congrArg some he.symm
   ·obtain rfl:j=0:=by omega
    obtain⟨u,hu1,hu2⟩:=hcell (i*1+0) (by omega)
    have hx:=zak.toFD _ _ _ hu2 (by rw[show i*1+0=i by omega];exact hgc i hi)
    have he:cs.getD ((L id).2+(i*1+0)) undef=u:=by rw[Array.getD_eq_getD_getElem?,hu1];rfl
    have hm:xs.getD i .nilf∈xs:=by rw[List.getD_eq_getElem?_getD,List.getElem?_eq_getElem hi];exact List.getElem_mem hi
    simp only
    rw[he,h1 _ hm]
    exact hx.mono (fun _ _ _=>rfl) hsub
 refine⟨L,F',⟨⟨fun b k hb=>?_,fun id' o' h1=>?_,fun i1 i2 o1 o2 h1 h2=>h.ok.inj i1 i2 o1 o2 (hold _ _ h1).2 (hold _ _ h2).2,zce hsub (fun _ _ _=>rfl) h.ok.glob⟩,h.size,fun s=>zak.fzd hsub hfz _ _ (h.fr s),h.nd⟩,
  fun _ h=>h,fun _ _=>rfl,hsub,Nat.le_refl _,fun _ _ _=>rfl,fun _ _ _ _=>rfl,fun b cs T fr _ h=>⟨cs,T,fr,h,Nat.le_refl _⟩,fun b k hb=>?_,fun b k hb=>?_,rfl,rfl,rfl,Nat.le_refl _⟩
 ·rw[hF']at hb
  rcases hb with hb|⟨h3,rfl,_⟩
  ·exact h.ok.fb b k hb
  ·exact h.ok.blk_lt ho h3
 ·obtain⟨hne,h2⟩:=hold _ _ h1
  obtain⟨h3,h4⟩:=h.ok.live id' o' h2
  refine⟨h3,h4.ext e h3 fun hv=>⟨rfl,fun k hk hb=>?_⟩⟩
  rw[hF']at hb
  rcases hb with hb|⟨hv3,hb,_⟩
  ·exact(zaB h4 hv).1 k hk hb
  ·exact hne (h.ok.inj id' id _ _ h2 ho hv hv3 hb)
 ·rw[hF']at hb
  rcases hb with hb|⟨hv3,rfl,hk⟩
  ·exact .inl hb
  ·exact .inr (.inr ⟨id,_,ho,hv3,rfl,hk⟩)
 ·obtain⟨id',o',h1,h2,h3,h4⟩:=hb
  exact .inr ⟨id',o',(hold _ _ h1).2,h2,h3,h4⟩
theorem zlY {f:FuncId}{args args':List D}{H:zax}{n:Nat}{R:D→zax→Nat→Prop}(id:Id)(xs:List FD){o:O}(ho:H id=some o)(hv:o.virt=true→xs=[])(hc:D.toFDs o.cells=some xs)(h1:∀x∈xs,x.cells=[x])(ha:zth id xs args=args')
  (h:zaH P G f args' (zaM H id none) n R):zaH P G f args H n R:=by
 subst ha
 refine zd1 (by rw[zk3,List.length_map]) ?_ h
 have e:(fun t=>fzD id xs (frL (zgJ 0 args) t))=frL (zgJ 0 (zth id xs args)):=by
  funext t
  rw[←zdH,←zdH]
  simp only[zkG]
  rw[zk3,List.getD_eq_getElem?_getD,List.getD_eq_getElem?_getD,List.getElem?_map]
  cases args[t]?<;>rfl
 rw[←e]
 exact zvl (st:=⟨frL (zgJ 0 args),H,n⟩) ho hv hc h1
end
section
attribute [local semireducible] BiK obK zaq zh3 zaW VvK XOK zkA zjz zh7 zh8 zqA zf2 zeu XCK zqN zxS zf3 zx4 zaQ WK zm0 XEK
theorem zvk {P:Program}{G:Nat→List FD}{T:Tbl}(hm:P.follows .mixedOrders=true)(hT:zan P G T){f:FuncId}{fn:Func}{c:Code}{args:List D}{H:zax}{n:Nat}{R:D→zax→Nat→Prop}(tag0:Nat)(am:Nat→Bool)(hcall:zap P f)(hf:P.funcs[f]?=some fn)(hb:fn.body=some c){N:Nat}(hN:fn.ntmps=N)(hl:args.length≤N)
  (hd:zbN am T c=true)(h:@XEK P G T N tag0 am c ⟨frL (zgJ 0 args),H,n⟩ ⟨fun e st=>@zx4 P fn e st ⟨R⟩⟩):zaH P G f args H n R:=
 zh5 hcall hf hb hN hl (by rw[zdH];exact zn7 hm hT _ _ _ hd h)
end
end Go.Abs
