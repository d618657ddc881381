/- several texts of this proof in one; no conditions -/
import Derived.Test.YtkkffhphodngkaaDoorY7
set_option linter.unusedSimpArgs false
namespace Go.Abs
open Go
section
variable {P:Program} {G:Nat→List FD}
theorem zxN {f:FuncId}{T:Nat}{sid:Id}{ds:List D}{xs cs cs':List FD}{r:D}{H:zau}{n:Nat}{R:D→zau→Nat→Prop}(ha:D.toFDs ds=some xs)
  (h:zay P G f (.ptr (T,0) 0::xs.map .fz) (hpL [((T,0),some ⟨cs.map .fz,true,false⟩)]) 1 (fun d H' _=>D.val d=some r∧H' (T,0)=some ⟨cs'.map .fz,true,false⟩))
  (ho:H sid=some ⟨cs.map .fz,true,false⟩)(hR:R r (zaG H sid (some ⟨cs'.map .fz,true,false⟩)) n):zay P G f (.ptr sid 0::ds) H n R:=by
 refine⟨h.1,fun w L F vs hok hvs=>?_⟩
 obtain⟨hUs,hrs⟩:=hok.live sid _ ho
 have hv3:(L sid).3=false:=by
  cases hv:(L sid).3
  ·rfl
  ·unfold zbi at hrs
   rw[hv]at hrs
   simp only[if_true]at hrs
   exact absurd hrs.2 (by decide)
 obtain⟨r1,cs0,T0,r2,r3,r4⟩:=zar hrs hv3
 obtain⟨L1,hL1⟩:∃L1:Loc,L1=fun _=>L sid:=⟨_,rfl⟩
 have hL1':∀id,L1 id=L sid:=fun id=>by rw[hL1]
 obtain⟨K,hK⟩:∃K:zau,K=hpL [((T,0),some ⟨cs.map .fz,true,false⟩)]:=⟨_,rfl⟩
 have hKs:∀id o,K id=some o→id=(T,0)∧o=⟨cs.map .fz,true,false⟩:=fun id o e=>by
  rw[hK]at e
  simp only[hpL]at e
  split at e
  ·rename_i e1
   exact⟨e1,(Option.some.inj e).symm⟩
  ·cases e
 have hK0:K (T,0)=some ⟨cs.map .fz,true,false⟩:=by rw[hK];simp[hpL]
 have hfzs:∀(zs:List FD) (j:Nat) (L2:Loc) (F2:Nat→Nat→Prop) (U2 U3:Id→Prop) (L3:Loc) (w2:World) (v:Value),zaj w2 L2 F2 U2 ((zs.map D.fz).getD j .junk) v→zaj w2 L3 F2 U3 ((zs.map D.fz).getD j .junk) v:=fun zs j L2 F2 U2 U3 L3 w2 v hv=>by
  rcases Nat.lt_or_ge j zs.length with hj|hj
  ·have e:(zs.map D.fz).getD j .junk= .fz zs[j]:=by simp[List.getD_eq_getElem?_getD,hj]
   rw[e]at hv ⊢
   simpa only[zaj]using hv
  ·have e:(zs.map D.fz).getD j .junk= .junk:=by simp[List.getD_eq_getElem?_getD,hj]
   rw[e];simp[zaj]
 have hok1:OkW G w L1 F (Ub 1) K:=by
  refine⟨hok.fb,fun id o e=>?_,fun id id' o o' e e' _ _ _=>?_,hok.glob⟩
  ·obtain⟨rfl,rfl⟩:=hKs id o e
   refine⟨by unfold Ub;simp,?_⟩
   unfold zbi
   rw[hL1',hv3]
   simp only[Bool.false_eq_true,if_false]
   exact⟨r1,cs0,T0,r2,r3,fun j hj=>let⟨v,a,b⟩:=r4 j hj;⟨v,a,hfzs _ _ _ _ _ _ _ _ _ b⟩⟩
  ·rw[(hKs id o e).1,(hKs id' o' e').1]
 rw[←hK]at h
 have hvs1:zak w L1 F (Ub 1) (.ptr (T,0) 0::xs.map .fz) vs:=by
  cases vs with
  |nil=>simp[zak]at hvs
  |cons v vs=>
   simp only[zak]at hvs ⊢
   refine⟨?_,hvs.2.of_toFDs ha⟩
   have h1:=hvs.1
   simp only[zaj]at h1 ⊢
   rw[hL1']
   exact⟨by unfold Ub;simp,h1.2⟩
 refine(h.2 w L1 F vs hok1 hvs1).mono fun e w' he=>?_
 obtain⟨v,d1,H1,n1,L2,F2,rfl,⟨hQ1,hQ2⟩,g1,g2,g3⟩:=he
 have hL2:L2 (T,0)=L sid:=(g3.l (T,0) (by unfold Ub;simp)).trans (hL1' _)
 have bk:∀b,Blk K L1 b→Blk H L b:=by
  rintro b ⟨id,o,e1,_,e3⟩
  obtain⟨rfl,_⟩:=hKs id o e1
  rw[hL1']at e3
  exact⟨sid,_,ho,hv3,e3⟩
 have ok':∀b k,Own K L1 b k→(L sid).1=b∧(L sid).2≤k:=by
  rintro b k ⟨id,o,e1,_,e3,e4⟩
  rw[hL1']at e3 e4
  exact⟨e3,e4⟩
 have own:∀b k,Own K L1 b k→Own H L b k:=fun b k hb=>let⟨e1,e2⟩:=ok' b k hb;⟨sid,_,ho,hv3,e1,e2⟩
 have ext:Ext w L F (Ub n) w' L F2 (Ub n):=⟨fun _ h=>h,fun _ _=>rfl,g3.f,fun b k hb=>g3.keepc b k (hok.fb b k hb) (fun hb'=>hok.not_own hb (own _ _ hb')),g3.size,g3.shape⟩
 have cas:∀id o,zaG H sid (some ⟨cs'.map .fz,true,false⟩) id=some o→(id=sid∧o=⟨cs'.map .fz,true,false⟩)∨(id≠sid∧H id=some o):=fun id o e=>by
  unfold zaG at e
  split at e
  ·rename_i e1;exact .inl ⟨e1,(Option.some.inj e).symm⟩
  ·rename_i e1;exact .inr ⟨e1,e⟩
 have some':∀id o,zaG H sid (some ⟨cs'.map .fz,true,false⟩) id=some o→∃o',H id=some o':=fun id o e=>by
  rcases cas id o e with⟨rfl,_⟩|⟨_,e1⟩
  ·exact⟨_,ho⟩
  ·exact⟨_,e1⟩
 refine⟨v,r,_,n,L,F2,rfl,hR,⟨g1.fb,fun id o e=>?_,fun id id' o o' e e' v1 v2 eb=>?_,g1.glob⟩,g2.val hQ1,?_⟩
 ·rcases cas id o e with⟨rfl,rfl⟩|⟨hne,e1⟩
  ·refine⟨hUs,?_⟩
   have hl:=(g1.live _ _ hQ2).2
   unfold zbi at hl ⊢
   rw[hL2]at hl
   rw[hv3]at hl ⊢
   simp only[Bool.false_eq_true,if_false]at hl ⊢
   obtain⟨a1,cs1,T1,a2,a3,a4⟩:=hl
   exact⟨a1,cs1,T1,a2,a3,fun j hj=>let⟨v,a,b⟩:=a4 j hj;⟨v,a,hfzs _ _ _ _ _ _ _ _ _ b⟩⟩
  ·obtain⟨a,b⟩:=hok.live id o e1
   refine⟨a,b.ext ext a fun hv=>?_⟩
   have hlt:=hok.blk_lt e1 hv
   have nb:¬(L sid).1=(L id).1:=fun eq=>hne (hok.inj id sid _ _ e1 ho hv hv3 eq.symm)
   refine⟨g3.keep _ hlt ?_,fun k hk hF=>?_⟩
   ·rintro⟨id2,o2,e2,_,e3⟩
    rw[hL1']at e3
    exact nb e3
   ·rcases g3.fnew _ _ hF with h|h|h
    ·exact(zar b hv).1 k hk h
    ·omega
    ·exact nb (ok' _ _ h).1
 ·obtain⟨o1,e1⟩:=some' _ _ e
  obtain⟨o2,e2⟩:=some' _ _ e'
  exact hok.inj _ _ _ _ e1 e2 v1 v2 eb
 ·refine⟨fun _ h=>h,fun _ _=>rfl,g3.f,g3.size,fun b hb nb=>g3.keep b hb fun hb'=>nb (bk b hb'),fun b k hb no=>g3.keepc b k hb fun hb'=>no (own b k hb'),g3.shape,fun b k hb=>?_,fun b k hb=>?_,g3.os,g3.tape,g3.output,g3.drawn⟩
  ·rcases g3.fnew b k hb with h|h|h
   ·exact .inl h
   ·exact .inr (.inl h)
   ·exact .inr (.inr (own b k h))
  ·obtain⟨id,o,e1,e2,e3,e4⟩:=hb
   obtain⟨o',e1'⟩:=some' _ _ e1
   exact .inr ⟨id,o',e1',e2,e3,e4⟩
end
end Go.Abs
namespace Go.Abs
open Go
def zv0 (te:TI)(n:Nat):List D:=(List.range (n*te.size)).map fun j=>te.zero.getD (j % te.size) .junk
section
variable {P:Program} {w:World} {t u ty e:TypeId} {i:TypeInfo} {z:Value} {kk:IntKind}
end
section
variable {P:Program} {G:Nat→List FD} {w:World} {L:Loc} {F:Nat→Nat→Prop} {U:Id→Prop} {H:zau}
end
end Go.Abs
namespace Go.Abs
open Go
section
variable {P:Program} {G:Nat→List FD} {T:Tbl} {N tag0:Nat} {am:Nat→Bool} {st:St} {a:Act} {w:World} {L:Loc} {F:Nat→Nat→Prop} {K:St→Prop} {ops:Array Oper}
def zGH (P:Program)(G:Nat→List FD)(N tag:Nat)(t u:TypeId)(x y:Operand)(d:Nat)(K:St→Prop)(st:St):Prop:=
  ∃te kk m,zaw P t=some te∧P.underlying u=some (.int kk)∧d<N∧st.ev G y= .fz (.i .i64 m)∧0≤m∧
    ((∃id xs ys o,st.ev G x= .ow id te.size xs∧ys.length=m.toNat∧zae ys=zv0 te m.toNat∧st.H id=some o∧zbs xs te.size∧zbs ys te.size∧(zae ys).all zcx=true∧fits (xs.length+m.toNat) te.bytes∧
        K ({st with H:=zaG st.H id none}.new (tag,st.n) tok (some d) (.ow (tag,st.n) te.size (xs++ys))))∨
     (∃id s len o,st.ev G x= .arr id te.size s len∧st.H id=some o∧s+len*te.size≤o.cells.length∧(zv0 te m.toNat).all zcx=true∧0<te.size∧fits (len+m.toNat) te.bytes∧
        K ({st with H:=zaG st.H id none}.new (tag,st.n) ⟨(o.cells.drop s).take (len*te.size)++zv0 te m.toNat,false,o.virt&&((o.cells.drop s).take (len*te.size)++zv0 te m.toNat).isEmpty⟩ (some d) (.arr (tag,st.n) te.size 0 (len+m.toNat)))))
def zqR (P:Program)(G:Nat→List FD)(N tag:Nat)(t u:TypeId)(x y:Operand)(d:Nat)(st:St)[k:Kn St]:Prop:=zGH P G N tag t u x y d k.run st
theorem zqR.ow {t u x y d tag te kk m id xs}{kc:St→Prop}(ys:List FD)(hte:zaw P t=some te)(hu:P.underlying u=some (.int kk))(hd:d<N)(hx:st.ev G x= .ow id te.size xs)(hy:st.ev G y= .fz (.i .i64 m))(h0:0≤m)
  {o:O}(hl:ys.length=m.toNat)(hz:zae ys=zv0 te m.toNat)(ho:st.H id=some o)(h2:zbs xs te.size)(h3:zbs ys te.size)(h4:(zae ys).all zcx=true)(h5:fits (xs.length+m.toNat) te.bytes)
  (h:kc ({st with H:=zaG st.H id none}.new (tag,st.n) tok (some d) (.ow (tag,st.n) te.size (xs++ys)))):@zqR P G N tag t u x y d st ⟨kc⟩:=
 ⟨te,kk,m,hte,hu,hd,hy,h0,.inl ⟨id,xs,ys,o,hx,hl,hz,ho,h2,h3,h4,h5,h⟩⟩
theorem zqR.arr {t u x y d tag te kk m id s len}{kc:St→Prop}(hte:zaw P t=some te)(hu:P.underlying u=some (.int kk))(hd:d<N)(hx:st.ev G x= .arr id te.size s len)(hy:st.ev G y= .fz (.i .i64 m))(h0:0≤m)
  {o:O}(ho:st.H id=some o)(h1:s+len*te.size≤o.cells.length)(h2:(zv0 te m.toNat).all zcx=true)(h3:0<te.size)(h5:fits (len+m.toNat) te.bytes)
  (h:kc ({st with H:=zaG st.H id none}.new (tag,st.n) ⟨(o.cells.drop s).take (len*te.size)++zv0 te m.toNat,false,o.virt&&((o.cells.drop s).take (len*te.size)++zv0 te m.toNat).isEmpty⟩ (some d) (.arr (tag,st.n) te.size 0 (len+m.toNat)))):@zqR P G N tag t u x y d st ⟨kc⟩:=
 ⟨te,kk,m,hte,hu,hd,hy,h0,.inr ⟨id,s,len,o,hx,ho,h1,h2,h3,h5,h⟩⟩
end
attribute [irreducible] zqR
end Go.Abs
namespace Go.Abs
open Go
mutual
def fzD (id:Id)(xs:List FD):D→D
 | .arr i es s len=>if i=id∧es=1∧s=0∧len=xs.length then .fz (.sl xs)else .arr i es s len
 | .agg ds=> .agg (zzj id xs ds)
 | .ptr i k=> .ptr i k
 | .fn f caps=> .fn f caps
 | .tup ds=> .tup ds
 | .junk=> .junk
 | .fz x=> .fz x
 | .full xs=> .full xs
 | .rp xs=> .rp xs
 | .ow i es xs=> .ow i es xs
def zzj (id:Id)(xs:List FD):List D→List D
 |[]=>[]
 |d::ds=>fzD id xs d::zzj id xs ds
end
section
variable {w:World} {L:Loc} {F F':Nat→Nat→Prop} {U:Id→Prop} {id:Id} {xs:List FD}
theorem zgX (hF:∀b k,F b k→F' b k):Ext w L F U w L F' U:=⟨fun _ h=>h,fun _ _=>rfl,hF,fun _ _ _=>rfl,Nat.le_refl _,fun _ cs T fr _ h=>⟨cs,T,fr,h,Nat.le_refl _⟩⟩
mutual
theorem zaj.fzd (hF:∀b k,F b k→F' b k)(hp:∀v,zaj w L F U (.arr id 1 0 xs.length) v→zbh w F' v (.sl xs)):
  ∀(d:D) (v:Value),zaj w L F U d v→zaj w L F' U (fzD id xs d) v
 | .arr i es s len,v,h=>by
  rw[fzD]
  split
  ·rename_i e
   obtain⟨rfl,rfl,rfl,rfl⟩:=e
   simp only[zaj]
   exact hp v h
  ·exact zaj.ext (zgX hF) (.arr i es s len) v h
 | .agg ds,v,h=>by
  rw[fzD]
  simp only[zaj]at h ⊢
  obtain⟨vs,h1,h2⟩:=h
  exact⟨vs,h1,zak.fzd hF hp _ _ h2⟩
 | .ptr i k,v,h=>zaj.ext (zgX hF) (.ptr i k) v h
 | .fn f caps,v,h=>zaj.ext (zgX hF) (.fn f caps) v h
 | .tup ds,v,h=>zaj.ext (zgX hF) (.tup ds) v h
 | .junk,v,h=>by rw[fzD];simp only[zaj]
 | .fz x,v,h=>zaj.ext (zgX hF) (.fz x) v h
 | .full xs,v,h=>zaj.ext (zgX hF) (.full xs) v h
 | .rp xs,v,h=>zaj.ext (zgX hF) (.rp xs) v h
 | .ow i es xs,v,h=>zaj.ext (zgX hF) (.ow i es xs) v h
theorem zak.fzd (hF:∀b k,F b k→F' b k)(hp:∀v,zaj w L F U (.arr id 1 0 xs.length) v→zbh w F' v (.sl xs)):
  ∀(ds:List D) (vs:List Value),zak w L F U ds vs→zak w L F' U (zzj id xs ds) vs
 |[],[],_=>by rw[zzj];simp only[zak]
 |d::ds,v::vs,h=>by
  rw[zzj]
  simp only[zak]at h ⊢
  exact⟨zaj.fzd hF hp d v h.1,zak.fzd hF hp ds vs h.2⟩
 |[],_::_,h=>by simp only[zak]at h
 |_::_,[],h=>by simp only[zak]at h
end
end
section
variable {P:Program} {G:Nat→List FD} {N:Nat} {st:St}
end
section
attribute [local semireducible] BiK obK zaB zhD za0 VvK XOK zjK zi4 zhH zhI zpn zfA ziH XCK zpz zvS zfC zxM zas WK znr XEK
end
end Go.Abs
namespace Go.Abs
open Go
section
variable {P:Program} {G:Nat→List FD}
theorem zak.lastp {w:World}{L L':Loc}{F:Nat→Nat→Prop}{U U':Id→Prop}{p p':D}(hp:∀v,zaj w L F U p v→zaj w L' F U' p' v):∀{xs:List FD} {ds:List D} {vs:List Value},D.toFDs ds=some xs→zak w L F U (ds++[p]) vs→zak w L' F U' (xs.map .fz++[p']) vs:=by
 intro xs ds vs h hv
 have key:∀(ds:List D) (vs:List Value),zak w L F U (ds++[p]) vs→∃us v,vs=us++[v]∧zak w L F U ds us∧zaj w L F U p v:=by
  intro ds
  induction ds with
  |nil=>
   intro vs hv
   match vs,hv with
   |[v],hv=>exact⟨[],v,rfl,by simp[zak],by simp only[List.nil_append,zak]at hv;exact hv.1⟩
   |[],hv=>simp[zak]at hv
   |_::_::_,hv=>simp[zak]at hv
  |cons d ds ih=>
   intro vs hv
   match vs,hv with
   |[],hv=>simp[zak]at hv
   |v::vs,hv=>
    rw[List.cons_append,zak]at hv
    obtain⟨us,u,rfl,h1,h2⟩:=ih vs hv.2
    exact⟨v::us,u,rfl,by rw[zak];exact⟨hv.1,h1⟩,h2⟩
 have back:∀(ds:List D) (us:List Value) (v:Value),zak w L' F U' ds us→zaj w L' F U' p' v→zak w L' F U' (ds++[p']) (us++[v]):=by
  intro ds
  induction ds with
  |nil=>
   intro us v h1 h2
   match us,h1 with
   |[],_=>simp only[List.nil_append,zak];exact⟨h2,trivial⟩
   |_::_,h1=>simp[zak]at h1
  |cons d ds ih=>
   intro us v h1 h2
   match us,h1 with
   |[],h1=>simp[zak]at h1
   |u::us,h1=>
    rw[zak]at h1
    rw[List.cons_append,List.cons_append,zak]
    exact⟨h1.1,ih us v h1.2 h2⟩
 obtain⟨us,v,rfl,h1,h2⟩:=key ds vs hv
 exact back _ us v (h1.of_toFDs h) (hp v h2)
theorem zhF {f:FuncId}{T:Nat}{sid:Id}{ds:List D}{xs cs cs':List FD}{r:D}{H:zau}{n:Nat}{R:D→zau→Nat→Prop}(ha:D.toFDs ds=some xs)
  (h:zay P G f (xs.map .fz++[.ptr (T,0) 0]) (hpL [((T,0),some ⟨cs.map .fz,true,false⟩)]) 1 (fun d H' _=>D.val d=some r∧H' (T,0)=some ⟨cs'.map .fz,true,false⟩))
  (ho:H sid=some ⟨cs.map .fz,true,false⟩)(hR:R r (zaG H sid (some ⟨cs'.map .fz,true,false⟩)) n):zay P G f (ds++[.ptr sid 0]) H n R:=by
 refine⟨h.1,fun w L F vs hok hvs=>?_⟩
 obtain⟨hUs,hrs⟩:=hok.live sid _ ho
 have hv3:(L sid).3=false:=by
  cases hv:(L sid).3
  ·rfl
  ·unfold zbi at hrs
   rw[hv]at hrs
   simp only[if_true]at hrs
   exact absurd hrs.2 (by decide)
 obtain⟨r1,cs0,T0,r2,r3,r4⟩:=zar hrs hv3
 obtain⟨L1,hL1⟩:∃L1:Loc,L1=fun _=>L sid:=⟨_,rfl⟩
 have hL1':∀id,L1 id=L sid:=fun id=>by rw[hL1]
 obtain⟨K,hK⟩:∃K:zau,K=hpL [((T,0),some ⟨cs.map .fz,true,false⟩)]:=⟨_,rfl⟩
 have hKs:∀id o,K id=some o→id=(T,0)∧o=⟨cs.map .fz,true,false⟩:=fun id o e=>by
  rw[hK]at e
  simp only[hpL]at e
  split at e
  ·rename_i e1
   exact⟨e1,(Option.some.inj e).symm⟩
  ·cases e
 have hK0:K (T,0)=some ⟨cs.map .fz,true,false⟩:=by rw[hK];simp[hpL]
 have hfzs:∀(zs:List FD) (j:Nat) (L2:Loc) (F2:Nat→Nat→Prop) (U2 U3:Id→Prop) (L3:Loc) (w2:World) (v:Value),zaj w2 L2 F2 U2 ((zs.map D.fz).getD j .junk) v→zaj w2 L3 F2 U3 ((zs.map D.fz).getD j .junk) v:=fun zs j L2 F2 U2 U3 L3 w2 v hv=>by
  rcases Nat.lt_or_ge j zs.length with hj|hj
  ·have e:(zs.map D.fz).getD j .junk= .fz zs[j]:=by simp[List.getD_eq_getElem?_getD,hj]
   rw[e]at hv ⊢
   simpa only[zaj]using hv
  ·have e:(zs.map D.fz).getD j .junk= .junk:=by simp[List.getD_eq_getElem?_getD,hj]
   rw[e];simp[zaj]
 have hok1:OkW G w L1 F (Ub 1) K:=by
  refine⟨hok.fb,fun id o e=>?_,fun id id' o o' e e' _ _ _=>?_,hok.glob⟩
  ·obtain⟨rfl,rfl⟩:=hKs id o e
   refine⟨by unfold Ub;simp,?_⟩
   unfold zbi
   rw[hL1',hv3]
   simp only[Bool.false_eq_true,if_false]
   exact⟨r1,cs0,T0,r2,r3,fun j hj=>let⟨v,a,b⟩:=r4 j hj;⟨v,a,hfzs _ _ _ _ _ _ _ _ _ b⟩⟩
  ·rw[(hKs id o e).1,(hKs id' o' e').1]
 rw[←hK]at h
 have hvs1:zak w L1 F (Ub 1) (xs.map .fz++[.ptr (T,0) 0]) vs:=zak.lastp (fun v h1=>by
  simp only[zaj]at h1 ⊢
  rw[hL1']
  exact⟨by unfold Ub;simp,h1.2⟩) ha hvs
 refine(h.2 w L1 F vs hok1 hvs1).mono fun e w' he=>?_
 obtain⟨v,d1,H1,n1,L2,F2,rfl,⟨hQ1,hQ2⟩,g1,g2,g3⟩:=he
 have hL2:L2 (T,0)=L sid:=(g3.l (T,0) (by unfold Ub;simp)).trans (hL1' _)
 have bk:∀b,Blk K L1 b→Blk H L b:=by
  rintro b ⟨id,o,e1,_,e3⟩
  obtain⟨rfl,_⟩:=hKs id o e1
  rw[hL1']at e3
  exact⟨sid,_,ho,hv3,e3⟩
 have ok':∀b k,Own K L1 b k→(L sid).1=b∧(L sid).2≤k:=by
  rintro b k ⟨id,o,e1,_,e3,e4⟩
  rw[hL1']at e3 e4
  exact⟨e3,e4⟩
 have own:∀b k,Own K L1 b k→Own H L b k:=fun b k hb=>let⟨e1,e2⟩:=ok' b k hb;⟨sid,_,ho,hv3,e1,e2⟩
 have ext:Ext w L F (Ub n) w' L F2 (Ub n):=⟨fun _ h=>h,fun _ _=>rfl,g3.f,fun b k hb=>g3.keepc b k (hok.fb b k hb) (fun hb'=>hok.not_own hb (own _ _ hb')),g3.size,g3.shape⟩
 have cas:∀id o,zaG H sid (some ⟨cs'.map .fz,true,false⟩) id=some o→(id=sid∧o=⟨cs'.map .fz,true,false⟩)∨(id≠sid∧H id=some o):=fun id o e=>by
  unfold zaG at e
  split at e
  ·rename_i e1;exact .inl ⟨e1,(Option.some.inj e).symm⟩
  ·rename_i e1;exact .inr ⟨e1,e⟩
 have some':∀id o,zaG H sid (some ⟨cs'.map .fz,true,false⟩) id=some o→∃o',H id=some o':=fun id o e=>by
  rcases cas id o e with⟨rfl,_⟩|⟨_,e1⟩
  ·exact⟨_,ho⟩
  ·exact⟨_,e1⟩
 refine⟨v,r,_,n,L,F2,rfl,hR,⟨g1.fb,fun id o e=>?_,fun id id' o o' e e' v1 v2 eb=>?_,g1.glob⟩,g2.val hQ1,?_⟩
 ·rcases cas id o e with⟨rfl,rfl⟩|⟨hne,e1⟩
  ·refine⟨hUs,?_⟩
   have hl:=(g1.live _ _ hQ2).2
   unfold zbi at hl ⊢
   rw[hL2]at hl
   rw[hv3]at hl ⊢
   simp only[Bool.false_eq_true,if_false]at hl ⊢
   obtain⟨a1,cs1,T1,a2,a3,a4⟩:=hl
   exact⟨a1,cs1,T1,a2,a3,fun j hj=>let⟨v,a,b⟩:=a4 j hj;⟨v,a,hfzs _ _ _ _ _ _ _ _ _ b⟩⟩
  ·obtain⟨a,b⟩:=hok.live id o e1
   refine⟨a,b.ext ext a fun hv=>?_⟩
   have hlt:=hok.blk_lt e1 hv
   have nb:¬(L sid).1=(L id).1:=fun eq=>hne (hok.inj id sid _ _ e1 ho hv hv3 eq.symm)
   refine⟨g3.keep _ hlt ?_,fun k hk hF=>?_⟩
   ·rintro⟨id2,o2,e2,_,e3⟩
    rw[hL1']at e3
    exact nb e3
   ·rcases g3.fnew _ _ hF with h|h|h
    ·exact(zar b hv).1 k hk h
    ·omega
    ·exact nb (ok' _ _ h).1
 ·obtain⟨o1,e1⟩:=some' _ _ e
  obtain⟨o2,e2⟩:=some' _ _ e'
  exact hok.inj _ _ _ _ e1 e2 v1 v2 eb
 ·refine⟨fun _ h=>h,fun _ _=>rfl,g3.f,g3.size,fun b hb nb=>g3.keep b hb fun hb'=>nb (bk b hb'),fun b k hb no=>g3.keepc b k hb fun hb'=>no (own b k hb'),g3.shape,fun b k hb=>?_,fun b k hb=>?_,g3.os,g3.tape,g3.output,g3.drawn⟩
  ·rcases g3.fnew b k hb with h|h|h
   ·exact .inl h
   ·exact .inr (.inl h)
   ·exact .inr (.inr (own b k h))
  ·obtain⟨id,o,e1,e2,e3,e4⟩:=hb
   obtain⟨o',e1'⟩:=some' _ _ e1
   exact .inr ⟨id,o',e1',e2,e3,e4⟩
end
end Go.Abs
