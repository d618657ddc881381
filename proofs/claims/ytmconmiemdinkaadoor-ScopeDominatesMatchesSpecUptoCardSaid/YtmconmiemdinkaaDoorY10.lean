/- several texts of this proof in one; no conditions -/
import Derived.Test.YtmconmiemdinkaaDoorY9
set_option linter.unusedSimpArgs false
namespace Go.Abs
open Go
section
variable {P:Program} {G:Nat→List FD}
end
end Go.Abs
namespace Go.Abs
open Go
def ztm (te:TI)(n:Nat):List D:=(List.range (n*te.size)).map fun j=>te.zero.getD (j % te.size) .junk
section
variable {P:Program} {w:World} {t u ty e:TypeId} {i:TypeInfo} {z:Value} {kk:IntKind}
end
section
variable {P:Program} {G:Nat→List FD} {w:World} {L:Loc} {F:Nat→Nat→Prop} {U:Id→Prop} {H:zau}
end
end Go.Abs
namespace Go.Abs
open Go
section
variable {P:Program} {G:Nat→List FD} {T:Tbl} {N tag0:Nat} {am:Nat→Bool} {st:St} {a:Act} {w:World} {L:Loc} {F:Nat→Nat→Prop} {K:St→Prop} {ops:Array Oper}
def zDi (P:Program)(G:Nat→List FD)(N tag:Nat)(t u:TypeId)(x y:Operand)(d:Nat)(K:St→Prop)(st:St):Prop:=
  ∃te kk m,zaw P t=some te∧P.underlying u=some (.int kk)∧d<N∧st.ev G y= .fz (.i .i64 m)∧0≤m∧
    ((∃id xs ys o,st.ev G x= .ow id te.size xs∧ys.length=m.toNat∧zag ys=ztm te m.toNat∧st.H id=some o∧zbi xs te.size∧zbi ys te.size∧(zag ys).all zcm=true∧fits (xs.length+m.toNat) te.bytes∧
        K ({st with H:=zaK st.H id none}.new (tag,st.n) tok (some d) (.ow (tag,st.n) te.size (xs++ys))))∨
     (∃id s len o,st.ev G x= .arr id te.size s len∧st.H id=some o∧s+len*te.size≤o.cells.length∧(ztm te m.toNat).all zcm=true∧0<te.size∧fits (len+m.toNat) te.bytes∧
        K ({st with H:=zaK st.H id none}.new (tag,st.n) ⟨(o.cells.drop s).take (len*te.size)++ztm te m.toNat,false,o.virt&&((o.cells.drop s).take (len*te.size)++ztm te m.toNat).isEmpty⟩ (some d) (.arr (tag,st.n) te.size 0 (len+m.toNat)))))
def zoW (P:Program)(G:Nat→List FD)(N tag:Nat)(t u:TypeId)(x y:Operand)(d:Nat)(st:St)[k:Kn St]:Prop:=zDi P G N tag t u x y d k.run st
theorem zoW.ow {t u x y d tag te kk m id xs}{kc:St→Prop}(ys:List FD)(hte:zaw P t=some te)(hu:P.underlying u=some (.int kk))(hd:d<N)(hx:st.ev G x= .ow id te.size xs)(hy:st.ev G y= .fz (.i .i64 m))(h0:0≤m)
  {o:O}(hl:ys.length=m.toNat)(hz:zag ys=ztm te m.toNat)(ho:st.H id=some o)(h2:zbi xs te.size)(h3:zbi ys te.size)(h4:(zag ys).all zcm=true)(h5:fits (xs.length+m.toNat) te.bytes)
  (h:kc ({st with H:=zaK st.H id none}.new (tag,st.n) tok (some d) (.ow (tag,st.n) te.size (xs++ys)))):@zoW P G N tag t u x y d st ⟨kc⟩:=
 ⟨te,kk,m,hte,hu,hd,hy,h0,.inl ⟨id,xs,ys,o,hx,hl,hz,ho,h2,h3,h4,h5,h⟩⟩
theorem zoW.arr {t u x y d tag te kk m id s len}{kc:St→Prop}(hte:zaw P t=some te)(hu:P.underlying u=some (.int kk))(hd:d<N)(hx:st.ev G x= .arr id te.size s len)(hy:st.ev G y= .fz (.i .i64 m))(h0:0≤m)
  {o:O}(ho:st.H id=some o)(h1:s+len*te.size≤o.cells.length)(h2:(ztm te m.toNat).all zcm=true)(h3:0<te.size)(h5:fits (len+m.toNat) te.bytes)
  (h:kc ({st with H:=zaK st.H id none}.new (tag,st.n) ⟨(o.cells.drop s).take (len*te.size)++ztm te m.toNat,false,o.virt&&((o.cells.drop s).take (len*te.size)++ztm te m.toNat).isEmpty⟩ (some d) (.arr (tag,st.n) te.size 0 (len+m.toNat)))):@zoW P G N tag t u x y d st ⟨kc⟩:=
 ⟨te,kk,m,hte,hu,hd,hy,h0,.inr ⟨id,s,len,o,hx,ho,h1,h2,h3,h5,h⟩⟩
end
attribute [irreducible] zoW
end Go.Abs
namespace Go.Abs
open Go
mutual
def fzD (id:Id)(xs:List FD):D→D
 | .arr i es s len=>if i=id∧es=1∧s=0∧len=xs.length then .fz (.sl xs)else .arr i es s len
 | .agg ds=> .agg (zpV id xs ds)
 | .ptr i k=> .ptr i k
 | .fn f caps=> .fn f caps
 | .tup ds=> .tup ds
 | .junk=> .junk
 | .fz x=> .fz x
 | .full xs=> .full xs
 | .rp xs=> .rp xs
 | .ow i es xs=> .ow i es xs
def zpV (id:Id)(xs:List FD):List D→List D
 |[]=>[]
 |d::ds=>fzD id xs d::zpV id xs ds
end
theorem zjo (id:Id)(xs:List FD):∀l:List D,zpV id xs l=l.map (fzD id xs)
 |[]=>rfl
 |d::l=>by rw[zpV,zjo id xs l];rfl
section
variable {w:World} {L:Loc} {F F':Nat→Nat→Prop} {U:Id→Prop} {id:Id} {xs:List FD}
theorem zfi (hF:∀b k,F b k→F' b k):Ext w L F U w L F' U:=⟨fun _ h=>h,fun _ _=>rfl,hF,fun _ _ _=>rfl,Nat.le_refl _,fun _ cs T fr _ h=>⟨cs,T,fr,h,Nat.le_refl _⟩⟩
mutual
theorem zaj.fzd (hF:∀b k,F b k→F' b k)(hp:∀v,zaj w L F U (.arr id 1 0 xs.length) v→zbf w F' v (.sl xs)):
  ∀(d:D) (v:Value),zaj w L F U d v→zaj w L F' U (fzD id xs d) v
 | .arr i es s len,v,h=>by
  rw[fzD]
  split
  ·rename_i e
   obtain⟨rfl,rfl,rfl,rfl⟩:=e
   simp only[zaj]
   exact hp v h
  ·exact zaj.ext (zfi hF) (.arr i es s len) v h
 | .agg ds,v,h=>by
  rw[fzD]
  simp only[zaj]at h ⊢
  obtain⟨vs,h1,h2⟩:=h
  exact⟨vs,h1,zaq.fzd hF hp _ _ h2⟩
 | .ptr i k,v,h=>zaj.ext (zfi hF) (.ptr i k) v h
 | .fn f caps,v,h=>zaj.ext (zfi hF) (.fn f caps) v h
 | .tup ds,v,h=>zaj.ext (zfi hF) (.tup ds) v h
 | .junk,v,h=>by rw[fzD];simp only[zaj]
 | .fz x,v,h=>zaj.ext (zfi hF) (.fz x) v h
 | .full xs,v,h=>zaj.ext (zfi hF) (.full xs) v h
 | .rp xs,v,h=>zaj.ext (zfi hF) (.rp xs) v h
 | .ow i es xs,v,h=>zaj.ext (zfi hF) (.ow i es xs) v h
theorem zaq.fzd (hF:∀b k,F b k→F' b k)(hp:∀v,zaj w L F U (.arr id 1 0 xs.length) v→zbf w F' v (.sl xs)):
  ∀(ds:List D) (vs:List Value),zaq w L F U ds vs→zaq w L F' U (zpV id xs ds) vs
 |[],[],_=>by rw[zpV];simp only[zaq]
 |d::ds,v::vs,h=>by
  rw[zpV]
  simp only[zaq]at h ⊢
  exact⟨zaj.fzd hF hp d v h.1,zaq.fzd hF hp ds vs h.2⟩
 |[],_::_,h=>by simp only[zaq]at h
 |_::_,[],h=>by simp only[zaq]at h
end
end
theorem zlm:∀{ds:List D} {xs:List FD},D.toFDs ds=some xs→ds.length=xs.length∧∀j,j<xs.length→(ds.getD j .junk).toFD=some (xs.getD j .nilf)
 |[],xs,h=>by
  simp only[D.toFDs,Option.some.injEq]at h
  subst h
  exact⟨rfl,fun j hj=>by simp at hj⟩
 |d::ds,xs,h=>by
  rw[D.toFDs]at h
  split at h
  ·rename_i x ys h1 h2
   simp only[Option.some.injEq]at h
   subst h
   obtain⟨g1,g2⟩:=zlm h2
   refine⟨by simp[g1],fun j hj=>?_⟩
   cases j with
   |zero=>simpa using h1
   |succ j=>simpa using g2 j (by simpa using hj)
  ·cases h
section
variable {P:Program} {G:Nat→List FD} {N:Nat} {st:St}
theorem zrp {id:Id}{xs:List FD}{o:O}(ho:st.H id=some o)(_hv:o.virt=true→xs=[])(hc:D.toFDs o.cells=some xs)(h1:∀x∈xs,x.cells=[x]):zeu G N st ⟨fun t=>fzD id xs (st.fr t),zaK st.H id none,st.n⟩:=by
 intro a w L F h
 obtain⟨hu,hob⟩:=h.ok.live id _ ho
 obtain⟨hlc,hgc⟩:=zlm hc
 obtain⟨F',hF'⟩:∃F':Nat→Nat→Prop,F'=fun b k=>F b k∨((L id).3=false∧b=(L id).1∧(L id).2≤k):=⟨_,rfl⟩
 have hsub:∀b k,F b k→F' b k:=fun b k h=>by rw[hF'];exact .inl h
 have e:Ext w L F (Ub st.n) w L F' (Ub st.n):=zfi hsub
 have hold:∀id' o',zaK st.H id none id'=some o'→id'≠id∧st.H id'=some o':=fun id' o' h=>by
  unfold zaK at h
  split at h
  ·cases h
  ·rename_i hne;exact⟨hne,h⟩
 have hfz:∀v,zaj w L F (Ub st.n) (.arr id 1 0 xs.length) v→zbf w F' v (.sl xs):=fun v hv'=>by
  simp only[zaj]at hv'
  obtain⟨_,a',cap,rfl,g1,g2,g3⟩:=hv'
  refine zbf.sl_mk g1 g2 fun hpos=>?_
  rcases g3 with g3|⟨rfl,hL3,hlt,_⟩
  ·omega
  ·obtain⟨hnF,cs,T,hcs,hsz,hcell⟩:=zaC hob hL3
   have hL:zbi xs 1:=fun x hx=>by rw[h1 x hx];rfl
   refine⟨(L id).1,(L id).2+0,1,fun i j=>cs.getD ((L id).2+(i*1+j)) undef,rfl,fun k _=>by rw[hF'];exact .inr ⟨hL3,rfl,by omega⟩,za4 hL,fun i j hi hj=>?_,fun i j hi hj=>?_⟩
   ·obtain⟨u,hu1,_⟩:=hcell (i*1+j) (by omega)
    have he:cs.getD ((L id).2+(i*1+j)) undef=u:=by rw[Array.getD_eq_getD_getElem?,hu1];rfl
    rw[zfP hcs,show(L id).2+0+i*1+j=(L id).2+(i*1+j) by omega,hu1]
    exact congrArg some he.symm
   ·obtain rfl:j=0:=by omega
    obtain⟨u,hu1,hu2⟩:=hcell (i*1+0) (by omega)
    have hx:=zaj.toFD _ _ _ hu2 (by rw[show i*1+0=i by omega];exact hgc i hi)
    have he:cs.getD ((L id).2+(i*1+0)) undef=u:=by rw[Array.getD_eq_getD_getElem?,hu1];rfl
    have hm:xs.getD i .nilf∈xs:=by rw[List.getD_eq_getElem?_getD,List.getElem?_eq_getElem hi];exact List.getElem_mem hi
    simp only
    rw[he,h1 _ hm]
    exact hx.mono (fun _ _ _=>rfl) hsub
 refine⟨L,F',⟨⟨fun b k hb=>?_,fun id' o' h1=>?_,fun i1 i2 o1 o2 h1 h2=>h.ok.inj i1 i2 o1 o2 (hold _ _ h1).2 (hold _ _ h2).2,zcM hsub (fun _ _ _=>rfl) h.ok.glob⟩,h.size,fun s=>zaj.fzd hsub hfz _ _ (h.fr s),h.nd⟩,
  fun _ h=>h,fun _ _=>rfl,hsub,Nat.le_refl _,fun _ _ _=>rfl,fun _ _ _ _=>rfl,fun b cs T fr _ h=>⟨cs,T,fr,h,Nat.le_refl _⟩,fun b k hb=>?_,fun b k hb=>?_,rfl,rfl,rfl,Nat.le_refl _⟩
 ·rw[hF']at hb
  rcases hb with hb|⟨h3,rfl,_⟩
  ·exact h.ok.fb b k hb
  ·exact h.ok.blk_lt ho h3
 ·obtain⟨hne,h2⟩:=hold _ _ h1
  obtain⟨h3,h4⟩:=h.ok.live id' o' h2
  refine⟨h3,h4.ext e h3 fun hv=>⟨rfl,fun k hk hb=>?_⟩⟩
  rw[hF']at hb
  rcases hb with hb|⟨hv3,hb,_⟩
  ·exact(zaC h4 hv).1 k hk hb
  ·exact hne (h.ok.inj id' id _ _ h2 ho hv hv3 hb)
 ·rw[hF']at hb
  rcases hb with hb|⟨hv3,rfl,hk⟩
  ·exact .inl hb
  ·exact .inr (.inr ⟨id,_,ho,hv3,rfl,hk⟩)
 ·obtain⟨id',o',h1,h2,h3,h4⟩:=hb
  exact .inr ⟨id',o',(hold _ _ h1).2,h2,h3,h4⟩
theorem zjW {f:FuncId}{args args':List D}{H:zau}{n:Nat}{R:D→zau→Nat→Prop}(id:Id)(xs:List FD){o:O}(ho:H id=some o)(hv:o.virt=true→xs=[])(hc:D.toFDs o.cells=some xs)(h1:∀x∈xs,x.cells=[x])(ha:zpV id xs args=args')
  (h:zaE P G f args' (zaK H id none) n R):zaE P G f args H n R:=by
 subst ha
 refine zdp (by rw[zjo,List.length_map]) ?_ h
 have e:(fun t=>fzD id xs (frL (zg1 0 args) t))=frL (zg1 0 (zpV id xs args)):=by
  funext t
  rw[←zdL,←zdL]
  simp only[zi4]
  rw[zjo,List.getD_eq_getElem?_getD,List.getD_eq_getElem?_getD,List.getElem?_map]
  cases args[t]?<;>rfl
 rw[←e]
 exact zrp (st:=⟨frL (zg1 0 args),H,n⟩) ho hv hc h1
end
section
attribute [local semireducible] BiK obK zaG zgT zaX VvK XOK zi0 zib zgX zgY znC ze7 zhQ XCK znO ztj ze8 zuT zaF WK zmh XEK
end
end Go.Abs
