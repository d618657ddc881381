/- several texts of this proof in one; no conditions -/
import Derived.Test.YtmconmiemdinkaaDoorY8
set_option linter.unusedSimpArgs false
namespace Go.Abs
open Go
mutual
def puD:D→Option D
 | .rp xs=>some (.rp xs)
 | .fn f caps=>(zvN caps).map (D.fn f)
 | .fz x=>some (.fz x)
 | .full xs=>some (.fz (.sl xs))
 | .ow _ _ xs=>some (.fz (.sl xs))
 | .agg ds=>(D.toFD (.agg ds)).map .fz
 | .junk=>none
 | .ptr _ _=>none
 | .arr _ _ _ _=>none
 | .tup _=>none
def zvN:List D→Option (List D)
 |[]=>some []
 |d::ds=>match puD d,zvN ds with
  |some x,some xs=>some (x::xs)
  |_,_=>none
end
section
variable {w:World} {L L':Loc} {F:Nat→Nat→Prop} {U U':Id→Prop}
mutual
theorem zaj.pu:∀(d d':D) (v:Value),puD d=some d'→zaj w L F U d v→zaj w L' F U' d' v
 | .rp xs,d',v,e,h=>by
  rw[puD]at e;cases e
  simpa only[zaj]using h
 | .fn f caps,d',v,e,h=>by
  rw[puD,Option.map_eq_some_iff]at e
  obtain⟨cs,e1,rfl⟩:=e
  simp only[zaj]at h ⊢
  obtain⟨vs,h1,h2⟩:=h
  exact⟨vs,h1,zaq.pu caps cs vs e1 h2⟩
 | .fz x,d',v,e,h=>by
  rw[puD]at e;cases e
  simpa only[zaj]using h
 | .full xs,d',v,e,h=>by
  rw[puD]at e;cases e
  simp only[zaj]at h ⊢
  obtain⟨_,_,h⟩:=h
  exact h
 | .ow id es xs,d',v,e,h=>by
  rw[puD]at e;cases e
  simp only[zaj]at h ⊢
  exact h.2.1
 | .agg ds,d',v,e,h=>by
  rw[puD,Option.map_eq_some_iff]at e
  obtain⟨x,e1,rfl⟩:=e
  simp only[zaj]
  exact zaj.toFD _ _ _ h e1
 | .junk,d',v,e,h=>by rw[puD]at e;cases e
 | .ptr _ _,d',v,e,h=>by rw[puD]at e;cases e
 | .arr _ _ _ _,d',v,e,h=>by rw[puD]at e;cases e
 | .tup _,d',v,e,h=>by rw[puD]at e;cases e
theorem zaq.pu:∀(ds ds':List D) (vs:List Value),zvN ds=some ds'→zaq w L F U ds vs→zaq w L' F U' ds' vs
 |[],ds',vs,e,h=>by
  rw[zvN]at e;cases e
  cases vs with
  |nil=>simp only[zaq]
  |cons=>simp only[zaq]at h
 |d::ds,ds',vs,e,h=>by
  rw[zvN]at e
  cases h1:puD d with
  |none=>rw[h1]at e;cases e
  |some x=>
   cases h2:zvN ds with
   |none=>rw[h1,h2]at e;cases e
   |some xs=>
    rw[h1,h2]at e
    cases e
    cases vs with
    |nil=>simp only[zaq]at h
    |cons v vs=>
     simp only[zaq]at h ⊢
     exact⟨zaj.pu d x v h1 h.1,zaq.pu ds xs vs h2 h.2⟩
end
end
section
variable {P:Program} {G:Nat→List FD}
end
@[go_sem] theorem zFV {n n':Nat}{pre:Id→Id}{vn:Id→Bool}{z:Id→Option (List FD)}{H:zau}{xs ys:List FD}:Dr n n' pre vn z H (.rp xs) (.rp ys)=(xs=ys):=by simp[Dr]
mutual
def rpD (id:Id)(ys:List FD):D→D
 | .ptr i k=>if i=id∧k=0 then .rp ys else .ptr i k
 | .fn f caps=> .fn f (zuF id ys caps)
 | .agg ds=> .agg (zuF id ys ds)
 | .tup ds=> .tup (zuF id ys ds)
 | .junk=> .junk
 | .fz x=> .fz x
 | .full xs=> .full xs
 | .rp xs=> .rp xs
 | .arr i es s len=> .arr i es s len
 | .ow i es xs=> .ow i es xs
def zuF (id:Id)(ys:List FD):List D→List D
 |[]=>[]
 |d::ds=>rpD id ys d::zuF id ys ds
end
section
variable {w:World} {L:Loc} {F F':Nat→Nat→Prop} {U:Id→Prop} {id:Id} {ys:List FD}
mutual
theorem zaj.rpd (hF:∀b k,F b k→F' b k)(hp:∀j,j<ys.length→F' (L id).1 ((L id).2+j)∧∃u,World.at w (L id).1 ((L id).2+j)=some u∧zbf w F' u (ys.getD j .nilf)):
  ∀(d:D) (v:Value),zaj w L F U d v→zaj w L F' U (rpD id ys d) v
 | .ptr i k,v,h=>by
  rw[rpD]
  split
  ·rename_i e
   obtain⟨rfl,rfl⟩:=e
   simp only[zaj]at h ⊢
   exact⟨(L i).1,(L i).2+0,h.2.2,fun j hj=>by rw[Nat.add_zero];exact hp j hj⟩
  ·simpa only[zaj]using h
 | .fn f caps,v,h=>by
  rw[rpD]
  simp only[zaj]at h ⊢
  obtain⟨vs,h1,h2⟩:=h
  exact⟨vs,h1,zaq.rpd hF hp _ _ h2⟩
 | .agg ds,v,h=>by
  rw[rpD]
  simp only[zaj]at h ⊢
  obtain⟨vs,h1,h2⟩:=h
  exact⟨vs,h1,zaq.rpd hF hp _ _ h2⟩
 | .tup ds,v,h=>by
  rw[rpD]
  simp only[zaj]at h ⊢
  obtain⟨vs,h1,h2⟩:=h
  exact⟨vs,h1,zaq.rpd hF hp _ _ h2⟩
 | .junk,v,h=>by rw[rpD];simp only[zaj]
 | .fz x,v,h=>zaj.ext (U':=U) ⟨fun _ h=>h,fun _ _=>rfl,hF,fun _ _ _=>rfl,Nat.le_refl _,fun b cs T fr _ h=>⟨cs,T,fr,h,Nat.le_refl _⟩⟩ (.fz x) v h
 | .full xs,v,h=>zaj.ext (U':=U) ⟨fun _ h=>h,fun _ _=>rfl,hF,fun _ _ _=>rfl,Nat.le_refl _,fun b cs T fr _ h=>⟨cs,T,fr,h,Nat.le_refl _⟩⟩ (.full xs) v h
 | .rp xs,v,h=>zaj.ext (U':=U) ⟨fun _ h=>h,fun _ _=>rfl,hF,fun _ _ _=>rfl,Nat.le_refl _,fun b cs T fr _ h=>⟨cs,T,fr,h,Nat.le_refl _⟩⟩ (.rp xs) v h
 | .arr i es s len,v,h=>zaj.ext (U':=U) ⟨fun _ h=>h,fun _ _=>rfl,hF,fun _ _ _=>rfl,Nat.le_refl _,fun b cs T fr _ h=>⟨cs,T,fr,h,Nat.le_refl _⟩⟩ (.arr i es s len) v h
 | .ow i es xs,v,h=>zaj.ext (U':=U) ⟨fun _ h=>h,fun _ _=>rfl,hF,fun _ _ _=>rfl,Nat.le_refl _,fun b cs T fr _ h=>⟨cs,T,fr,h,Nat.le_refl _⟩⟩ (.ow i es xs) v h
theorem zaq.rpd (hF:∀b k,F b k→F' b k)(hp:∀j,j<ys.length→F' (L id).1 ((L id).2+j)∧∃u,World.at w (L id).1 ((L id).2+j)=some u∧zbf w F' u (ys.getD j .nilf)):
  ∀(ds:List D) (vs:List Value),zaq w L F U ds vs→zaq w L F' U (zuF id ys ds) vs
 |[],[],_=>by rw[zuF];simp only[zaq]
 |d::ds,v::vs,h=>by
  rw[zuF]
  simp only[zaq]at h ⊢
  exact⟨zaj.rpd hF hp d v h.1,zaq.rpd hF hp ds vs h.2⟩
 |[],_::_,h=>by simp only[zaq]at h
 |_::_,[],h=>by simp only[zaq]at h
end
end
section
variable {P:Program} {G:Nat→List FD} {N:Nat} {st:St}
end
end Go.Abs
namespace Go.Abs
open Go
section
variable {P:Program} {G:Nat→List FD} {T:Tbl} {N tag0:Nat} {am:Nat→Bool} {st:St} {a:Act} {w:World} {L:Loc} {F:Nat→Nat→Prop} {K:St→Prop} {ops:Array Oper}
def zzk (P:Program)(G:Nat→List FD)(N:Nat)(t:TypeId)(x i:Operand)(d:Nat)(K:St→Prop)(st:St):Prop:=
 ∃len e te id k kk n,P.underlying t=some (.array len e)∧zas P e=some te∧te.size=1∧d<N∧st.ev G x= .ptr id k∧st.ev G i= .fz (.i kk n)∧0≤n∧n<(len:Int)∧K (st.put (some d) (.ptr id (k+n.toNat)))
def zoX (P:Program)(G:Nat→List FD)(N:Nat)(t:TypeId)(x i:Operand)(d:Nat)(st:St)[k:Kn St]:Prop:=zzk P G N t x i d k.run st
theorem zoX.i {t x i d len e te id k kk n}{kc:St→Prop}(hu:P.underlying t=some (.array len e))(he:zas P e=some te)(h1:te.size=1)(hd:d<N)(hx:st.ev G x= .ptr id k)(hi:st.ev G i= .fz (.i kk n))(hn:0≤n∧n<(len:Int))
  (h:kc (st.put (some d) (.ptr id (k+n.toNat)))):@zoX P G N t x i d st ⟨kc⟩:=⟨len,e,te,id,k,kk,n,hu,he,h1,hd,hx,hi,hn.1,hn.2,h⟩
def XE (P:Program)(G:Nat→List FD)(T:Tbl)(N tag0:Nat)(am:Nat→Bool):Code→(Exit→St→Prop)→St→Prop
 | .skip,Q,st=>Q .normal st
 | .seq x y,Q,st=>XE P G T N tag0 am x (zA9 (XE P G T N tag0 am y Q) Q) st
 | .cond c x y,Q,st=>zrB (XE P G T N tag0 am x Q st) (XE P G T N tag0 am y Q st) (st.ev G c)
 | .block id c,Q,st=>XE P G T N tag0 am c (zg3 id Q) st
 | .exit id,Q,st=>Q (.exit id) st
 | .ret,Q,st=>Q .ret st
 | .region id ops false,Q,st=>zdn (am (1000000+id)) (W P G N (.region id ops false) Q st) (znl P G T N tag0 am ops ops.toList (Q .normal) st)
 | .region id ops true,Q,st=>zdn (am (1000000+id)) (W P G N (.region id ops true) Q st) (znl P G T N tag0 am ops ops.toList (Q .normal) st)
 |c,Q,st=>W P G N c Q st
def XEK (P:Program)(G:Nat→List FD)(T:Tbl)(N tag0:Nat)(am:Nat→Bool)(c:Code)(st:St)[q:Ke]:Prop:=XE P G T N tag0 am c q.run st
end
section
attribute [local semireducible] BiK obK zaG zgT zaX VvK XOK zi0 zib zgX zgY znC ze7 zhQ XCK znO ztj ze8 zuT zaF WK zmh
variable {P:Program} {G:Nat→List FD} {T:Tbl} {N tag0:Nat} {am:Nat→Bool} {st:St} {ops:Array Oper} {q:Exit→St→Prop} {x:Operand}
@[go_sem] theorem zwN:@XEK P G T N tag0 am (.skip) st ⟨q⟩=q .normal st:=(rfl)
@[go_sem] theorem zyl {c d:Code}:@XEK P G T N tag0 am (.seq c d) st ⟨q⟩=@XEK P G T N tag0 am c st ⟨fun e st=>@ztj e st ⟨fun st=>@XEK P G T N tag0 am d st ⟨q⟩⟩ ⟨q⟩⟩:=(rfl)
@[go_sem] theorem zwJ {c d:Code}:@XEK P G T N tag0 am (.cond x c d) st ⟨q⟩=@znO (st.ev G x) ⟨@XEK P G T N tag0 am c st ⟨q⟩⟩ ⟨@XEK P G T N tag0 am d st ⟨q⟩⟩:=(rfl)
@[go_sem] theorem zvj {i:Nat}{c:Code}:@XEK P G T N tag0 am (.block i c) st ⟨q⟩=@XEK P G T N tag0 am c st ⟨fun e st=>@ze8 i e st ⟨q⟩⟩:=(rfl)
@[go_sem] theorem zwL {i:Nat}:@XEK P G T N tag0 am (.exit i) st ⟨q⟩=q (.exit i) st:=(rfl)
@[go_sem] theorem zyk:@XEK P G T N tag0 am (.ret) st ⟨q⟩=q .ret st:=(rfl)
@[go_sem] theorem zud {i:Nat}:@XEK P G T N tag0 am (.region i ops false) st ⟨q⟩=@zaX (am (1000000+i)) ⟨@WK P G N (.region i ops false) st ⟨q⟩⟩ ⟨@zhQ P G T N tag0 am ops ops.toList st ⟨q .normal⟩⟩:=(rfl)
@[go_sem] theorem zwK {i:Nat}:@XEK P G T N tag0 am (.region i ops true) st ⟨q⟩=@zaX (am (1000000+i)) ⟨@WK P G N (.region i ops true) st ⟨q⟩⟩ ⟨@zhQ P G T N tag0 am ops ops.toList st ⟨q .normal⟩⟩:=(rfl)
@[go_sem] theorem zwM {c:Code}:@XEK P G T N tag0 am (.loop c) st ⟨q⟩=@WK P G N (.loop c) st ⟨q⟩:=(rfl)
end
attribute [irreducible] XEK zoX
end Go.Abs
