/- several texts of this proof in one; no conditions -/
import Derived.Test.YtkkffhphodngkaaDoorAbs45
set_option linter.unusedSimpArgs false
namespace Go.Abs
open Go
def Tbl.or (S T:Tbl):Tbl:=fun f=>(S f).or (T f)
@[go_sem] theorem zEB {S T:Tbl}{f:FuncId}:Tbl.or S T f=(S f).or (T f):=rfl
@[go_sem] theorem zB8 {α:Type}{a:α}{b:Option α}:(some a).or b=some a:=rfl
@[go_sem] theorem zB7 {α:Type}{b:Option α}:(none:Option α).or b=b:=by cases b<;>rfl
section
variable {P:Program} {G:Nat→List FD} {S T:Tbl}
theorem zjH (hS:zan P G S)(hT:zan P G T):zan P G (Tbl.or S T):=fun f t xs r c ht hx hc=>by
 unfold Tbl.or at ht
 cases h:S f with
 |none=>rw[h]at ht;exact hT f t xs r c (by simpa using ht) hx hc
 |some t'=>rw[h]at ht;exact hS f t xs r c (by rw[h];simpa using ht) hx hc
theorem zak.tail {w:World}{L L':Loc}{F:Nat→Nat→Prop}{U U':Id→Prop}{g:FuncId}{xs:List FD}:∀{ds:List D} {vs:List Value},D.toFDs ds=some xs→zak w L F U (ds++[.fn g []]) vs→zak w L' F U' (xs.map .fz++[.fn g []]) vs:=by
 intro ds vs ha h
 rw[zak.iff]at h ⊢
 obtain⟨h1,h2⟩:=h
 have hl:xs.length=ds.length:=by
  have:=zak.toFDs (w:=w) (L:=L) (F:=F) (U:=U) ds (vs.take ds.length) xs (by
   rw[zak.iff]
   refine⟨by rw[List.length_append]at h1;simp only[List.length_take];omega,fun j hj=>?_⟩
   have:=h2 j (by rw[List.length_append];omega)
   rw[List.getD_eq_getElem?_getD,List.getElem?_append_left hj,←List.getD_eq_getElem?_getD]at this
   rwa [List.getD_eq_getElem?_getD (l:=vs.take _),List.getElem?_take,if_pos hj,←List.getD_eq_getElem?_getD (l:=vs)]) ha
  have h3:=this.1
  rw[List.length_append]at h1
  simp only[List.length_take]at h3
  omega
 refine⟨by rw[List.length_append,List.length_map,hl,←List.length_append];exact h1,fun j hj=>?_⟩
 rw[List.length_append,List.length_map]at hj
 have h3:=h2 j (by rw[List.length_append];omega)
 rcases Nat.lt_or_ge j ds.length with h4|h4
 ·have hv:zak w L F U ds (vs.take ds.length):=by
   rw[zak.iff]
   refine⟨by rw[List.length_append]at h1;simp only[List.length_take];omega,fun i hi=>?_⟩
   have:=h2 i (by rw[List.length_append];omega)
   rw[List.getD_eq_getElem?_getD,List.getElem?_append_left hi,←List.getD_eq_getElem?_getD]at this
   rwa [List.getD_eq_getElem?_getD (l:=vs.take _),List.getElem?_take,if_pos hi,←List.getD_eq_getElem?_getD (l:=vs)]
  have:=((zak.iff _ _).1 (hv.of_toFDs (L':=L') (U':=U') ha)).2 j (by rw[List.length_map];omega)
  rw[List.getD_eq_getElem?_getD,List.getElem?_append_left (by rw[List.length_map];omega),←List.getD_eq_getElem?_getD]
  rwa [List.getD_eq_getElem?_getD (l:=vs.take _),List.getElem?_take,if_pos h4,←List.getD_eq_getElem?_getD (l:=vs)]at this
 ·obtain rfl:j=ds.length:=by simp only[List.length_singleton]at hj;omega
  rw[List.getD_eq_getElem?_getD,List.getElem?_append_right (Nat.le_refl _),Nat.sub_self]at h3
  rw[List.getD_eq_getElem?_getD,List.getElem?_append_right (by rw[List.length_map];omega),List.length_map,hl,Nat.sub_self]
  simp only[List.getElem?_cons_zero,Option.getD_some,zaj]at h3 ⊢
  obtain⟨us,e,h5⟩:=h3
  refine⟨us,e,?_⟩
  cases us with
  |nil=>simp only[zak]
  |cons u us=>simp only[zak]at h5
theorem zc7 {f g:FuncId}{ds:List D}{xs:List FD}{r:D}{H:zau}{n:Nat}(ha:D.toFDs ds=some xs)
  (h:zay P G f (xs.map .fz++[.fn g []]) H0 0 (fun d _ _=>D.val d=some r)):zay P G f (ds++[.fn g []]) H n (fun d H' n'=>d=r∧H'=H∧n'=n):=by
 refine⟨h.1,fun w L F vs hok hvs=>?_⟩
 refine(h.2 w L F vs ⟨hok.fb,(fun _ _ h=>nomatch h),(fun _ _ _ _ h=>nomatch h),hok.glob⟩ (hvs.tail ha)).mono fun e w' he=>?_
 obtain⟨v,d,H',n',L',F',rfl,hd,g1,g2,g3⟩:=he
 have nb:∀b,¬Blk H0 L b:=by rintro b ⟨_,_,h,_⟩;cases h
 have no:∀b k,¬Own H0 L b k:=by rintro b k ⟨_,_,h,_⟩;cases h
 have ext:Ext w L F (Ub n) w' L F' (Ub n):=⟨fun _ h=>h,fun _ _=>rfl,g3.f,fun b k hb=>g3.keepc b k (hok.fb b k hb) (no b k),g3.size,g3.shape⟩
 refine⟨v,r,H,n,L,F',rfl,⟨rfl,rfl,rfl⟩,⟨g1.fb,?_,hok.inj,g1.glob⟩,g2.val hd,?_⟩
 ·intro id o ho
  obtain⟨h1,h2⟩:=hok.live id o ho
  refine⟨h1,h2.ext ext h1 fun hv=>?_⟩
  have hlt:=hok.blk_lt ho hv
  refine⟨g3.keep _ hlt (nb _),fun k hk hF=>?_⟩
  rcases g3.fnew _ _ hF with h|h|h
  ·exact(zar h2 hv).1 k hk h
  ·omega
  ·exact no _ _ h
 ·refine⟨fun _ h=>h,fun _ _=>rfl,g3.f,g3.size,fun b hb _=>g3.keep b hb (nb b),fun b k hb _=>g3.keepc b k hb (no b k),g3.shape,fun b k hb=>?_,fun b k hb=> .inr hb,g3.os,g3.tape,g3.output,g3.drawn⟩
  rcases g3.fnew b k hb with h|h|h
  ·exact .inl h
  ·exact .inr (.inl h)
  ·exact absurd h (no b k)
end
end Go.Abs
namespace Go.Abs
open Go
mutual
def puD:D→Option D
 | .rp xs=>some (.rp xs)
 | .fn f caps=>(zyC caps).map (D.fn f)
 | .fz x=>some (.fz x)
 | .full xs=>some (.fz (.sl xs))
 | .ow _ _ xs=>some (.fz (.sl xs))
 | .agg ds=>(D.toFD (.agg ds)).map .fz
 | .junk=>none
 | .ptr _ _=>none
 | .arr _ _ _ _=>none
 | .tup _=>none
def zyC:List D→Option (List D)
 |[]=>some []
 |d::ds=>match puD d,zyC ds with
  |some x,some xs=>some (x::xs)
  |_,_=>none
end
section
variable {w:World} {L L':Loc} {F:Nat→Nat→Prop} {U U':Id→Prop}
mutual
theorem zaj.pu:∀(d d':D) (v:Value),puD d=some d'→zaj w L F U d v→zaj w L' F U' d' v
 | .rp xs,d',v,e,h=>by
  rw[puD]at e;cases e
  simpa only[zaj]using h
 | .fn f caps,d',v,e,h=>by
  rw[puD,Option.map_eq_some_iff]at e
  obtain⟨cs,e1,rfl⟩:=e
  simp only[zaj]at h ⊢
  obtain⟨vs,h1,h2⟩:=h
  exact⟨vs,h1,zak.pu caps cs vs e1 h2⟩
 | .fz x,d',v,e,h=>by
  rw[puD]at e;cases e
  simpa only[zaj]using h
 | .full xs,d',v,e,h=>by
  rw[puD]at e;cases e
  simp only[zaj]at h ⊢
  obtain⟨_,_,h⟩:=h
  exact h
 | .ow id es xs,d',v,e,h=>by
  rw[puD]at e;cases e
  simp only[zaj]at h ⊢
  exact h.2.1
 | .agg ds,d',v,e,h=>by
  rw[puD,Option.map_eq_some_iff]at e
  obtain⟨x,e1,rfl⟩:=e
  simp only[zaj]
  exact zaj.toFD _ _ _ h e1
 | .junk,d',v,e,h=>by rw[puD]at e;cases e
 | .ptr _ _,d',v,e,h=>by rw[puD]at e;cases e
 | .arr _ _ _ _,d',v,e,h=>by rw[puD]at e;cases e
 | .tup _,d',v,e,h=>by rw[puD]at e;cases e
theorem zak.pu:∀(ds ds':List D) (vs:List Value),zyC ds=some ds'→zak w L F U ds vs→zak w L' F U' ds' vs
 |[],ds',vs,e,h=>by
  rw[zyC]at e;cases e
  cases vs with
  |nil=>simp only[zak]
  |cons=>simp only[zak]at h
 |d::ds,ds',vs,e,h=>by
  rw[zyC]at e
  cases h1:puD d with
  |none=>rw[h1]at e;cases e
  |some x=>
   cases h2:zyC ds with
   |none=>rw[h1,h2]at e;cases e
   |some xs=>
    rw[h1,h2]at e
    cases e
    cases vs with
    |nil=>simp only[zak]at h
    |cons v vs=>
     simp only[zak]at h ⊢
     exact⟨zaj.pu d x v h1 h.1,zak.pu ds xs vs h2 h.2⟩
end
end
section
variable {P:Program} {G:Nat→List FD}
end
@[go_sem] theorem zJN {n n':Nat}{pre:Id→Id}{vn:Id→Bool}{z:Id→Option (List FD)}{H:zau}{xs ys:List FD}:Dr n n' pre vn z H (.rp xs) (.rp ys)=(xs=ys):=by simp[Dr]
mutual
def rpD (id:Id)(ys:List FD):D→D
 | .ptr i k=>if i=id∧k=0 then .rp ys else .ptr i k
 | .fn f caps=> .fn f (zxt id ys caps)
 | .agg ds=> .agg (zxt id ys ds)
 | .tup ds=> .tup (zxt id ys ds)
 | .junk=> .junk
 | .fz x=> .fz x
 | .full xs=> .full xs
 | .rp xs=> .rp xs
 | .arr i es s len=> .arr i es s len
 | .ow i es xs=> .ow i es xs
def zxt (id:Id)(ys:List FD):List D→List D
 |[]=>[]
 |d::ds=>rpD id ys d::zxt id ys ds
end
section
variable {w:World} {L:Loc} {F F':Nat→Nat→Prop} {U:Id→Prop} {id:Id} {ys:List FD}
mutual
theorem zaj.rpd (hF:∀b k,F b k→F' b k)(hp:∀j,j<ys.length→F' (L id).1 ((L id).2+j)∧∃u,World.at w (L id).1 ((L id).2+j)=some u∧zbh w F' u (ys.getD j .nilf)):
  ∀(d:D) (v:Value),zaj w L F U d v→zaj w L F' U (rpD id ys d) v
 | .ptr i k,v,h=>by
  rw[rpD]
  split
  ·rename_i e
   obtain⟨rfl,rfl⟩:=e
   simp only[zaj]at h ⊢
   exact⟨(L i).1,(L i).2+0,h.2.2,fun j hj=>by rw[Nat.add_zero];exact hp j hj⟩
  ·simpa only[zaj]using h
 | .fn f caps,v,h=>by
  rw[rpD]
  simp only[zaj]at h ⊢
  obtain⟨vs,h1,h2⟩:=h
  exact⟨vs,h1,zak.rpd hF hp _ _ h2⟩
 | .agg ds,v,h=>by
  rw[rpD]
  simp only[zaj]at h ⊢
  obtain⟨vs,h1,h2⟩:=h
  exact⟨vs,h1,zak.rpd hF hp _ _ h2⟩
 | .tup ds,v,h=>by
  rw[rpD]
  simp only[zaj]at h ⊢
  obtain⟨vs,h1,h2⟩:=h
  exact⟨vs,h1,zak.rpd hF hp _ _ h2⟩
 | .junk,v,h=>by rw[rpD];simp only[zaj]
 | .fz x,v,h=>zaj.ext (U':=U) ⟨fun _ h=>h,fun _ _=>rfl,hF,fun _ _ _=>rfl,Nat.le_refl _,fun b cs T fr _ h=>⟨cs,T,fr,h,Nat.le_refl _⟩⟩ (.fz x) v h
 | .full xs,v,h=>zaj.ext (U':=U) ⟨fun _ h=>h,fun _ _=>rfl,hF,fun _ _ _=>rfl,Nat.le_refl _,fun b cs T fr _ h=>⟨cs,T,fr,h,Nat.le_refl _⟩⟩ (.full xs) v h
 | .rp xs,v,h=>zaj.ext (U':=U) ⟨fun _ h=>h,fun _ _=>rfl,hF,fun _ _ _=>rfl,Nat.le_refl _,fun b cs T fr _ h=>⟨cs,T,fr,h,Nat.le_refl _⟩⟩ (.rp xs) v h
 | .arr i es s len,v,h=>zaj.ext (U':=U) ⟨fun _ h=>h,fun _ _=>rfl,hF,fun _ _ _=>rfl,Nat.le_refl _,fun b cs T fr _ h=>⟨cs,T,fr,h,Nat.le_refl _⟩⟩ (.arr i es s len) v h
 | .ow i es xs,v,h=>zaj.ext (U':=U) ⟨fun _ h=>h,fun _ _=>rfl,hF,fun _ _ _=>rfl,Nat.le_refl _,fun b cs T fr _ h=>⟨cs,T,fr,h,Nat.le_refl _⟩⟩ (.ow i es xs) v h
theorem zak.rpd (hF:∀b k,F b k→F' b k)(hp:∀j,j<ys.length→F' (L id).1 ((L id).2+j)∧∃u,World.at w (L id).1 ((L id).2+j)=some u∧zbh w F' u (ys.getD j .nilf)):
  ∀(ds:List D) (vs:List Value),zak w L F U ds vs→zak w L F' U (zxt id ys ds) vs
 |[],[],_=>by rw[zxt];simp only[zak]
 |d::ds,v::vs,h=>by
  rw[zxt]
  simp only[zak]at h ⊢
  exact⟨zaj.rpd hF hp d v h.1,zak.rpd hF hp ds vs h.2⟩
 |[],_::_,h=>by simp only[zak]at h
 |_::_,[],h=>by simp only[zak]at h
end
end
section
variable {P:Program} {G:Nat→List FD} {N:Nat} {st:St}
end
end Go.Abs
namespace Go.Abs
open Go
section
variable {P:Program} {G:Nat→List FD} {T:Tbl} {N tag0:Nat} {am:Nat→Bool} {st:St} {a:Act} {w:World} {L:Loc} {F:Nat→Nat→Prop} {K:St→Prop} {ops:Array Oper}
def zCj (P:Program)(G:Nat→List FD)(N:Nat)(t:TypeId)(x i:Operand)(d:Nat)(K:St→Prop)(st:St):Prop:=
 ∃len e te id k kk n,P.underlying t=some (.array len e)∧zao P e=some te∧te.size=1∧d<N∧st.ev G x= .ptr id k∧st.ev G i= .fz (.i kk n)∧0≤n∧n<(len:Int)∧K (st.put (some d) (.ptr id (k+n.toNat)))
def zqS (P:Program)(G:Nat→List FD)(N:Nat)(t:TypeId)(x i:Operand)(d:Nat)(st:St)[k:Kn St]:Prop:=zCj P G N t x i d k.run st
theorem zqS.i {t x i d len e te id k kk n}{kc:St→Prop}(hu:P.underlying t=some (.array len e))(he:zao P e=some te)(h1:te.size=1)(hd:d<N)(hx:st.ev G x= .ptr id k)(hi:st.ev G i= .fz (.i kk n))(hn:0≤n∧n<(len:Int))
  (h:kc (st.put (some d) (.ptr id (k+n.toNat)))):@zqS P G N t x i d st ⟨kc⟩:=⟨len,e,te,id,k,kk,n,hu,he,h1,hd,hx,hi,hn.1,hn.2,h⟩
def XE (P:Program)(G:Nat→List FD)(T:Tbl)(N tag0:Nat)(am:Nat→Bool):Code→(Exit→St→Prop)→St→Prop
 | .skip,Q,st=>Q .normal st
 | .seq x y,Q,st=>XE P G T N tag0 am x (zEh (XE P G T N tag0 am y Q) Q) st
 | .cond c x y,Q,st=>ztP (XE P G T N tag0 am x Q st) (XE P G T N tag0 am y Q st) (st.ev G c)
 | .block id c,Q,st=>XE P G T N tag0 am c (zhO id Q) st
 | .exit id,Q,st=>Q (.exit id) st
 | .ret,Q,st=>Q .ret st
 | .region id ops false,Q,st=>zdK (am (1000000+id)) (W P G N (.region id ops false) Q st) (zo7 P G T N tag0 am ops ops.toList (Q .normal) st)
 | .region id ops true,Q,st=>zdK (am (1000000+id)) (W P G N (.region id ops true) Q st) (zo7 P G T N tag0 am ops ops.toList (Q .normal) st)
 |c,Q,st=>W P G N c Q st
def XEK (P:Program)(G:Nat→List FD)(T:Tbl)(N tag0:Nat)(am:Nat→Bool)(c:Code)(st:St)[q:Ke]:Prop:=XE P G T N tag0 am c q.run st
end
section
attribute [local semireducible] BiK obK zaB zhD za0 VvK XOK zjK zi4 zhH zhI zpn zfA ziH XCK zpz zvS zfC zxM zas WK znr
variable {P:Program} {G:Nat→List FD} {T:Tbl} {N tag0:Nat} {am:Nat→Bool} {st:St} {ops:Array Oper} {q:Exit→St→Prop} {x:Operand}
@[go_sem] theorem zzH:@XEK P G T N tag0 am (.skip) st ⟨q⟩=q .normal st:=(rfl)
@[go_sem] theorem zBk {c d:Code}:@XEK P G T N tag0 am (.seq c d) st ⟨q⟩=@XEK P G T N tag0 am c st ⟨fun e st=>@zvS e st ⟨fun st=>@XEK P G T N tag0 am d st ⟨q⟩⟩ ⟨q⟩⟩:=(rfl)
@[go_sem] theorem zzD {c d:Code}:@XEK P G T N tag0 am (.cond x c d) st ⟨q⟩=@zpz (st.ev G x) ⟨@XEK P G T N tag0 am c st ⟨q⟩⟩ ⟨@XEK P G T N tag0 am d st ⟨q⟩⟩:=(rfl)
@[go_sem] theorem zx8 {i:Nat}{c:Code}:@XEK P G T N tag0 am (.block i c) st ⟨q⟩=@XEK P G T N tag0 am c st ⟨fun e st=>@zfC i e st ⟨q⟩⟩:=(rfl)
@[go_sem] theorem zzF {i:Nat}:@XEK P G T N tag0 am (.exit i) st ⟨q⟩=q (.exit i) st:=(rfl)
@[go_sem] theorem zBj:@XEK P G T N tag0 am (.ret) st ⟨q⟩=q .ret st:=(rfl)
@[go_sem] theorem zwR {i:Nat}:@XEK P G T N tag0 am (.region i ops false) st ⟨q⟩=@za0 (am (1000000+i)) ⟨@WK P G N (.region i ops false) st ⟨q⟩⟩ ⟨@ziH P G T N tag0 am ops ops.toList st ⟨q .normal⟩⟩:=(rfl)
@[go_sem] theorem zzE {i:Nat}:@XEK P G T N tag0 am (.region i ops true) st ⟨q⟩=@za0 (am (1000000+i)) ⟨@WK P G N (.region i ops true) st ⟨q⟩⟩ ⟨@ziH P G T N tag0 am ops ops.toList st ⟨q .normal⟩⟩:=(rfl)
@[go_sem] theorem zzG {c:Code}:@XEK P G T N tag0 am (.loop c) st ⟨q⟩=@WK P G N (.loop c) st ⟨q⟩:=(rfl)
end
attribute [irreducible] XEK zqS
end Go.Abs
