/- several texts of this proof in one; no conditions -/
import Derived.Test.YtalbdmcklgglbaaDoorY6
import Derived.Sort.Grow
import Derived.Sort.EncStr
import Derived.Lib.SlicesCompact
import Derived.Lib.ItoaNum
import Derived.Lib.LaidTab
import Derived.Deep.Draws
set_option linter.unusedSimpArgs false
namespace Go.Abs
open Go
section
variable {P:Program} {G:Nat→List FD} {w w':World} {L:Loc} {F:Nat→Nat→Prop} {U:Id→Prop} {H:zas}
def zcO (n:Nat):List UInt8:=Lib.decDigits n
def zwK (l:List (List UInt8)):List (List UInt8):=l.mergeSort fun x y=>decide (x≤y)
theorem ziU (l:List (List UInt8)):(zwK l).Perm l:=List.mergeSort_perm _ _
theorem zr6 (l:List (List UInt8)):(zwK l).length=l.length:=(ziU l).length_eq
def zqx (l:List (List UInt8)):List (List UInt8):=Lib.compact l
theorem zqy (l:List (List UInt8)):(zqx l).length≤l.length:=by
 unfold zqx Lib.compact Lib.compactUpTo
 rw[List.length_map]
 refine Nat.le_trans (List.length_filter_le _ _) ?_
 simp
end
end Go.Abs
namespace Go.Abs
open Go
section
variable {G:Nat→List FD} {N:Nat} {st:St}
end
end Go.Abs
namespace Go.Abs
open Go
def Tbl.or (S T:Tbl):Tbl:=fun f=>(S f).or (T f)
@[go_sem] theorem zDr {S T:Tbl}{f:FuncId}:Tbl.or S T f=(S f).or (T f):=rfl
@[go_sem] theorem zAZ {α:Type}{a:α}{b:Option α}:(some a).or b=some a:=rfl
@[go_sem] theorem zAY {α:Type}{b:Option α}:(none:Option α).or b=b:=by cases b<;>rfl
section
variable {P:Program} {G:Nat→List FD} {S T:Tbl}
theorem zsU (hS:zan P G S)(hT:zan P G T):zan P G (Tbl.or S T):=fun f t xs r c ht hx hc=>by
 unfold Tbl.or at ht
 cases h:S f with
 |none=>rw[h]at ht;exact hT f t xs r c (by simpa using ht) hx hc
 |some t'=>rw[h]at ht;exact hS f t xs r c (by rw[h];simpa using ht) hx hc
end
end Go.Abs
namespace Go.Abs
open Go
mutual
def puD:D→Option D
 | .rp xs=>some (.rp xs)
 | .fn f caps=>(zxP caps).map (D.fn f)
 | .fz x=>some (.fz x)
 | .full xs=>some (.fz (.sl xs))
 | .ow _ _ xs=>some (.fz (.sl xs))
 | .agg ds=>(D.toFD (.agg ds)).map .fz
 | .junk=>none
 | .ptr _ _=>none
 | .arr _ _ _ _=>none
 | .tup _=>none
def zxP:List D→Option (List D)
 |[]=>some []
 |d::ds=>match puD d,zxP ds with
  |some x,some xs=>some (x::xs)
  |_,_=>none
end
section
variable {w:World} {L L':Loc} {F:Nat→Nat→Prop} {U U':Id→Prop}
mutual
theorem zak.pu:∀(d d':D) (v:Value),puD d=some d'→zak w L F U d v→zak w L' F U' d' v
 | .rp xs,d',v,e,h=>by
  rw[puD]at e;cases e
  simpa only[zak]using h
 | .fn f caps,d',v,e,h=>by
  rw[puD,Option.map_eq_some_iff]at e
  obtain⟨cs,e1,rfl⟩:=e
  simp only[zak]at h ⊢
  obtain⟨vs,h1,h2⟩:=h
  exact⟨vs,h1,zap.pu caps cs vs e1 h2⟩
 | .fz x,d',v,e,h=>by
  rw[puD]at e;cases e
  simpa only[zak]using h
 | .full xs,d',v,e,h=>by
  rw[puD]at e;cases e
  simp only[zak]at h ⊢
  obtain⟨_,_,h⟩:=h
  exact h
 | .ow id es xs,d',v,e,h=>by
  rw[puD]at e;cases e
  simp only[zak]at h ⊢
  exact h.2.1
 | .agg ds,d',v,e,h=>by
  rw[puD,Option.map_eq_some_iff]at e
  obtain⟨x,e1,rfl⟩:=e
  simp only[zak]
  exact zak.toFD _ _ _ h e1
 | .junk,d',v,e,h=>by rw[puD]at e;cases e
 | .ptr _ _,d',v,e,h=>by rw[puD]at e;cases e
 | .arr _ _ _ _,d',v,e,h=>by rw[puD]at e;cases e
 | .tup _,d',v,e,h=>by rw[puD]at e;cases e
theorem zap.pu:∀(ds ds':List D) (vs:List Value),zxP ds=some ds'→zap w L F U ds vs→zap w L' F U' ds' vs
 |[],ds',vs,e,h=>by
  rw[zxP]at e;cases e
  cases vs with
  |nil=>simp only[zap]
  |cons=>simp only[zap]at h
 |d::ds,ds',vs,e,h=>by
  rw[zxP]at e
  cases h1:puD d with
  |none=>rw[h1]at e;cases e
  |some x=>
   cases h2:zxP ds with
   |none=>rw[h1,h2]at e;cases e
   |some xs=>
    rw[h1,h2]at e
    cases e
    cases vs with
    |nil=>simp only[zap]at h
    |cons v vs=>
     simp only[zap]at h ⊢
     exact⟨zak.pu d x v h1 h.1,zap.pu ds xs vs h2 h.2⟩
end
end
section
variable {P:Program} {G:Nat→List FD}
end
@[go_sem] theorem zHM {n n':Nat}{pre:Id→Id}{vn:Id→Bool}{z:Id→Option (List FD)}{H:zas}{xs ys:List FD}:Dr n n' pre vn z H (.rp xs) (.rp ys)=(xs=ys):=by simp[Dr]
mutual
def rpD (id:Id)(ys:List FD):D→D
 | .ptr i k=>if i=id∧k=0 then .rp ys else .ptr i k
 | .fn f caps=> .fn f (zwE id ys caps)
 | .agg ds=> .agg (zwE id ys ds)
 | .tup ds=> .tup (zwE id ys ds)
 | .junk=> .junk
 | .fz x=> .fz x
 | .full xs=> .full xs
 | .rp xs=> .rp xs
 | .arr i es s len=> .arr i es s len
 | .ow i es xs=> .ow i es xs
def zwE (id:Id)(ys:List FD):List D→List D
 |[]=>[]
 |d::ds=>rpD id ys d::zwE id ys ds
end
section
variable {w:World} {L:Loc} {F F':Nat→Nat→Prop} {U:Id→Prop} {id:Id} {ys:List FD}
mutual
theorem zak.rpd (hF:∀b k,F b k→F' b k)(hp:∀j,j<ys.length→F' (L id).1 ((L id).2+j)∧∃u,World.at w (L id).1 ((L id).2+j)=some u∧zbn w F' u (ys.getD j .nilf)):
  ∀(d:D) (v:Value),zak w L F U d v→zak w L F' U (rpD id ys d) v
 | .ptr i k,v,h=>by
  rw[rpD]
  split
  ·rename_i e
   obtain⟨rfl,rfl⟩:=e
   simp only[zak]at h ⊢
   exact⟨(L i).1,(L i).2+0,h.2.2,fun j hj=>by rw[Nat.add_zero];exact hp j hj⟩
  ·simpa only[zak]using h
 | .fn f caps,v,h=>by
  rw[rpD]
  simp only[zak]at h ⊢
  obtain⟨vs,h1,h2⟩:=h
  exact⟨vs,h1,zap.rpd hF hp _ _ h2⟩
 | .agg ds,v,h=>by
  rw[rpD]
  simp only[zak]at h ⊢
  obtain⟨vs,h1,h2⟩:=h
  exact⟨vs,h1,zap.rpd hF hp _ _ h2⟩
 | .tup ds,v,h=>by
  rw[rpD]
  simp only[zak]at h ⊢
  obtain⟨vs,h1,h2⟩:=h
  exact⟨vs,h1,zap.rpd hF hp _ _ h2⟩
 | .junk,v,h=>by rw[rpD];simp only[zak]
 | .fz x,v,h=>zak.ext (U':=U) ⟨fun _ h=>h,fun _ _=>rfl,hF,fun _ _ _=>rfl,Nat.le_refl _,fun b cs T fr _ h=>⟨cs,T,fr,h,Nat.le_refl _⟩⟩ (.fz x) v h
 | .full xs,v,h=>zak.ext (U':=U) ⟨fun _ h=>h,fun _ _=>rfl,hF,fun _ _ _=>rfl,Nat.le_refl _,fun b cs T fr _ h=>⟨cs,T,fr,h,Nat.le_refl _⟩⟩ (.full xs) v h
 | .rp xs,v,h=>zak.ext (U':=U) ⟨fun _ h=>h,fun _ _=>rfl,hF,fun _ _ _=>rfl,Nat.le_refl _,fun b cs T fr _ h=>⟨cs,T,fr,h,Nat.le_refl _⟩⟩ (.rp xs) v h
 | .arr i es s len,v,h=>zak.ext (U':=U) ⟨fun _ h=>h,fun _ _=>rfl,hF,fun _ _ _=>rfl,Nat.le_refl _,fun b cs T fr _ h=>⟨cs,T,fr,h,Nat.le_refl _⟩⟩ (.arr i es s len) v h
 | .ow i es xs,v,h=>zak.ext (U':=U) ⟨fun _ h=>h,fun _ _=>rfl,hF,fun _ _ _=>rfl,Nat.le_refl _,fun b cs T fr _ h=>⟨cs,T,fr,h,Nat.le_refl _⟩⟩ (.ow i es xs) v h
theorem zap.rpd (hF:∀b k,F b k→F' b k)(hp:∀j,j<ys.length→F' (L id).1 ((L id).2+j)∧∃u,World.at w (L id).1 ((L id).2+j)=some u∧zbn w F' u (ys.getD j .nilf)):
  ∀(ds:List D) (vs:List Value),zap w L F U ds vs→zap w L F' U (zwE id ys ds) vs
 |[],[],_=>by rw[zwE];simp only[zap]
 |d::ds,v::vs,h=>by
  rw[zwE]
  simp only[zap]at h ⊢
  exact⟨zak.rpd hF hp d v h.1,zap.rpd hF hp ds vs h.2⟩
 |[],_::_,h=>by simp only[zap]at h
 |_::_,[],h=>by simp only[zap]at h
end
end
section
variable {P:Program} {G:Nat→List FD} {N:Nat} {st:St}
end
end Go.Abs
namespace Go.Abs
open Go
section
variable {P:Program} {G:Nat→List FD} {T:Tbl} {N tag0:Nat} {am:Nat→Bool} {st:St} {a:Act} {w:World} {L:Loc} {F:Nat→Nat→Prop} {K:St→Prop} {ops:Array Oper}
def zBc (P:Program)(G:Nat→List FD)(N:Nat)(t:TypeId)(x i:Operand)(d:Nat)(K:St→Prop)(st:St):Prop:=
 ∃len e te id k kk n,P.underlying t=some (.array len e)∧zaq P e=some te∧te.size=1∧d<N∧st.ev G x= .ptr id k∧st.ev G i= .fz (.i kk n)∧0≤n∧n<(len:Int)∧K (st.put (some d) (.ptr id (k+n.toNat)))
def zpU (P:Program)(G:Nat→List FD)(N:Nat)(t:TypeId)(x i:Operand)(d:Nat)(st:St)[k:Kn St]:Prop:=zBc P G N t x i d k.run st
theorem zpU.i {t x i d len e te id k kk n}{kc:St→Prop}(hu:P.underlying t=some (.array len e))(he:zaq P e=some te)(h1:te.size=1)(hd:d<N)(hx:st.ev G x= .ptr id k)(hi:st.ev G i= .fz (.i kk n))(hn:0≤n∧n<(len:Int))
  (h:kc (st.put (some d) (.ptr id (k+n.toNat)))):@zpU P G N t x i d st ⟨kc⟩:=⟨len,e,te,id,k,kk,n,hu,he,h1,hd,hx,hi,hn.1,hn.2,h⟩
def XE (P:Program)(G:Nat→List FD)(T:Tbl)(N tag0:Nat)(am:Nat→Bool):Code→(Exit→St→Prop)→St→Prop
 | .skip,Q,st=>Q .normal st
 | .seq x y,Q,st=>XE P G T N tag0 am x (zDf (XE P G T N tag0 am y Q) Q) st
 | .cond c x y,Q,st=>zqD (XE P G T N tag0 am x Q st) (XE P G T N tag0 am y Q st) (st.ev G c)
 | .block id c,Q,st=>XE P G T N tag0 am c (zha id Q) st
 | .exit id,Q,st=>Q (.exit id) st
 | .ret,Q,st=>Q .ret st
 | .region id ops false,Q,st=>zdn (am (1000000+id)) (W P G N (.region id ops false) Q st) (zkf P G T N tag0 am ops ops.toList (Q .normal) st)
 | .region id ops true,Q,st=>zdn (am (1000000+id)) (W P G N (.region id ops true) Q st) (zkf P G T N tag0 am ops ops.toList (Q .normal) st)
 |c,Q,st=>W P G N c Q st
theorem zmh (hm:P.follows .mixedOrders=true)(hT:zan P G T):∀(c:Code) (Q:Exit→St→Prop) (st:St),zbk am T c=true→XE P G T N tag0 am c Q st→W P G N c Q st
 | .skip,_,_,_,h=>zut h
 | .seq x y,Q,st,hd,h=>by
  simp only[XE]at h
  simp only[zbk,Bool.and_eq_true]at hd
  refine zx1 (zus (zmh hm hT x _ st hd.1 h) fun e st1 h1=>?_)
  cases e with
  |normal=>exact zmh hm hT y Q st1 hd.2 h1
  |_=>exact h1
 | .cond c x y,Q,st,hd,h=>by
  simp only[XE]at h
  simp only[zbk,Bool.and_eq_true]at hd
  unfold zqD at h
  split at h
  ·rename_i t ht
   exact zup ht (fun hh=>zmh hm hT x Q st hd.1 (h.1 hh)) (fun hh=>zmh hm hT y Q st hd.2 (h.2 hh))
  ·exact h.elim
 | .block id c,Q,st,hd,h=>by
  simp only[XE]at h
  exact zpZ (zmh hm hT c _ st hd h)
 | .exit id,_,_,_,h=>zuq h
 | .ret,_,_,_,h=>zx0 h
 | .region id ops false,Q,st,_,h=>by
  simp only[XE]at h
  cases ha:am (1000000+id)with
  |true=>exact h.1 ha
  |false=>exact zkj hT (h.2 ha)
 | .region id ops true,Q,st,hd,h=>by
  simp only[XE]at h
  simp only[zbk]at hd
  cases ha:am (1000000+id)with
  |true=>exact h.1 ha
  |false=>exact zp0 hm hT (by simpa[ha]using hd) (h.2 ha)
 | .loop _,Q,st,_,h=>by simpa only[XE]using h
 | .rangeFunc _ _ _ _,Q,st,_,h=>by simpa only[XE]using h
 | .scope _,Q,st,_,h=>by simpa only[XE]using h
 | .label _,Q,st,_,h=>by simpa only[XE]using h
 | .goto _,Q,st,_,h=>by simpa only[XE]using h
 | .refuse _,Q,st,_,h=>by simpa only[XE]using h
def XEK (P:Program)(G:Nat→List FD)(T:Tbl)(N tag0:Nat)(am:Nat→Bool)(c:Code)(st:St)[q:Ke]:Prop:=XE P G T N tag0 am c q.run st
end
section
attribute [local semireducible] BiK obK zaH zgX zaB VvK XOK zja zio zg1 zg2 zou zfe zgc XCK zoI zu5 zfh zvi zaD WK zln
variable {P:Program} {G:Nat→List FD} {T:Tbl} {N tag0:Nat} {am:Nat→Bool} {st:St} {ops:Array Oper} {q:Exit→St→Prop} {x:Operand}
@[go_sem] theorem zyQ:@XEK P G T N tag0 am (.skip) st ⟨q⟩=q .normal st:=(rfl)
@[go_sem] theorem zAc {c d:Code}:@XEK P G T N tag0 am (.seq c d) st ⟨q⟩=@XEK P G T N tag0 am c st ⟨fun e st=>@zu5 e st ⟨fun st=>@XEK P G T N tag0 am d st ⟨q⟩⟩ ⟨q⟩⟩:=(rfl)
@[go_sem] theorem zyM {c d:Code}:@XEK P G T N tag0 am (.cond x c d) st ⟨q⟩=@zoI (st.ev G x) ⟨@XEK P G T N tag0 am c st ⟨q⟩⟩ ⟨@XEK P G T N tag0 am d st ⟨q⟩⟩:=(rfl)
@[go_sem] theorem zxn {i:Nat}{c:Code}:@XEK P G T N tag0 am (.block i c) st ⟨q⟩=@XEK P G T N tag0 am c st ⟨fun e st=>@zfh i e st ⟨q⟩⟩:=(rfl)
@[go_sem] theorem zyO {i:Nat}:@XEK P G T N tag0 am (.exit i) st ⟨q⟩=q (.exit i) st:=(rfl)
@[go_sem] theorem zAb:@XEK P G T N tag0 am (.ret) st ⟨q⟩=q .ret st:=(rfl)
@[go_sem] theorem zv6 {i:Nat}:@XEK P G T N tag0 am (.region i ops false) st ⟨q⟩=@zaB (am (1000000+i)) ⟨@WK P G N (.region i ops false) st ⟨q⟩⟩ ⟨@zgc P G T N tag0 am ops ops.toList st ⟨q .normal⟩⟩:=(rfl)
@[go_sem] theorem zyN {i:Nat}:@XEK P G T N tag0 am (.region i ops true) st ⟨q⟩=@zaB (am (1000000+i)) ⟨@WK P G N (.region i ops true) st ⟨q⟩⟩ ⟨@zgc P G T N tag0 am ops ops.toList st ⟨q .normal⟩⟩:=(rfl)
@[go_sem] theorem zyP {c:Code}:@XEK P G T N tag0 am (.loop c) st ⟨q⟩=@WK P G N (.loop c) st ⟨q⟩:=(rfl)
theorem zbM (hm:P.follows .mixedOrders=true)(hT:zan P G T)(tag0:Nat)(am:Nat→Bool){ι:Type}{c:Code}(I:Ki ι)(i:ι)(hd:zbk am T c=true)(h0:zgh G N st (I.st i))
  (round:∀i,@XEK P G T N tag0 am c (I.st i) ⟨fun e st=>@zln G N ι I i e st ⟨q⟩⟩):@WK P G N (.loop c) st ⟨q⟩:=
 zur I.st I.mu i h0 fun i=>zmh hm hT c _ _ hd (round i)
end
attribute [irreducible] XEK zpU
end Go.Abs
