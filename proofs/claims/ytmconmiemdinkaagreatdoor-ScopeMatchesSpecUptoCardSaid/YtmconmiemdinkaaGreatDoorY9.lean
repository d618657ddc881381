/- several texts of this proof in one; no conditions -/
import Derived.Test.YtmconmiemdinkaaGreatDoorY8
set_option linter.unusedSimpArgs false
namespace Go.Abs
open Go
mutual
def puD:D→Option D
 | .rp xs=>some (.rp xs)
 | .fn f caps=>(zAT caps).map (D.fn f)
 | .fz x=>some (.fz x)
 | .full xs=>some (.fz (.sl xs))
 | .ow _ _ xs=>some (.fz (.sl xs))
 | .agg ds=>(D.toFD (.agg ds)).map .fz
 | .junk=>none
 | .ptr _ _=>none
 | .arr _ _ _ _=>none
 | .tup _=>none
def zAT:List D→Option (List D)
 |[]=>some []
 |d::ds=>match puD d,zAT ds with
  |some x,some xs=>some (x::xs)
  |_,_=>none
end
section
variable {w:World} {L L':Loc} {F:Nat→Nat→Prop} {U U':Id→Prop}
mutual
theorem zak.pu:∀(d d':D) (v:Value),puD d=some d'→zak w L F U d v→zak w L' F U' d' v
 | .rp xs,d',v,e,h=>by
  rw[puD]at e;cases e
  simpa only[zak]using h
 | .fn f caps,d',v,e,h=>by
  rw[puD,Option.map_eq_some_iff]at e
  obtain⟨cs,e1,rfl⟩:=e
  simp only[zak]at h ⊢
  obtain⟨vs,h1,h2⟩:=h
  exact⟨vs,h1,zao.pu caps cs vs e1 h2⟩
 | .fz x,d',v,e,h=>by
  rw[puD]at e;cases e
  simpa only[zak]using h
 | .full xs,d',v,e,h=>by
  rw[puD]at e;cases e
  simp only[zak]at h ⊢
  obtain⟨_,_,h⟩:=h
  exact h
 | .ow id es xs,d',v,e,h=>by
  rw[puD]at e;cases e
  simp only[zak]at h ⊢
  exact h.2.1
 | .agg ds,d',v,e,h=>by
  rw[puD,Option.map_eq_some_iff]at e
  obtain⟨x,e1,rfl⟩:=e
  simp only[zak]
  exact zak.toFD _ _ _ h e1
 | .junk,d',v,e,h=>by rw[puD]at e;cases e
 | .ptr _ _,d',v,e,h=>by rw[puD]at e;cases e
 | .arr _ _ _ _,d',v,e,h=>by rw[puD]at e;cases e
 | .tup _,d',v,e,h=>by rw[puD]at e;cases e
theorem zao.pu:∀(ds ds':List D) (vs:List Value),zAT ds=some ds'→zao w L F U ds vs→zao w L' F U' ds' vs
 |[],ds',vs,e,h=>by
  rw[zAT]at e;cases e
  cases vs with
  |nil=>simp only[zao]
  |cons=>simp only[zao]at h
 |d::ds,ds',vs,e,h=>by
  rw[zAT]at e
  cases h1:puD d with
  |none=>rw[h1]at e;cases e
  |some x=>
   cases h2:zAT ds with
   |none=>rw[h1,h2]at e;cases e
   |some xs=>
    rw[h1,h2]at e
    cases e
    cases vs with
    |nil=>simp only[zao]at h
    |cons v vs=>
     simp only[zao]at h ⊢
     exact⟨zak.pu d x v h1 h.1,zao.pu ds xs vs h2 h.2⟩
end
end
section
variable {P:Program} {G:Nat→List FD}
end
@[go_sem] theorem zMG {n n':Nat}{pre:Id→Id}{vn:Id→Bool}{z:Id→Option (List FD)}{H:zax}{xs ys:List FD}:Dr n n' pre vn z H (.rp xs) (.rp ys)=(xs=ys):=by simp[Dr]
mutual
def rpD (id:Id)(ys:List FD):D→D
 | .ptr i k=>if i=id∧k=0 then .rp ys else .ptr i k
 | .fn f caps=> .fn f (zzx id ys caps)
 | .agg ds=> .agg (zzx id ys ds)
 | .tup ds=> .tup (zzx id ys ds)
 | .junk=> .junk
 | .fz x=> .fz x
 | .full xs=> .full xs
 | .rp xs=> .rp xs
 | .arr i es s len=> .arr i es s len
 | .ow i es xs=> .ow i es xs
def zzx (id:Id)(ys:List FD):List D→List D
 |[]=>[]
 |d::ds=>rpD id ys d::zzx id ys ds
end
section
variable {w:World} {L:Loc} {F F':Nat→Nat→Prop} {U:Id→Prop} {id:Id} {ys:List FD}
mutual
theorem zak.rpd (hF:∀b k,F b k→F' b k)(hp:∀j,j<ys.length→F' (L id).1 ((L id).2+j)∧∃u,World.at w (L id).1 ((L id).2+j)=some u∧za8 w F' u (ys.getD j .nilf)):
  ∀(d:D) (v:Value),zak w L F U d v→zak w L F' U (rpD id ys d) v
 | .ptr i k,v,h=>by
  rw[rpD]
  split
  ·rename_i e
   obtain⟨rfl,rfl⟩:=e
   simp only[zak]at h ⊢
   exact⟨(L i).1,(L i).2+0,h.2.2,fun j hj=>by rw[Nat.add_zero];exact hp j hj⟩
  ·simpa only[zak]using h
 | .fn f caps,v,h=>by
  rw[rpD]
  simp only[zak]at h ⊢
  obtain⟨vs,h1,h2⟩:=h
  exact⟨vs,h1,zao.rpd hF hp _ _ h2⟩
 | .agg ds,v,h=>by
  rw[rpD]
  simp only[zak]at h ⊢
  obtain⟨vs,h1,h2⟩:=h
  exact⟨vs,h1,zao.rpd hF hp _ _ h2⟩
 | .tup ds,v,h=>by
  rw[rpD]
  simp only[zak]at h ⊢
  obtain⟨vs,h1,h2⟩:=h
  exact⟨vs,h1,zao.rpd hF hp _ _ h2⟩
 | .junk,v,h=>by rw[rpD];simp only[zak]
 | .fz x,v,h=>zak.ext (U':=U) ⟨fun _ h=>h,fun _ _=>rfl,hF,fun _ _ _=>rfl,Nat.le_refl _,fun b cs T fr _ h=>⟨cs,T,fr,h,Nat.le_refl _⟩⟩ (.fz x) v h
 | .full xs,v,h=>zak.ext (U':=U) ⟨fun _ h=>h,fun _ _=>rfl,hF,fun _ _ _=>rfl,Nat.le_refl _,fun b cs T fr _ h=>⟨cs,T,fr,h,Nat.le_refl _⟩⟩ (.full xs) v h
 | .rp xs,v,h=>zak.ext (U':=U) ⟨fun _ h=>h,fun _ _=>rfl,hF,fun _ _ _=>rfl,Nat.le_refl _,fun b cs T fr _ h=>⟨cs,T,fr,h,Nat.le_refl _⟩⟩ (.rp xs) v h
 | .arr i es s len,v,h=>zak.ext (U':=U) ⟨fun _ h=>h,fun _ _=>rfl,hF,fun _ _ _=>rfl,Nat.le_refl _,fun b cs T fr _ h=>⟨cs,T,fr,h,Nat.le_refl _⟩⟩ (.arr i es s len) v h
 | .ow i es xs,v,h=>zak.ext (U':=U) ⟨fun _ h=>h,fun _ _=>rfl,hF,fun _ _ _=>rfl,Nat.le_refl _,fun b cs T fr _ h=>⟨cs,T,fr,h,Nat.le_refl _⟩⟩ (.ow i es xs) v h
theorem zao.rpd (hF:∀b k,F b k→F' b k)(hp:∀j,j<ys.length→F' (L id).1 ((L id).2+j)∧∃u,World.at w (L id).1 ((L id).2+j)=some u∧za8 w F' u (ys.getD j .nilf)):
  ∀(ds:List D) (vs:List Value),zao w L F U ds vs→zao w L F' U (zzx id ys ds) vs
 |[],[],_=>by rw[zzx];simp only[zao]
 |d::ds,v::vs,h=>by
  rw[zzx]
  simp only[zao]at h ⊢
  exact⟨zak.rpd hF hp d v h.1,zao.rpd hF hp ds vs h.2⟩
 |[],_::_,h=>by simp only[zao]at h
 |_::_,[],h=>by simp only[zao]at h
end
end
section
variable {P:Program} {G:Nat→List FD} {N:Nat} {st:St}
end
end Go.Abs
namespace Go.Abs
open Go
section
variable {P:Program} {G:Nat→List FD} {T:Tbl} {N tag0:Nat} {am:Nat→Bool} {st:St} {a:Act} {w:World} {L:Loc} {F:Nat→Nat→Prop} {K:St→Prop} {ops:Array Oper}
theorem zjg (hT:zan P G T){Q':Exit→Act→World→Prop}{r:List Nat}:∀(l:List Oper) (k:Nat),(∀j o,l[j]?=some o→ops[k+j]?=some o)→∀(st:St) (a:Act) (w:World) (L:Loc) (F:Nat→Nat→Prop),Rel G N st a w L F→zgO P G T N tag0 am ops l K st→
  (∀a' w',Sat G N st w L F K a' w'→wpOps P ops Q' r a' w')→wpOps P ops Q' ((List.range l.length).map (k+·)++r) a w
 |[],k,_,st,a,w,L,F,h,hs,hQ=>by
  simp only[List.length_nil,List.range_zero,List.map_nil,List.nil_append]
  exact hQ _ _ ⟨st,L,F,hs,h,zbv.refl _ _ _ _ _⟩
 |o::l,k,hl,st,a,w,L,F,h,hs,hQ=>by
  have h0:ops[k]?=some o:=hl 0 o rfl
  have hrest:(List.range (o::l).length).map (k+·)=k::(List.range l.length).map (k+1+·):=by
   simp only[List.length_cons,List.range_succ_eq_map,List.map_cons,List.map_map,Nat.add_zero]
   congr 1
   apply List.map_congr_left
   intro j _
   simp;omega
  rw[hrest,List.cons_append]
  simp only[wpOps,h0]
  have ih:∀(st1:St) (a1:Act) (w1:World) (L1:Loc) (F1:Nat→Nat→Prop),Rel G N st1 a1 w1 L1 F1→zfZ st w L F st1 w1 L1 F1→zgO P G T N tag0 am ops l K st1→wpOps P ops Q' ((List.range l.length).map (k+1+·)++r) a1 w1:=
   fun st1 a1 w1 L1 F1 hr hst hs'=>zjg hT l (k+1) (fun j o' ho'=>by have:=hl (j+1) o' (by simpa using ho');rw[←this];congr 1;omega) st1 a1 w1 L1 F1 hr hs' (fun a' w' hsat=>hQ _ _ (hsat.trans hst))
  obtain⟨b,hb,h1,h2⟩:=zb7 hs
  rw[zcL h hb]
  cases b with
  |true=>
   simp only[if_true]
   exact .inl (Oper.wp_mono (fun a1 w1 ⟨st1,L1,F1,h1,h2,h3⟩=>ih st1 a1 w1 L1 F1 h2 h3 h1) (zlL h (zpb hT o (h1 rfl))))
  |false=>
   simp only[Bool.false_eq_true,if_false]
   obtain⟨hd,hs'⟩:=h2 rfl
   have hH:(st.put o.dst (.tup [])).H=st.H:=by cases o.dst<;>rfl
   have hn:(st.put o.dst (.tup [])).n=st.n:=by cases o.dst<;>rfl
   refine ih (st.put o.dst (.tup [])) (a.put o.dst undef) w L F (h.put (st':=st.put o.dst (.tup [])) (by rw[hH,hn];exact h.ok) (by rw[hH,hn];exact zbv.refl _ _ _ _ _) hd (by simp only[zak];exact⟨[],rfl,trivial⟩) rfl) ?_ hs'
   unfold zfZ;rw[hH,hn];exact zbv.refl _ _ _ _ _
def zEJ (P:Program)(G:Nat→List FD)(N:Nat)(t:TypeId)(x i:Operand)(d:Nat)(K:St→Prop)(st:St):Prop:=
 ∃len e te id k kk n,P.underlying t=some (.array len e)∧zas P e=some te∧te.size=1∧d<N∧st.ev G x= .ptr id k∧st.ev G i= .fz (.i kk n)∧0≤n∧n<(len:Int)∧K (st.put (some d) (.ptr id (k+n.toNat)))
theorem Oper.wp_keep {o:Oper}{x:Tmp}{v0:Value}{K':Act→World→Prop}{Q:Exit→Act→World→Prop}(hx:o.dst≠some x)(hI:a.tmps.getD x undef=v0)(h:o.wp P a w K' Q):o.wp P a w (fun a' w'=>K' a' w'∧a'.tmps.getD x undef=v0) Q:=by
 have hput:∀(b:Act) v,b.tmps=a.tmps→(b.put o.dst v).tmps.getD x undef=v0:=fun b v hb=>by
  cases hd:o.dst with
  |none=>simp only[Act.put,hb];exact hI
  |some d=>
   have hne:d≠x:=fun e=>hx (by rw[hd,e])
   simp only[Act.put,hb]
   rw[Array.getD_eq_getD_getElem?]at hI ⊢
   rw[Array.getElem?_setIfInBounds_ne hne]
   exact hI
 unfold Oper.wp at*
 generalize (execOp a.eval o).run P w=r at*
 cases r with
 |ok n w'=>
  cases n<;>simp only[Oper.upon]at h ⊢ <;>
   first
    |exact⟨h,hput _ _ rfl⟩
    |exact Calls.mono h (fun e w'' he=>by cases e<;>first|exact⟨he,hput _ _ rfl⟩|exact he)
    |exact Rows.mono h (fun _ _ he=>⟨he,hput _ _ rfl⟩)
 |halt x w'=>cases x<;>simp only[Oper.upon]at h ⊢ <;>exact h
def zsf (P:Program)(G:Nat→List FD)(N:Nat)(t:TypeId)(x i:Operand)(d:Nat)(st:St)[k:Kn St]:Prop:=zEJ P G N t x i d k.run st
theorem zsf.i {t x i d len e te id k kk n}{kc:St→Prop}(hu:P.underlying t=some (.array len e))(he:zas P e=some te)(h1:te.size=1)(hd:d<N)(hx:st.ev G x= .ptr id k)(hi:st.ev G i= .fz (.i kk n))(hn:0≤n∧n<(len:Int))
  (h:kc (st.put (some d) (.ptr id (k+n.toNat)))):@zsf P G N t x i d st ⟨kc⟩:=⟨len,e,te,id,k,kk,n,hu,he,h1,hd,hx,hi,hn.1,hn.2,h⟩
def XE (P:Program)(G:Nat→List FD)(T:Tbl)(N tag0:Nat)(am:Nat→Bool):Code→(Exit→St→Prop)→St→Prop
 | .skip,Q,st=>Q .normal st
 | .seq x y,Q,st=>XE P G T N tag0 am x (zGK (XE P G T N tag0 am y Q) Q) st
 | .cond c x y,Q,st=>zsS (XE P G T N tag0 am x Q st) (XE P G T N tag0 am y Q st) (st.ev G c)
 | .block id c,Q,st=>XE P G T N tag0 am c (zif id Q) st
 | .exit id,Q,st=>Q (.exit id) st
 | .ret,Q,st=>Q .ret st
 | .region id ops false,Q,st=>zd0 (am (1000000+id)) (W P G N (.region id ops false) Q st) (zgO P G T N tag0 am ops ops.toList (Q .normal) st)
 | .region id ops true,Q,st=>zd0 (am (1000000+id)) (W P G N (.region id ops true) Q st) (zgO P G T N tag0 am ops ops.toList (Q .normal) st)
 |c,Q,st=>W P G N c Q st
theorem zn7 (hm:P.follows .mixedOrders=true)(hT:zan P G T):∀(c:Code) (Q:Exit→St→Prop) (st:St),zbN am T c=true→XE P G T N tag0 am c Q st→W P G N c Q st
 | .skip,_,_,_,h=>zxj h
 | .seq x y,Q,st,hd,h=>by
  simp only[XE]at h
  simp only[zbN,Bool.and_eq_true]at hd
  refine zA5 (zxi (zn7 hm hT x _ st hd.1 h) fun e st1 h1=>?_)
  cases e with
  |normal=>exact zn7 hm hT y Q st1 hd.2 h1
  |_=>exact h1
 | .cond c x y,Q,st,hd,h=>by
  simp only[XE]at h
  simp only[zbN,Bool.and_eq_true]at hd
  unfold zsS at h
  split at h
  ·rename_i t ht
   exact zxf ht (fun hh=>zn7 hm hT x Q st hd.1 (h.1 hh)) (fun hh=>zn7 hm hT y Q st hd.2 (h.2 hh))
  ·exact h.elim
 | .block id c,Q,st,hd,h=>by
  simp only[XE]at h
  exact zsl (zn7 hm hT c _ st hd h)
 | .exit id,_,_,_,h=>zxg h
 | .ret,_,_,_,h=>zA4 h
 | .region id ops false,Q,st,_,h=>by
  simp only[XE]at h
  cases ha:am (1000000+id)with
  |true=>exact h.1 ha
  |false=>exact zlX hT (h.2 ha)
 | .region id ops true,Q,st,hd,h=>by
  simp only[XE]at h
  simp only[zbN]at hd
  cases ha:am (1000000+id)with
  |true=>exact h.1 ha
  |false=>exact zsm hm hT (by simpa[ha]using hd) (h.2 ha)
 | .loop _,Q,st,_,h=>by simpa only[XE]using h
 | .rangeFunc _ _ _ _,Q,st,_,h=>by simpa only[XE]using h
 | .scope _,Q,st,_,h=>by simpa only[XE]using h
 | .label _,Q,st,_,h=>by simpa only[XE]using h
 | .goto _,Q,st,_,h=>by simpa only[XE]using h
 | .refuse _,Q,st,_,h=>by simpa only[XE]using h
def XEK (P:Program)(G:Nat→List FD)(T:Tbl)(N tag0:Nat)(am:Nat→Bool)(c:Code)(st:St)[q:Ke]:Prop:=XE P G T N tag0 am c q.run st
end
section
attribute [local semireducible] BiK obK zaq zh3 zaW VvK XOK zkA zjz zh7 zh8 zqA zf2 zeu XCK zqN zxS zf3 zx4 zaQ WK zm0
variable {P:Program} {G:Nat→List FD} {T:Tbl} {N tag0:Nat} {am:Nat→Bool} {st:St} {ops:Array Oper} {q:Exit→St→Prop} {x:Operand}
@[go_sem] theorem zB5:@XEK P G T N tag0 am (.skip) st ⟨q⟩=q .normal st:=(rfl)
@[go_sem] theorem zDK {c d:Code}:@XEK P G T N tag0 am (.seq c d) st ⟨q⟩=@XEK P G T N tag0 am c st ⟨fun e st=>@zxS e st ⟨fun st=>@XEK P G T N tag0 am d st ⟨q⟩⟩ ⟨q⟩⟩:=(rfl)
@[go_sem] theorem zB1 {c d:Code}:@XEK P G T N tag0 am (.cond x c d) st ⟨q⟩=@zqN (st.ev G x) ⟨@XEK P G T N tag0 am c st ⟨q⟩⟩ ⟨@XEK P G T N tag0 am d st ⟨q⟩⟩:=(rfl)
@[go_sem] theorem zAo {i:Nat}{c:Code}:@XEK P G T N tag0 am (.block i c) st ⟨q⟩=@XEK P G T N tag0 am c st ⟨fun e st=>@zf3 i e st ⟨q⟩⟩:=(rfl)
@[go_sem] theorem zB3 {i:Nat}:@XEK P G T N tag0 am (.exit i) st ⟨q⟩=q (.exit i) st:=(rfl)
@[go_sem] theorem zDJ:@XEK P G T N tag0 am (.ret) st ⟨q⟩=q .ret st:=(rfl)
@[go_sem] theorem zyZ {i:Nat}:@XEK P G T N tag0 am (.region i ops false) st ⟨q⟩=@zaW (am (1000000+i)) ⟨@WK P G N (.region i ops false) st ⟨q⟩⟩ ⟨@zeu P G T N tag0 am ops ops.toList st ⟨q .normal⟩⟩:=(rfl)
@[go_sem] theorem zB2 {i:Nat}:@XEK P G T N tag0 am (.region i ops true) st ⟨q⟩=@zaW (am (1000000+i)) ⟨@WK P G N (.region i ops true) st ⟨q⟩⟩ ⟨@zeu P G T N tag0 am ops ops.toList st ⟨q .normal⟩⟩:=(rfl)
@[go_sem] theorem zB4 {c:Code}:@XEK P G T N tag0 am (.loop c) st ⟨q⟩=@WK P G N (.loop c) st ⟨q⟩:=(rfl)
theorem zo8 (hm:P.follows .mixedOrders=true)(hT:zan P G T)(tag0:Nat)(am:Nat→Bool){ι:Type}{c:Code}(I:Ki ι)(i:ι)(hd:zbN am T c=true)(h0:zd2 G N st (I.st i))
  (round:∀i,@XEK P G T N tag0 am c (I.st i) ⟨fun e st=>@zm0 G N ι I i e st ⟨q⟩⟩):@WK P G N (.loop c) st ⟨q⟩:=
 zxh I.st I.mu i h0 fun i=>zn7 hm hT c _ _ hd (round i)
end
attribute [irreducible] XEK zsf
end Go.Abs
