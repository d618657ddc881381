/- several texts of this proof in one; no conditions -/
import Derived.Test.YtalbdmcklgglbaaDoorY7
import Derived.Shelf.Spec.SlicesGrow
set_option linter.unusedSimpArgs false
namespace Go.Abs
open Go
section
variable {P:Program} {G:Nat→List FD}
end
end Go.Abs
namespace Go.Abs
open Go
def zvg (te:TI)(n:Nat):List D:=(List.range (n*te.size)).map fun j=>te.zero.getD (j % te.size) .junk
section
variable {P:Program} {w:World} {t u ty e:TypeId} {i:TypeInfo} {z:Value} {kk:IntKind}
end
section
variable {P:Program} {G:Nat→List FD} {w:World} {L:Loc} {F:Nat→Nat→Prop} {U:Id→Prop} {H:zas}
end
end Go.Abs
namespace Go.Abs
open Go
section
variable {P:Program} {G:Nat→List FD} {T:Tbl} {N tag0:Nat} {am:Nat→Bool} {st:St} {a:Act} {w:World} {L:Loc} {F:Nat→Nat→Prop} {K:St→Prop} {ops:Array Oper}
def zFK (P:Program)(G:Nat→List FD)(N tag:Nat)(t u:TypeId)(x y:Operand)(d:Nat)(K:St→Prop)(st:St):Prop:=
  ∃te kk m,zau P t=some te∧P.underlying u=some (.int kk)∧d<N∧st.ev G y= .fz (.i .i64 m)∧0≤m∧
    ((∃id xs ys o,st.ev G x= .ow id te.size xs∧ys.length=m.toNat∧zag ys=zvg te m.toNat∧st.H id=some o∧zbi xs te.size∧zbi ys te.size∧(zag ys).all zcJ=true∧fits (xs.length+m.toNat) te.bytes∧
        K ({st with H:=zaM st.H id none}.new (tag,st.n) tok (some d) (.ow (tag,st.n) te.size (xs++ys))))∨
     (∃id s len o,st.ev G x= .arr id te.size s len∧st.H id=some o∧s+len*te.size≤o.cells.length∧(zvg te m.toNat).all zcJ=true∧0<te.size∧fits (len+m.toNat) te.bytes∧
        K ({st with H:=zaM st.H id none}.new (tag,st.n) ⟨(o.cells.drop s).take (len*te.size)++zvg te m.toNat,false,o.virt&&((o.cells.drop s).take (len*te.size)++zvg te m.toNat).isEmpty⟩ (some d) (.arr (tag,st.n) te.size 0 (len+m.toNat)))))
def zpT (P:Program)(G:Nat→List FD)(N tag:Nat)(t u:TypeId)(x y:Operand)(d:Nat)(st:St)[k:Kn St]:Prop:=zFK P G N tag t u x y d k.run st
theorem zpT.ow {t u x y d tag te kk m id xs}{kc:St→Prop}(ys:List FD)(hte:zau P t=some te)(hu:P.underlying u=some (.int kk))(hd:d<N)(hx:st.ev G x= .ow id te.size xs)(hy:st.ev G y= .fz (.i .i64 m))(h0:0≤m)
  {o:O}(hl:ys.length=m.toNat)(hz:zag ys=zvg te m.toNat)(ho:st.H id=some o)(h2:zbi xs te.size)(h3:zbi ys te.size)(h4:(zag ys).all zcJ=true)(h5:fits (xs.length+m.toNat) te.bytes)
  (h:kc ({st with H:=zaM st.H id none}.new (tag,st.n) tok (some d) (.ow (tag,st.n) te.size (xs++ys)))):@zpT P G N tag t u x y d st ⟨kc⟩:=
 ⟨te,kk,m,hte,hu,hd,hy,h0,.inl ⟨id,xs,ys,o,hx,hl,hz,ho,h2,h3,h4,h5,h⟩⟩
theorem zpT.arr {t u x y d tag te kk m id s len}{kc:St→Prop}(hte:zau P t=some te)(hu:P.underlying u=some (.int kk))(hd:d<N)(hx:st.ev G x= .arr id te.size s len)(hy:st.ev G y= .fz (.i .i64 m))(h0:0≤m)
  {o:O}(ho:st.H id=some o)(h1:s+len*te.size≤o.cells.length)(h2:(zvg te m.toNat).all zcJ=true)(h3:0<te.size)(h5:fits (len+m.toNat) te.bytes)
  (h:kc ({st with H:=zaM st.H id none}.new (tag,st.n) ⟨(o.cells.drop s).take (len*te.size)++zvg te m.toNat,false,o.virt&&((o.cells.drop s).take (len*te.size)++zvg te m.toNat).isEmpty⟩ (some d) (.arr (tag,st.n) te.size 0 (len+m.toNat)))):@zpT P G N tag t u x y d st ⟨kc⟩:=
 ⟨te,kk,m,hte,hu,hd,hy,h0,.inr ⟨id,s,len,o,hx,ho,h1,h2,h3,h5,h⟩⟩
end
attribute [irreducible] zpT
end Go.Abs
namespace Go.Abs
open Go
mutual
def fzD (id:Id)(xs:List FD):D→D
 | .arr i es s len=>if i=id∧es=1∧s=0∧len=xs.length then .fz (.sl xs)else .arr i es s len
 | .agg ds=> .agg (zys id xs ds)
 | .ptr i k=> .ptr i k
 | .fn f caps=> .fn f caps
 | .tup ds=> .tup ds
 | .junk=> .junk
 | .fz x=> .fz x
 | .full xs=> .full xs
 | .rp xs=> .rp xs
 | .ow i es xs=> .ow i es xs
def zys (id:Id)(xs:List FD):List D→List D
 |[]=>[]
 |d::ds=>fzD id xs d::zys id xs ds
end
section
variable {w:World} {L:Loc} {F F':Nat→Nat→Prop} {U:Id→Prop} {id:Id} {xs:List FD}
theorem zgo (hF:∀b k,F b k→F' b k):Ext w L F U w L F' U:=⟨fun _ h=>h,fun _ _=>rfl,hF,fun _ _ _=>rfl,Nat.le_refl _,fun _ cs T fr _ h=>⟨cs,T,fr,h,Nat.le_refl _⟩⟩
mutual
theorem zak.fzd (hF:∀b k,F b k→F' b k)(hp:∀v,zak w L F U (.arr id 1 0 xs.length) v→zbn w F' v (.sl xs)):
  ∀(d:D) (v:Value),zak w L F U d v→zak w L F' U (fzD id xs d) v
 | .arr i es s len,v,h=>by
  rw[fzD]
  split
  ·rename_i e
   obtain⟨rfl,rfl,rfl,rfl⟩:=e
   simp only[zak]
   exact hp v h
  ·exact zak.ext (zgo hF) (.arr i es s len) v h
 | .agg ds,v,h=>by
  rw[fzD]
  simp only[zak]at h ⊢
  obtain⟨vs,h1,h2⟩:=h
  exact⟨vs,h1,zap.fzd hF hp _ _ h2⟩
 | .ptr i k,v,h=>zak.ext (zgo hF) (.ptr i k) v h
 | .fn f caps,v,h=>zak.ext (zgo hF) (.fn f caps) v h
 | .tup ds,v,h=>zak.ext (zgo hF) (.tup ds) v h
 | .junk,v,h=>by rw[fzD];simp only[zak]
 | .fz x,v,h=>zak.ext (zgo hF) (.fz x) v h
 | .full xs,v,h=>zak.ext (zgo hF) (.full xs) v h
 | .rp xs,v,h=>zak.ext (zgo hF) (.rp xs) v h
 | .ow i es xs,v,h=>zak.ext (zgo hF) (.ow i es xs) v h
theorem zap.fzd (hF:∀b k,F b k→F' b k)(hp:∀v,zak w L F U (.arr id 1 0 xs.length) v→zbn w F' v (.sl xs)):
  ∀(ds:List D) (vs:List Value),zap w L F U ds vs→zap w L F' U (zys id xs ds) vs
 |[],[],_=>by rw[zys];simp only[zap]
 |d::ds,v::vs,h=>by
  rw[zys]
  simp only[zap]at h ⊢
  exact⟨zak.fzd hF hp d v h.1,zap.fzd hF hp ds vs h.2⟩
 |[],_::_,h=>by simp only[zap]at h
 |_::_,[],h=>by simp only[zap]at h
end
end
section
variable {P:Program} {G:Nat→List FD} {N:Nat} {st:St}
end
section
attribute [local semireducible] BiK obK zaH zgX zaB VvK XOK zja zio zg1 zg2 zou zfe zgc XCK zoI zu5 zfh zvi zaD WK zln XEK
theorem zew {P:Program}{G:Nat→List FD}{T:Tbl}(hm:P.follows .mixedOrders=true)(hT:zan P G T){f:FuncId}{fn:Func}{c:Code}{args:List D}{H:zas}{n:Nat}{R:D→zas→Nat→Prop}(tag0:Nat)(am:Nat→Bool)(hcall:zam P f)(hf:P.funcs[f]?=some fn)(hb:fn.body=some c){N:Nat}(hN:fn.ntmps=N)(hl:args.length≤N)
  (hd:zbk am T c=true)(h:@XEK P G T N tag0 am c ⟨frL (zg8 0 args),H,n⟩ ⟨fun e st=>@zvi P fn e st ⟨R⟩⟩):zav P G f args H n R:=
 zgZ hcall hf hb hN hl (by rw[zez];exact zmh hm hT _ _ _ hd h)
end
end Go.Abs
namespace Go.Abs
open Go
theorem zim {P:Program}{G:Nat→List FD}{ρ:Go.Shelf.Ren}(L:Proofs.Lays8.n4 P ρ)(hc:zam P (ρ.f 4)){te:TI}(hte:zaq P (ρ.t 25)=some te)(hsz:0<te.size){n:Nat}(hn:n≤1000000000)(hb:n*te.bytes≤140737488355328)
  {t m:Nat}{H:zas}:zav P G (ρ.f 4) [.full [],.fz (.i .i64 (n:Int))] H m (fun d H' m'=>(n=0∧d= .full []∧H'=H∧m'=m)∨(0<n∧d= .ow (t,m) te.size []∧H'=zaM H (t,m) (some tok)∧m'=m+1)):=by
 refine⟨hc,fun w Lo F vs hok hvs=>?_⟩
 obtain⟨v,rfl,hv⟩:∃v,vs=[v,.int .i64 (n:Int)]∧zak w Lo F (Ub m) (.full []) v:=by
  match vs,hvs with
  |[v,u],h=>
   rw[zap,zap]at h
   obtain⟨h1,h2,_⟩:=h
   obtain⟨rfl,_⟩:=zkh h2
   exact⟨v,rfl,h1⟩
  |[],h=>simp[zap]at h
  |[_],h=>simp[zap]at h
  |_::_::_::_,h=>simp[zap]at h
 have hv2:=hv
 simp only[zak]at hv2
 obtain⟨a,rfl,_⟩:=hv2
 by_cases h0:n=0
 ·subst h0
  refine(Proofs.Any8.slices_Grow_room L a 0 0 0 w (Nat.le_refl _) (by omega) (by omega) (Nat.le_refl _)).mono fun e w' he=>?_
  obtain⟨rfl,rfl⟩:=he
  exact⟨_,_,H,m,Lo,F,rfl,.inl ⟨rfl,rfl,rfl,rfl⟩,hok,hv,zbL.refl _ _ _ _ _⟩
 ·obtain⟨i,z,d,g1,g2,g3,rfl⟩:=zaA hte
  have hz:=zeN hte
  dsimp only at*
  simp only[List.length_map,Array.length_toList]at hz
  refine(Proofs.Any8.slices_Grow_grow L i z g1 g2 hsz a 0 0 n [] w (Nat.le_refl _) (by omega) (by rw[Nat.zero_add];exact hb) (by omega) (by simp) (fun _=>rfl) (fun _ _ j v hj=>by simp at hj)).mono fun e w' he=>?_
  obtain⟨rfl,rfl⟩:=he
  have hge:=zdU w (0+n) 0 (ρ.t 25)
  generalize grownCap w (0+n) 0 (ρ.t 25)=gc at hge
  have hp:=zbQ.drewAlloc w (.cells (([]:List Value).toArray++Builtin.zeroCells z.cells (0+n-0)++Builtin.zeroCells z.cells (gc-(0+n))) (ρ.t 25))
  have hsize:((([]:List Value).toArray++Builtin.zeroCells z.cells (0+n-0)++Builtin.zeroCells z.cells (gc-(0+n)))).size=gc*i.size:=by
   simp only[Array.size_append,List.size_toArray,List.length_nil,Builtin.zeroCells,hz]
   simp[←Nat.add_mul]
   rw[show n+(gc-n)=gc by omega]
  obtain⟨k1,k2⟩:=zjD hok hp (s:=0) (cells:=[]) (id:=(t,m)) (U':=Ub (m+1)) zfb zdM zdp (by simp) (fun j hj=>by simp at hj) false true
  refine⟨_,_,_,m+1,_,_,rfl,.inr ⟨Nat.pos_of_ne_zero h0,rfl,rfl,rfl⟩,k1,?_,k2⟩
  simp only[zak]
  refine⟨zdp,?_,some ⟨w.heap.size,0,none⟩,gc,rfl,.inr ⟨w.heap.size,0,rfl,by simp[zcK],by rw[hp.size];omega,fun cs T fr hcs=>?_⟩⟩
  ·exact zhs (L:=Lo) (U:=Ub m) (xs:=[]) (es:=i.size) (by intro x hx;simp at hx) (by simp) (by simp) (fun k hk=>by simp at hk) (fun k hk=>by simp at hk)
  ·rw[hp.new]at hcs
   simp only[Option.some.injEq,Obj.cells.injEq]at hcs
   obtain⟨rfl,_,_⟩:=hcs
   rw[hsize,Nat.zero_add]
   exact Nat.le_refl _
end Go.Abs
