/- several texts of this proof in one; no conditions -/
import Derived.Test.YtdlioodgfopmfaaGreatDoorAbs45
set_option linter.unusedSimpArgs false
namespace Go.Abs
open Go
def Tbl.or (S T:Tbl):Tbl:=fun f=>(S f).or (T f)
@[go_sem] theorem zF2 {S T:Tbl}{f:FuncId}:Tbl.or S T f=(S f).or (T f):=rfl
@[go_sem] theorem zDI {α:Type}{a:α}{b:Option α}:(some a).or b=some a:=rfl
@[go_sem] theorem zDH {α:Type}{b:Option α}:(none:Option α).or b=b:=by cases b<;>rfl
section
variable {P:Program} {G:Nat→List FD} {S T:Tbl}
theorem zoK (hS:zap P G S)(hT:zap P G T):zap P G (Tbl.or S T):=fun f t xs r c ht hx hc=>by
 unfold Tbl.or at ht
 cases h:S f with
 |none=>rw[h]at ht;exact hT f t xs r c (by simpa using ht) hx hc
 |some t'=>rw[h]at ht;exact hS f t xs r c (by rw[h];simpa using ht) hx hc
theorem zan.tail {w:World}{L L':Loc}{F:Nat→Nat→Prop}{U U':Id→Prop}{g:FuncId}{xs:List FD}:∀{ds:List D} {vs:List Value},D.toFDs ds=some xs→zan w L F U (ds++[.fn g []]) vs→zan w L' F U' (xs.map .fz++[.fn g []]) vs:=by
 intro ds vs ha h
 rw[zan.iff]at h ⊢
 obtain⟨h1,h2⟩:=h
 have hl:xs.length=ds.length:=by
  have:=zan.toFDs (w:=w) (L:=L) (F:=F) (U:=U) ds (vs.take ds.length) xs (by
   rw[zan.iff]
   refine⟨by rw[List.length_append]at h1;simp only[List.length_take];omega,fun j hj=>?_⟩
   have:=h2 j (by rw[List.length_append];omega)
   rw[List.getD_eq_getElem?_getD,List.getElem?_append_left hj,←List.getD_eq_getElem?_getD]at this
   rwa [List.getD_eq_getElem?_getD (l:=vs.take _),List.getElem?_take,if_pos hj,←List.getD_eq_getElem?_getD (l:=vs)]) ha
  have h3:=this.1
  rw[List.length_append]at h1
  simp only[List.length_take]at h3
  omega
 refine⟨by rw[List.length_append,List.length_map,hl,←List.length_append];exact h1,fun j hj=>?_⟩
 rw[List.length_append,List.length_map]at hj
 have h3:=h2 j (by rw[List.length_append];omega)
 rcases Nat.lt_or_ge j ds.length with h4|h4
 ·have hv:zan w L F U ds (vs.take ds.length):=by
   rw[zan.iff]
   refine⟨by rw[List.length_append]at h1;simp only[List.length_take];omega,fun i hi=>?_⟩
   have:=h2 i (by rw[List.length_append];omega)
   rw[List.getD_eq_getElem?_getD,List.getElem?_append_left hi,←List.getD_eq_getElem?_getD]at this
   rwa [List.getD_eq_getElem?_getD (l:=vs.take _),List.getElem?_take,if_pos hi,←List.getD_eq_getElem?_getD (l:=vs)]
  have:=((zan.iff _ _).1 (hv.of_toFDs (L':=L') (U':=U') ha)).2 j (by rw[List.length_map];omega)
  rw[List.getD_eq_getElem?_getD,List.getElem?_append_left (by rw[List.length_map];omega),←List.getD_eq_getElem?_getD]
  rwa [List.getD_eq_getElem?_getD (l:=vs.take _),List.getElem?_take,if_pos h4,←List.getD_eq_getElem?_getD (l:=vs)]at this
 ·obtain rfl:j=ds.length:=by simp only[List.length_singleton]at hj;omega
  rw[List.getD_eq_getElem?_getD,List.getElem?_append_right (Nat.le_refl _),Nat.sub_self]at h3
  rw[List.getD_eq_getElem?_getD,List.getElem?_append_right (by rw[List.length_map];omega),List.length_map,hl,Nat.sub_self]
  simp only[List.getElem?_cons_zero,Option.getD_some,zal]at h3 ⊢
  obtain⟨us,e,h5⟩:=h3
  refine⟨us,e,?_⟩
  cases us with
  |nil=>simp only[zan]
  |cons u us=>simp only[zan]at h5
end
end Go.Abs
namespace Go.Abs
open Go
mutual
def puD:D→Option D
 | .rp xs=>some (.rp xs)
 | .fn f caps=>(zAi caps).map (D.fn f)
 | .fz x=>some (.fz x)
 | .full xs=>some (.fz (.sl xs))
 | .ow _ _ xs=>some (.fz (.sl xs))
 | .agg ds=>(D.toFD (.agg ds)).map .fz
 | .junk=>none
 | .ptr _ _=>none
 | .arr _ _ _ _=>none
 | .tup _=>none
def zAi:List D→Option (List D)
 |[]=>some []
 |d::ds=>match puD d,zAi ds with
  |some x,some xs=>some (x::xs)
  |_,_=>none
end
section
variable {w:World} {L L':Loc} {F:Nat→Nat→Prop} {U U':Id→Prop}
mutual
theorem zal.pu:∀(d d':D) (v:Value),puD d=some d'→zal w L F U d v→zal w L' F U' d' v
 | .rp xs,d',v,e,h=>by
  rw[puD]at e;cases e
  simpa only[zal]using h
 | .fn f caps,d',v,e,h=>by
  rw[puD,Option.map_eq_some_iff]at e
  obtain⟨cs,e1,rfl⟩:=e
  simp only[zal]at h ⊢
  obtain⟨vs,h1,h2⟩:=h
  exact⟨vs,h1,zan.pu caps cs vs e1 h2⟩
 | .fz x,d',v,e,h=>by
  rw[puD]at e;cases e
  simpa only[zal]using h
 | .full xs,d',v,e,h=>by
  rw[puD]at e;cases e
  simp only[zal]at h ⊢
  obtain⟨_,_,h⟩:=h
  exact h
 | .ow id es xs,d',v,e,h=>by
  rw[puD]at e;cases e
  simp only[zal]at h ⊢
  exact h.2.1
 | .agg ds,d',v,e,h=>by
  rw[puD,Option.map_eq_some_iff]at e
  obtain⟨x,e1,rfl⟩:=e
  simp only[zal]
  exact zal.toFD _ _ _ h e1
 | .junk,d',v,e,h=>by rw[puD]at e;cases e
 | .ptr _ _,d',v,e,h=>by rw[puD]at e;cases e
 | .arr _ _ _ _,d',v,e,h=>by rw[puD]at e;cases e
 | .tup _,d',v,e,h=>by rw[puD]at e;cases e
theorem zan.pu:∀(ds ds':List D) (vs:List Value),zAi ds=some ds'→zan w L F U ds vs→zan w L' F U' ds' vs
 |[],ds',vs,e,h=>by
  rw[zAi]at e;cases e
  cases vs with
  |nil=>simp only[zan]
  |cons=>simp only[zan]at h
 |d::ds,ds',vs,e,h=>by
  rw[zAi]at e
  cases h1:puD d with
  |none=>rw[h1]at e;cases e
  |some x=>
   cases h2:zAi ds with
   |none=>rw[h1,h2]at e;cases e
   |some xs=>
    rw[h1,h2]at e
    cases e
    cases vs with
    |nil=>simp only[zan]at h
    |cons v vs=>
     simp only[zan]at h ⊢
     exact⟨zal.pu d x v h1 h.1,zan.pu ds xs vs h2 h.2⟩
end
end
section
variable {P:Program} {G:Nat→List FD}
end
@[go_sem] theorem zKx {n n':Nat}{pre:Id→Id}{vn:Id→Bool}{z:Id→Option (List FD)}{H:zaw}{xs ys:List FD}:Dr n n' pre vn z H (.rp xs) (.rp ys)=(xs=ys):=by simp[Dr]
mutual
def rpD (id:Id)(ys:List FD):D→D
 | .ptr i k=>if i=id∧k=0 then .rp ys else .ptr i k
 | .fn f caps=> .fn f (zy7 id ys caps)
 | .agg ds=> .agg (zy7 id ys ds)
 | .tup ds=> .tup (zy7 id ys ds)
 | .junk=> .junk
 | .fz x=> .fz x
 | .full xs=> .full xs
 | .rp xs=> .rp xs
 | .arr i es s len=> .arr i es s len
 | .ow i es xs=> .ow i es xs
def zy7 (id:Id)(ys:List FD):List D→List D
 |[]=>[]
 |d::ds=>rpD id ys d::zy7 id ys ds
end
section
variable {w:World} {L:Loc} {F F':Nat→Nat→Prop} {U:Id→Prop} {id:Id} {ys:List FD}
mutual
theorem zal.rpd (hF:∀b k,F b k→F' b k)(hp:∀j,j<ys.length→F' (L id).1 ((L id).2+j)∧∃u,World.at w (L id).1 ((L id).2+j)=some u∧zbA w F' u (ys.getD j .nilf)):
  ∀(d:D) (v:Value),zal w L F U d v→zal w L F' U (rpD id ys d) v
 | .ptr i k,v,h=>by
  rw[rpD]
  split
  ·rename_i e
   obtain⟨rfl,rfl⟩:=e
   simp only[zal]at h ⊢
   exact⟨(L i).1,(L i).2+0,h.2.2,fun j hj=>by rw[Nat.add_zero];exact hp j hj⟩
  ·simpa only[zal]using h
 | .fn f caps,v,h=>by
  rw[rpD]
  simp only[zal]at h ⊢
  obtain⟨vs,h1,h2⟩:=h
  exact⟨vs,h1,zan.rpd hF hp _ _ h2⟩
 | .agg ds,v,h=>by
  rw[rpD]
  simp only[zal]at h ⊢
  obtain⟨vs,h1,h2⟩:=h
  exact⟨vs,h1,zan.rpd hF hp _ _ h2⟩
 | .tup ds,v,h=>by
  rw[rpD]
  simp only[zal]at h ⊢
  obtain⟨vs,h1,h2⟩:=h
  exact⟨vs,h1,zan.rpd hF hp _ _ h2⟩
 | .junk,v,h=>by rw[rpD];simp only[zal]
 | .fz x,v,h=>zal.ext (U':=U) ⟨fun _ h=>h,fun _ _=>rfl,hF,fun _ _ _=>rfl,Nat.le_refl _,fun b cs T fr _ h=>⟨cs,T,fr,h,Nat.le_refl _⟩⟩ (.fz x) v h
 | .full xs,v,h=>zal.ext (U':=U) ⟨fun _ h=>h,fun _ _=>rfl,hF,fun _ _ _=>rfl,Nat.le_refl _,fun b cs T fr _ h=>⟨cs,T,fr,h,Nat.le_refl _⟩⟩ (.full xs) v h
 | .rp xs,v,h=>zal.ext (U':=U) ⟨fun _ h=>h,fun _ _=>rfl,hF,fun _ _ _=>rfl,Nat.le_refl _,fun b cs T fr _ h=>⟨cs,T,fr,h,Nat.le_refl _⟩⟩ (.rp xs) v h
 | .arr i es s len,v,h=>zal.ext (U':=U) ⟨fun _ h=>h,fun _ _=>rfl,hF,fun _ _ _=>rfl,Nat.le_refl _,fun b cs T fr _ h=>⟨cs,T,fr,h,Nat.le_refl _⟩⟩ (.arr i es s len) v h
 | .ow i es xs,v,h=>zal.ext (U':=U) ⟨fun _ h=>h,fun _ _=>rfl,hF,fun _ _ _=>rfl,Nat.le_refl _,fun b cs T fr _ h=>⟨cs,T,fr,h,Nat.le_refl _⟩⟩ (.ow i es xs) v h
theorem zan.rpd (hF:∀b k,F b k→F' b k)(hp:∀j,j<ys.length→F' (L id).1 ((L id).2+j)∧∃u,World.at w (L id).1 ((L id).2+j)=some u∧zbA w F' u (ys.getD j .nilf)):
  ∀(ds:List D) (vs:List Value),zan w L F U ds vs→zan w L F' U (zy7 id ys ds) vs
 |[],[],_=>by rw[zy7];simp only[zan]
 |d::ds,v::vs,h=>by
  rw[zy7]
  simp only[zan]at h ⊢
  exact⟨zal.rpd hF hp d v h.1,zan.rpd hF hp ds vs h.2⟩
 |[],_::_,h=>by simp only[zan]at h
 |_::_,[],h=>by simp only[zan]at h
end
end
section
variable {P:Program} {G:Nat→List FD} {N:Nat} {st:St}
end
end Go.Abs
namespace Go.Abs
open Go
section
variable {P:Program} {G:Nat→List FD} {T:Tbl} {N tag0:Nat} {am:Nat→Bool} {st:St} {a:Act} {w:World} {L:Loc} {F:Nat→Nat→Prop} {K:St→Prop} {ops:Array Oper}
theorem znb {t e:TypeId}{len:Nat}{te:TI}(hu:P.underlying t=some (.array len e))(he:zar P e=some te)(h1:te.size=1){b off:Nat}{kk:IntKind}{n:Int}(hn:0≤n)(hn2:n<len):
  (Instr.indexAt t (.pointer (some ⟨b,off,none⟩)) (.int kk n)).run P w= .ok (.pointer (some ⟨b,off+n.toNat,none⟩)) w:=by
 simp[Instr.indexAt,Instr.sureAddr,asIntOf,run_underlying hu,hn,hn2,zaF he,h1,zbv]
theorem zrh {s:TypeId}{f off:Nat}{fs:List (Nat×TypeId)}{ft:TypeId}{ts tf:TI}(hs:zar P s=some ts)(hf:ts.und= .struct fs)(hi:fs[f]?=some (off,ft))(htf:zar P ft=some tf)(h0:tf.size≠0){b o:Nat}:
  (Instr.fieldAt s (.pointer (some ⟨b,o,none⟩)) f).run P w= .ok (.pointer (some ⟨b,o+off,none⟩)) w:=by
 obtain⟨inf,z,u,g1,g2,g3,rfl⟩:=zaJ hs
 obtain⟨fs',rfl,rfl⟩:=zfz hf
 have hf':∃g,fs'[f]?=some g∧g.offset=off∧g.type=ft:=by
  simp only[List.getElem?_map,Option.map_eq_some_iff,Prod.mk.injEq]at hi
  obtain⟨g,h1,h2,h3⟩:=hi
  exact⟨g,by simpa using h1,h2,h3⟩
 obtain⟨g,hg,rfl,rfl⟩:=hf'
 have hplace:(fieldPlace ⟨b,o,none⟩ g).run P w= .ok ⟨b,o+g.offset,none⟩ w:=by
  simp[fieldPlace,zaF htf,h0,zbv]
 simp[Instr.fieldAt,run_underlying g3,hg,Instr.sureAddr,hplace]
theorem zsN {o:Oper}{t x i}(ho:o.op= .indexAddr t x i):execOp a.eval o=(do pure (.value (←Instr.indexAt t (a.eval x) (a.eval i))):Sem Next):=by simp only[execOp,ho]
theorem zym {o:Oper}{t x i}(ho:o.op= .fieldAddr t x i):execOp a.eval o=(do pure (.value (←Instr.fieldAt t (a.eval x) i)):Sem Next):=by simp only[execOp,ho]
theorem zwT {o:Oper}{Q:Exit→Act→World→Prop}(h:Rel G N st a w L F){t x i d}(ho:o.op= .indexAddr t x i)(hd:o.dst=some d)(hdN:d<N){len e te}(hu:P.underlying t=some (.array len e))(he:zar P e=some te)(h1:te.size=1)
  {id k kk n}(hx:st.ev G x= .ptr id k)(hi:st.ev G i= .fz (.i kk n))(hn:0≤n)(hn2:n<len)(hK:K (st.put o.dst (.ptr id (k+n.toNat)))):o.wp P a w (Sat G N st w L F K) Q:=by
 refine zkf h (by simp[hd,zbj,hdN]) hK ?_
 have hxr:=h.ev x
 rw[hx]at hxr
 simp only[zal]at hxr
 obtain⟨g1,g2,g3⟩:=hxr
 have hir:=h.ev i
 rw[hi]at hir
 obtain⟨g4,_⟩:=zlw hir
 refine⟨.pointer (some ⟨(L id).1,(L id).2+k+n.toNat,none⟩),w,F,?_,h.ok,?_,zbB.refl _ _ _ _ _⟩
 ·rw[zsN ho,g3,g4]
  exact zcG (znb hu he h1 hn hn2)
 ·simp only[zal]
  exact⟨g1,g2,by rw[Nat.add_assoc]⟩
theorem zfe (hT:zap P G T){Q':Exit→Act→World→Prop}{r:List Nat}:∀(l:List Oper) (k:Nat),(∀j o,l[j]?=some o→ops[k+j]?=some o)→∀(st:St) (a:Act) (w:World) (L:Loc) (F:Nat→Nat→Prop),Rel G N st a w L F→zjf P G T N tag0 am ops l K st→
  (∀a' w',Sat G N st w L F K a' w'→wpOps P ops Q' r a' w')→wpOps P ops Q' ((List.range l.length).map (k+·)++r) a w
 |[],k,_,st,a,w,L,F,h,hs,hQ=>by
  simp only[List.length_nil,List.range_zero,List.map_nil,List.nil_append]
  exact hQ _ _ ⟨st,L,F,hs,h,zbB.refl _ _ _ _ _⟩
 |o::l,k,hl,st,a,w,L,F,h,hs,hQ=>by
  have h0:ops[k]?=some o:=hl 0 o rfl
  have hrest:(List.range (o::l).length).map (k+·)=k::(List.range l.length).map (k+1+·):=by
   simp only[List.length_cons,List.range_succ_eq_map,List.map_cons,List.map_map,Nat.add_zero]
   congr 1
   apply List.map_congr_left
   intro j _
   simp;omega
  rw[hrest,List.cons_append]
  simp only[wpOps,h0]
  have ih:∀(st1:St) (a1:Act) (w1:World) (L1:Loc) (F1:Nat→Nat→Prop),Rel G N st1 a1 w1 L1 F1→zgJ st w L F st1 w1 L1 F1→zjf P G T N tag0 am ops l K st1→wpOps P ops Q' ((List.range l.length).map (k+1+·)++r) a1 w1:=
   fun st1 a1 w1 L1 F1 hr hst hs'=>zfe hT l (k+1) (fun j o' ho'=>by have:=hl (j+1) o' (by simpa using ho');rw[←this];congr 1;omega) st1 a1 w1 L1 F1 hr hs' (fun a' w' hsat=>hQ _ _ (hsat.trans hst))
  obtain⟨b,hb,h1,h2⟩:=zck hs
  rw[zcQ h hb]
  cases b with
  |true=>
   simp only[if_true]
   exact .inl (Oper.wp_mono (fun a1 w1 ⟨st1,L1,F1,h1,h2,h3⟩=>ih st1 a1 w1 L1 F1 h2 h3 h1) (zh0 h (zoO hT o (h1 rfl))))
  |false=>
   simp only[Bool.false_eq_true,if_false]
   obtain⟨hd,hs'⟩:=h2 rfl
   have hH:(st.put o.dst (.tup [])).H=st.H:=by cases o.dst<;>rfl
   have hn:(st.put o.dst (.tup [])).n=st.n:=by cases o.dst<;>rfl
   refine ih (st.put o.dst (.tup [])) (a.put o.dst undef) w L F (h.put (st':=st.put o.dst (.tup [])) (by rw[hH,hn];exact h.ok) (by rw[hH,hn];exact zbB.refl _ _ _ _ _) hd (by simp only[zal];exact⟨[],rfl,trivial⟩) rfl) ?_ hs'
   unfold zgJ;rw[hH,hn];exact zbB.refl _ _ _ _ _
def zAk (P:Program)(G:Nat→List FD)(N:Nat)(t:TypeId)(x i:Operand)(d:Nat)(K:St→Prop)(st:St):Prop:=
 ∃len e te id k kk n,P.underlying t=some (.array len e)∧zar P e=some te∧te.size=1∧d<N∧st.ev G x= .ptr id k∧st.ev G i= .fz (.i kk n)∧0≤n∧n<(len:Int)∧K (st.put (some d) (.ptr id (k+n.toNat)))
theorem zrT (hT:zap P G T){Q:Exit→St→Prop}{rid:Nat}(pre post:List Oper){o:Oper}{t x i d}(hops:ops.toList=pre++o::post)(ho:o.op= .indexAddr t x i)(hd:o.dst=some d)(hg:o.guard=none)
  (h:zjf P G T N tag0 am ops pre (zAk P G N t x i d fun s=>zjf P G T N tag0 am ops post (Q .normal) s) st):W P G N (.region rid ops false) Q st:=by
 intro a w L F hr
 refine wp_region ?_
 have hget:∀(j:Nat) (o':Oper),ops.toList[j]?=some o'→ops[j]?=some o':=fun j o' h=>by simpa using h
 have e:List.range ops.size=(List.range pre.length).map (0+·)++(pre.length::((List.range post.length).map (pre.length+1+·)++[])):=by
  have hs:ops.size=pre.length+(1+post.length):=by rw[←Array.length_toList,hops];simp;omega
  rw[hs,List.range_add,List.append_nil]
  congr 1
  ·simp
  ·rw[Nat.add_comm 1,List.range_succ_eq_map]
   simp only[List.map_cons,List.map_map,Nat.add_zero]
   congr 1
   apply List.map_congr_left
   intro j _
   simp;omega
 rw[e]
 refine zfe hT (Q':=fun e a' w'=>Sat G N st w L F (Q e) a' w') pre 0 (fun j o' h'=>by
  rw[Nat.zero_add];refine hget j o' ?_;rw[hops,List.getElem?_append_left ((List.getElem?_eq_some_iff.1 h').1)];exact h') st a w L F hr h ?_
 rintro a1 w1 ⟨st1,L1,F1,⟨len,e',te,id,k,kk,n,u1,u2,u3,u4,u5,u6,u7,u8,u9⟩,h2,h3⟩
 have h0:ops[pre.length]?=some o:=hget _ _ (by rw[hops,List.getElem?_append_right (Nat.le_refl _)];simp)
 have hw:Region.wanted o (yielded ops a1.tmps)=true:=by simp[Region.wanted,hg]
 simp only[wpOps,h0,hw,if_true]
 refine .inl (Oper.wp_mono (fun a2 w2 hs=>?_) (zwT (K:=fun s=>zjf P G T N tag0 am ops post (Q .normal) s) h2 ho hd u4 u1 u2 u3 u5 u6 u7 u8 (by rw[hd];exact u9)))
 obtain⟨st2,L2,F2,k1,k2,k3⟩:=hs
 exact zfe hT (Q':=fun e a' w'=>Sat G N st w L F (Q e) a' w') post (pre.length+1) (fun j o' h'=>by
  refine hget _ o' ?_;rw[hops,List.getElem?_append_right (by omega)];rw[show pre.length+1+j-pre.length=j+1 by omega];simpa using h') st2 a2 w2 L2 F2 k2 k1
  (fun a3 w3 hs=>by simp only[wpOps];exact(hs.trans k3).trans h3)
theorem Oper.wp_keep {o:Oper}{x:Tmp}{v0:Value}{K':Act→World→Prop}{Q:Exit→Act→World→Prop}(hx:o.dst≠some x)(hI:a.tmps.getD x undef=v0)(h:o.wp P a w K' Q):o.wp P a w (fun a' w'=>K' a' w'∧a'.tmps.getD x undef=v0) Q:=by
 have hput:∀(b:Act) v,b.tmps=a.tmps→(b.put o.dst v).tmps.getD x undef=v0:=fun b v hb=>by
  cases hd:o.dst with
  |none=>simp only[Act.put,hb];exact hI
  |some d=>
   have hne:d≠x:=fun e=>hx (by rw[hd,e])
   simp only[Act.put,hb]
   rw[Array.getD_eq_getD_getElem?]at hI ⊢
   rw[Array.getElem?_setIfInBounds_ne hne]
   exact hI
 unfold Oper.wp at*
 generalize (execOp a.eval o).run P w=r at*
 cases r with
 |ok n w'=>
  cases n<;>simp only[Oper.upon]at h ⊢ <;>
   first
    |exact⟨h,hput _ _ rfl⟩
    |exact Calls.mono h (fun e w'' he=>by cases e<;>first|exact⟨he,hput _ _ rfl⟩|exact he)
    |exact Rows.mono h (fun _ _ he=>⟨he,hput _ _ rfl⟩)
 |halt x w'=>cases x<;>simp only[Oper.upon]at h ⊢ <;>exact h
theorem zt7 (hT:zap P G T){Q':Exit→Act→World→Prop}{K':Act→World→Prop}{o:Oper}{q:Bool}(hgn:o.guard=none)(h:Rel G N st a w L F)(hs:zcj P G T N tag0 ops q o st K)
  (hk:∀a' w',Sat G N st w L F K a' w'→K' a' w'):o.wp P a w K' Q':=by
 have hgv:zmD ops st.fr o.guard=some true:=by rw[hgn];rfl
 have sym:∀{K},zda P G N tag0 o st K→(∀a' w',Sat G N st w L F K a' w'→K' a' w')→o.wp P a w K' Q':=fun h1 h2=>Oper.wp_mono h2 (zh0 h h1)
 unfold zcj at hs
 split at hs
 ·obtain⟨d,c,h1,h2,h3,h4⟩:=hs
  unfold qv at h1
  rw[hgv]at h1
  exact sym (ziB hT h2 h1 h3 h4) hk
 ·rw[hgv]at hs
  exact sym hs hk
theorem zvd (hT:zap P G T){ops2:Array Oper}{x:Tmp}{v0:Value}(hsz:ops2.size=ops.size)
  (hop:∀(i:Nat) (o:Oper),ops2[i]?=some o→∃o':Oper,ops[i]?=some o'∧o'.dst=o.dst∧o'.guard=none∧o.guard=none∧o'.after=o.after∧o.dst≠some x∧∀(a:Act) w,a.tmps.getD x undef=v0→(execOp a.eval o').run P w=(execOp a.eval o).run P w)
  {q:Nat→Bool}{Q':Exit→Act→World→Prop}:∀(fuel:Nat) (listed:Array Bool) (st:St) (a:Act) (w:World) (L:Loc) (F:Nat→Nat→Prop),Rel G N st a w L F→a.tmps.getD x undef=v0→zrD P G T N tag0 ops q K fuel listed st→
  (∀a' w',Sat G N st w L F K a' w'→Q' .normal a' w')→wpAny P .any ops2 Q' fuel listed a w:=by
 have hrd:∀listed,Region.ready .any ops2 listed=Region.ready .any ops listed:=fun listed=>by
  unfold Region.ready
  rw[hsz]
  apply List.filter_congr
  intro i hi
  have hi2:i<ops2.size:=by rw[hsz];exact List.mem_range.1 hi
  obtain⟨o',h1,_,_,_,h2,_⟩:=hop i ops2[i] (by simp[hi2])
  rw[h1,show ops2[i]?=some ops2[i] by simp[hi2]]
  simp only[Option.map_some,h2]
 intro fuel
 induction fuel with
 |zero=>exact fun listed st a w L F h _ hs hQ=>⟨by rw[hrd];exact hs.1,hQ _ _ ⟨st,L,F,hs.2,h,zbB.refl _ _ _ _ _⟩⟩
 |succ fuel ih=>
  intro listed st a w L F h hI hs hQ
  refine⟨fun hr=>hQ _ _ ⟨st,L,F,hs.1 (by rw[←hrd];exact hr),h,zbB.refl _ _ _ _ _⟩,fun i hi=>?_⟩
  obtain⟨_,o,ho,_⟩:=mem_ready.1 hi
  obtain⟨o',h1,h2,h3,h3',h4,h5,h6⟩:=hop i o ho
  have hw:Region.wanted o (yielded ops2 a.tmps)=true:=by simp[Region.wanted,h3']
  unfold wpOp
  simp only[ho,hw,if_true]
  refine .inl ?_
  have key:o'.wp P a w (fun a' w'=>wpAny P .any ops2 Q' fuel (listed.setIfInBounds i true) a' w') Q':=by
   have k1:=zt7 hT (Q':=Q') (K':=Sat G N st w L F (zrD P G T N tag0 ops q K fuel (listed.setIfInBounds i true))) h3 h (hs.2 i (by rw[←hrd];exact hi) o' h1) (fun _ _ hs=>hs)
   refine Oper.wp_mono ?_ (Oper.wp_keep (x:=x) (v0:=v0) (by rw[h2];exact h5) hI k1)
   rintro a' w' ⟨⟨st1,L1,F1,g1,g2,g3⟩,hI'⟩
   exact ih _ st1 a' w' L1 F1 g2 hI' g1 fun a2 w2 hsat=>hQ _ _ (hsat.trans g3)
  unfold Oper.wp at key ⊢
  rw[h6 a w hI]at key
  have:∀r,o'.upon P a (fun a' w'=>wpAny P .any ops2 Q' fuel (listed.setIfInBounds i true) a' w') Q' r=o.upon P a (fun a' w'=>wpAny P .any ops2 Q' fuel (listed.setIfInBounds i true) a' w') Q' r:=fun r=>by
   unfold Oper.upon;rw[h2]
  rw[this]at key
  exact key
theorem zrQ (hm:P.follows .mixedOrders=true)(hT:zap P G T){q:Exit→St→Prop}{rid:Nat}{ops2:Array Oper}(tag0:Nat)(am:Nat→Bool)(x:Tmp){id:Id}{k:Nat}(hx:st.fr x= .ptr id k)(hsz:ops2.size=ops.size)
  (hop:∀(i:Nat) (o:Oper),ops2[i]?=some o→∃o':Oper,ops[i]?=some o'∧o'.dst=o.dst∧o'.guard=none∧o.guard=none∧o'.after=o.after∧o.dst≠some x∧∀(a:Act) w b off,a.tmps.getD x undef= .pointer (some ⟨b,off,none⟩)→(execOp a.eval o').run P w=(execOp a.eval o).run P w)
  (t:Tv)(ht:zpN am T ops t (Array.replicate ops.size false) true=true)(hd:decide (zdC t≤ops.size)=true)(h:@zfc P G T N tag0 am ops t st ⟨q .normal⟩):@WK P G N (.region rid ops2 true) st ⟨q⟩:=by
 unfold WK
 unfold zfc at h
 intro a w L F hr
 refine wp_region_any hm ?_
 have hr':Rel G N st a {w with drawn:=w.drawn+1} L F:=⟨hr.ok.heap rfl,hr.size,fun t=>(hr.fr t).ext (zhS (w:=w) (w':={w with drawn:=w.drawn+1}) rfl),hr.nd⟩
 have hst:zgJ st w L F st {w with drawn:=w.drawn+1} L F:=⟨fun _ h=>h,fun _ _=>rfl,fun _ _ h=>h,Nat.le_refl _,fun _ _ _=>rfl,fun _ _ _ _=>rfl,fun _ cs T fr _ h=>⟨cs,T,fr,h,Nat.le_refl _⟩,fun _ _ h=> .inl h,fun _ _ h=> .inr h,rfl,rfl,rfl⟩
 have hfr:zfC st:=fun id hid=>by
  cases ho:st.H id with
  |none=>rfl
  |some o=>exact absurd (hr.ok.live _ o ho).1 (Nat.not_lt.2 hid)
 have hxr:=hr.fr x
 rw[hx]at hxr
 simp only[zal]at hxr
 rw[hsz]
 exact zvd hT (x:=x) (v0:= .pointer (some ⟨(L id).1,(L id).2+k,none⟩)) hsz (fun i o ho=>by
  obtain⟨o',h1,h2,h3,h3',h4,h5,h6⟩:=hop i o ho
  exact⟨o',h1,h2,h3,h3',h4,h5,fun a w hI=>h6 a w _ _ hI⟩)
  (Q':=fun e a' w'=>Sat G N st w L F (q e) a' w') _ _ st a _ L F hr' hxr.2.2 (zpG hT ops.size t _ true st (fun _=>hfr) ht (of_decide_eq_true hd) h) (fun _ _ hs=>hs.trans hst)
def zdI (P:Program)(G:Nat→List FD)(N:Nat)(t:TypeId)(x i:Operand)(d:Nat)(st:St)[k:Kn St]:Prop:=zAk P G N t x i d k.run st
theorem zbx (hT:zap P G T){q:Exit→St→Prop}{rid:Nat}(tag0:Nat)(am:Nat→Bool)(j:Nat){o:Oper}{t x i d}(hj:ops.toList[j]?=some o)(ho:o.op= .indexAddr t x i)(hd:o.dst=some d)(hg:o.guard=none)
  (h:@zfd P G T N tag0 am ops (ops.toList.take j) st ⟨fun s=>@zdI P G N t x i d s ⟨fun s=>@zfd P G T N tag0 am ops (ops.toList.drop (j+1)) s ⟨q .normal⟩⟩⟩):@WK P G N (.region rid ops false) st ⟨q⟩:=by
 unfold WK
 unfold zfd at h
 have hlt:=(List.getElem?_eq_some_iff.1 hj).1
 have he:=(List.getElem?_eq_some_iff.1 hj).2
 refine zrT hT (ops.toList.take j) (ops.toList.drop (j+1)) ?_ ho hd hg h
 rw[←he,←List.drop_eq_getElem_cons hlt,List.take_append_drop]
theorem zdI.i {t x i d len e te id k kk n}{kc:St→Prop}(hu:P.underlying t=some (.array len e))(he:zar P e=some te)(h1:te.size=1)(hd:d<N)(hx:st.ev G x= .ptr id k)(hi:st.ev G i= .fz (.i kk n))(hn:0≤n∧n<(len:Int))
  (h:kc (st.put (some d) (.ptr id (k+n.toNat)))):@zdI P G N t x i d st ⟨kc⟩:=⟨len,e,te,id,k,kk,n,hu,he,h1,hd,hx,hi,hn.1,hn.2,h⟩
def zfH (t s:TypeId)(o:Oper):Oper:=
 {o with op:=match o.op with
  | .indexAddr t' x (.const (.int k n))=>if t'=t then .fieldAddr s x n.toNat else .indexAddr t' x (.const (.int k n))
  |op=>op}
def zub (t:TypeId)(x:Tmp)(len:Nat)(o:Oper):Bool:=
 o.guard.isNone&&o.dst !=some x&&(match o.op with
  | .indexAddr t' y (.const (.int _ n))=>if t'=t then(match y with| .tmp z=>z==x|_=>false)&&decide (0≤n)&&decide (n<(len:Int))else true
  |_=>true)
theorem zwG {t s e:TypeId}{x:Tmp}{len:Nat}{te ts:TI}{fs:List (Nat×TypeId)}(hu:P.underlying t=some (.array len e))(he:zar P e=some te)(h1:te.size=1)(hs:zar P s=some ts)(hf:ts.und= .struct fs)
  (hfs:∀f,f<len→∃ft tf,fs[f]?=some (f,ft)∧zar P ft=some tf∧tf.size≠0){o:Oper}(hb:zub t x len o=true){b off:Nat}(hI:a.tmps.getD x undef= .pointer (some ⟨b,off,none⟩)):
  (execOp a.eval (zfH t s o)).run P w=(execOp a.eval o).run P w:=by
 obtain⟨dst,op,type,pos,after,guard⟩:=o
 by_cases h:∃y k n,op= .indexAddr t y (.const (.int k n))
 ·obtain⟨y,k,n,rfl⟩:=h
  simp only[zub,if_true,Bool.and_eq_true,decide_eq_true_eq]at hb
  obtain⟨_,⟨hy,h0⟩,h2⟩:=hb
  cases y<;>simp only[Bool.false_eq_true]at hy
  rename_i z
  obtain rfl:z=x:=by simpa using hy
  obtain⟨ft,tf,g1,g2,g3⟩:=hfs n.toNat (by omega)
  have e1:(execOp a.eval (zfH t s ⟨dst,.indexAddr t (.tmp z) (.const (.int k n)),type,pos,after,guard⟩)).run P w= .ok (.value (.pointer (some ⟨b,off+n.toNat,none⟩))) w:=by
   rw[zym (t:=s) (x:= .tmp z) (i:=n.toNat) (by simp[zfH])]
   refine zcG ?_
   rw[show a.eval (.tmp z)= .pointer (some ⟨b,off,none⟩)from hI]
   exact zrh hs hf g1 g2 g3
  have e2:(execOp a.eval ⟨dst,.indexAddr t (.tmp z) (.const (.int k n)),type,pos,after,guard⟩).run P w= .ok (.value (.pointer (some ⟨b,off+n.toNat,none⟩))) w:=by
   rw[zsN (t:=t) (x:= .tmp z) (i:= .const (.int k n)) rfl]
   refine zcG ?_
   rw[show a.eval (.tmp z)= .pointer (some ⟨b,off,none⟩)from hI]
   exact znb hu he h1 h0 h2
  rw[e1,e2]
 ·congr 2
  unfold zfH
  simp only
  split
  ·rename_i t' y k n
   rw[if_neg fun e=>h ⟨y,k,n,by rw[e]⟩]
  ·rfl
theorem zu3 (hm:P.follows .mixedOrders=true)(hT:zap P G T){q:Exit→St→Prop}{rid:Nat}(tag0:Nat)(am:Nat→Bool)(x:Tmp)(t s:TypeId){e:TypeId}{len:Nat}{te ts:TI}{fs:List (Nat×TypeId)}{id:Id}{k:Nat}(hx:st.fr x= .ptr id k)
  (hu:P.underlying t=some (.array len e))(he:zar P e=some te)(h1:te.size=1)(hs:zar P s=some ts)(hf:ts.und= .struct fs)
  (hfs:∀f,f<len→∃ft tf,fs[f]?=some (f,ft)∧zar P ft=some tf∧tf.size≠0)(hall:ops.toList.all (zub t x len)=true)
  (tr:Tv)(ht:zpN am T (ops.map (zfH t s)) tr (Array.replicate (ops.map (zfH t s)).size false) true=true)(hd:decide (zdC tr≤(ops.map (zfH t s)).size)=true)
  (h:@zfc P G T N tag0 am (ops.map (zfH t s)) tr st ⟨q .normal⟩):@WK P G N (.region rid ops true) st ⟨q⟩:=by
 refine zrQ hm hT tag0 am x hx (by simp) (fun i o ho=>?_) tr ht hd h
 have hb:zub t x len o=true:=List.all_eq_true.1 hall o (List.mem_of_getElem? (i:=i) (by simpa using ho))
 have hb':=hb
 unfold zub at hb'
 simp only[Bool.and_eq_true,Option.isNone_iff_eq_none,bne_iff_ne,ne_eq]at hb'
 exact⟨zfH t s o,by simp[ho],rfl,hb'.1.1,hb'.1.1,rfl,hb'.1.2,fun a w b off hI=>zwG hu he h1 hs hf hfs hb hI⟩
def XE (P:Program)(G:Nat→List FD)(T:Tbl)(N tag0:Nat)(am:Nat→Bool):Code→(Exit→St→Prop)→St→Prop
 | .skip,Q,st=>Q .normal st
 | .seq x y,Q,st=>XE P G T N tag0 am x (zFP (XE P G T N tag0 am y Q) Q) st
 | .cond c x y,Q,st=>zsv (XE P G T N tag0 am x Q st) (XE P G T N tag0 am y Q st) (st.ev G c)
 | .block id c,Q,st=>XE P G T N tag0 am c (zij id Q) st
 | .exit id,Q,st=>Q (.exit id) st
 | .ret,Q,st=>Q .ret st
 | .region id ops false,Q,st=>zd5 (am (1000000+id)) (W P G N (.region id ops false) Q st) (zjf P G T N tag0 am ops ops.toList (Q .normal) st)
 | .region id ops true,Q,st=>zd5 (am (1000000+id)) (W P G N (.region id ops true) Q st) (zjf P G T N tag0 am ops ops.toList (Q .normal) st)
 |c,Q,st=>W P G N c Q st
theorem znG (hm:P.follows .mixedOrders=true)(hT:zap P G T):∀(c:Code) (Q:Exit→St→Prop) (st:St),zbV am T c=true→XE P G T N tag0 am c Q st→W P G N c Q st
 | .skip,_,_,_,h=>zw2 h
 | .seq x y,Q,st,hd,h=>by
  simp only[XE]at h
  simp only[zbV,Bool.and_eq_true]at hd
  refine zAt (zw1 (znG hm hT x _ st hd.1 h) fun e st1 h1=>?_)
  cases e with
  |normal=>exact znG hm hT y Q st1 hd.2 h1
  |_=>exact h1
 | .cond c x y,Q,st,hd,h=>by
  simp only[XE]at h
  simp only[zbV,Bool.and_eq_true]at hd
  unfold zsv at h
  split at h
  ·rename_i t ht
   exact zwY ht (fun hh=>znG hm hT x Q st hd.1 (h.1 hh)) (fun hh=>znG hm hT y Q st hd.2 (h.2 hh))
  ·exact h.elim
 | .block id c,Q,st,hd,h=>by
  simp only[XE]at h
  exact zrR (znG hm hT c _ st hd h)
 | .exit id,_,_,_,h=>zwZ h
 | .ret,_,_,_,h=>zAs h
 | .region id ops false,Q,st,_,h=>by
  simp only[XE]at h
  cases ha:am (1000000+id)with
  |true=>exact h.1 ha
  |false=>exact zlF hT (h.2 ha)
 | .region id ops true,Q,st,hd,h=>by
  simp only[XE]at h
  simp only[zbV]at hd
  cases ha:am (1000000+id)with
  |true=>exact h.1 ha
  |false=>exact zrS hm hT (by simpa[ha]using hd) (h.2 ha)
 | .loop _,Q,st,_,h=>by simpa only[XE]using h
 | .rangeFunc _ _ _ _,Q,st,_,h=>by simpa only[XE]using h
 | .scope _,Q,st,_,h=>by simpa only[XE]using h
 | .label _,Q,st,_,h=>by simpa only[XE]using h
 | .goto _,Q,st,_,h=>by simpa only[XE]using h
 | .refuse _,Q,st,_,h=>by simpa only[XE]using h
def XEK (P:Program)(G:Nat→List FD)(T:Tbl)(N tag0:Nat)(am:Nat→Bool)(c:Code)(st:St)[q:Ke]:Prop:=XE P G T N tag0 am c q.run st
end
section
attribute [local semireducible] BiK obK zaj zh2 zbm VvK XOK zkm zjv zh7 zh8 zp4 zfW zfd XCK zqh zxC zf0 zxU zaI WK zmJ
variable {P:Program} {G:Nat→List FD} {T:Tbl} {N tag0:Nat} {am:Nat→Bool} {st:St} {ops:Array Oper} {q:Exit→St→Prop} {x:Operand}
@[go_sem] theorem zBk:@XEK P G T N tag0 am (.skip) st ⟨q⟩=q .normal st:=(rfl)
@[go_sem] theorem zCZ {c d:Code}:@XEK P G T N tag0 am (.seq c d) st ⟨q⟩=@XEK P G T N tag0 am c st ⟨fun e st=>@zxC e st ⟨fun st=>@XEK P G T N tag0 am d st ⟨q⟩⟩ ⟨q⟩⟩:=(rfl)
@[go_sem] theorem zBg {c d:Code}:@XEK P G T N tag0 am (.cond x c d) st ⟨q⟩=@zqh (st.ev G x) ⟨@XEK P G T N tag0 am c st ⟨q⟩⟩ ⟨@XEK P G T N tag0 am d st ⟨q⟩⟩:=(rfl)
@[go_sem] theorem zzQ {i:Nat}{c:Code}:@XEK P G T N tag0 am (.block i c) st ⟨q⟩=@XEK P G T N tag0 am c st ⟨fun e st=>@zf0 i e st ⟨q⟩⟩:=(rfl)
@[go_sem] theorem zBi {i:Nat}:@XEK P G T N tag0 am (.exit i) st ⟨q⟩=q (.exit i) st:=(rfl)
@[go_sem] theorem zCY:@XEK P G T N tag0 am (.ret) st ⟨q⟩=q .ret st:=(rfl)
@[go_sem] theorem zyF {i:Nat}:@XEK P G T N tag0 am (.region i ops false) st ⟨q⟩=@zbm (am (1000000+i)) ⟨@WK P G N (.region i ops false) st ⟨q⟩⟩ ⟨@zfd P G T N tag0 am ops ops.toList st ⟨q .normal⟩⟩:=(rfl)
@[go_sem] theorem zBh {i:Nat}:@XEK P G T N tag0 am (.region i ops true) st ⟨q⟩=@zbm (am (1000000+i)) ⟨@WK P G N (.region i ops true) st ⟨q⟩⟩ ⟨@zfd P G T N tag0 am ops ops.toList st ⟨q .normal⟩⟩:=(rfl)
@[go_sem] theorem zBj {c:Code}:@XEK P G T N tag0 am (.loop c) st ⟨q⟩=@WK P G N (.loop c) st ⟨q⟩:=(rfl)
theorem zfg (hm:P.follows .mixedOrders=true)(hT:zap P G T)(tag0:Nat)(am:Nat→Bool){ι:Type}{c:Code}(I:Ki ι)(i:ι)(hd:zbV am T c=true)(h0:zeG G N st (I.st i))
  (round:∀i,@XEK P G T N tag0 am c (I.st i) ⟨fun e st=>@zmJ G N ι I i e st ⟨q⟩⟩):@WK P G N (.loop c) st ⟨q⟩:=
 zw0 I.st I.mu i h0 fun i=>znG hm hT c _ _ hd (round i)
end
attribute [irreducible] XEK zdI
end Go.Abs
