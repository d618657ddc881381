/- several texts of this proof in one; no conditions -/
import Derived.Test.YtalbdmcklgglbaaDoorY5
set_option linter.unusedSimpArgs false
namespace Go.Abs
open Go
section
variable {P:Program} {G:Nat→List FD} {T:Tbl} {N tag0:Nat} {am:Nat→Bool} {st st2:St} {a:Act} {w:World} {L:Loc} {F:Nat→Nat→Prop} {K:St→Prop} {ops:Array Oper}
def zij (st:St):Prop:=∀tag,st.H (tag,st.n)=none
def zlg:Op→Bool
 | .alloc _=>true
 |_=>false
theorem zmF {o:Oper}{ev:Operand→D}{H:zas}{id:Id}{ob':Option O}{r:D×Prop}(hn:H id=none)(h:zbg P T o ev H=some r):zbg P T o ev (zaM H id ob')=some r:=by
 by_cases hh:zco o.op=true
 ·rw[←h];exact ziA hh
 obtain⟨dst,op,type,pos,after,guard⟩:=o
 cases op<;>simp only[zco,not_true_eq_false]at hh
 rename_i t x
 unfold zbg at h ⊢
 have key:∀r,za7 P ⟨dst,.load t x,type,pos,after,guard⟩ ev H=some r→za7 P ⟨dst,.load t x,type,pos,after,guard⟩ ev (zaM H id ob')=some r:=by
  intro r h
  simp only[za7,zhq,ob]at h ⊢
  cases hti:zaq P t with
  |none=>rw[hti]at h;exact h
  |some ti=>
   rw[hti]at h
   simp only at h ⊢
   cases hd:ev x with
   |ptr i k=>
    rw[hd]at h
    simp only[zxH,ob]at h ⊢
    by_cases hi:i=id
    ·subst hi;rw[hn]at h;cases h
    ·have e:zaM H id ob' i=H i:=by simp[zaM,hi]
     rw[e];exact h
   |_=>rw[hd]at h;exact h
 cases hv:za7 P ⟨dst,.load t x,type,pos,after,guard⟩ ev H with
 |none=>rw[hv]at h;cases h
 |some r'=>
  rw[hv]at h
  obtain rfl:=Option.some.inj h
  rw[key _ hv]
theorem zt2 {o:Oper}{fr:Nat→D}{H:zas}{n n':Nat}{id:Id}{ob':Option O}{r:D×Prop}(hn:H id=none)(h:qv P G T ops o ⟨fr,H,n⟩=some r):qv P G T ops o ⟨fr,zaM H id ob',n'⟩=some r:=by
 have e:St.ev G ⟨fr,zaM H id ob',n'⟩=St.ev G ⟨fr,H,n⟩:=by funext x;cases x<;>rfl
 unfold qv at h ⊢
 simp only at h ⊢
 cases hg:zlf ops fr o.guard with
 |none=>rw[hg]at h;cases h
 |some b=>
  rw[hg]at h
  cases b with
  |true=>simp only at h ⊢;rw[e];exact zmF hn h
  |false=>exact h
theorem zsc {oi oj:Oper}{fr:Nat→D}{H:zas}{n:Nat}{d:D}{c:Prop}(hap:oi.apart ops oj=true)(hal:zlg oj.op=true)(hfr:zij ⟨fr,H,n⟩)(hy:qv P G T ops oi ⟨fr,H,n⟩=some (d,c))
  (h:zbs P G T N tag0 ops false oj ⟨zdx fr oi.dst d,H,n⟩ K):zbs P G T N tag0 ops false oj ⟨fr,H,n⟩ (fun s=>qv P G T ops oi s=some (d,c)∧K ⟨zdx s.fr oi.dst d,s.H,s.n⟩):=by
 obtain⟨h1,h2,h3⟩:=Oper.apart_spec hap
 unfold zbs at h ⊢
 simp only[Bool.false_eq_true,if_false]at h ⊢
 rw[zft h1]at h
 have hyj:∀e,qv P G T ops oi ⟨zdx fr oj.dst e,H,n⟩=some (d,c):=fun e=>(zf6 h3 (.inl rfl)).trans hy
 split
 ·rename_i hg
  simp only[hg]at h
  obtain⟨dst,op,type,pos,after,guard⟩:=oj
  cases op<;>simp only[zlg,Bool.false_eq_true]at hal
  rename_i e
  unfold zcN at h ⊢
  simp only[za7]at h ⊢
  refine⟨h.1,?_⟩
  have h':=h.2
  split at h'
  ·rename_i ti hti
   refine⟨?_,?_⟩
   ·have e1:(St.new ⟨fr,H,n⟩ (tag0+dst.getD 0,n) ⟨ti.zero,true,false⟩ dst (.ptr (tag0+dst.getD 0,n) 0))=⟨zdx fr dst (.ptr (tag0+dst.getD 0,n) 0),zaM H (tag0+dst.getD 0,n) (some ⟨ti.zero,true,false⟩),n+1⟩:=by
     cases dst<;>rfl
    rw[e1]
    exact zt2 (n:=n) (hfr _) (hyj _)
   ·have e2:(St.new ⟨zdx fr oi.dst d,H,n⟩ (tag0+dst.getD 0,n) ⟨ti.zero,true,false⟩ dst (.ptr (tag0+dst.getD 0,n) 0))=⟨zdx (zdx fr dst (.ptr (tag0+dst.getD 0,n) 0)) oi.dst d,zaM H (tag0+dst.getD 0,n) (some ⟨ti.zero,true,false⟩),n+1⟩:=by
     have e3:zdx (zdx fr oi.dst d) dst (.ptr (tag0+dst.getD 0,n) 0)=zdx (zdx fr dst (.ptr (tag0+dst.getD 0,n) 0)) oi.dst d:=zdK h2
     rw[←e3]
     cases dst<;>rfl
    rw[e2]at h'
    have e1:(St.new ⟨fr,H,n⟩ (tag0+dst.getD 0,n) ⟨ti.zero,true,false⟩ dst (.ptr (tag0+dst.getD 0,n) 0))=⟨zdx fr dst (.ptr (tag0+dst.getD 0,n) 0),zaM H (tag0+dst.getD 0,n) (some ⟨ti.zero,true,false⟩),n+1⟩:=by
     cases dst<;>rfl
    rw[e1]
    exact h'
  ·exact h'
 ·rename_i hg
  simp only[hg]at h
  refine⟨h.1,?_,?_⟩
  ·rw[za5];exact hyj _
  ·have:=h.2
   rw[za5]at this
   rw[za5]
   simp only at this ⊢
   rw[zdK h2]at this
   exact this
 ·rename_i hg
  simp[hg]at h
theorem zeM {oj:Oper}{b:Bool}{st:St}{K1 K2:St→Prop}(hk:∀s,K1 s→K2 s)(hs:zbs P G T N tag0 ops b oj st K1):zbs P G T N tag0 ops b oj st K2:=by
 unfold zbs at hs ⊢
 split
 ·rename_i hq
  simp only[hq,if_true]at hs
  obtain⟨e,c',g1,g2,g3,g4⟩:=hs
  exact⟨e,c',g1,g2,g3,hk _ g4⟩
 ·rename_i hq
  simp only[hq]at hs
  split
  ·rename_i hg
   simp[hg]at hs
   refine zbK (fr:=st.fr) (fr2:=st.fr) (fun _ _=>rfl) ?_ hs
   rintro s s2 hK ⟨e,H',n',rfl,rfl⟩
   exact hk _ hK
  ·rename_i hg
   simp[hg]at hs
   exact⟨hs.1,hk _ hs.2⟩
  ·rename_i hg
   simp[hg]at hs
def HF (ops:Array Oper)(q:Nat→Bool)(i:Nat)(oi:Oper)(B:Nat→Bool)(listed:Array Bool)(st:St):Prop:=
 ∀j oj,ops[j]?=some oj→j≠i→listed.getD j true=false→B j=false→oi.apart ops oj=true∧(q j=true∨zco oi.op=true∨
  (zij st∧zlg oj.op=true∧∀k ok,ops[k]?=some ok→k≠i→k≠j→listed.getD k true=false→B k=false→q k=true))
theorem zmk {q:Nat→Bool}{i:Nat}{oi:Oper}{d:D}{c:Prop}(hi:ops[i]?=some oi)(hqi:q i=true)(hc:c)(hd:zaS N oi.dst=true)(B:Nat→Bool)
  (hB:∀j oj,ops[j]?=some oj→B j=true→∃e∈oj.after,Region.binds .any e=true∧(e.on=i∨B e.on=true)):
  ∀(fuel:Nat) (listed:Array Bool) (st:St),(∀j,B j=true→listed.getD j false=false)→HF ops q i oi B listed st→
   i∈Region.ready .any ops listed→qv P G T ops oi st=some (d,c)→
   zmj P G T N tag0 ops q K fuel (listed.setIfInBounds i true) (st.put oi.dst d)→zmj P G T N tag0 ops q K (fuel+1) listed st:=by
 intro fuel
 have take:∀{st K},qv P G T ops oi st=some (d,c)→K (st.put oi.dst d)→zbs P G T N tag0 ops (q i) oi st K:=by
  intro st K hy hK
  unfold zbs
  rw[if_pos hqi]
  exact⟨d,c,hy,hd,hc,hK⟩
 induction fuel with
 |zero=>
  intro listed st _ _ hr hy H
  refine⟨fun h=>(by rw[h]at hr;cases hr),fun j hj oj hoj=>?_⟩
  by_cases hji:j=i
  ·subst hji;rw[hi]at hoj;obtain rfl:=Option.some.inj hoj;exact take hy H
  ·have:=ready_mono hj hji
   rw[H.1]at this
   cases this
 |succ fuel ih=>
  intro listed st hBl hfree hr hy H
  refine⟨fun h=>(by rw[h]at hr;cases hr),fun j hj oj hoj=>?_⟩
  by_cases hji:j=i
  ·subst hji;rw[hi]at hoj;obtain rfl:=Option.some.inj hoj;exact take hy H
  ·have h1:=H.2 j (ready_mono hj hji) oj hoj
   obtain⟨hjun,oj',hoj',hall⟩:=mem_ready.1 hj
   rw[hoj]at hoj'
   obtain rfl:=Option.some.inj hoj'
   have hnl:listed.getD i false=false:=by
    have h0:=(mem_ready.1 hr).1
    rcases Nat.lt_or_ge i listed.size with h'|h'
    ·simp[h']at h0 ⊢;exact h0
    ·simp[Array.getElem?_eq_none h']
   have hBj:B j=false:=by
    cases hb:B j with
    |false=>rfl
    |true=>
     obtain⟨e,he,hbe,h3⟩:=hB j oj hoj hb
     have h4:=hall e he hbe
     rcases h3 with h3|h3
     ·rw[h3,hnl]at h4;cases h4
     ·rw[hBl _ h3]at h4;cases h4
   obtain⟨hap,hh⟩:=hfree j oj hoj hji hjun hBj
   have hBl':∀k,B k=true→(listed.setIfInBounds j true).getD k false=false:=fun k hk=>by
    by_cases hjk:j=k
    ·subst hjk;rw[hBj]at hk;cases hk
    ·rw[getD_set_ne false hjk];exact hBl k hk
   have hsub:∀k,(listed.setIfInBounds j true).getD k true=false→listed.getD k true=false∧k≠j:=fun k hun=>by
    by_cases hjk:j=k
    ·subst hjk
     exfalso
     rcases Nat.lt_or_ge j listed.size with h'|h'
     ·simp[h']at hun
     ·simp[Array.getElem?_eq_none h']at hun
    ·rw[getD_set_ne true hjk]at hun;exact⟨hun,fun e=>hjk e.symm⟩
   rw[za5]at h1
   cases hqj:q j with
   |true=>
    have hfree':∀s:St,s.H=st.H→s.n=st.n→HF ops q i oi B (listed.setIfInBounds j true) s:=fun s e1 e2 k ok hk hki hun hno=>by
     obtain⟨hun',hkj⟩:=hsub k hun
     obtain⟨g1,g2⟩:=hfree k ok hk hki hun' hno
     refine⟨g1,?_⟩
     rcases g2 with g2|g2|⟨g2,g3,g4⟩
     ·exact .inl g2
     ·exact .inr (.inl g2)
     ·exact .inr (.inr ⟨fun t=>by rw[e1,e2];exact g2 t,g3,fun k' ok' hk' hki' hkk' hun2 hno'=>g4 k' ok' hk' hki' hkk' (hsub k' hun2).1 hno'⟩)
    rw[hqj]at h1
    have h2:=zfI hap (.inl rfl) (fr:=st.fr) (H:=st.H) (n:=st.n) hy h1
    unfold zbs at h2 ⊢
    simp only[if_true]at h2 ⊢
    obtain⟨e,c',g1,g2,g3,g4,g5⟩:=h2
    refine⟨e,c',g1,g2,g3,?_⟩
    rw[za5]at g4 g5 ⊢
    refine ih (listed.setIfInBounds j true) _ hBl' (hfree' _ rfl rfl) (ready_mono hr (Ne.symm hji)) g4 ?_
    rw[Array.setIfInBounds_comm _ _ hji,za5]
    exact g5
   |false=>
    rw[hqj]at h1
    have h2:zbs P G T N tag0 ops false oj st (fun s=>qv P G T ops oi s=some (d,c)∧zmj P G T N tag0 ops q K fuel ((listed.setIfInBounds i true).setIfInBounds j true) ⟨zdx s.fr oi.dst d,s.H,s.n⟩):=by
     rcases hh with hh|hh|⟨g2,g3,_⟩
     ·rw[hqj]at hh;cases hh
     ·exact zfI hap (.inr hh) (fr:=st.fr) (H:=st.H) (n:=st.n) hy h1
     ·exact zsc hap g3 (fr:=st.fr) (H:=st.H) (n:=st.n) g2 hy h1
    have hfree':∀s:St,HF ops q i oi B (listed.setIfInBounds j true) s:=fun s k ok hk hki hun hno=>by
     obtain⟨hun',hkj⟩:=hsub k hun
     obtain⟨g1,g2⟩:=hfree k ok hk hki hun' hno
     refine⟨g1,?_⟩
     rcases hh with hh|hh|⟨_,_,h5⟩
     ·rw[hqj]at hh;cases hh
     ·exact .inr (.inl hh)
     ·exact .inl (h5 k ok hk hki hkj hun' hno)
    refine zeM (fun s h3=>ih (listed.setIfInBounds j true) s hBl' (hfree' s) (ready_mono hr (Ne.symm hji)) h3.1 ?_) h2
    rw[Array.setIfInBounds_comm _ _ hji,za5]
    exact h3.2
def zvU (am:Nat→Bool)(T:Tbl)(ops:Array Oper)(listed:Array Bool)(fl:Bool)(i:Nat):Bool:=
 match ops[i]? with
 |none=>false
 |some oi=>
  ((zbp ops i).all fun j=> !listed.getD j false&&match ops[j]? with
   |some oj=>oj.after.any (fun e=>Region.binds .any e&&(e.on==i||(zbp ops i).contains e.on))
   |none=>true)&&
  (List.range ops.size).all fun j=>j==i||listed.getD j true||(zbp ops i).contains j||match ops[j]? with
   |some oj=>oi.apart ops oj&&(zbq am T oj||zco oi.op||(fl&&zlg oj.op&&(List.range ops.size).all fun k=>k==i||k==j||listed.getD k true||(zbp ops i).contains k||match ops[k]? with
    |some ok=>zbq am T ok
    |none=>true))
   |none=>true
def zkW (am:Nat→Bool)(T:Tbl)(ops:Array Oper):Nat→Nat→Array Bool→Bool→Bool
 |0,_,listed,_=>(Region.ready .any ops listed).isEmpty
 |m+1,k,listed,fl=>match ops[k]? with
   |some o=>if zbq am T o then(Region.ready .any ops listed).contains k&&zvU am T ops listed fl k&&zkW am T ops m (k+1) (listed.setIfInBounds k true) fl
    else Region.ready .any ops listed==[k]&&zkW am T ops m (k+1) (listed.setIfInBounds k true) false
   |none=>false
theorem zo9 {listed:Array Bool}{i:Nat}{oi:Oper}{fl:Bool}(hi:ops[i]?=some oi)(h:zvU am T ops listed fl i=true)(hfl:fl=true→zij st):
  (∀j oj,ops[j]?=some oj→(zbp ops i).contains j=true→∃e∈oj.after,Region.binds .any e=true∧(e.on=i∨(zbp ops i).contains e.on=true))∧
  (∀j,(zbp ops i).contains j=true→listed.getD j false=false)∧
  HF ops (fun i=>((ops[i]?).map (zbq am T)).getD false) i oi (fun j=>(zbp ops i).contains j) listed st:=by
 unfold zvU at h
 rw[hi]at h
 simp only[Bool.and_eq_true]at h
 generalize zbp ops i=B at*
 obtain⟨hB,h⟩:=h
 rw[List.all_eq_true]at hB h
 refine⟨fun j oj hj hb=>?_,fun j hb=>?_,fun j oj hj hne hun hno=>?_⟩
 ·have h1:=hB j (by simpa using hb)
  rw[hj]at h1
  simp only[Bool.and_eq_true]at h1
  obtain⟨e,he,h2⟩:=Array.any_eq_true'.1 h1.2
  simp only[Bool.and_eq_true,Bool.or_eq_true,beq_iff_eq]at h2
  exact⟨e,he,h2.1,h2.2⟩
 ·have h1:=hB j (by simpa using hb)
  simp only[Bool.and_eq_true,Bool.not_eq_true']at h1
  exact h1.1
 ·have h1:=h j (by rw[List.mem_range];exact(Array.getElem?_eq_some_iff.1 hj).1)
  simp only at hno
  rw[hj,hun,hno]at h1
  have hne':(j==i)=false:=by simpa using hne
  rw[hne']at h1
  simp only[Bool.false_or,Bool.and_eq_true,Bool.or_eq_true]at h1
  refine⟨h1.1,?_⟩
  rcases h1.2 with(h2|h2)|⟨⟨h2,h3⟩,h4⟩
  ·refine .inl ?_
   simp only[hj,Option.map_some,Option.getD_some]
   exact h2
  ·exact .inr (.inl h2)
  ·refine .inr (.inr ⟨hfl h2,h3,fun k ok hk hki hkj hun' hno'=>?_⟩)
   rw[List.all_eq_true]at h4
   have h5:=h4 k (by rw[List.mem_range];exact(Array.getElem?_eq_some_iff.1 hk).1)
   have e1:(k==i)=false:=by simpa using hki
   have e2:(k==j)=false:=by simpa using hkj
   simp only at hno'
   rw[hk,hun',hno',e1,e2]at h5
   simp only[hk,Option.map_some,Option.getD_some]
   simpa using h5
theorem zfK (hT:zan P G T):∀(l:List Oper) (k:Nat) (listed:Array Bool) (fl:Bool) (st:St),(fl=true→zij st)→(∀j,l[j]?=ops[k+j]?)→zkW am T ops l.length k listed fl=true→zkf P G T N tag0 am ops l K st→
  zmj P G T N tag0 ops (fun i=>((ops[i]?).map (zbq am T)).getD false) K l.length listed st
 |[],k,listed,fl,st,_,_,hd,hs=>by
  simp only[List.length_nil,zkW,List.isEmpty_iff]at hd
  exact⟨hd,hs⟩
 |o::l,k,listed,fl,st,hfl,hl,hd,hs=>by
  have h0:ops[k]?=some o:=by have:=hl 0;simpa using this.symm
  have hl':∀j,l[j]?=ops[k+1+j]?:=fun j=>by have:=hl (j+1);simp at this;rw[this];congr 1;omega
  simp only[List.length_cons,zkW,h0]at hd
  obtain⟨b,hb,h1,h2⟩:=zbB hs
  simp only[List.length_cons]
  by_cases hq:zbq am T o=true
  ·rw[if_pos hq]at hd
   simp only[Bool.and_eq_true]at hd
   obtain⟨⟨hd0,hd1⟩,hd2⟩:=hd
   have hqk:((ops[k]?).map (zbq am T)).getD false=true:=by rw[h0];exact hq
   have hex:∃d c,qv P G T ops o st=some (d,c)∧zaS N o.dst=true∧c∧zkf P G T N tag0 am ops l K (st.put o.dst d):=by
    cases b with
    |true=>
     obtain⟨d,c,g1,g2,g3,g4⟩:=zx4 o hq (h1 rfl)
     exact⟨d,c,by simp only[qv,hb];exact g1,g2,g3,g4⟩
    |false=>
     obtain⟨g1,g2⟩:=h2 rfl
     exact⟨.tup [],True,by simp only[qv,hb],g1,trivial,g2⟩
   obtain⟨d,c,g1,g2,g3,g4⟩:=hex
   obtain⟨f1,f2,f3⟩:=zo9 h0 hd1 hfl
   refine zmk h0 hqk g3 g2 (fun j=>(zbp ops k).contains j) f1 l.length listed st f2 f3 (by simpa using hd0) g1 (zfK hT l (k+1) _ fl _ (fun e=>?_) hl' hd2 g4)
   have:=hfl e
   intro t
   rw[za5]
   exact this t
  ·rw[if_neg hq]at hd
   simp only[Bool.and_eq_true]at hd
   obtain⟨hd1,hd2⟩:=hd
   have hr:Region.ready .any ops listed=[k]:=by simpa using hd1
   refine⟨fun h=>(by rw[hr]at h;cases h),fun i hi o' ho'=>?_⟩
   rw[hr]at hi
   obtain rfl:i=k:=by simpa using hi
   rw[h0]at ho'
   obtain rfl:=Option.some.inj ho'
   unfold zbs
   have:(((ops[i]?).map (zbq am T)).getD false)=false:=by rw[h0];simpa using hq
   simp only[this]
   simp only[hb]
   cases b with
   |true=>
    refine zbK (fr:=st.fr) (fr2:=st.fr) (K:=fun s=>zkf P G T N tag0 am ops l K s) (fun _ _=>rfl) ?_ (zkm hT o (h1 rfl))
    rintro s s2 hK ⟨e,H',n',rfl,rfl⟩
    exact zfK hT l (i+1) _ false _ (fun e=>by cases e) hl' hd2 hK
   |false=>
    obtain⟨g1,g2⟩:=h2 rfl
    exact⟨g1,zfK hT l (i+1) _ false _ (fun e=>by cases e) hl' hd2 g2⟩
theorem zvl (hm:P.follows .mixedOrders=true)(hT:zan P G T){Q:Exit→St→Prop}{id:Nat}(hd:zkW am T ops ops.size 0 (Array.replicate ops.size false) true=true)(h:zkf P G T N tag0 am ops ops.toList (Q .normal) st):W P G N (.region id ops true) Q st:=by
 intro a w L F hr
 refine wp_region_any hm ?_
 have hr':Rel G N st a {w with drawn:=w.drawn+1} L F:=⟨hr.ok.heap rfl,hr.size,fun t=>(hr.fr t).ext (zfu (w:=w) (w':={w with drawn:=w.drawn+1}) rfl),hr.nd⟩
 have hst:zgB st w L F st {w with drawn:=w.drawn+1} L F:=⟨fun _ h=>h,fun _ _=>rfl,fun _ _ h=>h,Nat.le_refl _,fun _ _ _=>rfl,fun _ _ _ _=>rfl,fun _ cs T fr _ h=>⟨cs,T,fr,h,Nat.le_refl _⟩,fun _ _ h=> .inl h,fun _ _ h=> .inr h,rfl,rfl,rfl,Nat.le_succ _⟩
 have hd':zkW am T ops ops.toList.length 0 (Array.replicate ops.size false) true=true:=by simpa using hd
 have hfr:zij st:=fun tag=>by
  cases ho:st.H (tag,st.n)with
  |none=>rfl
  |some o=>exact absurd (hr.ok.live _ o ho).1 (Nat.lt_irrefl _)
 have:=zg7 hT (Q':=fun e a' w'=>Sat G N st w L F (Q e) a' w') _ _ st a _ L F hr' (zfK hT ops.toList 0 _ true st (fun _=>hfr) (by simp) hd' h) (fun _ _ hs=>hs.trans hst)
 simpa using this
end
theorem zdO {P:Program}{G:Nat→List FD}{T:Tbl}{N:Nat}{ops:Array Oper}{st:St}(hm:P.follows .mixedOrders=true)(hT:zan P G T){q:Exit→St→Prop}{id:Nat}(tag0:Nat)(am:Nat→Bool)
  (hd:zkW am T ops ops.size 0 (Array.replicate ops.size false) true=true)(h:@zgc P G T N tag0 am ops ops.toList st ⟨q .normal⟩):@WK P G N (.region id ops true) st ⟨q⟩:=by
 unfold WK;unfold zgc at h;exact zvl hm hT hd h
end Go.Abs
namespace Go.Abs
open Go
section
variable {P:Program} {G:Nat→List FD} {T:Tbl} {N tag0:Nat} {am:Nat→Bool} {st st2:St} {a:Act} {w:World} {L:Loc} {F:Nat→Nat→Prop} {K:St→Prop} {ops:Array Oper}
def zd2 (st:St):Prop:=∀id:Id,st.n≤id.2→st.H id=none
theorem zd2.s (h:zd2 st):zij st:=fun tag=>h (tag,st.n) (Nat.le_refl _)
theorem zub {oi oj:Oper}{fr:Nat→D}{H:zas}{n:Nat}{d:D}{c:Prop}(hap:oi.apart ops oj=true)(hal:zlg oj.op=true)(hfr:zd2 ⟨fr,H,n⟩)(hy:qv P G T ops oi ⟨fr,H,n⟩=some (d,c))
  (h:zbs P G T N tag0 ops false oj ⟨zdx fr oi.dst d,H,n⟩ K):zbs P G T N tag0 ops false oj ⟨fr,H,n⟩ (fun s=>(qv P G T ops oi s=some (d,c)∧K ⟨zdx s.fr oi.dst d,s.H,s.n⟩)∧zd2 s):=by
 have h1:=zsc hap hal hfr.s hy h
 unfold zbs at h1 ⊢
 simp only[Bool.false_eq_true,if_false]at h1 ⊢
 split
 ·rename_i hg
  simp only[hg]at h1
  obtain⟨dst,op,type,pos,after,guard⟩:=oj
  cases op<;>simp only[zlg,Bool.false_eq_true]at hal
  rename_i e
  unfold zcN at h1 ⊢
  simp only[za7]at h1 ⊢
  refine⟨h1.1,?_⟩
  have h':=h1.2
  split at h'
  ·refine⟨h',fun id hid=>?_⟩
   simp only[St.new]at hid ⊢
   have hne:id≠(tag0+dst.getD 0,n):=by rintro rfl;simp only at hid;omega
   simp only[zaM,hne,if_false]
   exact hfr id (by simp only at hid ⊢;omega)
  ·exact h'
 ·rename_i hg
  simp only[hg]at h1
  refine⟨h1.1,h1.2,fun id hid=>?_⟩
  rw[za5]at hid ⊢
  exact hfr id hid
 ·rename_i hg
  simp[hg]at h1
def HG (ops:Array Oper)(q:Nat→Bool)(i:Nat)(oi:Oper)(B:Nat→Bool)(listed:Array Bool)(st:St):Prop:=
 (∀j oj,ops[j]?=some oj→j≠i→listed.getD j true=false→B j=false→oi.apart ops oj=true)∧
 ((∀j oj,ops[j]?=some oj→j≠i→listed.getD j true=false→B j=false→q j=true∨zco oi.op=true)∨
  (zd2 st∧∀j oj,ops[j]?=some oj→j≠i→listed.getD j true=false→B j=false→q j=true∨zlg oj.op=true))
theorem zg6 {q:Nat→Bool}{i:Nat}{oi:Oper}{d:D}{c:Prop}(hi:ops[i]?=some oi)(hqi:q i=true)(hc:c)(hd:zaS N oi.dst=true)(B:Nat→Bool)
  (hB:∀j oj,ops[j]?=some oj→B j=true→∃e∈oj.after,Region.binds .any e=true∧(e.on=i∨B e.on=true)):
  ∀(fuel:Nat) (listed:Array Bool) (st:St),(∀j,B j=true→listed.getD j false=false)→HG ops q i oi B listed st→
   i∈Region.ready .any ops listed→qv P G T ops oi st=some (d,c)→
   zmj P G T N tag0 ops q K fuel (listed.setIfInBounds i true) (st.put oi.dst d)→zmj P G T N tag0 ops q K (fuel+1) listed st:=by
 intro fuel
 have take:∀{st K},qv P G T ops oi st=some (d,c)→K (st.put oi.dst d)→zbs P G T N tag0 ops (q i) oi st K:=by
  intro st K hy hK
  unfold zbs
  rw[if_pos hqi]
  exact⟨d,c,hy,hd,hc,hK⟩
 induction fuel with
 |zero=>
  intro listed st _ _ hr hy H
  refine⟨fun h=>(by rw[h]at hr;cases hr),fun j hj oj hoj=>?_⟩
  by_cases hji:j=i
  ·subst hji;rw[hi]at hoj;obtain rfl:=Option.some.inj hoj;exact take hy H
  ·have:=ready_mono hj hji
   rw[H.1]at this
   cases this
 |succ fuel ih=>
  intro listed st hBl hfree hr hy H
  refine⟨fun h=>(by rw[h]at hr;cases hr),fun j hj oj hoj=>?_⟩
  by_cases hji:j=i
  ·subst hji;rw[hi]at hoj;obtain rfl:=Option.some.inj hoj;exact take hy H
  ·have h1:=H.2 j (ready_mono hj hji) oj hoj
   obtain⟨hjun,oj',hoj',hall⟩:=mem_ready.1 hj
   rw[hoj]at hoj'
   obtain rfl:=Option.some.inj hoj'
   have hnl:listed.getD i false=false:=by
    have h0:=(mem_ready.1 hr).1
    rcases Nat.lt_or_ge i listed.size with h'|h'
    ·simp[h']at h0 ⊢;exact h0
    ·simp[Array.getElem?_eq_none h']
   have hBj:B j=false:=by
    cases hb:B j with
    |false=>rfl
    |true=>
     obtain⟨e,he,hbe,h3⟩:=hB j oj hoj hb
     have h4:=hall e he hbe
     rcases h3 with h3|h3
     ·rw[h3,hnl]at h4;cases h4
     ·rw[hBl _ h3]at h4;cases h4
   obtain⟨hap',hh'⟩:=hfree
   have hap:=hap' j oj hoj hji hjun hBj
   have hBl':∀k,B k=true→(listed.setIfInBounds j true).getD k false=false:=fun k hk=>by
    by_cases hjk:j=k
    ·subst hjk;rw[hBj]at hk;cases hk
    ·rw[getD_set_ne false hjk];exact hBl k hk
   have hsub:∀k,(listed.setIfInBounds j true).getD k true=false→listed.getD k true=false:=fun k hun=>by
    by_cases hjk:j=k
    ·subst hjk
     exfalso
     rcases Nat.lt_or_ge j listed.size with h'|h'
     ·simp[h']at hun
     ·simp[Array.getElem?_eq_none h']at hun
    ·rw[getD_set_ne true hjk]at hun;exact hun
   have hapn:∀k ok,ops[k]?=some ok→k≠i→(listed.setIfInBounds j true).getD k true=false→B k=false→oi.apart ops ok=true:=fun k ok hk hki hun hno=>hap' k ok hk hki (hsub k hun) hno
   rw[za5]at h1
   cases hqj:q j with
   |true=>
    have hfree':∀s:St,s.H=st.H→s.n=st.n→HG ops q i oi B (listed.setIfInBounds j true) s:=fun s e1 e2=>by
     refine⟨hapn,?_⟩
     rcases hh' with g|⟨g1,g2⟩
     ·exact .inl fun k ok hk hki hun hno=>g k ok hk hki (hsub k hun) hno
     ·exact .inr ⟨fun id hid=>by rw[e1];exact g1 id (by rw[←e2];exact hid),fun k ok hk hki hun hno=>g2 k ok hk hki (hsub k hun) hno⟩
    rw[hqj]at h1
    have h2:=zfI hap (.inl rfl) (fr:=st.fr) (H:=st.H) (n:=st.n) hy h1
    unfold zbs at h2 ⊢
    simp only[if_true]at h2 ⊢
    obtain⟨e,c',g1,g2,g3,g4,g5⟩:=h2
    refine⟨e,c',g1,g2,g3,?_⟩
    rw[za5]at g4 g5 ⊢
    refine ih (listed.setIfInBounds j true) _ hBl' (hfree' _ rfl rfl) (ready_mono hr (Ne.symm hji)) g4 ?_
    rw[Array.setIfInBounds_comm _ _ hji,za5]
    exact g5
   |false=>
    rw[hqj]at h1
    rcases hh' with g|⟨g1,g2⟩
    ·have hin:zco oi.op=true:=by
      rcases g j oj hoj hji hjun hBj with g|g
      ·rw[hqj]at g;cases g
      ·exact g
     have h2:=zfI hap (.inr hin) (fr:=st.fr) (H:=st.H) (n:=st.n) hy h1
     refine zeM (fun s h3=>ih (listed.setIfInBounds j true) s hBl' ⟨hapn,.inl fun _ _ _ _ _ _=> .inr hin⟩ (ready_mono hr (Ne.symm hji)) h3.1 ?_) h2
     rw[Array.setIfInBounds_comm _ _ hji,za5]
     exact h3.2
    ·have hal:zlg oj.op=true:=by
      rcases g2 j oj hoj hji hjun hBj with g|g
      ·rw[hqj]at g;cases g
      ·exact g
     have h2:=zub hap hal (fr:=st.fr) (H:=st.H) (n:=st.n) g1 hy h1
     refine zeM (fun s h3=>ih (listed.setIfInBounds j true) s hBl' ⟨hapn,.inr ⟨h3.2,fun k ok hk hki hun hno=>g2 k ok hk hki (hsub k hun) hno⟩⟩ (ready_mono hr (Ne.symm hji)) h3.1.1 ?_) h2
     rw[Array.setIfInBounds_comm _ _ hji,za5]
     exact h3.1.2
def ztA (am:Nat→Bool)(T:Tbl)(ops:Array Oper)(listed:Array Bool)(fl:Bool)(i:Nat):Bool:=
 match ops[i]? with
 |none=>false
 |some oi=>
  zbq am T oi&&((zbp ops i).all fun j=> !listed.getD j false&&match ops[j]? with
   |some oj=>oj.after.any (fun e=>Region.binds .any e&&(e.on==i||(zbp ops i).contains e.on))
   |none=>true)&&
  ((List.range ops.size).all fun j=>j==i||listed.getD j true||(zbp ops i).contains j||match ops[j]? with
   |some oj=>oi.apart ops oj&&(zbq am T oj||zco oi.op||(fl&&zlg oj.op))
   |none=>true)
theorem ziD {listed:Array Bool}{i:Nat}{oi:Oper}{fl:Bool}(hi:ops[i]?=some oi)(h:ztA am T ops listed fl i=true)(hfl:fl=true→zd2 st):
  zbq am T oi=true∧(∀j oj,ops[j]?=some oj→(zbp ops i).contains j=true→∃e∈oj.after,Region.binds .any e=true∧(e.on=i∨(zbp ops i).contains e.on=true))∧
  (∀j,(zbp ops i).contains j=true→listed.getD j false=false)∧
  HG ops (fun i=>((ops[i]?).map (zbq am T)).getD false) i oi (fun j=>(zbp ops i).contains j) listed st:=by
 unfold ztA at h
 rw[hi]at h
 simp only[Bool.and_eq_true]at h
 generalize zbp ops i=B at*
 obtain⟨⟨hq,hB⟩,h⟩:=h
 rw[List.all_eq_true]at hB h
 have key:∀j oj,ops[j]?=some oj→j≠i→listed.getD j true=false→B.contains j=false→oi.apart ops oj=true∧((zbq am T oj=true∨zco oi.op=true)∨fl=true∧zlg oj.op=true):=fun j oj hj hne hun hno=>by
  have h1:=h j (by rw[List.mem_range];exact(Array.getElem?_eq_some_iff.1 hj).1)
  rw[hj,hun,hno]at h1
  have hne':(j==i)=false:=by simpa using hne
  rw[hne']at h1
  simpa only[Bool.false_or,Bool.and_eq_true,Bool.or_eq_true]using h1
 refine⟨hq,fun j oj hj hb=>?_,fun j hb=>?_,fun j oj hj hne hun hno=>(key j oj hj hne hun hno).1,?_⟩
 ·have h1:=hB j (by simpa using hb)
  rw[hj]at h1
  simp only[Bool.and_eq_true]at h1
  obtain⟨e,he,h2⟩:=Array.any_eq_true'.1 h1.2
  simp only[Bool.and_eq_true,Bool.or_eq_true,beq_iff_eq]at h2
  exact⟨e,he,h2.1,h2.2⟩
 ·have h1:=hB j (by simpa using hb)
  simp only[Bool.and_eq_true,Bool.not_eq_true']at h1
  exact h1.1
 ·by_cases hin:zco oi.op=true
  ·exact .inl fun _ _ _ _ _ _=> .inr hin
  cases hf:fl with
  |false=>
   refine .inl fun j oj hj hne hun hno=>?_
   rcases(key j oj hj hne hun hno).2 with(g|g)|⟨g,_⟩
   ·exact .inl (by simp only[hj,Option.map_some,Option.getD_some];exact g)
   ·exact .inr g
   ·rw[hf]at g;cases g
  |true=>
   refine .inr ⟨hfl hf,fun j oj hj hne hun hno=>?_⟩
   rcases(key j oj hj hne hun hno).2 with(g|g)|⟨_,g⟩
   ·exact .inl (by simp only[hj,Option.map_some,Option.getD_some];exact g)
   ·exact absurd g hin
   ·exact .inr g
def zuy (am:Nat→Bool)(T:Tbl)(ops:Array Oper)(i:Nat):Bool:=
 match ops[i]? with
 |some o=>zbq am T o||zlg o.op
 |none=>false
mutual
def zj0 (am:Nat→Bool)(T:Tbl)(ops:Array Oper):Tr→Array Bool→Bool→Bool
 | .leaf,listed,_=>(Region.ready .any ops listed).isEmpty
 | .node l,listed,fl=> !(Region.ready .any ops listed).isEmpty&&(zof am T ops l listed fl||zi0 am T ops l listed fl (Region.ready .any ops listed))
def zof (am:Nat→Bool)(T:Tbl)(ops:Array Oper):Trs→Array Bool→Bool→Bool
 | .cons i t .nil,listed,fl=>(Region.ready .any ops listed).contains i&&ztA am T ops listed fl i&&zj0 am T ops t (listed.setIfInBounds i true) fl
 |_,_,_=>false
def zi0 (am:Nat→Bool)(T:Tbl)(ops:Array Oper):Trs→Array Bool→Bool→List Nat→Bool
 | .nil,_,_,r=>r.isEmpty
 | .cons i t l,listed,fl,r=>(match r with
   |j::r'=>(i==j)&&zj0 am T ops t (listed.setIfInBounds i true) (fl&&zuy am T ops i)&&zi0 am T ops l listed fl r'
   |[]=>false)
end
theorem ziY (hT:zan P G T):∀(l:Trs) (listed:Array Bool) (fl:Bool) (r:List Nat) (st:St),zi0 am T ops l listed fl r=true→zlT P G T N tag0 am ops l K st→∀i∈r,∃t,zj0 am T ops t (listed.setIfInBounds i true) (fl&&zuy am T ops i)=true∧zh3 t≤zgd l∧zfH P G T N tag0 am ops ops[i]? (zoc P G T N tag0 am ops t K) st
 | .nil,listed,fl,r,st,h,_,i,hi=>by
  simp only[zi0,List.isEmpty_iff]at h
  subst h;cases hi
 | .cons j t l,listed,fl,r,st,h,hs,i,hi=>by
  cases r with
  |nil=>simp[zi0]at h
  |cons a r=>
   simp only[zi0,Bool.and_eq_true,beq_iff_eq]at h
   obtain⟨⟨rfl,h1⟩,h2⟩:=h
   simp only[zlT]at hs
   rcases List.mem_cons.1 hi with rfl|hi
   ·exact⟨t,h1,by simp only[zgd];omega,hs.1⟩
   ·obtain⟨t',g1,g2,g3⟩:=ziY hT l listed fl r st h2 hs.2 i hi
    exact⟨t',g1,by simp only[zgd];omega,g3⟩
theorem zsf (hT:zan P G T):∀(fuel:Nat) (t:Tr) (listed:Array Bool) (fl:Bool) (st:St),(fl=true→zd2 st)→zj0 am T ops t listed fl=true→zh3 t≤fuel→zoc P G T N tag0 am ops t K st→
  zmj P G T N tag0 ops (fun i=>((ops[i]?).map (zbq am T)).getD false) K fuel listed st:=by
 intro fuel
 induction fuel with
 |zero=>
  intro t listed fl st hfl h hd hs
  cases t with
  |leaf=>
   simp only[zj0,List.isEmpty_iff]at h
   simp only[zoc]at hs
   exact⟨h,hs⟩
  |node l=>simp[zh3]at hd
 |succ fuel ih=>
  intro t listed fl st hfl h hd hs
  cases t with
  |leaf=>
   simp only[zj0,List.isEmpty_iff]at h
   simp only[zoc]at hs
   exact⟨fun _=>hs,fun i hi=>by rw[h]at hi;cases hi⟩
  |node l=>
   simp only[zj0,Bool.and_eq_true,Bool.or_eq_true]at h
   obtain⟨h0,h⟩:=h
   simp only[zoc]at hs
   simp only[zh3]at hd
   rcases h with h|h
   ·
    match l,h,hs,hd with
    | .cons i t .nil,h,hs,hd=>
     simp only[zof,Bool.and_eq_true]at h
     obtain⟨⟨h1,h2⟩,h3⟩:=h
     simp only[zlT]at hs
     obtain⟨o,ho,hs1⟩:=zbB hs.1
     obtain⟨hq,f1,f2,f3⟩:=ziD ho h2 hfl
     have hqk:((ops[i]?).map (zbq am T)).getD false=true:=by rw[ho];exact hq
     obtain⟨b,hb,g1,g2⟩:=zbB hs1
     have hex:∃d c,qv P G T ops o st=some (d,c)∧zaS N o.dst=true∧c∧zoc P G T N tag0 am ops t K (st.put o.dst d):=by
      cases b with
      |true=>
       obtain⟨d,c,k1,k2,k3,k4⟩:=zx4 o hq (g1 rfl)
       exact⟨d,c,by simp only[qv,hb];exact k1,k2,k3,k4⟩
      |false=>
       obtain⟨k1,k2⟩:=g2 rfl
       exact⟨.tup [],True,by simp only[qv,hb],k1,trivial,k2⟩
     obtain⟨d,c,k1,k2,k3,k4⟩:=hex
     refine zg6 ho hqk k3 k2 (fun j=>(zbp ops i).contains j) f1 fuel listed st f2 f3 (by simpa using h1) k1 (ih t _ fl _ (fun e=>?_) h3 (by simp only[zgd]at hd;omega) k4)
     have:=hfl e
     intro id hid
     rw[za5]at hid ⊢
     exact this id hid
    | .nil,h,_,_=>simp[zof]at h
    | .cons _ _ (.cons _ _ _),h,_,_=>simp[zof]at h
   ·refine⟨fun hr=>?_,fun i hi o ho=>?_⟩
    ·rw[hr]at h0;simp at h0
    ·obtain⟨t',h1,h2,h3⟩:=ziY hT l listed fl _ st h hs i hi
     rw[ho]at h3
     have h3':Bi (zlf ops st.fr o.guard) fun b=>zdn b (XO P G T N tag0 am st (zoc P G T N tag0 am ops t' K) o.dst o.op) (Chk (zaS N o.dst) (zoc P G T N tag0 am ops t' K (st.put o.dst (.tup [])))):=h3
     obtain⟨b,hb,g1,g2⟩:=zbB h3'
     have hfrn:fl=true→∀s:St,s.H=st.H→s.n=st.n→zd2 s:=fun e s e1 e2 id hid=>by rw[e1];exact hfl e id (by rw[←e2];exact hid)
     cases hq:zbq am T o with
     |true=>
      have hqk:((ops[i]?).map (zbq am T)).getD false=true:=by rw[ho];exact hq
      simp only[hqk]
      unfold zbs
      simp only[if_true]
      cases b with
      |true=>
       obtain⟨d,c,k1,k2,k3,k4⟩:=zx4 o hq (g1 rfl)
       refine⟨d,c,by simp only[qv,hb];exact k1,k2,k3,ih t' _ _ _ (fun e=>?_) h1 (by omega) k4⟩
       simp only[Bool.and_eq_true]at e
       exact hfrn e.1 _ (by rw[za5]) (by rw[za5])
      |false=>
       obtain⟨k1,k2⟩:=g2 rfl
       refine⟨.tup [],True,by simp only[qv,hb],k1,trivial,ih t' _ _ _ (fun e=>?_) h1 (by omega) k2⟩
       simp only[Bool.and_eq_true]at e
       exact hfrn e.1 _ (by rw[za5]) (by rw[za5])
     |false=>
      have hqk:((ops[i]?).map (zbq am T)).getD false=false:=by rw[ho];exact hq
      have hcalm:zuy am T ops i=zlg o.op:=by unfold zuy;rw[ho];simp only[hq,Bool.false_or]
      rw[hcalm]at h1
      simp only[hqk]
      unfold zbs
      simp only[Bool.false_eq_true,if_false,hb]
      cases b with
      |true=>
       have hsym:=zkm hT o (g1 rfl)
       cases hal:zlg o.op with
       |false=>
        rw[hal,Bool.and_false]at h1
        refine zbK (fr:=st.fr) (fr2:=st.fr) (K:=fun s=>zoc P G T N tag0 am ops t' K s) (fun _ _=>rfl) ?_ hsym
        rintro s s2 hK ⟨e,H',n',rfl,rfl⟩
        exact ih t' _ false _ (fun e=>by cases e) h1 (by omega) hK
       |true=>
        obtain⟨dst,op,type,pos,after,guard⟩:=o
        cases op<;>simp only[zlg,Bool.false_eq_true]at hal
        rename_i e
        unfold zcN at hsym ⊢
        simp only[za7]at hsym ⊢
        refine⟨hsym.1,?_⟩
        have h':=hsym.2
        split at h'
        ·refine ih t' _ _ _ (fun e=>?_) h1 (by omega) h'
         simp only[Bool.and_eq_true]at e
         intro id hid
         simp only[St.new]at hid ⊢
         have hne:id≠(tag0+dst.getD 0,st.n):=by rintro rfl;simp only at hid;omega
         simp only[zaM,hne,if_false]
         have hH:(St.put st dst (.ptr (tag0+dst.getD 0,st.n) 0)).H=st.H:=by cases dst<;>rfl
         exact hfl e.1 id (by omega)
        ·exact h'
      |false=>
       obtain⟨e1,e2⟩:=g2 rfl
       refine⟨e1,ih t' _ _ _ (fun e=>?_) h1 (by omega) e2⟩
       simp only[Bool.and_eq_true]at e
       exact hfrn e.1 _ (by rw[za5]) (by rw[za5])
theorem zvm (hm:P.follows .mixedOrders=true)(hT:zan P G T){Q:Exit→St→Prop}{id:Nat}(t:Tr)(ht:zj0 am T ops t (Array.replicate ops.size false) true=true)(hd:decide (zh3 t≤ops.size)=true)(h:zoc P G T N tag0 am ops t (Q .normal) st):W P G N (.region id ops true) Q st:=by
 intro a w L F hr
 refine wp_region_any hm ?_
 have hr':Rel G N st a {w with drawn:=w.drawn+1} L F:=⟨hr.ok.heap rfl,hr.size,fun t=>(hr.fr t).ext (zfu (w:=w) (w':={w with drawn:=w.drawn+1}) rfl),hr.nd⟩
 have hst:zgB st w L F st {w with drawn:=w.drawn+1} L F:=⟨fun _ h=>h,fun _ _=>rfl,fun _ _ h=>h,Nat.le_refl _,fun _ _ _=>rfl,fun _ _ _ _=>rfl,fun _ cs T fr _ h=>⟨cs,T,fr,h,Nat.le_refl _⟩,fun _ _ h=> .inl h,fun _ _ h=> .inr h,rfl,rfl,rfl,Nat.le_succ _⟩
 have hfr:zd2 st:=fun id hid=>by
  cases ho:st.H id with
  |none=>rfl
  |some o=>exact absurd (hr.ok.live _ o ho).1 (Nat.not_lt.2 hid)
 exact zg7 hT (Q':=fun e a' w'=>Sat G N st w L F (Q e) a' w') _ _ st a _ L F hr' (zsf hT ops.size t _ true st (fun _=>hfr) ht (of_decide_eq_true hd) h) (fun _ _ hs=>hs.trans hst)
end
theorem zsV {P:Program}{G:Nat→List FD}{T:Tbl}{N:Nat}{ops:Array Oper}{st:St}(hm:P.follows .mixedOrders=true)(hT:zan P G T){q:Exit→St→Prop}{id:Nat}(tag0:Nat)(am:Nat→Bool)(t:Tr)
  (ht:zj0 am T ops t (Array.replicate ops.size false) true=true)(hd:decide (zh3 t≤ops.size)=true)(h:@zlS P G T N tag0 am ops t st ⟨q .normal⟩):@WK P G N (.region id ops true) st ⟨q⟩:=by
 unfold WK;unfold zlS at h;exact zvm hm hT t ht hd h
theorem zvj {P:Program}{G:Nat→List FD}{N:Nat}{c:Code}{st:St}{q:Exit→St→Prop}{ι:Type}(I:ι→St)(h:∀i,q .normal (I i))(h2:@WK P G N c st ⟨fun e s=>e= .normal∧∃i,zgh G N s (I i)⟩):@WK P G N c st ⟨q⟩:=by
 unfold WK at h2 ⊢
 intro a w L F hr
 refine wp_mono (h2 a w L F hr) fun e a' w' hs=>?_
 obtain⟨s,L1,F1,⟨rfl,i,hw⟩,g2,g3⟩:=hs
 obtain⟨L2,F2,g4,g5⟩:=hw a' w' L1 F1 g2
 exact⟨I i,L2,F2,h i,g4,zbL.trans g3 g5⟩
end Go.Abs
namespace Go.Abs
open Go
section
variable {P:Program} {G:Nat→List FD} {T:Tbl} {N tag0:Nat} {am:Nat→Bool} {st:St} {a:Act} {w:World} {L:Loc} {F:Nat→Nat→Prop} {K:St→Prop} {ops:Array Oper}
theorem zvp {id:Id}{t:Nat}{ys:List FD}{b:Bool}(ho:st.H id=some ⟨ys.map .fz,b,false⟩)(hs:st.fr t= .ptr id 0):zgh G N st ⟨upd st.fr t (.rp ys),zaM st.H id none,st.n⟩:=by
 intro a w L F h
 obtain⟨hu,hob⟩:=h.ok.live id _ ho
 have hv3:(L id).3=false:=by
  cases e:(L id).3 with
  |false=>rfl
  |true=>unfold zb2 at hob;rw[if_pos e]at hob;cases hob.2
 obtain⟨hnF,cs,T,hcs,hsz,hcell⟩:=zaC hob hv3
 have hlt:(L id).1<w.heap.size:=by
  rcases Nat.lt_or_ge (L id).1 w.heap.size with h|h
  ·exact h
  ·rw[Array.getElem?_eq_none h]at hcs;cases hcs
 obtain⟨F',hF'⟩:∃F':Nat→Nat→Prop,F'=fun b k=>F b k∨(b=(L id).1∧(L id).2≤k):=⟨_,rfl⟩
 have hsub:∀b k,F b k→F' b k:=fun b k h=>by rw[hF'];exact .inl h
 have e:Ext w L F (Ub st.n) w L F' (Ub st.n):=⟨fun _ h=>h,fun _ _=>rfl,hsub,fun _ _ _=>rfl,Nat.le_refl _,fun b cs T fr _ h=>⟨cs,T,fr,h,Nat.le_refl _⟩⟩
 have hold:∀id' o',zaM st.H id none id'=some o'→id'≠id∧st.H id'=some o':=fun id' o' h=>by
  unfold zaM at h
  split at h
  ·cases h
  ·rename_i hne;exact⟨hne,h⟩
 refine⟨L,F',⟨⟨fun b k hb=>?_,fun id' o' h1=>?_,fun i1 i2 o1 o2 h1 h2=>h.ok.inj i1 i2 o1 o2 (hold _ _ h1).2 (hold _ _ h2).2,zdT hsub (fun _ _ _=>rfl) h.ok.glob⟩,h.size,fun s=>?_,h.nd⟩,
  fun _ h=>h,fun _ _=>rfl,hsub,Nat.le_refl _,fun _ _ _=>rfl,fun _ _ _ _=>rfl,fun b cs T fr _ h=>⟨cs,T,fr,h,Nat.le_refl _⟩,fun b k hb=>?_,fun b k hb=>?_,rfl,rfl,rfl,Nat.le_refl _⟩
 ·rw[hF']at hb
  rcases hb with hb|⟨rfl,_⟩
  ·exact h.ok.fb b k hb
  ·exact hlt
 ·obtain⟨hne,h2⟩:=hold _ _ h1
  obtain⟨h3,h4⟩:=h.ok.live id' o' h2
  refine⟨h3,h4.ext e h3 fun hv=>⟨rfl,fun k hk hb=>?_⟩⟩
  rw[hF']at hb
  rcases hb with hb|⟨hb,_⟩
  ·exact(zaC h4 hv).1 k hk hb
  ·exact hne (h.ok.inj id' id _ _ h2 ho hv hv3 hb)
 ·simp only[upd]
  split
  ·rename_i hst
   subst hst
   have hv:=h.fr s
   rw[hs]at hv
   simp only[zak]at hv ⊢
   refine⟨(L id).1,(L id).2+0,hv.2.2,fun j hj=>⟨by rw[hF'];exact .inr ⟨rfl,by omega⟩,?_⟩⟩
   obtain⟨u,hu1,hu2⟩:=hcell j (by simpa using hj)
   refine⟨u,by rw[zg9 hcs,Nat.add_zero];exact hu1,?_⟩
   rw[zb0 _ _ hj]at hu2
   simp only[zak]at hu2
   exact hu2.mono (fun _ _ _=>rfl) hsub
  ·exact(h.fr s).ext e
 ·rw[hF']at hb
  rcases hb with hb|⟨rfl,hk⟩
  ·exact .inl hb
  ·exact .inr (.inr ⟨id,_,ho,hv3,rfl,hk⟩)
 ·obtain⟨id',o',h1,h2,h3,h4⟩:=hb
  exact .inr ⟨id',o',(hold _ _ h1).2,h2,h3,h4⟩
def zwZ (P:Program)(G:Nat→List FD)(T:Tbl)(ops:Array Oper)(oi:Oper)(fr:Nat→D)(r:D×Prop):Prop:=∀H n,qv P G T ops oi ⟨fr,H,n⟩=some r
theorem zsd {oi oj:Oper}{q:Bool}{fr:Nat→D}{H:zas}{n:Nat}{d:D}{c:Prop}(hap:oi.apart ops oj=true)(hy:zwZ P G T ops oi fr (d,c))
  (h:zbs P G T N tag0 ops q oj ⟨zdx fr oi.dst d,H,n⟩ K):zbs P G T N tag0 ops q oj ⟨fr,H,n⟩ (fun s=>zwZ P G T ops oi s.fr (d,c)∧K ⟨zdx s.fr oi.dst d,s.H,s.n⟩):=by
 obtain⟨h1,h2,h3⟩:=Oper.apart_spec hap
 unfold zbs at h ⊢
 have eput:∀(e:D),(St.put ⟨fr,H,n⟩ oj.dst e)=⟨zdx fr oj.dst e,H,n⟩:=fun e=>za5
 have eput2:∀(e:D),(St.put ⟨zdx fr oi.dst d,H,n⟩ oj.dst e)=⟨zdx (zdx fr oj.dst e) oi.dst d,H,n⟩:=fun e=>by rw[za5];simp only;rw[zdK h2]
 have hyj:∀e,zwZ P G T ops oi (zdx fr oj.dst e) (d,c):=fun e H' n'=>(zf6 (H:=H') (n:=n') h3 (.inl rfl)).trans (hy H' n')
 split
 ·rename_i hq
  simp only[hq,if_true]at h
  obtain⟨e,c',g1,g2,g3,g4⟩:=h
  refine⟨e,c',(zf6 h1 (.inl rfl)).symm.trans g1,g2,g3,?_,?_⟩
  ·rw[eput];exact hyj e
  ·rw[eput];rw[eput2]at g4;exact g4
 ·rename_i hq
  simp only[hq]at h
  simp only at h ⊢
  rw[zft h1]at h
  split
  ·rename_i hg
   simp only[hg]at h
   refine zbK (fr2:=fr) (zmD h1) ?_ h
   rintro s s2 hK ⟨e,H',n',rfl,rfl⟩
   refine⟨hyj e,?_⟩
   simp only
   rw[zdK h2]at hK
   exact hK
  ·rename_i hg
   simp only[hg]at h
   refine⟨h.1,?_,?_⟩
   ·rw[eput];exact hyj _
   ·have:=h.2
    rw[eput2]at this
    rw[eput]
    exact this
  ·rename_i hg
   simp[hg]at h
theorem zml {q:Nat→Bool}{i:Nat}{oi:Oper}{d:D}{c:Prop}(hi:ops[i]?=some oi)(hqi:q i=true)(hc:c)(hd:zaS N oi.dst=true)(B:Nat→Bool)
  (hB:∀j oj,ops[j]?=some oj→B j=true→∃e∈oj.after,Region.binds .any e=true∧(e.on=i∨B e.on=true)):
  ∀(fuel:Nat) (listed:Array Bool) (st:St),(∀j,B j=true→listed.getD j false=false)→
   (∀j oj,ops[j]?=some oj→j≠i→listed.getD j true=false→B j=false→oi.apart ops oj=true)→
   i∈Region.ready .any ops listed→zwZ P G T ops oi st.fr (d,c)→
   zmj P G T N tag0 ops q K fuel (listed.setIfInBounds i true) (st.put oi.dst d)→zmj P G T N tag0 ops q K (fuel+1) listed st:=by
 intro fuel
 have take:∀{st K},zwZ P G T ops oi st.fr (d,c)→K (st.put oi.dst d)→zbs P G T N tag0 ops (q i) oi st K:=by
  intro st K hy hK
  unfold zbs
  rw[if_pos hqi]
  exact⟨d,c,hy st.H st.n,hd,hc,hK⟩
 induction fuel with
 |zero=>
  intro listed st _ _ hr hy H
  refine⟨fun h=>(by rw[h]at hr;cases hr),fun j hj oj hoj=>?_⟩
  by_cases hji:j=i
  ·subst hji;rw[hi]at hoj;obtain rfl:=Option.some.inj hoj;exact take hy H
  ·have:=ready_mono hj hji
   rw[H.1]at this
   cases this
 |succ fuel ih=>
  intro listed st hBl hfree hr hy H
  refine⟨fun h=>(by rw[h]at hr;cases hr),fun j hj oj hoj=>?_⟩
  by_cases hji:j=i
  ·subst hji;rw[hi]at hoj;obtain rfl:=Option.some.inj hoj;exact take hy H
  ·have h1:=H.2 j (ready_mono hj hji) oj hoj
   obtain⟨hjun,oj',hoj',hall⟩:=mem_ready.1 hj
   rw[hoj]at hoj'
   obtain rfl:=Option.some.inj hoj'
   have hnl:listed.getD i false=false:=by
    have h0:=(mem_ready.1 hr).1
    rcases Nat.lt_or_ge i listed.size with h'|h'
    ·simp[h']at h0 ⊢;exact h0
    ·simp[Array.getElem?_eq_none h']
   have hBj:B j=false:=by
    cases hb:B j with
    |false=>rfl
    |true=>
     obtain⟨e,he,hbe,h3⟩:=hB j oj hoj hb
     have h4:=hall e he hbe
     rcases h3 with h3|h3
     ·rw[h3,hnl]at h4;cases h4
     ·rw[hBl _ h3]at h4;cases h4
   have hap:=hfree j oj hoj hji hjun hBj
   have hBl':∀k,B k=true→(listed.setIfInBounds j true).getD k false=false:=fun k hk=>by
    by_cases hjk:j=k
    ·subst hjk;rw[hBj]at hk;cases hk
    ·rw[getD_set_ne false hjk];exact hBl k hk
   have hfree':∀k ok,ops[k]?=some ok→k≠i→(listed.setIfInBounds j true).getD k true=false→B k=false→oi.apart ops ok=true:=fun k ok hk hki hun hno=>by
    refine hfree k ok hk hki ?_ hno
    by_cases hjk:j=k
    ·subst hjk;exact hjun
    ·rw[getD_set_ne true hjk]at hun;exact hun
   rw[za5]at h1
   have h2:=zsd hap (fr:=st.fr) (H:=st.H) (n:=st.n) hy h1
   refine zeM (fun s h3=>ih (listed.setIfInBounds j true) s hBl' hfree' (ready_mono hr (Ne.symm hji)) h3.1 ?_) h2
   rw[Array.setIfInBounds_comm _ _ hji,za5]
   exact h3.2
inductive Tv where
 |leaf
 |q (i:Nat) (t:Tv)
 |r (i:Nat) (t:Tv)
 |br (l:List (Nat×Tv))
def RpC (st:St)(G:Nat→List FD):Option Oper→Prop
 |some ⟨_,.load _ x,_,_,_,_⟩=>∃xs,st.ev G x= .rp xs
 |_=>False
theorem RpC.all {oi:Oper}{r:D×Prop}(hr:RpC st G (some oi))(h:qv P G T ops oi st=some r):zwZ P G T ops oi st.fr r:=by
 obtain⟨dst,op,type,pos,after,guard⟩:=oi
 cases op<;>simp only[RpC]at hr
 rename_i t x
 obtain⟨xs,hx⟩:=hr
 intro H n
 unfold qv at h ⊢
 simp only at h ⊢
 cases hg:zlf ops st.fr guard with
 |none=>rw[hg]at h;cases h
 |some b=>
  rw[hg]at h
  cases b with
  |false=>exact h
  |true=>
   simp only at h ⊢
   have e:St.ev G ⟨st.fr,H,n⟩=St.ev G st:=by funext x;cases x<;>rfl
   rw[e]
   have key:za7 P ⟨dst,.load t x,type,pos,after,guard⟩ (St.ev G st) H=za7 P ⟨dst,.load t x,type,pos,after,guard⟩ (St.ev G st) st.H:=by
    simp only[za7,zhq,hx,ob]
    cases zaq P t with
    |none=>rfl
    |some ti=>rfl
   unfold zbg at h ⊢
   rw[key]
   exact h
section
variable (P:Program) (G:Nat→List FD) (T:Tbl) (N tag0:Nat) (am:Nat→Bool) (ops:Array Oper)
mutual
def zlU:Tv→(St→Prop)→St→Prop
 | .leaf,K,st=>K st
 | .q i t,K,st=>zfH P G T N tag0 am ops ops[i]? (zlU t K) st
 | .r i t,K,st=>Req (RpC st G ops[i]?) (zfH P G T N tag0 am ops ops[i]? (zlU t K) st)
 | .br l,K,st=>zm8 l K st
def zm8:List (Nat×Tv)→(St→Prop)→St→Prop
 |[],_,_=>True
 |(i,t)::l,K,st=>zfH P G T N tag0 am ops ops[i]? (zlU t K) st∧zm8 l K st
end
end
mutual
def zpR (am:Nat→Bool)(T:Tbl)(ops:Array Oper):Tv→Array Bool→Bool→Bool
 | .leaf,listed,_=>(Region.ready .any ops listed).isEmpty
 | .q i t,listed,fl=>(Region.ready .any ops listed).contains i&&ztA am T ops listed fl i&&zpR am T ops t (listed.setIfInBounds i true) fl
 | .r i t,listed,fl=>(Region.ready .any ops listed).contains i&&zvV am T ops listed i&&zpR am T ops t (listed.setIfInBounds i true) fl
 | .br l,listed,fl=> !(Region.ready .any ops listed).isEmpty&&zpF am T ops l listed fl (Region.ready .any ops listed)
def zpF (am:Nat→Bool)(T:Tbl)(ops:Array Oper):List (Nat×Tv)→Array Bool→Bool→List Nat→Bool
 |[],_,_,r=>r.isEmpty
 |(i,t)::l,listed,fl,r=>(match r with
   |j::r'=>(i==j)&&zpR am T ops t (listed.setIfInBounds i true) (fl&&zuy am T ops i)&&zpF am T ops l listed fl r'
   |[]=>false)
def zvV (am:Nat→Bool)(T:Tbl)(ops:Array Oper)(listed:Array Bool)(i:Nat):Bool:=
 match ops[i]? with
 |none=>false
 |some oi=>
  zbq am T oi&&((zbp ops i).all fun j=> !listed.getD j false&&match ops[j]? with
   |some oj=>oj.after.any (fun e=>Region.binds .any e&&(e.on==i||(zbp ops i).contains e.on))
   |none=>true)&&
  ((List.range ops.size).all fun j=>j==i||listed.getD j true||(zbp ops i).contains j||match ops[j]? with
   |some oj=>oi.apart ops oj
   |none=>true)
end
mutual
def zdI:Tv→Nat
 | .leaf=>0
 | .q _ t=>zdI t+1
 | .r _ t=>zdI t+1
 | .br l=>zh4 l+1
def zh4:List (Nat×Tv)→Nat
 |[]=>0
 |(_,t)::l=>max (zdI t) (zh4 l)
end
theorem zpa {listed:Array Bool}{i:Nat}{oi:Oper}(hi:ops[i]?=some oi)(h:zvV am T ops listed i=true):
  zbq am T oi=true∧(∀j oj,ops[j]?=some oj→(zbp ops i).contains j=true→∃e∈oj.after,Region.binds .any e=true∧(e.on=i∨(zbp ops i).contains e.on=true))∧
  (∀j,(zbp ops i).contains j=true→listed.getD j false=false)∧
  (∀j oj,ops[j]?=some oj→j≠i→listed.getD j true=false→(zbp ops i).contains j=false→oi.apart ops oj=true):=by
 unfold zvV at h
 rw[hi]at h
 simp only[Bool.and_eq_true]at h
 generalize zbp ops i=B at*
 obtain⟨⟨hq,hB⟩,h⟩:=h
 rw[List.all_eq_true]at hB h
 refine⟨hq,fun j oj hj hb=>?_,fun j hb=>?_,fun j oj hj hne hun hno=>?_⟩
 ·have h1:=hB j (by simpa using hb)
  rw[hj]at h1
  simp only[Bool.and_eq_true]at h1
  obtain⟨e,he,h2⟩:=Array.any_eq_true'.1 h1.2
  simp only[Bool.and_eq_true,Bool.or_eq_true,beq_iff_eq]at h2
  exact⟨e,he,h2.1,h2.2⟩
 ·have h1:=hB j (by simpa using hb)
  simp only[Bool.and_eq_true,Bool.not_eq_true']at h1
  exact h1.1
 ·have h1:=h j (by rw[List.mem_range];exact(Array.getElem?_eq_some_iff.1 hj).1)
  rw[hj,hun,hno]at h1
  have hne':(j==i)=false:=by simpa using hne
  rw[hne']at h1
  simpa only[Bool.false_or]using h1
theorem zlV:∀(l:List (Nat×Tv)) (listed:Array Bool) (fl:Bool) (r:List Nat) (st:St),zpF am T ops l listed fl r=true→zm8 P G T N tag0 am ops l K st→∀i∈r,∃t,zpR am T ops t (listed.setIfInBounds i true) (fl&&zuy am T ops i)=true∧zdI t≤zh4 l∧zfH P G T N tag0 am ops ops[i]? (zlU P G T N tag0 am ops t K) st
 |[],listed,fl,r,st,h,_,i,hi=>by
  simp only[zpF,List.isEmpty_iff]at h
  subst h;cases hi
 |(j,t)::l,listed,fl,r,st,h,hs,i,hi=>by
  cases r with
  |nil=>simp[zpF]at h
  |cons a r=>
   simp only[zpF,Bool.and_eq_true,beq_iff_eq]at h
   obtain⟨⟨rfl,h1⟩,h2⟩:=h
   simp only[zm8]at hs
   rcases List.mem_cons.1 hi with rfl|hi
   ·exact⟨t,h1,by simp only[zh4];omega,hs.1⟩
   ·obtain⟨t',g1,g2,g3⟩:=zlV l listed fl r st h2 hs.2 i hi
    exact⟨t',g1,by simp only[zh4];omega,g3⟩
theorem zhN {o:Oper}(hq:zbq am T o=true){k:St→Prop}(hs:zfH P G T N tag0 am ops (some o) k st):∃d c,qv P G T ops o st=some (d,c)∧zaS N o.dst=true∧c∧k (st.put o.dst d):=by
 obtain⟨o',ho',hs1⟩:=zbB hs
 obtain rfl:=Option.some.inj ho'
 obtain⟨b,hb,g1,g2⟩:=zbB hs1
 cases b with
 |true=>
  obtain⟨d,c,k1,k2,k3,k4⟩:=zx4 o hq (g1 rfl)
  exact⟨d,c,by simp only[qv,hb];exact k1,k2,k3,k4⟩
 |false=>
  obtain⟨k1,k2⟩:=g2 rfl
  exact⟨.tup [],True,by simp only[qv,hb],k1,trivial,k2⟩
theorem zuc (hT:zan P G T):∀(fuel:Nat) (t:Tv) (listed:Array Bool) (fl:Bool) (st:St),(fl=true→zd2 st)→zpR am T ops t listed fl=true→zdI t≤fuel→zlU P G T N tag0 am ops t K st→
  zmj P G T N tag0 ops (fun i=>((ops[i]?).map (zbq am T)).getD false) K fuel listed st:=by
 intro fuel
 induction fuel with
 |zero=>
  intro t listed fl st hfl h hd hs
  cases t with
  |leaf=>
   simp only[zpR,List.isEmpty_iff]at h
   simp only[zlU]at hs
   exact⟨h,hs⟩
  |q i t=>simp[zdI]at hd
  |r i t=>simp[zdI]at hd
  |br l=>simp[zdI]at hd
 |succ fuel ih=>
  intro t listed fl st hfl h hd hs
  have hput:∀{o:Oper} {d:D},(fl=true→zd2 (st.put o.dst d)):=fun{o d} e id hid=>by
   rw[za5]at hid ⊢
   exact hfl e id hid
  cases t with
  |leaf=>
   simp only[zpR,List.isEmpty_iff]at h
   simp only[zlU]at hs
   exact⟨fun _=>hs,fun i hi=>by rw[h]at hi;cases hi⟩
  |q i t=>
   simp only[zpR,Bool.and_eq_true]at h
   obtain⟨⟨h1,h2⟩,h3⟩:=h
   simp only[zlU]at hs
   simp only[zdI]at hd
   obtain⟨o,ho,_⟩:=zbB hs
   obtain⟨hq,f1,f2,f3⟩:=ziD ho h2 hfl
   rw[ho]at hs
   obtain⟨d,c,k1,k2,k3,k4⟩:=zhN hq hs
   exact zg6 ho (by rw[ho];exact hq) k3 k2 (fun j=>(zbp ops i).contains j) f1 fuel listed st f2 f3 (by simpa using h1) k1 (ih t _ fl _ hput h3 (by omega) k4)
  |r i t=>
   simp only[zpR,Bool.and_eq_true]at h
   obtain⟨⟨h1,h2⟩,h3⟩:=h
   simp only[zlU]at hs
   simp only[zdI]at hd
   obtain⟨hr,hs⟩:=hs
   obtain⟨o,ho,_⟩:=zbB hs
   obtain⟨hq,f1,f2,f3⟩:=zpa ho h2
   rw[ho]at hs hr
   obtain⟨d,c,k1,k2,k3,k4⟩:=zhN hq hs
   exact zml ho (by rw[ho];exact hq) k3 k2 (fun j=>(zbp ops i).contains j) f1 fuel listed st f2 f3 (by simpa using h1) (RpC.all hr k1) (ih t _ fl _ hput h3 (by omega) k4)
  |br l=>
   simp only[zpR,Bool.and_eq_true]at h
   obtain⟨h0,h⟩:=h
   simp only[zlU]at hs
   simp only[zdI]at hd
   refine⟨fun hr=>?_,fun i hi o ho=>?_⟩
   ·rw[hr]at h0;simp at h0
   ·obtain⟨t',h1,h2,h3⟩:=zlV l listed fl _ st h hs i hi
    rw[ho]at h3
    cases hq:zbq am T o with
    |true=>
     have hqk:((ops[i]?).map (zbq am T)).getD false=true:=by rw[ho];exact hq
     simp only[hqk]
     obtain⟨d,c,k1,k2,k3,k4⟩:=zhN hq h3
     unfold zbs
     simp only[if_true]
     refine⟨d,c,k1,k2,k3,ih t' _ _ _ (fun e=>?_) h1 (by omega) k4⟩
     simp only[Bool.and_eq_true]at e
     exact hput e.1
    |false=>
     obtain⟨o',ho',h3'⟩:=zbB h3
     obtain rfl:=Option.some.inj ho'
     obtain⟨b,hb,g1,g2⟩:=zbB h3'
     have hqk:((ops[i]?).map (zbq am T)).getD false=false:=by rw[ho];exact hq
     have hcalm:zuy am T ops i=zlg o.op:=by unfold zuy;rw[ho];simp only[hq,Bool.false_or]
     rw[hcalm]at h1
     simp only[hqk]
     unfold zbs
     simp only[Bool.false_eq_true,if_false,hb]
     cases b with
     |true=>
      have hsym:=zkm hT o (g1 rfl)
      cases hal:zlg o.op with
      |false=>
       rw[hal,Bool.and_false]at h1
       refine zbK (fr:=st.fr) (fr2:=st.fr) (K:=fun s=>zlU P G T N tag0 am ops t' K s) (fun _ _=>rfl) ?_ hsym
       rintro s s2 hK ⟨e,H',n',rfl,rfl⟩
       exact ih t' _ false _ (fun e=>by cases e) h1 (by omega) hK
      |true=>
       obtain⟨dst,op,type,pos,after,guard⟩:=o
       cases op<;>simp only[zlg,Bool.false_eq_true]at hal
       rename_i e
       unfold zcN at hsym ⊢
       simp only[za7]at hsym ⊢
       refine⟨hsym.1,?_⟩
       have h':=hsym.2
       split at h'
       ·refine ih t' _ _ _ (fun e=>?_) h1 (by omega) h'
        simp only[Bool.and_eq_true]at e
        intro id hid
        simp only[St.new]at hid ⊢
        have hne:id≠(tag0+dst.getD 0,st.n):=by rintro rfl;simp only at hid;omega
        simp only[zaM,hne,if_false]
        have hH:(St.put st dst (.ptr (tag0+dst.getD 0,st.n) 0)).H=st.H:=by cases dst<;>rfl
        exact hfl e.1 id (by omega)
       ·exact h'
     |false=>
      obtain⟨e1,e2⟩:=g2 rfl
      refine⟨e1,ih t' _ _ _ (fun e=>?_) h1 (by omega) e2⟩
      simp only[Bool.and_eq_true]at e
      exact hput e.1
theorem zvn (hm:P.follows .mixedOrders=true)(hT:zan P G T){Q:Exit→St→Prop}{id:Nat}(t:Tv)(ht:zpR am T ops t (Array.replicate ops.size false) true=true)(hd:decide (zdI t≤ops.size)=true)(h:zlU P G T N tag0 am ops t (Q .normal) st):W P G N (.region id ops true) Q st:=by
 intro a w L F hr
 refine wp_region_any hm ?_
 have hr':Rel G N st a {w with drawn:=w.drawn+1} L F:=⟨hr.ok.heap rfl,hr.size,fun t=>(hr.fr t).ext (zfu (w:=w) (w':={w with drawn:=w.drawn+1}) rfl),hr.nd⟩
 have hst:zgB st w L F st {w with drawn:=w.drawn+1} L F:=⟨fun _ h=>h,fun _ _=>rfl,fun _ _ h=>h,Nat.le_refl _,fun _ _ _=>rfl,fun _ _ _ _=>rfl,fun _ cs T fr _ h=>⟨cs,T,fr,h,Nat.le_refl _⟩,fun _ _ h=> .inl h,fun _ _ h=> .inr h,rfl,rfl,rfl,Nat.le_succ _⟩
 have hfr:zd2 st:=fun id hid=>by
  cases ho:st.H id with
  |none=>rfl
  |some o=>exact absurd (hr.ok.live _ o ho).1 (Nat.not_lt.2 hid)
 exact zg7 hT (Q':=fun e a' w'=>Sat G N st w L F (Q e) a' w') _ _ st a _ L F hr' (zuc hT ops.size t _ true st (fun _=>hfr) ht (of_decide_eq_true hd) h) (fun _ _ hs=>hs.trans hst)
end
def zfJ (P:Program)(G:Nat→List FD)(T:Tbl)(N tag0:Nat)(am:Nat→Bool)(ops:Array Oper)(t:Tv)(st:St)[k:Kn St]:Prop:=zlU P G T N tag0 am ops t k.run st
def zgx (P:Program)(G:Nat→List FD)(T:Tbl)(N tag0:Nat)(am:Nat→Bool)(ops:Array Oper)(l:List (Nat×Tv))(st:St)[k:Kn St]:Prop:=zm8 P G T N tag0 am ops l k.run st
section
variable {P:Program} {G:Nat→List FD} {T:Tbl} {N tag0:Nat} {am:Nat→Bool} {ops:Array Oper} {st:St} {k:St→Prop} {t:Tv} {l:List (Nat×Tv)} {i:Nat} {o:Oper}
@[go_sem] theorem zAK:@zfJ P G T N tag0 am ops .leaf st ⟨k⟩=k st:=by unfold zfJ;rw[zlU];rfl
@[go_sem] theorem zGk:@zfJ P G T N tag0 am ops (.q i t) st ⟨k⟩=@zer P G T N tag0 am ops ops[i]? st ⟨fun st=>@zfJ P G T N tag0 am ops t st ⟨k⟩⟩:=by unfold zfJ zer;rw[zlU];rfl
@[go_sem] theorem zGl:@zfJ P G T N tag0 am ops (.r i t) st ⟨k⟩=@zaH (RpC st G ops[i]?) ⟨@zer P G T N tag0 am ops ops[i]? st ⟨fun st=>@zfJ P G T N tag0 am ops t st ⟨k⟩⟩⟩:=by unfold zfJ zer zaH;rw[zlU];rfl
@[go_sem] theorem zEs:@zfJ P G T N tag0 am ops (.br l) st ⟨k⟩=@zgx P G T N tag0 am ops l st ⟨k⟩:=by unfold zfJ zgx;rw[zlU]
@[go_sem] theorem zAL:@zgx P G T N tag0 am ops [] st ⟨k⟩=True:=by unfold zgx;rw[zm8]
@[go_sem] theorem zzb:@zgx P G T N tag0 am ops ((i,t)::l) st ⟨k⟩=(@zer P G T N tag0 am ops ops[i]? st ⟨fun st=>@zfJ P G T N tag0 am ops t st ⟨k⟩⟩∧@zgx P G T N tag0 am ops l st ⟨k⟩):=by
 unfold zgx zer;rw[zm8];rfl
@[go_sem] theorem zGg {dst:Option Tmp}{t:TypeId}{x:Operand}{ty:TypeId}{pos:String}{after:Array Edge}{guard:Option (Nat×Bool)}:RpC st G (some ⟨dst,.load t x,ty,pos,after,guard⟩)=∃xs,st.ev G x= .rp xs:=rfl
@[go_sem] theorem zCI {xs:List FD}:(∃ys,D.rp xs= .rp ys)=True:=eq_true ⟨xs,rfl⟩
theorem zay (hm:P.follows .mixedOrders=true)(hT:zan P G T){q:Exit→St→Prop}{id:Nat}(tag0:Nat)(am:Nat→Bool)(t:Tv)
  (ht:zpR am T ops t (Array.replicate ops.size false) true=true)(hd:decide (zdI t≤ops.size)=true)(h:@zfJ P G T N tag0 am ops t st ⟨q .normal⟩):@WK P G N (.region id ops true) st ⟨q⟩:=by
 unfold WK;unfold zfJ at h;exact zvn hm hT t ht hd h
theorem zbx {c:Code}{st':St}{q:Exit→St→Prop}(h:zgh G N st st')(h2:@WK P G N c st' ⟨q⟩):@WK P G N c st ⟨q⟩:=by
 unfold WK at h2 ⊢
 intro a w L F hr
 obtain⟨L2,F2,g1,g2⟩:=h a w L F hr
 exact wp_mono (h2 a w L2 F2 g1) fun e a' w' hs=>hs.trans g2
end
attribute [irreducible] zfJ zgx
end Go.Abs
