/- several texts of this proof in one; no conditions -/
import Derived.Test.YtmconmiemdinkaaGreatDoorY6
set_option linter.unusedSimpArgs false
namespace Go.Abs
open Go
section
variable {P:Program} {G:Nat→List FD} {T:Tbl} {N tag0:Nat} {am:Nat→Bool} {st st2:St} {a:Act} {w:World} {L:Loc} {F:Nat→Nat→Prop} {K:St→Prop} {ops:Array Oper}
def zxe (st:St):Prop:=∀tag,st.H (tag,st.n)=none
def zr2:Op→Bool
 | .alloc _=>true
 |_=>false
theorem zow {o:Oper}{ev:Operand→D}{H:zax}{id:Id}{ob':Option O}{r:D×Prop}(hn:H id=none)(h:zbz P T o ev H=some r):zbz P T o ev (zaM H id ob')=some r:=by
 by_cases hh:zdd o.op=true
 ·rw[←h];exact zjU hh
 obtain⟨dst,op,type,pos,after,guard⟩:=o
 cases op<;>simp only[zdd,not_true_eq_false]at hh
 rename_i t x
 unfold zbz at h ⊢
 have key:∀r,zby P ⟨dst,.load t x,type,pos,after,guard⟩ ev H=some r→zby P ⟨dst,.load t x,type,pos,after,guard⟩ ev (zaM H id ob')=some r:=by
  intro r h
  simp only[zby,ziw,ob]at h ⊢
  cases hti:zas P t with
  |none=>rw[hti]at h;exact h
  |some ti=>
   rw[hti]at h
   simp only at h ⊢
   cases hd:ev x with
   |ptr i k=>
    rw[hd]at h
    simp only[zAJ,ob]at h ⊢
    by_cases hi:i=id
    ·subst hi;rw[hn]at h;cases h
    ·have e:zaM H id ob' i=H i:=by simp[zaM,hi]
     rw[e];exact h
   |_=>rw[hd]at h;exact h
 cases hv:zby P ⟨dst,.load t x,type,pos,after,guard⟩ ev H with
 |none=>rw[hv]at h;cases h
 |some r'=>
  rw[hv]at h
  obtain rfl:=Option.some.inj h
  rw[key _ hv]
theorem zwF {o:Oper}{fr:Nat→D}{H:zax}{n n':Nat}{id:Id}{ob':Option O}{r:D×Prop}(hn:H id=none)(h:qv P G T ops o ⟨fr,H,n⟩=some r):qv P G T ops o ⟨fr,zaM H id ob',n'⟩=some r:=by
 have e:St.ev G ⟨fr,zaM H id ob',n'⟩=St.ev G ⟨fr,H,n⟩:=by funext x;cases x<;>rfl
 unfold qv at h ⊢
 simp only at h ⊢
 cases hg:znY ops fr o.guard with
 |none=>rw[hg]at h;cases h
 |some b=>
  rw[hg]at h
  cases b with
  |true=>simp only at h ⊢;rw[e];exact zow hn h
  |false=>exact h
theorem zzC {oi oj:Oper}{fr:Nat→D}{H:zax}{n:Nat}{d:D}{c:Prop}(hap:oi.apart ops oj=true)(hal:zr2 oj.op=true)(hfr:zxe ⟨fr,H,n⟩)(hy:qv P G T ops oi ⟨fr,H,n⟩=some (d,c))
  (h:zcj P G T N tag0 ops false oj ⟨zeh fr oi.dst d,H,n⟩ K):zcj P G T N tag0 ops false oj ⟨fr,H,n⟩ (fun s=>qv P G T ops oi s=some (d,c)∧K ⟨zeh s.fr oi.dst d,s.H,s.n⟩):=by
 obtain⟨h1,h2,h3⟩:=Oper.apart_spec hap
 unfold zcj at h ⊢
 simp only[Bool.false_eq_true,if_false]at h ⊢
 rw[zgk h1]at h
 have hyj:∀e,qv P G T ops oi ⟨zeh fr oj.dst e,H,n⟩=some (d,c):=fun e=>(zgZ h3 (.inl rfl)).trans hy
 split
 ·rename_i hg
  simp only[hg]at h
  obtain⟨dst,op,type,pos,after,guard⟩:=oj
  cases op<;>simp only[zr2,Bool.false_eq_true]at hal
  rename_i e
  unfold zdk at h ⊢
  simp only[zby]at h ⊢
  refine⟨h.1,?_⟩
  have h':=h.2
  split at h'
  ·rename_i ti hti
   refine⟨?_,?_⟩
   ·have e1:(St.new ⟨fr,H,n⟩ (tag0+dst.getD 0,n) ⟨ti.zero,true,false⟩ dst (.ptr (tag0+dst.getD 0,n) 0))=⟨zeh fr dst (.ptr (tag0+dst.getD 0,n) 0),zaM H (tag0+dst.getD 0,n) (some ⟨ti.zero,true,false⟩),n+1⟩:=by
     cases dst<;>rfl
    rw[e1]
    exact zwF (n:=n) (hfr _) (hyj _)
   ·have e2:(St.new ⟨zeh fr oi.dst d,H,n⟩ (tag0+dst.getD 0,n) ⟨ti.zero,true,false⟩ dst (.ptr (tag0+dst.getD 0,n) 0))=⟨zeh (zeh fr dst (.ptr (tag0+dst.getD 0,n) 0)) oi.dst d,zaM H (tag0+dst.getD 0,n) (some ⟨ti.zero,true,false⟩),n+1⟩:=by
     have e3:zeh (zeh fr oi.dst d) dst (.ptr (tag0+dst.getD 0,n) 0)=zeh (zeh fr dst (.ptr (tag0+dst.getD 0,n) 0)) oi.dst d:=zei h2
     rw[←e3]
     cases dst<;>rfl
    rw[e2]at h'
    have e1:(St.new ⟨fr,H,n⟩ (tag0+dst.getD 0,n) ⟨ti.zero,true,false⟩ dst (.ptr (tag0+dst.getD 0,n) 0))=⟨zeh fr dst (.ptr (tag0+dst.getD 0,n) 0),zaM H (tag0+dst.getD 0,n) (some ⟨ti.zero,true,false⟩),n+1⟩:=by
     cases dst<;>rfl
    rw[e1]
    exact h'
  ·exact h'
 ·rename_i hg
  simp only[hg]at h
  refine⟨h.1,?_,?_⟩
  ·rw[zcE];exact hyj _
  ·have:=h.2
   rw[zcE]at this
   rw[zcE]
   simp only at this ⊢
   rw[zei h2]at this
   exact this
 ·rename_i hg
  simp[hg]at h
theorem zg6 {oj:Oper}{b:Bool}{st:St}{K1 K2:St→Prop}(hk:∀s,K1 s→K2 s)(hs:zcj P G T N tag0 ops b oj st K1):zcj P G T N tag0 ops b oj st K2:=by
 unfold zcj at hs ⊢
 split
 ·rename_i hq
  simp only[hq,if_true]at hs
  obtain⟨e,c',g1,g2,g3,g4⟩:=hs
  exact⟨e,c',g1,g2,g3,hk _ g4⟩
 ·rename_i hq
  simp only[hq]at hs
  split
  ·rename_i hg
   simp[hg]at hs
   refine zcT (fr:=st.fr) (fr2:=st.fr) (fun _ _=>rfl) ?_ hs
   rintro s s2 hK ⟨e,H',n',rfl,rfl⟩
   exact hk _ hK
  ·rename_i hg
   simp[hg]at hs
   exact⟨hs.1,hk _ hs.2⟩
  ·rename_i hg
   simp[hg]at hs
end
end Go.Abs
namespace Go.Abs
open Go
section
variable {P:Program} {G:Nat→List FD} {T:Tbl} {N tag0:Nat} {am:Nat→Bool} {st st2:St} {a:Act} {w:World} {L:Loc} {F:Nat→Nat→Prop} {K:St→Prop} {ops:Array Oper}
def zfW (st:St):Prop:=∀id:Id,st.n≤id.2→st.H id=none
theorem zfW.s (h:zfW st):zxe st:=fun tag=>h (tag,st.n) (Nat.le_refl _)
theorem zwS {oi oj:Oper}{fr:Nat→D}{H:zax}{n:Nat}{d:D}{c:Prop}(hap:oi.apart ops oj=true)(hal:zr2 oj.op=true)(hfr:zfW ⟨fr,H,n⟩)(hy:qv P G T ops oi ⟨fr,H,n⟩=some (d,c))
  (h:zcj P G T N tag0 ops false oj ⟨zeh fr oi.dst d,H,n⟩ K):zcj P G T N tag0 ops false oj ⟨fr,H,n⟩ (fun s=>(qv P G T ops oi s=some (d,c)∧K ⟨zeh s.fr oi.dst d,s.H,s.n⟩)∧zfW s):=by
 have h1:=zzC hap hal hfr.s hy h
 unfold zcj at h1 ⊢
 simp only[Bool.false_eq_true,if_false]at h1 ⊢
 split
 ·rename_i hg
  simp only[hg]at h1
  obtain⟨dst,op,type,pos,after,guard⟩:=oj
  cases op<;>simp only[zr2,Bool.false_eq_true]at hal
  rename_i e
  unfold zdk at h1 ⊢
  simp only[zby]at h1 ⊢
  refine⟨h1.1,?_⟩
  have h':=h1.2
  split at h'
  ·refine⟨h',fun id hid=>?_⟩
   simp only[St.new]at hid ⊢
   have hne:id≠(tag0+dst.getD 0,n):=by rintro rfl;simp only at hid;omega
   simp only[zaM,hne,if_false]
   exact hfr id (by simp only at hid ⊢;omega)
  ·exact h'
 ·rename_i hg
  simp only[hg]at h1
  refine⟨h1.1,h1.2,fun id hid=>?_⟩
  rw[zcE]at hid ⊢
  exact hfr id hid
 ·rename_i hg
  simp[hg]at h1
def HG (ops:Array Oper)(q:Nat→Bool)(i:Nat)(oi:Oper)(B:Nat→Bool)(listed:Array Bool)(st:St):Prop:=
 (∀j oj,ops[j]?=some oj→j≠i→listed.getD j true=false→B j=false→oi.apart ops oj=true)∧
 ((∀j oj,ops[j]?=some oj→j≠i→listed.getD j true=false→B j=false→q j=true∨zdd oi.op=true)∨
  (zfW st∧∀j oj,ops[j]?=some oj→j≠i→listed.getD j true=false→B j=false→q j=true∨zr2 oj.op=true))
theorem zn8 {q:Nat→Bool}{i:Nat}{oi:Oper}{d:D}{c:Prop}(hi:ops[i]?=some oi)(hqi:q i=true)(hc:c)(hd:zbl N oi.dst=true)(B:Nat→Bool)
  (hB:∀j oj,ops[j]?=some oj→B j=true→∃e∈oj.after,Region.binds .any e=true∧(e.on=i∨B e.on=true)):
  ∀(fuel:Nat) (listed:Array Bool) (st:St),(∀j,B j=true→listed.getD j false=false)→HG ops q i oi B listed st→
   i∈Region.ready .any ops listed→qv P G T ops oi st=some (d,c)→
   zu3 P G T N tag0 ops q K fuel (listed.setIfInBounds i true) (st.put oi.dst d)→zu3 P G T N tag0 ops q K (fuel+1) listed st:=by
 intro fuel
 have take:∀{st K},qv P G T ops oi st=some (d,c)→K (st.put oi.dst d)→zcj P G T N tag0 ops (q i) oi st K:=by
  intro st K hy hK
  unfold zcj
  rw[if_pos hqi]
  exact⟨d,c,hy,hd,hc,hK⟩
 induction fuel with
 |zero=>
  intro listed st _ _ hr hy H
  refine⟨fun h=>(by rw[h]at hr;cases hr),fun j hj oj hoj=>?_⟩
  by_cases hji:j=i
  ·subst hji;rw[hi]at hoj;obtain rfl:=Option.some.inj hoj;exact take hy H
  ·have:=ready_mono hj hji
   rw[H.1]at this
   cases this
 |succ fuel ih=>
  intro listed st hBl hfree hr hy H
  refine⟨fun h=>(by rw[h]at hr;cases hr),fun j hj oj hoj=>?_⟩
  by_cases hji:j=i
  ·subst hji;rw[hi]at hoj;obtain rfl:=Option.some.inj hoj;exact take hy H
  ·have h1:=H.2 j (ready_mono hj hji) oj hoj
   obtain⟨hjun,oj',hoj',hall⟩:=mem_ready.1 hj
   rw[hoj]at hoj'
   obtain rfl:=Option.some.inj hoj'
   have hnl:listed.getD i false=false:=by
    have h0:=(mem_ready.1 hr).1
    rcases Nat.lt_or_ge i listed.size with h'|h'
    ·simp[h']at h0 ⊢;exact h0
    ·simp[Array.getElem?_eq_none h']
   have hBj:B j=false:=by
    cases hb:B j with
    |false=>rfl
    |true=>
     obtain⟨e,he,hbe,h3⟩:=hB j oj hoj hb
     have h4:=hall e he hbe
     rcases h3 with h3|h3
     ·rw[h3,hnl]at h4;cases h4
     ·rw[hBl _ h3]at h4;cases h4
   obtain⟨hap',hh'⟩:=hfree
   have hap:=hap' j oj hoj hji hjun hBj
   have hBl':∀k,B k=true→(listed.setIfInBounds j true).getD k false=false:=fun k hk=>by
    by_cases hjk:j=k
    ·subst hjk;rw[hBj]at hk;cases hk
    ·rw[getD_set_ne false hjk];exact hBl k hk
   have hsub:∀k,(listed.setIfInBounds j true).getD k true=false→listed.getD k true=false:=fun k hun=>by
    by_cases hjk:j=k
    ·subst hjk
     exfalso
     rcases Nat.lt_or_ge j listed.size with h'|h'
     ·simp[h']at hun
     ·simp[Array.getElem?_eq_none h']at hun
    ·rw[getD_set_ne true hjk]at hun;exact hun
   have hapn:∀k ok,ops[k]?=some ok→k≠i→(listed.setIfInBounds j true).getD k true=false→B k=false→oi.apart ops ok=true:=fun k ok hk hki hun hno=>hap' k ok hk hki (hsub k hun) hno
   rw[zcE]at h1
   cases hqj:q j with
   |true=>
    have hfree':∀s:St,s.H=st.H→s.n=st.n→HG ops q i oi B (listed.setIfInBounds j true) s:=fun s e1 e2=>by
     refine⟨hapn,?_⟩
     rcases hh' with g|⟨g1,g2⟩
     ·exact .inl fun k ok hk hki hun hno=>g k ok hk hki (hsub k hun) hno
     ·exact .inr ⟨fun id hid=>by rw[e1];exact g1 id (by rw[←e2];exact hid),fun k ok hk hki hun hno=>g2 k ok hk hki (hsub k hun) hno⟩
    rw[hqj]at h1
    have h2:=zlI hap (.inl rfl) (fr:=st.fr) (H:=st.H) (n:=st.n) hy h1
    unfold zcj at h2 ⊢
    simp only[if_true]at h2 ⊢
    obtain⟨e,c',g1,g2,g3,g4,g5⟩:=h2
    refine⟨e,c',g1,g2,g3,?_⟩
    rw[zcE]at g4 g5 ⊢
    refine ih (listed.setIfInBounds j true) _ hBl' (hfree' _ rfl rfl) (ready_mono hr (Ne.symm hji)) g4 ?_
    rw[Array.setIfInBounds_comm _ _ hji,zcE]
    exact g5
   |false=>
    rw[hqj]at h1
    rcases hh' with g|⟨g1,g2⟩
    ·have hin:zdd oi.op=true:=by
      rcases g j oj hoj hji hjun hBj with g|g
      ·rw[hqj]at g;cases g
      ·exact g
     have h2:=zlI hap (.inr hin) (fr:=st.fr) (H:=st.H) (n:=st.n) hy h1
     refine zg6 (fun s h3=>ih (listed.setIfInBounds j true) s hBl' ⟨hapn,.inl fun _ _ _ _ _ _=> .inr hin⟩ (ready_mono hr (Ne.symm hji)) h3.1 ?_) h2
     rw[Array.setIfInBounds_comm _ _ hji,zcE]
     exact h3.2
    ·have hal:zr2 oj.op=true:=by
      rcases g2 j oj hoj hji hjun hBj with g|g
      ·rw[hqj]at g;cases g
      ·exact g
     have h2:=zwS hap hal (fr:=st.fr) (H:=st.H) (n:=st.n) g1 hy h1
     refine zg6 (fun s h3=>ih (listed.setIfInBounds j true) s hBl' ⟨hapn,.inr ⟨h3.2,fun k ok hk hki hun hno=>g2 k ok hk hki (hsub k hun) hno⟩⟩ (ready_mono hr (Ne.symm hji)) h3.1.1 ?_) h2
     rw[Array.setIfInBounds_comm _ _ hji,zcE]
     exact h3.1.2
def zv6 (am:Nat→Bool)(T:Tbl)(ops:Array Oper)(listed:Array Bool)(fl:Bool)(i:Nat):Bool:=
 match ops[i]? with
 |none=>false
 |some oi=>
  zc5 am T oi&&((zcN ops i).all fun j=> !listed.getD j false&&match ops[j]? with
   |some oj=>oj.after.any (fun e=>Region.binds .any e&&(e.on==i||(zcN ops i).contains e.on))
   |none=>true)&&
  ((List.range ops.size).all fun j=>j==i||listed.getD j true||(zcN ops i).contains j||match ops[j]? with
   |some oj=>oi.apart ops oj&&(zc5 am T oj||zdd oi.op||(fl&&zr2 oj.op))
   |none=>true)
theorem zrg {listed:Array Bool}{i:Nat}{oi:Oper}{fl:Bool}(hi:ops[i]?=some oi)(h:zv6 am T ops listed fl i=true)(hfl:fl=true→zfW st):
  zc5 am T oi=true∧(∀j oj,ops[j]?=some oj→(zcN ops i).contains j=true→∃e∈oj.after,Region.binds .any e=true∧(e.on=i∨(zcN ops i).contains e.on=true))∧
  (∀j,(zcN ops i).contains j=true→listed.getD j false=false)∧
  HG ops (fun i=>((ops[i]?).map (zc5 am T)).getD false) i oi (fun j=>(zcN ops i).contains j) listed st:=by
 unfold zv6 at h
 rw[hi]at h
 simp only[Bool.and_eq_true]at h
 generalize zcN ops i=B at*
 obtain⟨⟨hq,hB⟩,h⟩:=h
 rw[List.all_eq_true]at hB h
 have key:∀j oj,ops[j]?=some oj→j≠i→listed.getD j true=false→B.contains j=false→oi.apart ops oj=true∧((zc5 am T oj=true∨zdd oi.op=true)∨fl=true∧zr2 oj.op=true):=fun j oj hj hne hun hno=>by
  have h1:=h j (by rw[List.mem_range];exact(Array.getElem?_eq_some_iff.1 hj).1)
  rw[hj,hun,hno]at h1
  have hne':(j==i)=false:=by simpa using hne
  rw[hne']at h1
  simpa only[Bool.false_or,Bool.and_eq_true,Bool.or_eq_true]using h1
 refine⟨hq,fun j oj hj hb=>?_,fun j hb=>?_,fun j oj hj hne hun hno=>(key j oj hj hne hun hno).1,?_⟩
 ·have h1:=hB j (by simpa using hb)
  rw[hj]at h1
  simp only[Bool.and_eq_true]at h1
  obtain⟨e,he,h2⟩:=Array.any_eq_true'.1 h1.2
  simp only[Bool.and_eq_true,Bool.or_eq_true,beq_iff_eq]at h2
  exact⟨e,he,h2.1,h2.2⟩
 ·have h1:=hB j (by simpa using hb)
  simp only[Bool.and_eq_true,Bool.not_eq_true']at h1
  exact h1.1
 ·by_cases hin:zdd oi.op=true
  ·exact .inl fun _ _ _ _ _ _=> .inr hin
  cases hf:fl with
  |false=>
   refine .inl fun j oj hj hne hun hno=>?_
   rcases(key j oj hj hne hun hno).2 with(g|g)|⟨g,_⟩
   ·exact .inl (by simp only[hj,Option.map_some,Option.getD_some];exact g)
   ·exact .inr g
   ·rw[hf]at g;cases g
  |true=>
   refine .inr ⟨hfl hf,fun j oj hj hne hun hno=>?_⟩
   rcases(key j oj hj hne hun hno).2 with(g|g)|⟨_,g⟩
   ·exact .inl (by simp only[hj,Option.map_some,Option.getD_some];exact g)
   ·exact absurd g hin
   ·exact .inr g
def zBg (am:Nat→Bool)(T:Tbl)(ops:Array Oper)(i:Nat):Bool:=
 match ops[i]? with
 |some o=>zc5 am T o||zr2 o.op
 |none=>false
mutual
def zC8 (am:Nat→Bool)(T:Tbl)(ops:Array Oper):Tr→Array Bool→Bool→Bool
 | .leaf,listed,_=>(Region.ready .any ops listed).isEmpty
 | .node l,listed,fl=> !(Region.ready .any ops listed).isEmpty&&(zDa am T ops l listed fl||zxV am T ops l listed fl (Region.ready .any ops listed))
def zDa (am:Nat→Bool)(T:Tbl)(ops:Array Oper):Trs→Array Bool→Bool→Bool
 | .cons i t .nil,listed,fl=>(Region.ready .any ops listed).contains i&&zv6 am T ops listed fl i&&zC8 am T ops t (listed.setIfInBounds i true) fl
 |_,_,_=>false
def zxV (am:Nat→Bool)(T:Tbl)(ops:Array Oper):Trs→Array Bool→Bool→List Nat→Bool
 | .nil,_,_,r=>r.isEmpty
 | .cons i t l,listed,fl,r=>(match r with
   |j::r'=>(i==j)&&zC8 am T ops t (listed.setIfInBounds i true) (fl&&zBg am T ops i)&&zxV am T ops l listed fl r'
   |[]=>false)
end
end
theorem zx5 {P:Program}{G:Nat→List FD}{N:Nat}{c:Code}{st:St}{q:Exit→St→Prop}{ι:Type}(I:ι→St)(h:∀i,q .normal (I i))(h2:@WK P G N c st ⟨fun e s=>e= .normal∧∃i,zd2 G N s (I i)⟩):@WK P G N c st ⟨q⟩:=by
 unfold WK at h2 ⊢
 intro a w L F hr
 refine wp_mono (h2 a w L F hr) fun e a' w' hs=>?_
 obtain⟨s,L1,F1,⟨rfl,i,hw⟩,g2,g3⟩:=hs
 obtain⟨L2,F2,g4,g5⟩:=hw a' w' L1 F1 g2
 exact⟨I i,L2,F2,h i,g4,zbv.trans g3 g5⟩
end Go.Abs
namespace Go.Abs
open Go
section
variable {P:Program} {G:Nat→List FD} {T:Tbl} {N tag0:Nat} {am:Nat→Bool} {st:St} {a:Act} {w:World} {L:Loc} {F:Nat→Nat→Prop} {K:St→Prop} {ops:Array Oper}
theorem zx8 {id:Id}{t:Nat}{ys:List FD}{b:Bool}(ho:st.H id=some ⟨ys.map .fz,b,false⟩)(hs:st.fr t= .ptr id 0):zd2 G N st ⟨upd st.fr t (.rp ys),zaM st.H id none,st.n⟩:=by
 intro a w L F h
 obtain⟨hu,hob⟩:=h.ok.live id _ ho
 have hv3:(L id).3=false:=by
  cases e:(L id).3 with
  |false=>rfl
  |true=>unfold zbP at hob;rw[if_pos e]at hob;cases hob.2
 obtain⟨hnF,cs,T,hcs,hsz,hcell⟩:=zaB hob hv3
 have hlt:(L id).1<w.heap.size:=by
  rcases Nat.lt_or_ge (L id).1 w.heap.size with h|h
  ·exact h
  ·rw[Array.getElem?_eq_none h]at hcs;cases hcs
 obtain⟨F',hF'⟩:∃F':Nat→Nat→Prop,F'=fun b k=>F b k∨(b=(L id).1∧(L id).2≤k):=⟨_,rfl⟩
 have hsub:∀b k,F b k→F' b k:=fun b k h=>by rw[hF'];exact .inl h
 have e:Ext w L F (Ub st.n) w L F' (Ub st.n):=⟨fun _ h=>h,fun _ _=>rfl,hsub,fun _ _ _=>rfl,Nat.le_refl _,fun b cs T fr _ h=>⟨cs,T,fr,h,Nat.le_refl _⟩⟩
 have hold:∀id' o',zaM st.H id none id'=some o'→id'≠id∧st.H id'=some o':=fun id' o' h=>by
  unfold zaM at h
  split at h
  ·cases h
  ·rename_i hne;exact⟨hne,h⟩
 refine⟨L,F',⟨⟨fun b k hb=>?_,fun id' o' h1=>?_,fun i1 i2 o1 o2 h1 h2=>h.ok.inj i1 i2 o1 o2 (hold _ _ h1).2 (hold _ _ h2).2,zce hsub (fun _ _ _=>rfl) h.ok.glob⟩,h.size,fun s=>?_,h.nd⟩,
  fun _ h=>h,fun _ _=>rfl,hsub,Nat.le_refl _,fun _ _ _=>rfl,fun _ _ _ _=>rfl,fun b cs T fr _ h=>⟨cs,T,fr,h,Nat.le_refl _⟩,fun b k hb=>?_,fun b k hb=>?_,rfl,rfl,rfl,Nat.le_refl _⟩
 ·rw[hF']at hb
  rcases hb with hb|⟨rfl,_⟩
  ·exact h.ok.fb b k hb
  ·exact hlt
 ·obtain⟨hne,h2⟩:=hold _ _ h1
  obtain⟨h3,h4⟩:=h.ok.live id' o' h2
  refine⟨h3,h4.ext e h3 fun hv=>⟨rfl,fun k hk hb=>?_⟩⟩
  rw[hF']at hb
  rcases hb with hb|⟨hb,_⟩
  ·exact(zaB h4 hv).1 k hk hb
  ·exact hne (h.ok.inj id' id _ _ h2 ho hv hv3 hb)
 ·simp only[upd]
  split
  ·rename_i hst
   subst hst
   have hv:=h.fr s
   rw[hs]at hv
   simp only[zak]at hv ⊢
   refine⟨(L id).1,(L id).2+0,hv.2.2,fun j hj=>⟨by rw[hF'];exact .inr ⟨rfl,by omega⟩,?_⟩⟩
   obtain⟨u,hu1,hu2⟩:=hcell j (by simpa using hj)
   refine⟨u,by rw[zft hcs,Nat.add_zero];exact hu1,?_⟩
   rw[zch _ _ hj]at hu2
   simp only[zak]at hu2
   exact hu2.mono (fun _ _ _=>rfl) hsub
  ·exact(h.fr s).ext e
 ·rw[hF']at hb
  rcases hb with hb|⟨rfl,hk⟩
  ·exact .inl hb
  ·exact .inr (.inr ⟨id,_,ho,hv3,rfl,hk⟩)
 ·obtain⟨id',o',h1,h2,h3,h4⟩:=hb
  exact .inr ⟨id',o',(hold _ _ h1).2,h2,h3,h4⟩
def zzW (P:Program)(G:Nat→List FD)(T:Tbl)(ops:Array Oper)(oi:Oper)(fr:Nat→D)(r:D×Prop):Prop:=∀H n,qv P G T ops oi ⟨fr,H,n⟩=some r
theorem zur {oi oj:Oper}{q:Bool}{fr:Nat→D}{H:zax}{n:Nat}{d:D}{c:Prop}(hap:oi.apart ops oj=true)(hy:zzW P G T ops oi fr (d,c))
  (h:zcj P G T N tag0 ops q oj ⟨zeh fr oi.dst d,H,n⟩ K):zcj P G T N tag0 ops q oj ⟨fr,H,n⟩ (fun s=>zzW P G T ops oi s.fr (d,c)∧K ⟨zeh s.fr oi.dst d,s.H,s.n⟩):=by
 obtain⟨h1,h2,h3⟩:=Oper.apart_spec hap
 unfold zcj at h ⊢
 have eput:∀(e:D),(St.put ⟨fr,H,n⟩ oj.dst e)=⟨zeh fr oj.dst e,H,n⟩:=fun e=>zcE
 have eput2:∀(e:D),(St.put ⟨zeh fr oi.dst d,H,n⟩ oj.dst e)=⟨zeh (zeh fr oj.dst e) oi.dst d,H,n⟩:=fun e=>by rw[zcE];simp only;rw[zei h2]
 have hyj:∀e,zzW P G T ops oi (zeh fr oj.dst e) (d,c):=fun e H' n'=>(zgZ (H:=H') (n:=n') h3 (.inl rfl)).trans (hy H' n')
 split
 ·rename_i hq
  simp only[hq,if_true]at h
  obtain⟨e,c',g1,g2,g3,g4⟩:=h
  refine⟨e,c',(zgZ h1 (.inl rfl)).symm.trans g1,g2,g3,?_,?_⟩
  ·rw[eput];exact hyj e
  ·rw[eput];rw[eput2]at g4;exact g4
 ·rename_i hq
  simp only[hq]at h
  simp only at h ⊢
  rw[zgk h1]at h
  split
  ·rename_i hg
   simp only[hg]at h
   refine zcT (fr2:=fr) (zou h1) ?_ h
   rintro s s2 hK ⟨e,H',n',rfl,rfl⟩
   refine⟨hyj e,?_⟩
   simp only
   rw[zei h2]at hK
   exact hK
  ·rename_i hg
   simp only[hg]at h
   refine⟨h.1,?_,?_⟩
   ·rw[eput];exact hyj _
   ·have:=h.2
    rw[eput2]at this
    rw[eput]
    exact this
  ·rename_i hg
   simp[hg]at h
theorem zn9 {q:Nat→Bool}{i:Nat}{oi:Oper}{d:D}{c:Prop}(hi:ops[i]?=some oi)(hqi:q i=true)(hc:c)(hd:zbl N oi.dst=true)(B:Nat→Bool)
  (hB:∀j oj,ops[j]?=some oj→B j=true→∃e∈oj.after,Region.binds .any e=true∧(e.on=i∨B e.on=true)):
  ∀(fuel:Nat) (listed:Array Bool) (st:St),(∀j,B j=true→listed.getD j false=false)→
   (∀j oj,ops[j]?=some oj→j≠i→listed.getD j true=false→B j=false→oi.apart ops oj=true)→
   i∈Region.ready .any ops listed→zzW P G T ops oi st.fr (d,c)→
   zu3 P G T N tag0 ops q K fuel (listed.setIfInBounds i true) (st.put oi.dst d)→zu3 P G T N tag0 ops q K (fuel+1) listed st:=by
 intro fuel
 have take:∀{st K},zzW P G T ops oi st.fr (d,c)→K (st.put oi.dst d)→zcj P G T N tag0 ops (q i) oi st K:=by
  intro st K hy hK
  unfold zcj
  rw[if_pos hqi]
  exact⟨d,c,hy st.H st.n,hd,hc,hK⟩
 induction fuel with
 |zero=>
  intro listed st _ _ hr hy H
  refine⟨fun h=>(by rw[h]at hr;cases hr),fun j hj oj hoj=>?_⟩
  by_cases hji:j=i
  ·subst hji;rw[hi]at hoj;obtain rfl:=Option.some.inj hoj;exact take hy H
  ·have:=ready_mono hj hji
   rw[H.1]at this
   cases this
 |succ fuel ih=>
  intro listed st hBl hfree hr hy H
  refine⟨fun h=>(by rw[h]at hr;cases hr),fun j hj oj hoj=>?_⟩
  by_cases hji:j=i
  ·subst hji;rw[hi]at hoj;obtain rfl:=Option.some.inj hoj;exact take hy H
  ·have h1:=H.2 j (ready_mono hj hji) oj hoj
   obtain⟨hjun,oj',hoj',hall⟩:=mem_ready.1 hj
   rw[hoj]at hoj'
   obtain rfl:=Option.some.inj hoj'
   have hnl:listed.getD i false=false:=by
    have h0:=(mem_ready.1 hr).1
    rcases Nat.lt_or_ge i listed.size with h'|h'
    ·simp[h']at h0 ⊢;exact h0
    ·simp[Array.getElem?_eq_none h']
   have hBj:B j=false:=by
    cases hb:B j with
    |false=>rfl
    |true=>
     obtain⟨e,he,hbe,h3⟩:=hB j oj hoj hb
     have h4:=hall e he hbe
     rcases h3 with h3|h3
     ·rw[h3,hnl]at h4;cases h4
     ·rw[hBl _ h3]at h4;cases h4
   have hap:=hfree j oj hoj hji hjun hBj
   have hBl':∀k,B k=true→(listed.setIfInBounds j true).getD k false=false:=fun k hk=>by
    by_cases hjk:j=k
    ·subst hjk;rw[hBj]at hk;cases hk
    ·rw[getD_set_ne false hjk];exact hBl k hk
   have hfree':∀k ok,ops[k]?=some ok→k≠i→(listed.setIfInBounds j true).getD k true=false→B k=false→oi.apart ops ok=true:=fun k ok hk hki hun hno=>by
    refine hfree k ok hk hki ?_ hno
    by_cases hjk:j=k
    ·subst hjk;exact hjun
    ·rw[getD_set_ne true hjk]at hun;exact hun
   rw[zcE]at h1
   have h2:=zur hap (fr:=st.fr) (H:=st.H) (n:=st.n) hy h1
   refine zg6 (fun s h3=>ih (listed.setIfInBounds j true) s hBl' hfree' (ready_mono hr (Ne.symm hji)) h3.1 ?_) h2
   rw[Array.setIfInBounds_comm _ _ hji,zcE]
   exact h3.2
inductive Tv where
 |leaf
 |q (i:Nat) (t:Tv)
 |r (i:Nat) (t:Tv)
 |br (l:List (Nat×Tv))
def RpC (st:St)(G:Nat→List FD):Option Oper→Prop
 |some ⟨_,.load _ x,_,_,_,_⟩=>∃xs,st.ev G x= .rp xs
 |_=>False
theorem RpC.all {oi:Oper}{r:D×Prop}(hr:RpC st G (some oi))(h:qv P G T ops oi st=some r):zzW P G T ops oi st.fr r:=by
 obtain⟨dst,op,type,pos,after,guard⟩:=oi
 cases op<;>simp only[RpC]at hr
 rename_i t x
 obtain⟨xs,hx⟩:=hr
 intro H n
 unfold qv at h ⊢
 simp only at h ⊢
 cases hg:znY ops st.fr guard with
 |none=>rw[hg]at h;cases h
 |some b=>
  rw[hg]at h
  cases b with
  |false=>exact h
  |true=>
   simp only at h ⊢
   have e:St.ev G ⟨st.fr,H,n⟩=St.ev G st:=by funext x;cases x<;>rfl
   rw[e]
   have key:zby P ⟨dst,.load t x,type,pos,after,guard⟩ (St.ev G st) H=zby P ⟨dst,.load t x,type,pos,after,guard⟩ (St.ev G st) st.H:=by
    simp only[zby,ziw,hx,ob]
    cases zas P t with
    |none=>rfl
    |some ti=>rfl
   unfold zbz at h ⊢
   rw[key]
   exact h
section
variable (P:Program) (G:Nat→List FD) (T:Tbl) (N tag0:Nat) (am:Nat→Bool) (ops:Array Oper)
mutual
def znG:Tv→(St→Prop)→St→Prop
 | .leaf,K,st=>K st
 | .q i t,K,st=>zhx P G T N tag0 am ops ops[i]? (znG t K) st
 | .r i t,K,st=>Req (RpC st G ops[i]?) (zhx P G T N tag0 am ops ops[i]? (znG t K) st)
 | .br l,K,st=>zo1 l K st
def zo1:List (Nat×Tv)→(St→Prop)→St→Prop
 |[],_,_=>True
 |(i,t)::l,K,st=>zhx P G T N tag0 am ops ops[i]? (znG t K) st∧zo1 l K st
end
end
mutual
def zr6 (am:Nat→Bool)(T:Tbl)(ops:Array Oper):Tv→Array Bool→Bool→Bool
 | .leaf,listed,_=>(Region.ready .any ops listed).isEmpty
 | .q i t,listed,fl=>(Region.ready .any ops listed).contains i&&zv6 am T ops listed fl i&&zr6 am T ops t (listed.setIfInBounds i true) fl
 | .r i t,listed,fl=>(Region.ready .any ops listed).contains i&&zyM am T ops listed i&&zr6 am T ops t (listed.setIfInBounds i true) fl
 | .br l,listed,fl=> !(Region.ready .any ops listed).isEmpty&&zrS am T ops l listed fl (Region.ready .any ops listed)
def zrS (am:Nat→Bool)(T:Tbl)(ops:Array Oper):List (Nat×Tv)→Array Bool→Bool→List Nat→Bool
 |[],_,_,r=>r.isEmpty
 |(i,t)::l,listed,fl,r=>(match r with
   |j::r'=>(i==j)&&zr6 am T ops t (listed.setIfInBounds i true) (fl&&zBg am T ops i)&&zrS am T ops l listed fl r'
   |[]=>false)
def zyM (am:Nat→Bool)(T:Tbl)(ops:Array Oper)(listed:Array Bool)(i:Nat):Bool:=
 match ops[i]? with
 |none=>false
 |some oi=>
  zc5 am T oi&&((zcN ops i).all fun j=> !listed.getD j false&&match ops[j]? with
   |some oj=>oj.after.any (fun e=>Region.binds .any e&&(e.on==i||(zcN ops i).contains e.on))
   |none=>true)&&
  ((List.range ops.size).all fun j=>j==i||listed.getD j true||(zcN ops i).contains j||match ops[j]? with
   |some oj=>oi.apart ops oj
   |none=>true)
end
mutual
def zeg:Tv→Nat
 | .leaf=>0
 | .q _ t=>zeg t+1
 | .r _ t=>zeg t+1
 | .br l=>zji l+1
def zji:List (Nat×Tv)→Nat
 |[]=>0
 |(_,t)::l=>max (zeg t) (zji l)
end
theorem zrh {listed:Array Bool}{i:Nat}{oi:Oper}(hi:ops[i]?=some oi)(h:zyM am T ops listed i=true):
  zc5 am T oi=true∧(∀j oj,ops[j]?=some oj→(zcN ops i).contains j=true→∃e∈oj.after,Region.binds .any e=true∧(e.on=i∨(zcN ops i).contains e.on=true))∧
  (∀j,(zcN ops i).contains j=true→listed.getD j false=false)∧
  (∀j oj,ops[j]?=some oj→j≠i→listed.getD j true=false→(zcN ops i).contains j=false→oi.apart ops oj=true):=by
 unfold zyM at h
 rw[hi]at h
 simp only[Bool.and_eq_true]at h
 generalize zcN ops i=B at*
 obtain⟨⟨hq,hB⟩,h⟩:=h
 rw[List.all_eq_true]at hB h
 refine⟨hq,fun j oj hj hb=>?_,fun j hb=>?_,fun j oj hj hne hun hno=>?_⟩
 ·have h1:=hB j (by simpa using hb)
  rw[hj]at h1
  simp only[Bool.and_eq_true]at h1
  obtain⟨e,he,h2⟩:=Array.any_eq_true'.1 h1.2
  simp only[Bool.and_eq_true,Bool.or_eq_true,beq_iff_eq]at h2
  exact⟨e,he,h2.1,h2.2⟩
 ·have h1:=hB j (by simpa using hb)
  simp only[Bool.and_eq_true,Bool.not_eq_true']at h1
  exact h1.1
 ·have h1:=h j (by rw[List.mem_range];exact(Array.getElem?_eq_some_iff.1 hj).1)
  rw[hj,hun,hno]at h1
  have hne':(j==i)=false:=by simpa using hne
  rw[hne']at h1
  simpa only[Bool.false_or]using h1
theorem znH:∀(l:List (Nat×Tv)) (listed:Array Bool) (fl:Bool) (r:List Nat) (st:St),zrS am T ops l listed fl r=true→zo1 P G T N tag0 am ops l K st→∀i∈r,∃t,zr6 am T ops t (listed.setIfInBounds i true) (fl&&zBg am T ops i)=true∧zeg t≤zji l∧zhx P G T N tag0 am ops ops[i]? (znG P G T N tag0 am ops t K) st
 |[],listed,fl,r,st,h,_,i,hi=>by
  simp only[zrS,List.isEmpty_iff]at h
  subst h;cases hi
 |(j,t)::l,listed,fl,r,st,h,hs,i,hi=>by
  cases r with
  |nil=>simp[zrS]at h
  |cons a r=>
   simp only[zrS,Bool.and_eq_true,beq_iff_eq]at h
   obtain⟨⟨rfl,h1⟩,h2⟩:=h
   simp only[zo1]at hs
   rcases List.mem_cons.1 hi with rfl|hi
   ·exact⟨t,h1,by simp only[zji];omega,hs.1⟩
   ·obtain⟨t',g1,g2,g3⟩:=znH l listed fl r st h2 hs.2 i hi
    exact⟨t',g1,by simp only[zji];omega,g3⟩
theorem ziW {o:Oper}(hq:zc5 am T o=true){k:St→Prop}(hs:zhx P G T N tag0 am ops (some o) k st):∃d c,qv P G T ops o st=some (d,c)∧zbl N o.dst=true∧c∧k (st.put o.dst d):=by
 obtain⟨o',ho',hs1⟩:=zb7 hs
 obtain rfl:=Option.some.inj ho'
 obtain⟨b,hb,g1,g2⟩:=zb7 hs1
 cases b with
 |true=>
  obtain⟨d,c,k1,k2,k3,k4⟩:=zEV o hq (g1 rfl)
  exact⟨d,c,by simp only[qv,hb];exact k1,k2,k3,k4⟩
 |false=>
  obtain⟨k1,k2⟩:=g2 rfl
  exact⟨.tup [],True,by simp only[qv,hb],k1,trivial,k2⟩
theorem zwV (hT:zan P G T):∀(fuel:Nat) (t:Tv) (listed:Array Bool) (fl:Bool) (st:St),(fl=true→zfW st)→zr6 am T ops t listed fl=true→zeg t≤fuel→znG P G T N tag0 am ops t K st→
  zu3 P G T N tag0 ops (fun i=>((ops[i]?).map (zc5 am T)).getD false) K fuel listed st:=by
 intro fuel
 induction fuel with
 |zero=>
  intro t listed fl st hfl h hd hs
  cases t with
  |leaf=>
   simp only[zr6,List.isEmpty_iff]at h
   simp only[znG]at hs
   exact⟨h,hs⟩
  |q i t=>simp[zeg]at hd
  |r i t=>simp[zeg]at hd
  |br l=>simp[zeg]at hd
 |succ fuel ih=>
  intro t listed fl st hfl h hd hs
  have hput:∀{o:Oper} {d:D},(fl=true→zfW (st.put o.dst d)):=fun{o d} e id hid=>by
   rw[zcE]at hid ⊢
   exact hfl e id hid
  cases t with
  |leaf=>
   simp only[zr6,List.isEmpty_iff]at h
   simp only[znG]at hs
   exact⟨fun _=>hs,fun i hi=>by rw[h]at hi;cases hi⟩
  |q i t=>
   simp only[zr6,Bool.and_eq_true]at h
   obtain⟨⟨h1,h2⟩,h3⟩:=h
   simp only[znG]at hs
   simp only[zeg]at hd
   obtain⟨o,ho,_⟩:=zb7 hs
   obtain⟨hq,f1,f2,f3⟩:=zrg ho h2 hfl
   rw[ho]at hs
   obtain⟨d,c,k1,k2,k3,k4⟩:=ziW hq hs
   exact zn8 ho (by rw[ho];exact hq) k3 k2 (fun j=>(zcN ops i).contains j) f1 fuel listed st f2 f3 (by simpa using h1) k1 (ih t _ fl _ hput h3 (by omega) k4)
  |r i t=>
   simp only[zr6,Bool.and_eq_true]at h
   obtain⟨⟨h1,h2⟩,h3⟩:=h
   simp only[znG]at hs
   simp only[zeg]at hd
   obtain⟨hr,hs⟩:=hs
   obtain⟨o,ho,_⟩:=zb7 hs
   obtain⟨hq,f1,f2,f3⟩:=zrh ho h2
   rw[ho]at hs hr
   obtain⟨d,c,k1,k2,k3,k4⟩:=ziW hq hs
   exact zn9 ho (by rw[ho];exact hq) k3 k2 (fun j=>(zcN ops i).contains j) f1 fuel listed st f2 f3 (by simpa using h1) (RpC.all hr k1) (ih t _ fl _ hput h3 (by omega) k4)
  |br l=>
   simp only[zr6,Bool.and_eq_true]at h
   obtain⟨h0,h⟩:=h
   simp only[znG]at hs
   simp only[zeg]at hd
   refine⟨fun hr=>?_,fun i hi o ho=>?_⟩
   ·rw[hr]at h0;simp at h0
   ·obtain⟨t',h1,h2,h3⟩:=znH l listed fl _ st h hs i hi
    rw[ho]at h3
    cases hq:zc5 am T o with
    |true=>
     have hqk:((ops[i]?).map (zc5 am T)).getD false=true:=by rw[ho];exact hq
     simp only[hqk]
     obtain⟨d,c,k1,k2,k3,k4⟩:=ziW hq h3
     unfold zcj
     simp only[if_true]
     refine⟨d,c,k1,k2,k3,ih t' _ _ _ (fun e=>?_) h1 (by omega) k4⟩
     simp only[Bool.and_eq_true]at e
     exact hput e.1
    |false=>
     obtain⟨o',ho',h3'⟩:=zb7 h3
     obtain rfl:=Option.some.inj ho'
     obtain⟨b,hb,g1,g2⟩:=zb7 h3'
     have hqk:((ops[i]?).map (zc5 am T)).getD false=false:=by rw[ho];exact hq
     have hcalm:zBg am T ops i=zr2 o.op:=by unfold zBg;rw[ho];simp only[hq,Bool.false_or]
     rw[hcalm]at h1
     simp only[hqk]
     unfold zcj
     simp only[Bool.false_eq_true,if_false,hb]
     cases b with
     |true=>
      have hsym:=zpb hT o (g1 rfl)
      cases hal:zr2 o.op with
      |false=>
       rw[hal,Bool.and_false]at h1
       refine zcT (fr:=st.fr) (fr2:=st.fr) (K:=fun s=>znG P G T N tag0 am ops t' K s) (fun _ _=>rfl) ?_ hsym
       rintro s s2 hK ⟨e,H',n',rfl,rfl⟩
       exact ih t' _ false _ (fun e=>by cases e) h1 (by omega) hK
      |true=>
       obtain⟨dst,op,type,pos,after,guard⟩:=o
       cases op<;>simp only[zr2,Bool.false_eq_true]at hal
       rename_i e
       unfold zdk at hsym ⊢
       simp only[zby]at hsym ⊢
       refine⟨hsym.1,?_⟩
       have h':=hsym.2
       split at h'
       ·refine ih t' _ _ _ (fun e=>?_) h1 (by omega) h'
        simp only[Bool.and_eq_true]at e
        intro id hid
        simp only[St.new]at hid ⊢
        have hne:id≠(tag0+dst.getD 0,st.n):=by rintro rfl;simp only at hid;omega
        simp only[zaM,hne,if_false]
        have hH:(St.put st dst (.ptr (tag0+dst.getD 0,st.n) 0)).H=st.H:=by cases dst<;>rfl
        exact hfl e.1 id (by omega)
       ·exact h'
     |false=>
      obtain⟨e1,e2⟩:=g2 rfl
      refine⟨e1,ih t' _ _ _ (fun e=>?_) h1 (by omega) e2⟩
      simp only[Bool.and_eq_true]at e
      exact hput e.1
theorem zx6 (hm:P.follows .mixedOrders=true)(hT:zan P G T){Q:Exit→St→Prop}{id:Nat}(t:Tv)(ht:zr6 am T ops t (Array.replicate ops.size false) true=true)(hd:decide (zeg t≤ops.size)=true)(h:znG P G T N tag0 am ops t (Q .normal) st):W P G N (.region id ops true) Q st:=by
 intro a w L F hr
 refine wp_region_any hm ?_
 have hr':Rel G N st a {w with drawn:=w.drawn+1} L F:=⟨hr.ok.heap rfl,hr.size,fun t=>(hr.fr t).ext (zhW (w:=w) (w':={w with drawn:=w.drawn+1}) rfl),hr.nd⟩
 have hst:zfZ st w L F st {w with drawn:=w.drawn+1} L F:=⟨fun _ h=>h,fun _ _=>rfl,fun _ _ h=>h,Nat.le_refl _,fun _ _ _=>rfl,fun _ _ _ _=>rfl,fun _ cs T fr _ h=>⟨cs,T,fr,h,Nat.le_refl _⟩,fun _ _ h=> .inl h,fun _ _ h=> .inr h,rfl,rfl,rfl,Nat.le_succ _⟩
 have hfr:zfW st:=fun id hid=>by
  cases ho:st.H id with
  |none=>rfl
  |some o=>exact absurd (hr.ok.live _ o ho).1 (Nat.not_lt.2 hid)
 exact zkD hT (Q':=fun e a' w'=>Sat G N st w L F (Q e) a' w') _ _ st a _ L F hr' (zwV hT ops.size t _ true st (fun _=>hfr) ht (of_decide_eq_true hd) h) (fun _ _ hs=>hs.trans hst)
end
def zgz (P:Program)(G:Nat→List FD)(T:Tbl)(N tag0:Nat)(am:Nat→Bool)(ops:Array Oper)(t:Tv)(st:St)[k:Kn St]:Prop:=znG P G T N tag0 am ops t k.run st
def zhC (P:Program)(G:Nat→List FD)(T:Tbl)(N tag0:Nat)(am:Nat→Bool)(ops:Array Oper)(l:List (Nat×Tv))(st:St)[k:Kn St]:Prop:=zo1 P G T N tag0 am ops l k.run st
section
variable {P:Program} {G:Nat→List FD} {T:Tbl} {N tag0:Nat} {am:Nat→Bool} {ops:Array Oper} {st:St} {k:St→Prop} {t:Tv} {l:List (Nat×Tv)} {i:Nat} {o:Oper}
@[go_sem] theorem zEi:@zgz P G T N tag0 am ops .leaf st ⟨k⟩=k st:=by unfold zgz;rw[znG];rfl
@[go_sem] theorem zKn:@zgz P G T N tag0 am ops (.q i t) st ⟨k⟩=@zfa P G T N tag0 am ops ops[i]? st ⟨fun st=>@zgz P G T N tag0 am ops t st ⟨k⟩⟩:=by unfold zgz zfa;rw[znG];rfl
@[go_sem] theorem zKo:@zgz P G T N tag0 am ops (.r i t) st ⟨k⟩=@zaq (RpC st G ops[i]?) ⟨@zfa P G T N tag0 am ops ops[i]? st ⟨fun st=>@zgz P G T N tag0 am ops t st ⟨k⟩⟩⟩:=by unfold zgz zfa zaq;rw[znG];rfl
@[go_sem] theorem zHX:@zgz P G T N tag0 am ops (.br l) st ⟨k⟩=@zhC P G T N tag0 am ops l st ⟨k⟩:=by unfold zgz zhC;rw[znG]
@[go_sem] theorem zEj:@zhC P G T N tag0 am ops [] st ⟨k⟩=True:=by unfold zhC;rw[zo1]
@[go_sem] theorem zCr:@zhC P G T N tag0 am ops ((i,t)::l) st ⟨k⟩=(@zfa P G T N tag0 am ops ops[i]? st ⟨fun st=>@zgz P G T N tag0 am ops t st ⟨k⟩⟩∧@zhC P G T N tag0 am ops l st ⟨k⟩):=by
 unfold zhC zfa;rw[zo1];rfl
@[go_sem] theorem zKk {dst:Option Tmp}{t:TypeId}{x:Operand}{ty:TypeId}{pos:String}{after:Array Edge}{guard:Option (Nat×Bool)}:RpC st G (some ⟨dst,.load t x,ty,pos,after,guard⟩)=∃xs,st.ev G x= .rp xs:=rfl
@[go_sem] theorem zGc {xs:List FD}:(∃ys,D.rp xs= .rp ys)=True:=eq_true ⟨xs,rfl⟩
theorem zbk (hm:P.follows .mixedOrders=true)(hT:zan P G T){q:Exit→St→Prop}{id:Nat}(tag0:Nat)(am:Nat→Bool)(t:Tv)
  (ht:zr6 am T ops t (Array.replicate ops.size false) true=true)(hd:decide (zeg t≤ops.size)=true)(h:@zgz P G T N tag0 am ops t st ⟨q .normal⟩):@WK P G N (.region id ops true) st ⟨q⟩:=by
 unfold WK;unfold zgz at h;exact zx6 hm hT t ht hd h
theorem zb0 {c:Code}{st':St}{q:Exit→St→Prop}(h:zd2 G N st st')(h2:@WK P G N c st' ⟨q⟩):@WK P G N c st ⟨q⟩:=by
 unfold WK at h2 ⊢
 intro a w L F hr
 obtain⟨L2,F2,g1,g2⟩:=h a w L F hr
 exact wp_mono (h2 a w L2 F2 g1) fun e a' w' hs=>hs.trans g2
end
attribute [irreducible] zgz zhC
end Go.Abs
