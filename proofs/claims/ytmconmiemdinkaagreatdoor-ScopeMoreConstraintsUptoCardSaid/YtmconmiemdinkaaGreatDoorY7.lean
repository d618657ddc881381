/- several texts of this proof in one; no conditions -/
import Derived.Test.YtmconmiemdinkaaGreatDoorY6
set_option linter.unusedSimpArgs false
namespace Go.Abs
open Go
section
variable {P:Program} {G:Nat→List FD} {T:Tbl} {N tag0:Nat} {am:Nat→Bool} {st st2:St} {a:Act} {w:World} {L:Loc} {F:Nat→Nat→Prop} {K:St→Prop} {ops:Array Oper}
def zv3 (st:St):Prop:=∀tag,st.H (tag,st.n)=none
def zq5:Op→Bool
 | .alloc _=>true
 |_=>false
theorem znx {o:Oper}{ev:Operand→D}{H:zaw}{id:Id}{ob':Option O}{r:D×Prop}(hn:H id=none)(h:zbp P T o ev H=some r):zbp P T o ev (zaI H id ob')=some r:=by
 by_cases hh:zcQ o.op=true
 ·rw[←h];exact zi7 hh
 obtain⟨dst,op,type,pos,after,guard⟩:=o
 cases op<;>simp only[zcQ,not_true_eq_false]at hh
 rename_i t x
 unfold zbp at h ⊢
 have key:∀r,zbn P ⟨dst,.load t x,type,pos,after,guard⟩ ev H=some r→zbn P ⟨dst,.load t x,type,pos,after,guard⟩ ev (zaI H id ob')=some r:=by
  intro r h
  simp only[zbn,zhQ,ob]at h ⊢
  cases hti:zaj P t with
  |none=>rw[hti]at h;exact h
  |some ti=>
   rw[hti]at h
   simp only at h ⊢
   cases hd:ev x with
   |ptr i k=>
    rw[hd]at h
    simp only[zzq,ob]at h ⊢
    by_cases hi:i=id
    ·subst hi;rw[hn]at h;cases h
    ·have e:zaI H id ob' i=H i:=by simp[zaI,hi]
     rw[e];exact h
   |_=>rw[hd]at h;exact h
 cases hv:zbn P ⟨dst,.load t x,type,pos,after,guard⟩ ev H with
 |none=>rw[hv]at h;cases h
 |some r'=>
  rw[hv]at h
  obtain rfl:=Option.some.inj h
  rw[key _ hv]
theorem zvs {o:Oper}{fr:Nat→D}{H:zaw}{n n':Nat}{id:Id}{ob':Option O}{r:D×Prop}(hn:H id=none)(h:qv P G T ops o ⟨fr,H,n⟩=some r):qv P G T ops o ⟨fr,zaI H id ob',n'⟩=some r:=by
 have e:St.ev G ⟨fr,zaI H id ob',n'⟩=St.ev G ⟨fr,H,n⟩:=by funext x;cases x<;>rfl
 unfold qv at h ⊢
 simp only at h ⊢
 cases hg:zmZ ops fr o.guard with
 |none=>rw[hg]at h;cases h
 |some b=>
  rw[hg]at h
  cases b with
  |true=>simp only at h ⊢;rw[e];exact znx hn h
  |false=>exact h
theorem zyj {oi oj:Oper}{fr:Nat→D}{H:zaw}{n:Nat}{d:D}{c:Prop}(hap:oi.apart ops oj=true)(hal:zq5 oj.op=true)(hfr:zv3 ⟨fr,H,n⟩)(hy:qv P G T ops oi ⟨fr,H,n⟩=some (d,c))
  (h:zca P G T N tag0 ops false oj ⟨zdL fr oi.dst d,H,n⟩ K):zca P G T N tag0 ops false oj ⟨fr,H,n⟩ (fun s=>qv P G T ops oi s=some (d,c)∧K ⟨zdL s.fr oi.dst d,s.H,s.n⟩):=by
 obtain⟨h1,h2,h3⟩:=Oper.apart_spec hap
 unfold zca at h ⊢
 simp only[Bool.false_eq_true,if_false]at h ⊢
 rw[zfP h1]at h
 have hyj:∀e,qv P G T ops oi ⟨zdL fr oj.dst e,H,n⟩=some (d,c):=fun e=>(zgm h3 (.inl rfl)).trans hy
 split
 ·rename_i hg
  simp only[hg]at h
  obtain⟨dst,op,type,pos,after,guard⟩:=oj
  cases op<;>simp only[zq5,Bool.false_eq_true]at hal
  rename_i e
  unfold zcW at h ⊢
  simp only[zbn]at h ⊢
  refine⟨h.1,?_⟩
  have h':=h.2
  split at h'
  ·rename_i ti hti
   refine⟨?_,?_⟩
   ·have e1:(St.new ⟨fr,H,n⟩ (tag0+dst.getD 0,n) ⟨ti.zero,true,false⟩ dst (.ptr (tag0+dst.getD 0,n) 0))=⟨zdL fr dst (.ptr (tag0+dst.getD 0,n) 0),zaI H (tag0+dst.getD 0,n) (some ⟨ti.zero,true,false⟩),n+1⟩:=by
     cases dst<;>rfl
    rw[e1]
    exact zvs (n:=n) (hfr _) (hyj _)
   ·have e2:(St.new ⟨zdL fr oi.dst d,H,n⟩ (tag0+dst.getD 0,n) ⟨ti.zero,true,false⟩ dst (.ptr (tag0+dst.getD 0,n) 0))=⟨zdL (zdL fr dst (.ptr (tag0+dst.getD 0,n) 0)) oi.dst d,zaI H (tag0+dst.getD 0,n) (some ⟨ti.zero,true,false⟩),n+1⟩:=by
     have e3:zdL (zdL fr oi.dst d) dst (.ptr (tag0+dst.getD 0,n) 0)=zdL (zdL fr dst (.ptr (tag0+dst.getD 0,n) 0)) oi.dst d:=zdM h2
     rw[←e3]
     cases dst<;>rfl
    rw[e2]at h'
    have e1:(St.new ⟨fr,H,n⟩ (tag0+dst.getD 0,n) ⟨ti.zero,true,false⟩ dst (.ptr (tag0+dst.getD 0,n) 0))=⟨zdL fr dst (.ptr (tag0+dst.getD 0,n) 0),zaI H (tag0+dst.getD 0,n) (some ⟨ti.zero,true,false⟩),n+1⟩:=by
     cases dst<;>rfl
    rw[e1]
    exact h'
  ·exact h'
 ·rename_i hg
  simp only[hg]at h
  refine⟨h.1,?_,?_⟩
  ·rw[zcp];exact hyj _
  ·have:=h.2
   rw[zcp]at this
   rw[zcp]
   simp only at this ⊢
   rw[zdM h2]at this
   exact this
 ·rename_i hg
  simp[hg]at h
theorem zgw {oj:Oper}{b:Bool}{st:St}{K1 K2:St→Prop}(hk:∀s,K1 s→K2 s)(hs:zca P G T N tag0 ops b oj st K1):zca P G T N tag0 ops b oj st K2:=by
 unfold zca at hs ⊢
 split
 ·rename_i hq
  simp only[hq,if_true]at hs
  obtain⟨e,c',g1,g2,g3,g4⟩:=hs
  exact⟨e,c',g1,g2,g3,hk _ g4⟩
 ·rename_i hq
  simp only[hq]at hs
  split
  ·rename_i hg
   simp[hg]at hs
   refine zcx (fr:=st.fr) (fr2:=st.fr) (fun _ _=>rfl) ?_ hs
   rintro s s2 hK ⟨e,H',n',rfl,rfl⟩
   exact hk _ hK
  ·rename_i hg
   simp[hg]at hs
   exact⟨hs.1,hk _ hs.2⟩
  ·rename_i hg
   simp[hg]at hs
end
end Go.Abs
namespace Go.Abs
open Go
section
variable {P:Program} {G:Nat→List FD} {T:Tbl} {N tag0:Nat} {am:Nat→Bool} {st st2:St} {a:Act} {w:World} {L:Loc} {F:Nat→Nat→Prop} {K:St→Prop} {ops:Array Oper}
def zfr (st:St):Prop:=∀id:Id,st.n≤id.2→st.H id=none
theorem zfr.s (h:zfr st):zv3 st:=fun tag=>h (tag,st.n) (Nat.le_refl _)
theorem zvH {oi oj:Oper}{fr:Nat→D}{H:zaw}{n:Nat}{d:D}{c:Prop}(hap:oi.apart ops oj=true)(hal:zq5 oj.op=true)(hfr:zfr ⟨fr,H,n⟩)(hy:qv P G T ops oi ⟨fr,H,n⟩=some (d,c))
  (h:zca P G T N tag0 ops false oj ⟨zdL fr oi.dst d,H,n⟩ K):zca P G T N tag0 ops false oj ⟨fr,H,n⟩ (fun s=>(qv P G T ops oi s=some (d,c)∧K ⟨zdL s.fr oi.dst d,s.H,s.n⟩)∧zfr s):=by
 have h1:=zyj hap hal hfr.s hy h
 unfold zca at h1 ⊢
 simp only[Bool.false_eq_true,if_false]at h1 ⊢
 split
 ·rename_i hg
  simp only[hg]at h1
  obtain⟨dst,op,type,pos,after,guard⟩:=oj
  cases op<;>simp only[zq5,Bool.false_eq_true]at hal
  rename_i e
  unfold zcW at h1 ⊢
  simp only[zbn]at h1 ⊢
  refine⟨h1.1,?_⟩
  have h':=h1.2
  split at h'
  ·refine⟨h',fun id hid=>?_⟩
   simp only[St.new]at hid ⊢
   have hne:id≠(tag0+dst.getD 0,n):=by rintro rfl;simp only at hid;omega
   simp only[zaI,hne,if_false]
   exact hfr id (by simp only at hid ⊢;omega)
  ·exact h'
 ·rename_i hg
  simp only[hg]at h1
  refine⟨h1.1,h1.2,fun id hid=>?_⟩
  rw[zcp]at hid ⊢
  exact hfr id hid
 ·rename_i hg
  simp[hg]at h1
def HG (ops:Array Oper)(q:Nat→Bool)(i:Nat)(oi:Oper)(B:Nat→Bool)(listed:Array Bool)(st:St):Prop:=
 (∀j oj,ops[j]?=some oj→j≠i→listed.getD j true=false→B j=false→oi.apart ops oj=true)∧
 ((∀j oj,ops[j]?=some oj→j≠i→listed.getD j true=false→B j=false→q j=true∨zcQ oi.op=true)∨
  (zfr st∧∀j oj,ops[j]?=some oj→j≠i→listed.getD j true=false→B j=false→q j=true∨zq5 oj.op=true))
theorem zm9 {q:Nat→Bool}{i:Nat}{oi:Oper}{d:D}{c:Prop}(hi:ops[i]?=some oi)(hqi:q i=true)(hc:c)(hd:zbd N oi.dst=true)(B:Nat→Bool)
  (hB:∀j oj,ops[j]?=some oj→B j=true→∃e∈oj.after,Region.binds .any e=true∧(e.on=i∨B e.on=true)):
  ∀(fuel:Nat) (listed:Array Bool) (st:St),(∀j,B j=true→listed.getD j false=false)→HG ops q i oi B listed st→
   i∈Region.ready .any ops listed→qv P G T ops oi st=some (d,c)→
   ztS P G T N tag0 ops q K fuel (listed.setIfInBounds i true) (st.put oi.dst d)→ztS P G T N tag0 ops q K (fuel+1) listed st:=by
 intro fuel
 have take:∀{st K},qv P G T ops oi st=some (d,c)→K (st.put oi.dst d)→zca P G T N tag0 ops (q i) oi st K:=by
  intro st K hy hK
  unfold zca
  rw[if_pos hqi]
  exact⟨d,c,hy,hd,hc,hK⟩
 induction fuel with
 |zero=>
  intro listed st _ _ hr hy H
  refine⟨fun h=>(by rw[h]at hr;cases hr),fun j hj oj hoj=>?_⟩
  by_cases hji:j=i
  ·subst hji;rw[hi]at hoj;obtain rfl:=Option.some.inj hoj;exact take hy H
  ·have:=ready_mono hj hji
   rw[H.1]at this
   cases this
 |succ fuel ih=>
  intro listed st hBl hfree hr hy H
  refine⟨fun h=>(by rw[h]at hr;cases hr),fun j hj oj hoj=>?_⟩
  by_cases hji:j=i
  ·subst hji;rw[hi]at hoj;obtain rfl:=Option.some.inj hoj;exact take hy H
  ·have h1:=H.2 j (ready_mono hj hji) oj hoj
   obtain⟨hjun,oj',hoj',hall⟩:=mem_ready.1 hj
   rw[hoj]at hoj'
   obtain rfl:=Option.some.inj hoj'
   have hnl:listed.getD i false=false:=by
    have h0:=(mem_ready.1 hr).1
    rcases Nat.lt_or_ge i listed.size with h'|h'
    ·simp[h']at h0 ⊢;exact h0
    ·simp[Array.getElem?_eq_none h']
   have hBj:B j=false:=by
    cases hb:B j with
    |false=>rfl
    |true=>
     obtain⟨e,he,hbe,h3⟩:=hB j oj hoj hb
     have h4:=hall e he hbe
     rcases h3 with h3|h3
     ·rw[h3,hnl]at h4;cases h4
     ·rw[hBl _ h3]at h4;cases h4
   obtain⟨hap',hh'⟩:=hfree
   have hap:=hap' j oj hoj hji hjun hBj
   have hBl':∀k,B k=true→(listed.setIfInBounds j true).getD k false=false:=fun k hk=>by
    by_cases hjk:j=k
    ·subst hjk;rw[hBj]at hk;cases hk
    ·rw[getD_set_ne false hjk];exact hBl k hk
   have hsub:∀k,(listed.setIfInBounds j true).getD k true=false→listed.getD k true=false:=fun k hun=>by
    by_cases hjk:j=k
    ·subst hjk
     exfalso
     rcases Nat.lt_or_ge j listed.size with h'|h'
     ·simp[h']at hun
     ·simp[Array.getElem?_eq_none h']at hun
    ·rw[getD_set_ne true hjk]at hun;exact hun
   have hapn:∀k ok,ops[k]?=some ok→k≠i→(listed.setIfInBounds j true).getD k true=false→B k=false→oi.apart ops ok=true:=fun k ok hk hki hun hno=>hap' k ok hk hki (hsub k hun) hno
   rw[zcp]at h1
   cases hqj:q j with
   |true=>
    have hfree':∀s:St,s.H=st.H→s.n=st.n→HG ops q i oi B (listed.setIfInBounds j true) s:=fun s e1 e2=>by
     refine⟨hapn,?_⟩
     rcases hh' with g|⟨g1,g2⟩
     ·exact .inl fun k ok hk hki hun hno=>g k ok hk hki (hsub k hun) hno
     ·exact .inr ⟨fun id hid=>by rw[e1];exact g1 id (by rw[←e2];exact hid),fun k ok hk hki hun hno=>g2 k ok hk hki (hsub k hun) hno⟩
    rw[hqj]at h1
    have h2:=zkP hap (.inl rfl) (fr:=st.fr) (H:=st.H) (n:=st.n) hy h1
    unfold zca at h2 ⊢
    simp only[if_true]at h2 ⊢
    obtain⟨e,c',g1,g2,g3,g4,g5⟩:=h2
    refine⟨e,c',g1,g2,g3,?_⟩
    rw[zcp]at g4 g5 ⊢
    refine ih (listed.setIfInBounds j true) _ hBl' (hfree' _ rfl rfl) (ready_mono hr (Ne.symm hji)) g4 ?_
    rw[Array.setIfInBounds_comm _ _ hji,zcp]
    exact g5
   |false=>
    rw[hqj]at h1
    rcases hh' with g|⟨g1,g2⟩
    ·have hin:zcQ oi.op=true:=by
      rcases g j oj hoj hji hjun hBj with g|g
      ·rw[hqj]at g;cases g
      ·exact g
     have h2:=zkP hap (.inr hin) (fr:=st.fr) (H:=st.H) (n:=st.n) hy h1
     refine zgw (fun s h3=>ih (listed.setIfInBounds j true) s hBl' ⟨hapn,.inl fun _ _ _ _ _ _=> .inr hin⟩ (ready_mono hr (Ne.symm hji)) h3.1 ?_) h2
     rw[Array.setIfInBounds_comm _ _ hji,zcp]
     exact h3.2
    ·have hal:zq5 oj.op=true:=by
      rcases g2 j oj hoj hji hjun hBj with g|g
      ·rw[hqj]at g;cases g
      ·exact g
     have h2:=zvH hap hal (fr:=st.fr) (H:=st.H) (n:=st.n) g1 hy h1
     refine zgw (fun s h3=>ih (listed.setIfInBounds j true) s hBl' ⟨hapn,.inr ⟨h3.2,fun k ok hk hki hun hno=>g2 k ok hk hki (hsub k hun) hno⟩⟩ (ready_mono hr (Ne.symm hji)) h3.1.1 ?_) h2
     rw[Array.setIfInBounds_comm _ _ hji,zcp]
     exact h3.1.2
def zuR (am:Nat→Bool)(T:Tbl)(ops:Array Oper)(listed:Array Bool)(fl:Bool)(i:Nat):Bool:=
 match ops[i]? with
 |none=>false
 |some oi=>
  zcG am T oi&&((zcu ops i).all fun j=> !listed.getD j false&&match ops[j]? with
   |some oj=>oj.after.any (fun e=>Region.binds .any e&&(e.on==i||(zcu ops i).contains e.on))
   |none=>true)&&
  ((List.range ops.size).all fun j=>j==i||listed.getD j true||(zcu ops i).contains j||match ops[j]? with
   |some oj=>oi.apart ops oj&&(zcG am T oj||zcQ oi.op||(fl&&zq5 oj.op))
   |none=>true)
theorem zqe {listed:Array Bool}{i:Nat}{oi:Oper}{fl:Bool}(hi:ops[i]?=some oi)(h:zuR am T ops listed fl i=true)(hfl:fl=true→zfr st):
  zcG am T oi=true∧(∀j oj,ops[j]?=some oj→(zcu ops i).contains j=true→∃e∈oj.after,Region.binds .any e=true∧(e.on=i∨(zcu ops i).contains e.on=true))∧
  (∀j,(zcu ops i).contains j=true→listed.getD j false=false)∧
  HG ops (fun i=>((ops[i]?).map (zcG am T)).getD false) i oi (fun j=>(zcu ops i).contains j) listed st:=by
 unfold zuR at h
 rw[hi]at h
 simp only[Bool.and_eq_true]at h
 generalize zcu ops i=B at*
 obtain⟨⟨hq,hB⟩,h⟩:=h
 rw[List.all_eq_true]at hB h
 have key:∀j oj,ops[j]?=some oj→j≠i→listed.getD j true=false→B.contains j=false→oi.apart ops oj=true∧((zcG am T oj=true∨zcQ oi.op=true)∨fl=true∧zq5 oj.op=true):=fun j oj hj hne hun hno=>by
  have h1:=h j (by rw[List.mem_range];exact(Array.getElem?_eq_some_iff.1 hj).1)
  rw[hj,hun,hno]at h1
  have hne':(j==i)=false:=by simpa using hne
  rw[hne']at h1
  simpa only[Bool.false_or,Bool.and_eq_true,Bool.or_eq_true]using h1
 refine⟨hq,fun j oj hj hb=>?_,fun j hb=>?_,fun j oj hj hne hun hno=>(key j oj hj hne hun hno).1,?_⟩
 ·have h1:=hB j (by simpa using hb)
  rw[hj]at h1
  simp only[Bool.and_eq_true]at h1
  obtain⟨e,he,h2⟩:=Array.any_eq_true'.1 h1.2
  simp only[Bool.and_eq_true,Bool.or_eq_true,beq_iff_eq]at h2
  exact⟨e,he,h2.1,h2.2⟩
 ·have h1:=hB j (by simpa using hb)
  simp only[Bool.and_eq_true,Bool.not_eq_true']at h1
  exact h1.1
 ·by_cases hin:zcQ oi.op=true
  ·exact .inl fun _ _ _ _ _ _=> .inr hin
  cases hf:fl with
  |false=>
   refine .inl fun j oj hj hne hun hno=>?_
   rcases(key j oj hj hne hun hno).2 with(g|g)|⟨g,_⟩
   ·exact .inl (by simp only[hj,Option.map_some,Option.getD_some];exact g)
   ·exact .inr g
   ·rw[hf]at g;cases g
  |true=>
   refine .inr ⟨hfl hf,fun j oj hj hne hun hno=>?_⟩
   rcases(key j oj hj hne hun hno).2 with(g|g)|⟨_,g⟩
   ·exact .inl (by simp only[hj,Option.map_some,Option.getD_some];exact g)
   ·exact absurd g hin
   ·exact .inr g
def zzV (am:Nat→Bool)(T:Tbl)(ops:Array Oper)(i:Nat):Bool:=
 match ops[i]? with
 |some o=>zcG am T o||zq5 o.op
 |none=>false
mutual
def zBG (am:Nat→Bool)(T:Tbl)(ops:Array Oper):Tr→Array Bool→Bool→Bool
 | .leaf,listed,_=>(Region.ready .any ops listed).isEmpty
 | .node l,listed,fl=> !(Region.ready .any ops listed).isEmpty&&(zBI am T ops l listed fl||zwK am T ops l listed fl (Region.ready .any ops listed))
def zBI (am:Nat→Bool)(T:Tbl)(ops:Array Oper):Trs→Array Bool→Bool→Bool
 | .cons i t .nil,listed,fl=>(Region.ready .any ops listed).contains i&&zuR am T ops listed fl i&&zBG am T ops t (listed.setIfInBounds i true) fl
 |_,_,_=>false
def zwK (am:Nat→Bool)(T:Tbl)(ops:Array Oper):Trs→Array Bool→Bool→List Nat→Bool
 | .nil,_,_,r=>r.isEmpty
 | .cons i t l,listed,fl,r=>(match r with
   |j::r'=>(i==j)&&zBG am T ops t (listed.setIfInBounds i true) (fl&&zzV am T ops i)&&zwK am T ops l listed fl r'
   |[]=>false)
end
end
end Go.Abs
namespace Go.Abs
open Go
section
variable {P:Program} {G:Nat→List FD} {T:Tbl} {N tag0:Nat} {am:Nat→Bool} {st:St} {a:Act} {w:World} {L:Loc} {F:Nat→Nat→Prop} {K:St→Prop} {ops:Array Oper}
theorem zwT {id:Id}{t:Nat}{ys:List FD}{b:Bool}(ho:st.H id=some ⟨ys.map .fz,b,false⟩)(hs:st.fr t= .ptr id 0):zeh G N st ⟨upd st.fr t (.rp ys),zaI st.H id none,st.n⟩:=by
 intro a w L F h
 obtain⟨hu,hob⟩:=h.ok.live id _ ho
 have hv3:(L id).3=false:=by
  cases e:(L id).3 with
  |false=>rfl
  |true=>unfold zbM at hob;rw[if_pos e]at hob;cases hob.2
 obtain⟨hnF,cs,T,hcs,hsz,hcell⟩:=zax hob hv3
 have hlt:(L id).1<w.heap.size:=by
  rcases Nat.lt_or_ge (L id).1 w.heap.size with h|h
  ·exact h
  ·rw[Array.getElem?_eq_none h]at hcs;cases hcs
 obtain⟨F',hF'⟩:∃F':Nat→Nat→Prop,F'=fun b k=>F b k∨(b=(L id).1∧(L id).2≤k):=⟨_,rfl⟩
 have hsub:∀b k,F b k→F' b k:=fun b k h=>by rw[hF'];exact .inl h
 have e:Ext w L F (Ub st.n) w L F' (Ub st.n):=⟨fun _ h=>h,fun _ _=>rfl,hsub,fun _ _ _=>rfl,Nat.le_refl _,fun b cs T fr _ h=>⟨cs,T,fr,h,Nat.le_refl _⟩⟩
 have hold:∀id' o',zaI st.H id none id'=some o'→id'≠id∧st.H id'=some o':=fun id' o' h=>by
  unfold zaI at h
  split at h
  ·cases h
  ·rename_i hne;exact⟨hne,h⟩
 refine⟨L,F',⟨⟨fun b k hb=>?_,fun id' o' h1=>?_,fun i1 i2 o1 o2 h1 h2=>h.ok.inj i1 i2 o1 o2 (hold _ _ h1).2 (hold _ _ h2).2,zb4 hsub (fun _ _ _=>rfl) h.ok.glob⟩,h.size,fun s=>?_,h.nd⟩,
  fun _ h=>h,fun _ _=>rfl,hsub,Nat.le_refl _,fun _ _ _=>rfl,fun _ _ _ _=>rfl,fun b cs T fr _ h=>⟨cs,T,fr,h,Nat.le_refl _⟩,fun b k hb=>?_,fun b k hb=>?_,rfl,rfl,rfl,Nat.le_refl _⟩
 ·rw[hF']at hb
  rcases hb with hb|⟨rfl,_⟩
  ·exact h.ok.fb b k hb
  ·exact hlt
 ·obtain⟨hne,h2⟩:=hold _ _ h1
  obtain⟨h3,h4⟩:=h.ok.live id' o' h2
  refine⟨h3,h4.ext e h3 fun hv=>⟨rfl,fun k hk hb=>?_⟩⟩
  rw[hF']at hb
  rcases hb with hb|⟨hb,_⟩
  ·exact(zax h4 hv).1 k hk hb
  ·exact hne (h.ok.inj id' id _ _ h2 ho hv hv3 hb)
 ·simp only[upd]
  split
  ·rename_i hst
   subst hst
   have hv:=h.fr s
   rw[hs]at hv
   simp only[zag]at hv ⊢
   refine⟨(L id).1,(L id).2+0,hv.2.2,fun j hj=>⟨by rw[hF'];exact .inr ⟨rfl,by omega⟩,?_⟩⟩
   obtain⟨u,hu1,hu2⟩:=hcell j (by simpa using hj)
   refine⟨u,by rw[zeY hcs,Nat.add_zero];exact hu1,?_⟩
   rw[zb6 _ _ hj]at hu2
   simp only[zag]at hu2
   exact hu2.mono (fun _ _ _=>rfl) hsub
  ·exact(h.fr s).ext e
 ·rw[hF']at hb
  rcases hb with hb|⟨rfl,hk⟩
  ·exact .inl hb
  ·exact .inr (.inr ⟨id,_,ho,hv3,rfl,hk⟩)
 ·obtain⟨id',o',h1,h2,h3,h4⟩:=hb
  exact .inr ⟨id',o',(hold _ _ h1).2,h2,h3,h4⟩
def zyC (P:Program)(G:Nat→List FD)(T:Tbl)(ops:Array Oper)(oi:Oper)(fr:Nat→D)(r:D×Prop):Prop:=∀H n,qv P G T ops oi ⟨fr,H,n⟩=some r
theorem zto {oi oj:Oper}{q:Bool}{fr:Nat→D}{H:zaw}{n:Nat}{d:D}{c:Prop}(hap:oi.apart ops oj=true)(hy:zyC P G T ops oi fr (d,c))
  (h:zca P G T N tag0 ops q oj ⟨zdL fr oi.dst d,H,n⟩ K):zca P G T N tag0 ops q oj ⟨fr,H,n⟩ (fun s=>zyC P G T ops oi s.fr (d,c)∧K ⟨zdL s.fr oi.dst d,s.H,s.n⟩):=by
 obtain⟨h1,h2,h3⟩:=Oper.apart_spec hap
 unfold zca at h ⊢
 have eput:∀(e:D),(St.put ⟨fr,H,n⟩ oj.dst e)=⟨zdL fr oj.dst e,H,n⟩:=fun e=>zcp
 have eput2:∀(e:D),(St.put ⟨zdL fr oi.dst d,H,n⟩ oj.dst e)=⟨zdL (zdL fr oj.dst e) oi.dst d,H,n⟩:=fun e=>by rw[zcp];simp only;rw[zdM h2]
 have hyj:∀e,zyC P G T ops oi (zdL fr oj.dst e) (d,c):=fun e H' n'=>(zgm (H:=H') (n:=n') h3 (.inl rfl)).trans (hy H' n')
 split
 ·rename_i hq
  simp only[hq,if_true]at h
  obtain⟨e,c',g1,g2,g3,g4⟩:=h
  refine⟨e,c',(zgm h1 (.inl rfl)).symm.trans g1,g2,g3,?_,?_⟩
  ·rw[eput];exact hyj e
  ·rw[eput];rw[eput2]at g4;exact g4
 ·rename_i hq
  simp only[hq]at h
  simp only at h ⊢
  rw[zfP h1]at h
  split
  ·rename_i hg
   simp only[hg]at h
   refine zcx (fr2:=fr) (znv h1) ?_ h
   rintro s s2 hK ⟨e,H',n',rfl,rfl⟩
   refine⟨hyj e,?_⟩
   simp only
   rw[zdM h2]at hK
   exact hK
  ·rename_i hg
   simp only[hg]at h
   refine⟨h.1,?_,?_⟩
   ·rw[eput];exact hyj _
   ·have:=h.2
    rw[eput2]at this
    rw[eput]
    exact this
  ·rename_i hg
   simp[hg]at h
theorem zna {q:Nat→Bool}{i:Nat}{oi:Oper}{d:D}{c:Prop}(hi:ops[i]?=some oi)(hqi:q i=true)(hc:c)(hd:zbd N oi.dst=true)(B:Nat→Bool)
  (hB:∀j oj,ops[j]?=some oj→B j=true→∃e∈oj.after,Region.binds .any e=true∧(e.on=i∨B e.on=true)):
  ∀(fuel:Nat) (listed:Array Bool) (st:St),(∀j,B j=true→listed.getD j false=false)→
   (∀j oj,ops[j]?=some oj→j≠i→listed.getD j true=false→B j=false→oi.apart ops oj=true)→
   i∈Region.ready .any ops listed→zyC P G T ops oi st.fr (d,c)→
   ztS P G T N tag0 ops q K fuel (listed.setIfInBounds i true) (st.put oi.dst d)→ztS P G T N tag0 ops q K (fuel+1) listed st:=by
 intro fuel
 have take:∀{st K},zyC P G T ops oi st.fr (d,c)→K (st.put oi.dst d)→zca P G T N tag0 ops (q i) oi st K:=by
  intro st K hy hK
  unfold zca
  rw[if_pos hqi]
  exact⟨d,c,hy st.H st.n,hd,hc,hK⟩
 induction fuel with
 |zero=>
  intro listed st _ _ hr hy H
  refine⟨fun h=>(by rw[h]at hr;cases hr),fun j hj oj hoj=>?_⟩
  by_cases hji:j=i
  ·subst hji;rw[hi]at hoj;obtain rfl:=Option.some.inj hoj;exact take hy H
  ·have:=ready_mono hj hji
   rw[H.1]at this
   cases this
 |succ fuel ih=>
  intro listed st hBl hfree hr hy H
  refine⟨fun h=>(by rw[h]at hr;cases hr),fun j hj oj hoj=>?_⟩
  by_cases hji:j=i
  ·subst hji;rw[hi]at hoj;obtain rfl:=Option.some.inj hoj;exact take hy H
  ·have h1:=H.2 j (ready_mono hj hji) oj hoj
   obtain⟨hjun,oj',hoj',hall⟩:=mem_ready.1 hj
   rw[hoj]at hoj'
   obtain rfl:=Option.some.inj hoj'
   have hnl:listed.getD i false=false:=by
    have h0:=(mem_ready.1 hr).1
    rcases Nat.lt_or_ge i listed.size with h'|h'
    ·simp[h']at h0 ⊢;exact h0
    ·simp[Array.getElem?_eq_none h']
   have hBj:B j=false:=by
    cases hb:B j with
    |false=>rfl
    |true=>
     obtain⟨e,he,hbe,h3⟩:=hB j oj hoj hb
     have h4:=hall e he hbe
     rcases h3 with h3|h3
     ·rw[h3,hnl]at h4;cases h4
     ·rw[hBl _ h3]at h4;cases h4
   have hap:=hfree j oj hoj hji hjun hBj
   have hBl':∀k,B k=true→(listed.setIfInBounds j true).getD k false=false:=fun k hk=>by
    by_cases hjk:j=k
    ·subst hjk;rw[hBj]at hk;cases hk
    ·rw[getD_set_ne false hjk];exact hBl k hk
   have hfree':∀k ok,ops[k]?=some ok→k≠i→(listed.setIfInBounds j true).getD k true=false→B k=false→oi.apart ops ok=true:=fun k ok hk hki hun hno=>by
    refine hfree k ok hk hki ?_ hno
    by_cases hjk:j=k
    ·subst hjk;exact hjun
    ·rw[getD_set_ne true hjk]at hun;exact hun
   rw[zcp]at h1
   have h2:=zto hap (fr:=st.fr) (H:=st.H) (n:=st.n) hy h1
   refine zgw (fun s h3=>ih (listed.setIfInBounds j true) s hBl' hfree' (ready_mono hr (Ne.symm hji)) h3.1 ?_) h2
   rw[Array.setIfInBounds_comm _ _ hji,zcp]
   exact h3.2
inductive Tv where
 |leaf
 |q (i:Nat) (t:Tv)
 |r (i:Nat) (t:Tv)
 |br (l:List (Nat×Tv))
def RpC (st:St)(G:Nat→List FD):Option Oper→Prop
 |some ⟨_,.load _ x,_,_,_,_⟩=>∃xs,st.ev G x= .rp xs
 |_=>False
theorem RpC.all {oi:Oper}{r:D×Prop}(hr:RpC st G (some oi))(h:qv P G T ops oi st=some r):zyC P G T ops oi st.fr r:=by
 obtain⟨dst,op,type,pos,after,guard⟩:=oi
 cases op<;>simp only[RpC]at hr
 rename_i t x
 obtain⟨xs,hx⟩:=hr
 intro H n
 unfold qv at h ⊢
 simp only at h ⊢
 cases hg:zmZ ops st.fr guard with
 |none=>rw[hg]at h;cases h
 |some b=>
  rw[hg]at h
  cases b with
  |false=>exact h
  |true=>
   simp only at h ⊢
   have e:St.ev G ⟨st.fr,H,n⟩=St.ev G st:=by funext x;cases x<;>rfl
   rw[e]
   have key:zbn P ⟨dst,.load t x,type,pos,after,guard⟩ (St.ev G st) H=zbn P ⟨dst,.load t x,type,pos,after,guard⟩ (St.ev G st) st.H:=by
    simp only[zbn,zhQ,hx,ob]
    cases zaj P t with
    |none=>rfl
    |some ti=>rfl
   unfold zbp at h ⊢
   rw[key]
   exact h
section
variable (P:Program) (G:Nat→List FD) (T:Tbl) (N tag0:Nat) (am:Nat→Bool) (ops:Array Oper)
mutual
def zmK:Tv→(St→Prop)→St→Prop
 | .leaf,K,st=>K st
 | .q i t,K,st=>zkO P G T N tag0 am ops ops[i]? (zmK t K) st
 | .r i t,K,st=>Req (RpC st G ops[i]?) (zkO P G T N tag0 am ops ops[i]? (zmK t K) st)
 | .br l,K,st=>zn0 l K st
def zn0:List (Nat×Tv)→(St→Prop)→St→Prop
 |[],_,_=>True
 |(i,t)::l,K,st=>zkO P G T N tag0 am ops ops[i]? (zmK t K) st∧zn0 l K st
end
end
mutual
def zq9 (am:Nat→Bool)(T:Tbl)(ops:Array Oper):Tv→Array Bool→Bool→Bool
 | .leaf,listed,_=>(Region.ready .any ops listed).isEmpty
 | .q i t,listed,fl=>(Region.ready .any ops listed).contains i&&zuR am T ops listed fl i&&zq9 am T ops t (listed.setIfInBounds i true) fl
 | .r i t,listed,fl=>(Region.ready .any ops listed).contains i&&zxt am T ops listed i&&zq9 am T ops t (listed.setIfInBounds i true) fl
 | .br l,listed,fl=> !(Region.ready .any ops listed).isEmpty&&zqT am T ops l listed fl (Region.ready .any ops listed)
def zqT (am:Nat→Bool)(T:Tbl)(ops:Array Oper):List (Nat×Tv)→Array Bool→Bool→List Nat→Bool
 |[],_,_,r=>r.isEmpty
 |(i,t)::l,listed,fl,r=>(match r with
   |j::r'=>(i==j)&&zq9 am T ops t (listed.setIfInBounds i true) (fl&&zzV am T ops i)&&zqT am T ops l listed fl r'
   |[]=>false)
def zxt (am:Nat→Bool)(T:Tbl)(ops:Array Oper)(listed:Array Bool)(i:Nat):Bool:=
 match ops[i]? with
 |none=>false
 |some oi=>
  zcG am T oi&&((zcu ops i).all fun j=> !listed.getD j false&&match ops[j]? with
   |some oj=>oj.after.any (fun e=>Region.binds .any e&&(e.on==i||(zcu ops i).contains e.on))
   |none=>true)&&
  ((List.range ops.size).all fun j=>j==i||listed.getD j true||(zcu ops i).contains j||match ops[j]? with
   |some oj=>oi.apart ops oj
   |none=>true)
end
mutual
def zdK:Tv→Nat
 | .leaf=>0
 | .q _ t=>zdK t+1
 | .r _ t=>zdK t+1
 | .br l=>ziz l+1
def ziz:List (Nat×Tv)→Nat
 |[]=>0
 |(_,t)::l=>max (zdK t) (ziz l)
end
theorem zqf {listed:Array Bool}{i:Nat}{oi:Oper}(hi:ops[i]?=some oi)(h:zxt am T ops listed i=true):
  zcG am T oi=true∧(∀j oj,ops[j]?=some oj→(zcu ops i).contains j=true→∃e∈oj.after,Region.binds .any e=true∧(e.on=i∨(zcu ops i).contains e.on=true))∧
  (∀j,(zcu ops i).contains j=true→listed.getD j false=false)∧
  (∀j oj,ops[j]?=some oj→j≠i→listed.getD j true=false→(zcu ops i).contains j=false→oi.apart ops oj=true):=by
 unfold zxt at h
 rw[hi]at h
 simp only[Bool.and_eq_true]at h
 generalize zcu ops i=B at*
 obtain⟨⟨hq,hB⟩,h⟩:=h
 rw[List.all_eq_true]at hB h
 refine⟨hq,fun j oj hj hb=>?_,fun j hb=>?_,fun j oj hj hne hun hno=>?_⟩
 ·have h1:=hB j (by simpa using hb)
  rw[hj]at h1
  simp only[Bool.and_eq_true]at h1
  obtain⟨e,he,h2⟩:=Array.any_eq_true'.1 h1.2
  simp only[Bool.and_eq_true,Bool.or_eq_true,beq_iff_eq]at h2
  exact⟨e,he,h2.1,h2.2⟩
 ·have h1:=hB j (by simpa using hb)
  simp only[Bool.and_eq_true,Bool.not_eq_true']at h1
  exact h1.1
 ·have h1:=h j (by rw[List.mem_range];exact(Array.getElem?_eq_some_iff.1 hj).1)
  rw[hj,hun,hno]at h1
  have hne':(j==i)=false:=by simpa using hne
  rw[hne']at h1
  simpa only[Bool.false_or]using h1
theorem zmL:∀(l:List (Nat×Tv)) (listed:Array Bool) (fl:Bool) (r:List Nat) (st:St),zqT am T ops l listed fl r=true→zn0 P G T N tag0 am ops l K st→∀i∈r,∃t,zq9 am T ops t (listed.setIfInBounds i true) (fl&&zzV am T ops i)=true∧zdK t≤ziz l∧zkO P G T N tag0 am ops ops[i]? (zmK P G T N tag0 am ops t K) st
 |[],listed,fl,r,st,h,_,i,hi=>by
  simp only[zqT,List.isEmpty_iff]at h
  subst h;cases hi
 |(j,t)::l,listed,fl,r,st,h,hs,i,hi=>by
  cases r with
  |nil=>simp[zqT]at h
  |cons a r=>
   simp only[zqT,Bool.and_eq_true,beq_iff_eq]at h
   obtain⟨⟨rfl,h1⟩,h2⟩:=h
   simp only[zn0]at hs
   rcases List.mem_cons.1 hi with rfl|hi
   ·exact⟨t,h1,by simp only[ziz];omega,hs.1⟩
   ·obtain⟨t',g1,g2,g3⟩:=zmL l listed fl r st h2 hs.2 i hi
    exact⟨t',g1,by simp only[ziz];omega,g3⟩
theorem zie {o:Oper}(hq:zcG am T o=true){k:St→Prop}(hs:zkO P G T N tag0 am ops (some o) k st):∃d c,qv P G T ops o st=some (d,c)∧zbd N o.dst=true∧c∧k (st.put o.dst d):=by
 obtain⟨o',ho',hs1⟩:=zbY hs
 obtain rfl:=Option.some.inj ho'
 obtain⟨b,hb,g1,g2⟩:=zbY hs1
 cases b with
 |true=>
  obtain⟨d,c,k1,k2,k3,k4⟩:=zDr o hq (g1 rfl)
  exact⟨d,c,by simp only[qv,hb];exact k1,k2,k3,k4⟩
 |false=>
  obtain⟨k1,k2⟩:=g2 rfl
  exact⟨.tup [],True,by simp only[qv,hb],k1,trivial,k2⟩
theorem zvI (hT:zai P G T):∀(fuel:Nat) (t:Tv) (listed:Array Bool) (fl:Bool) (st:St),(fl=true→zfr st)→zq9 am T ops t listed fl=true→zdK t≤fuel→zmK P G T N tag0 am ops t K st→
  ztS P G T N tag0 ops (fun i=>((ops[i]?).map (zcG am T)).getD false) K fuel listed st:=by
 intro fuel
 induction fuel with
 |zero=>
  intro t listed fl st hfl h hd hs
  cases t with
  |leaf=>
   simp only[zq9,List.isEmpty_iff]at h
   simp only[zmK]at hs
   exact⟨h,hs⟩
  |q i t=>simp[zdK]at hd
  |r i t=>simp[zdK]at hd
  |br l=>simp[zdK]at hd
 |succ fuel ih=>
  intro t listed fl st hfl h hd hs
  have hput:∀{o:Oper} {d:D},(fl=true→zfr (st.put o.dst d)):=fun{o d} e id hid=>by
   rw[zcp]at hid ⊢
   exact hfl e id hid
  cases t with
  |leaf=>
   simp only[zq9,List.isEmpty_iff]at h
   simp only[zmK]at hs
   exact⟨fun _=>hs,fun i hi=>by rw[h]at hi;cases hi⟩
  |q i t=>
   simp only[zq9,Bool.and_eq_true]at h
   obtain⟨⟨h1,h2⟩,h3⟩:=h
   simp only[zmK]at hs
   simp only[zdK]at hd
   obtain⟨o,ho,_⟩:=zbY hs
   obtain⟨hq,f1,f2,f3⟩:=zqe ho h2 hfl
   rw[ho]at hs
   obtain⟨d,c,k1,k2,k3,k4⟩:=zie hq hs
   exact zm9 ho (by rw[ho];exact hq) k3 k2 (fun j=>(zcu ops i).contains j) f1 fuel listed st f2 f3 (by simpa using h1) k1 (ih t _ fl _ hput h3 (by omega) k4)
  |r i t=>
   simp only[zq9,Bool.and_eq_true]at h
   obtain⟨⟨h1,h2⟩,h3⟩:=h
   simp only[zmK]at hs
   simp only[zdK]at hd
   obtain⟨hr,hs⟩:=hs
   obtain⟨o,ho,_⟩:=zbY hs
   obtain⟨hq,f1,f2,f3⟩:=zqf ho h2
   rw[ho]at hs hr
   obtain⟨d,c,k1,k2,k3,k4⟩:=zie hq hs
   exact zna ho (by rw[ho];exact hq) k3 k2 (fun j=>(zcu ops i).contains j) f1 fuel listed st f2 f3 (by simpa using h1) (RpC.all hr k1) (ih t _ fl _ hput h3 (by omega) k4)
  |br l=>
   simp only[zq9,Bool.and_eq_true]at h
   obtain⟨h0,h⟩:=h
   simp only[zmK]at hs
   simp only[zdK]at hd
   refine⟨fun hr=>?_,fun i hi o ho=>?_⟩
   ·rw[hr]at h0;simp at h0
   ·obtain⟨t',h1,h2,h3⟩:=zmL l listed fl _ st h hs i hi
    rw[ho]at h3
    cases hq:zcG am T o with
    |true=>
     have hqk:((ops[i]?).map (zcG am T)).getD false=true:=by rw[ho];exact hq
     simp only[hqk]
     obtain⟨d,c,k1,k2,k3,k4⟩:=zie hq h3
     unfold zca
     simp only[if_true]
     refine⟨d,c,k1,k2,k3,ih t' _ _ _ (fun e=>?_) h1 (by omega) k4⟩
     simp only[Bool.and_eq_true]at e
     exact hput e.1
    |false=>
     obtain⟨o',ho',h3'⟩:=zbY h3
     obtain rfl:=Option.some.inj ho'
     obtain⟨b,hb,g1,g2⟩:=zbY h3'
     have hqk:((ops[i]?).map (zcG am T)).getD false=false:=by rw[ho];exact hq
     have hcalm:zzV am T ops i=zq5 o.op:=by unfold zzV;rw[ho];simp only[hq,Bool.false_or]
     rw[hcalm]at h1
     simp only[hqk]
     unfold zca
     simp only[Bool.false_eq_true,if_false,hb]
     cases b with
     |true=>
      have hsym:=zod hT o (g1 rfl)
      cases hal:zq5 o.op with
      |false=>
       rw[hal,Bool.and_false]at h1
       refine zcx (fr:=st.fr) (fr2:=st.fr) (K:=fun s=>zmK P G T N tag0 am ops t' K s) (fun _ _=>rfl) ?_ hsym
       rintro s s2 hK ⟨e,H',n',rfl,rfl⟩
       exact ih t' _ false _ (fun e=>by cases e) h1 (by omega) hK
      |true=>
       obtain⟨dst,op,type,pos,after,guard⟩:=o
       cases op<;>simp only[zq5,Bool.false_eq_true]at hal
       rename_i e
       unfold zcW at hsym ⊢
       simp only[zbn]at hsym ⊢
       refine⟨hsym.1,?_⟩
       have h':=hsym.2
       split at h'
       ·refine ih t' _ _ _ (fun e=>?_) h1 (by omega) h'
        simp only[Bool.and_eq_true]at e
        intro id hid
        simp only[St.new]at hid ⊢
        have hne:id≠(tag0+dst.getD 0,st.n):=by rintro rfl;simp only at hid;omega
        simp only[zaI,hne,if_false]
        have hH:(St.put st dst (.ptr (tag0+dst.getD 0,st.n) 0)).H=st.H:=by cases dst<;>rfl
        exact hfl e.1 id (by omega)
       ·exact h'
     |false=>
      obtain⟨e1,e2⟩:=g2 rfl
      refine⟨e1,ih t' _ _ _ (fun e=>?_) h1 (by omega) e2⟩
      simp only[Bool.and_eq_true]at e
      exact hput e.1
theorem zwR (hm:P.follows .mixedOrders=true)(hT:zai P G T){Q:Exit→St→Prop}{id:Nat}(t:Tv)(ht:zq9 am T ops t (Array.replicate ops.size false) true=true)(hd:decide (zdK t≤ops.size)=true)(h:zmK P G T N tag0 am ops t (Q .normal) st):W P G N (.region id ops true) Q st:=by
 intro a w L F hr
 refine wp_region_any hm ?_
 have hr':Rel G N st a {w with drawn:=w.drawn+1} L F:=⟨hr.ok.heap rfl,hr.size,fun t=>(hr.fr t).ext (zhh (w:=w) (w':={w with drawn:=w.drawn+1}) rfl),hr.nd⟩
 have hst:zfv st w L F st {w with drawn:=w.drawn+1} L F:=⟨fun _ h=>h,fun _ _=>rfl,fun _ _ h=>h,Nat.le_refl _,fun _ _ _=>rfl,fun _ _ _ _=>rfl,fun _ cs T fr _ h=>⟨cs,T,fr,h,Nat.le_refl _⟩,fun _ _ h=> .inl h,fun _ _ h=> .inr h,rfl,rfl,rfl,Nat.le_succ _⟩
 have hfr:zfr st:=fun id hid=>by
  cases ho:st.H id with
  |none=>rfl
  |some o=>exact absurd (hr.ok.live _ o ho).1 (Nat.not_lt.2 hid)
 exact zjJ hT (Q':=fun e a' w'=>Sat G N st w L F (Q e) a' w') _ _ st a _ L F hr' (zvI hT ops.size t _ true st (fun _=>hfr) ht (of_decide_eq_true hd) h) (fun _ _ hs=>hs.trans hst)
end
def zf1 (P:Program)(G:Nat→List FD)(T:Tbl)(N tag0:Nat)(am:Nat→Bool)(ops:Array Oper)(t:Tv)(st:St)[k:Kn St]:Prop:=zmK P G T N tag0 am ops t k.run st
def zgW (P:Program)(G:Nat→List FD)(T:Tbl)(N tag0:Nat)(am:Nat→Bool)(ops:Array Oper)(l:List (Nat×Tv))(st:St)[k:Kn St]:Prop:=zn0 P G T N tag0 am ops l k.run st
section
variable {P:Program} {G:Nat→List FD} {T:Tbl} {N tag0:Nat} {am:Nat→Bool} {ops:Array Oper} {st:St} {k:St→Prop} {t:Tv} {l:List (Nat×Tv)} {i:Nat} {o:Oper}
@[go_sem] theorem zCP:@zf1 P G T N tag0 am ops .leaf st ⟨k⟩=k st:=by unfold zf1;rw[zmK];rfl
@[go_sem] theorem zIE:@zf1 P G T N tag0 am ops (.q i t) st ⟨k⟩=@zeE P G T N tag0 am ops ops[i]? st ⟨fun st=>@zf1 P G T N tag0 am ops t st ⟨k⟩⟩:=by unfold zf1 zeE;rw[zmK];rfl
@[go_sem] theorem zIF:@zf1 P G T N tag0 am ops (.r i t) st ⟨k⟩=@zaA (RpC st G ops[i]?) ⟨@zeE P G T N tag0 am ops ops[i]? st ⟨fun st=>@zf1 P G T N tag0 am ops t st ⟨k⟩⟩⟩:=by unfold zf1 zeE zaA;rw[zmK];rfl
@[go_sem] theorem zGn:@zf1 P G T N tag0 am ops (.br l) st ⟨k⟩=@zgW P G T N tag0 am ops l st ⟨k⟩:=by unfold zf1 zgW;rw[zmK]
@[go_sem] theorem zCQ:@zgW P G T N tag0 am ops [] st ⟨k⟩=True:=by unfold zgW;rw[zn0]
@[go_sem] theorem zA3:@zgW P G T N tag0 am ops ((i,t)::l) st ⟨k⟩=(@zeE P G T N tag0 am ops ops[i]? st ⟨fun st=>@zf1 P G T N tag0 am ops t st ⟨k⟩⟩∧@zgW P G T N tag0 am ops l st ⟨k⟩):=by
 unfold zgW zeE;rw[zn0];rfl
@[go_sem] theorem zIB {dst:Option Tmp}{t:TypeId}{x:Operand}{ty:TypeId}{pos:String}{after:Array Edge}{guard:Option (Nat×Bool)}:RpC st G (some ⟨dst,.load t x,ty,pos,after,guard⟩)=∃xs,st.ev G x= .rp xs:=rfl
@[go_sem] theorem zEF {xs:List FD}:(∃ys,D.rp xs= .rp ys)=True:=eq_true ⟨xs,rfl⟩
theorem zch (hm:P.follows .mixedOrders=true)(hT:zai P G T){q:Exit→St→Prop}{id:Nat}(tag0:Nat)(am:Nat→Bool)(t:Tv)
  (ht:zq9 am T ops t (Array.replicate ops.size false) true=true)(hd:decide (zdK t≤ops.size)=true)(h:@zf1 P G T N tag0 am ops t st ⟨q .normal⟩):@WK P G N (.region id ops true) st ⟨q⟩:=by
 unfold WK;unfold zf1 at h;exact zwR hm hT t ht hd h
theorem zn9 {c:Code}{st':St}{q:Exit→St→Prop}(h:zeh G N st st')(h2:@WK P G N c st' ⟨q⟩):@WK P G N c st ⟨q⟩:=by
 unfold WK at h2 ⊢
 intro a w L F hr
 obtain⟨L2,F2,g1,g2⟩:=h a w L F hr
 exact wp_mono (h2 a w L2 F2 g1) fun e a' w' hs=>hs.trans g2
end
attribute [irreducible] zf1 zgW
end Go.Abs
