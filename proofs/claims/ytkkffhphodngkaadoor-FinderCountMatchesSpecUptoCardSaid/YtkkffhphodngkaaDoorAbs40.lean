import Derived.Test.YtkkffhphodngkaaDoorY5
namespace Go.Abs
open Go
def shI (k:Nat)(id:Id):Id:=(id.1,id.2+k)
mutual
def shD (k:Nat):D→D
 | .ptr id o=> .ptr (shI k id) o
 | .arr id es s len=> .arr (shI k id) es s len
 | .ow id es xs=> .ow (shI k id) es xs
 | .fn f caps=> .fn f (zqN k caps)
 | .agg ds=> .agg (zqN k ds)
 | .tup ds=> .tup (zqN k ds)
 | .junk=> .junk
 | .fz x=> .fz x
 | .full xs=> .full xs
 | .rp xs=> .rp xs
def zqN (k:Nat):List D→List D
 |[]=>[]
 |d::ds=>shD k d::zqN k ds
end
theorem zf7 {k:Nat}:∀ds:List D,zqN k ds=ds.map (shD k)
 |[]=>rfl
 |d::ds=>by rw[zqN,zf7 ds];rfl
section
variable {w:World} {L L2:Loc} {F:Nat→Nat→Prop} {U U2:Id→Prop} {k:Nat}
mutual
theorem zaj.shift (hL:∀id,U id→L2 (shI k id)=L id)(hU:∀id,U id→U2 (shI k id)):∀(d:D) (v:Value),zaj w L F U d v→zaj w L2 F U2 (shD k d) v
 | .junk,_,_=>by simp[shD,zaj]
 | .fz x,v,h=>by simpa only[shD,zaj]using h
 | .full xs,v,h=>by simpa only[shD,zaj]using h
 | .rp xs,v,h=>by simpa only[shD,zaj]using h
 | .ptr id o,v,h=>by
  simp only[shD,zaj]at h ⊢
  rw[hL id h.1];exact⟨hU id h.1,h.2⟩
 | .arr id es s len,v,h=>by
  simp only[shD,zaj]at h ⊢
  rw[hL id h.1];exact⟨hU id h.1,h.2⟩
 | .ow id es xs,v,h=>by
  simp only[shD,zaj]at h ⊢
  rw[hL id h.1];exact⟨hU id h.1,h.2⟩
 | .fn f caps,v,h=>by
  simp only[shD,zaj]at h ⊢
  obtain⟨vs,h1,h2⟩:=h
  exact⟨vs,h1,zak.shift hL hU _ _ h2⟩
 | .agg ds,v,h=>by
  simp only[shD,zaj]at h ⊢
  obtain⟨vs,h1,h2⟩:=h
  exact⟨vs,h1,zak.shift hL hU _ _ h2⟩
 | .tup ds,v,h=>by
  simp only[shD,zaj]at h ⊢
  obtain⟨vs,h1,h2⟩:=h
  exact⟨vs,h1,zak.shift hL hU _ _ h2⟩
theorem zak.shift (hL:∀id,U id→L2 (shI k id)=L id)(hU:∀id,U id→U2 (shI k id)):∀(ds:List D) (vs:List Value),zak w L F U ds vs→zak w L2 F U2 (zqN k ds) vs
 |[],[],_=>by simp[zqN,zak]
 |d::ds,v::vs,h=>by
  simp only[zqN,zak]at h ⊢
  exact⟨zaj.shift hL hU d v h.1,zak.shift hL hU ds vs h.2⟩
 |[],_::_,h=>h.elim
 |_::_,[],h=>h.elim
end
end
def shO (k:Nat)(o:O):O:={o with cells:=zqN k o.cells}
def shH (k:Nat)(H H1:zau):zau:=fun id=>if k≤id.2 then(H1 (id.1,id.2-k)).map (shO k)else H id
section
variable {P:Program} {G:Nat→List FD}
theorem zqZ {f:FuncId}{args:List D}{xs:List FD}{H:zau}{n:Nat}{Q:D→zau→Nat→Prop}(ha:D.toFDs args=some xs)(h:zay P G f (xs.map .fz) H0 0 Q):
  zay P G f args H n (fun d H' n'=>∃d1 H1 n1,Q d1 H1 n1∧d=shD n d1∧H'=shH n H H1∧n'=n+n1):=by
 refine⟨h.1,fun w L F vs hok hvs=>?_⟩
 refine(h.2 w L F vs ⟨hok.fb,(fun _ _ h=>nomatch h),(fun _ _ _ _ h=>nomatch h),hok.glob⟩ (hvs.of_toFDs ha)).mono fun e w' he=>?_
 obtain⟨v,d1,H1,n1,L1,F1,rfl,hQ,g1,g2,g3⟩:=he
 have nb:∀b,¬Blk H0 L b:=by rintro b ⟨_,_,h,_⟩;cases h
 have no:∀b k,¬Own H0 L b k:=by rintro b k ⟨_,_,h,_⟩;cases h
 obtain⟨L2,hL2⟩:∃L2:Loc,L2=fun id=>if n≤id.2 then L1 (id.1,id.2-n)else L id:=⟨_,rfl⟩
 have hLs:∀id,L2 (shI n id)=L1 id:=fun id=>by
  rw[hL2]
  exact(if_pos (show n≤(shI n id).2 by unfold shI;simp)).trans (by unfold shI;simp)
 have hLo:∀id,Ub n id→L2 id=L id:=fun id hid=>by
  rw[hL2];simp only;rw[if_neg (by unfold Ub at hid;omega)]
 have hUs:∀id,Ub n1 id→Ub (n+n1) (shI n id):=fun id hid=>by unfold Ub shI at*;simp only;omega
 have ext:Ext w L F (Ub n) w' L2 F1 (Ub (n+n1)):=⟨fun id hid=>by unfold Ub at*;omega,hLo,g3.f,fun b k hb=>g3.keepc b k (hok.fb b k hb) (no b k),g3.size,g3.shape⟩
 have cas:∀id o,shH n H H1 id=some o→(∃o1,n≤id.2∧H1 (id.1,id.2-n)=some o1∧o=shO n o1)∨(id.2<n∧H id=some o):=fun id o hid=>by
  unfold shH at hid
  split at hid
  ·rename_i hn
   simp only[Option.map_eq_some_iff]at hid
   obtain⟨o1,a,b⟩:=hid
   exact .inl ⟨o1,hn,a,b.symm⟩
  ·exact .inr ⟨by omega,hid⟩
 have idn:∀id:Id,n≤id.2→shI n (id.1,id.2-n)=id:=fun id hid=>by
  unfold shI;simp only;rw[Nat.sub_add_cancel hid]
 have newb:∀id o1,H1 id=some o1→(L1 id).3=false→w.heap.size≤(L1 id).1:=fun id o1 h1 h2=>by
  rcases g3.bnew (L1 id).1 (L1 id).2 ⟨id,o1,h1,h2,rfl,Nat.le_refl _⟩with h|h
  ·exact h
  ·exact absurd h (no _ _)
 refine⟨v,shD n d1,shH n H H1,n+n1,L2,F1,rfl,⟨d1,H1,n1,hQ,rfl,rfl,rfl⟩,⟨g1.fb,fun id o hid=>?_,fun id id' o o' h1 h2 v1 v2 e=>?_,g1.glob⟩,g2.shift (fun id _=>hLs id) hUs,?_⟩
 ·rcases cas id o hid with⟨o1,hn,h1,rfl⟩|⟨hn,h1⟩
  ·obtain⟨a,b⟩:=g1.live _ _ h1
   have hid2:=idn id hn
   refine⟨by rw[←hid2];exact hUs _ a,?_⟩
   have hLi:L2 id=L1 (id.1,id.2-n):=by rw[←hLs,hid2]
   unfold zbi at b ⊢
   rw[hLi]
   cases hv:(L1 (id.1,id.2-n)).3
   ·simp only[hv,Bool.false_eq_true,if_false]at b ⊢
    obtain⟨b1,cs,T,b2,b3,b4⟩:=b
    refine⟨b1,cs,T,b2,by simpa[shO,zf7]using b3,fun j hj=>?_⟩
    have hj':j<o1.cells.length:=by simpa[shO,zf7]using hj
    obtain⟨u,c1,c2⟩:=b4 j hj'
    refine⟨u,c1,?_⟩
    have hg:(shO n o1).cells.getD j .junk=shD n (o1.cells.getD j .junk):=by
     simp only[shO,zf7,List.getD_eq_getElem?_getD,List.getElem?_map,List.getElem?_eq_getElem hj',Option.map_some,Option.getD_some]
    rw[hg]
    exact c2.shift (fun id _=>hLs id) hUs
   ·simp only[hv,if_true]at b ⊢
    exact⟨by simp[shO,b.1,zqN],b.2⟩
  ·obtain⟨a,b⟩:=hok.live id o h1
   refine⟨ext.u _ a,b.ext ext a fun hv=>?_⟩
   have hlt:=hok.blk_lt h1 hv
   refine⟨g3.keep _ hlt (nb _),fun k hk hF=>?_⟩
   rcases g3.fnew _ _ hF with h|h|h
   ·exact(zar b hv).1 k hk h
   ·omega
   ·exact no _ _ h
 ·rcases cas id o h1 with⟨o1,hn,e1,rfl⟩|⟨hn,e1⟩<;>rcases cas id' o' h2 with⟨o2,hn',e2,rfl⟩|⟨hn',e2⟩
  ·have i1:=idn id hn
   have i2:=idn id' hn'
   have l1:L2 id=L1 (id.1,id.2-n):=by rw[←hLs,i1]
   have l2:L2 id'=L1 (id'.1,id'.2-n):=by rw[←hLs,i2]
   rw[l1]at v1 e
   rw[l2]at v2 e
   have:=g1.inj _ _ _ _ e1 e2 v1 v2 e
   rw[←i1,←i2,this]
  ·have i1:=idn id hn
   have l1:L2 id=L1 (id.1,id.2-n):=by rw[←hLs,i1]
   have l2:=hLo id' hn'
   rw[l1]at v1 e
   rw[l2]at v2 e
   have a1:=newb _ _ e1 v1
   have a2:=hok.blk_lt e2 v2
   omega
  ·have i2:=idn id' hn'
   have l2:L2 id'=L1 (id'.1,id'.2-n):=by rw[←hLs,i2]
   have l1:=hLo id hn
   rw[l1]at v1 e
   rw[l2]at v2 e
   have a1:=newb _ _ e2 v2
   have a2:=hok.blk_lt e1 v1
   omega
  ·rw[hLo id hn]at v1 e
   rw[hLo id' hn']at v2 e
   exact hok.inj _ _ _ _ e1 e2 v1 v2 e
 ·refine⟨fun id hid=>by unfold Ub at*;omega,hLo,g3.f,g3.size,fun b hb _=>g3.keep b hb (nb b),fun b k hb _=>g3.keepc b k hb (no b k),g3.shape,fun b k hb=>?_,fun b k hb=>?_,g3.os,g3.tape,g3.output,g3.drawn⟩
  ·rcases g3.fnew b k hb with h|h|h
   ·exact .inl h
   ·exact .inr (.inl h)
   ·exact absurd h (no b k)
  ·obtain⟨id,o,h1,h2,rfl,h4⟩:=hb
   rcases cas id o h1 with⟨o1,hn,e1,rfl⟩|⟨hn,e1⟩
   ·have i1:=idn id hn
    have l1:L2 id=L1 (id.1,id.2-n):=by rw[←hLs,i1]
    rw[l1]at h2 ⊢
    exact .inl (newb _ _ e1 h2)
   ·rw[hLo id hn]at h2 h4 ⊢
    exact .inr ⟨id,o,e1,h2,rfl,h4⟩
end
end Go.Abs
namespace Go.Abs
open Go
section
variable {P:Program} {G:Nat→List FD}
theorem zhG {f:FuncId}{args:List D}{H:zau}{n:Nat}{R:D→zau→Nat→Prop}(hc:zam P f)(h:(∀id,n≤id.2→H id=none)→zay P G f args H n R):zay P G f args H n R:=by
 refine⟨hc,fun w L F vs hok hvs=>(h fun id hid=>?_).2 w L F vs hok hvs⟩
 cases ho:H id with
 |none=>rfl
 |some o=>have:=(hok.live id o ho).1;unfold Ub at this;omega
theorem ztA {N:Nat}{st:St}{l:List (Nat×D)}{H':zau}{n:Nat}(hf:zqH st.fr l)(hh:∀id o,H' id=some o→st.H id=some o)(hn:st.n≤n):zfv G N st ⟨frL l,H',n⟩:=zeT hf hh hn
theorem zcr {f:FuncId}{args:List D}{H:zau}{n:Nat}{R:D→zau→Nat→Prop}{d:D}(hc:zam P f)
  (h:(∀id,n≤id.2→H id=none)→zay P G f args H n (fun d' H' n'=>d'=d∧n≤n'∧∀id,id.2<n→H' id=H id))(hR:∀n',n≤n'→R d H n'):zay P G f args H n R:=by
 refine zhG hc fun hfr=>zcs (h hfr) ?_
 rintro d' H' n' ⟨rfl,h1,h2⟩
 refine⟨d',H,n',ztA ?_ (fun id o ho=>?_) (Nat.le_refl _),hR n' h1⟩
 ·exact⟨rfl,trivial⟩
 ·rcases Nat.lt_or_ge id.2 n with h3|h3
  ·exact(h2 id h3).trans ho
  ·rw[hfr id h3]at ho;cases ho
end
theorem zib {n:Nat}{f:zau}:∀{l:List (Id×Option O)},(∀p∈l,n≤p.1.2)→∀id,id.2<n→hpX l f id=f id
 |[],_,_,_=>rfl
 |(i,o)::l,h,id,hid=>by
  have h1:=h (i,o) (by simp)
  simp only[hpX]
  rw[if_neg (by rintro rfl;simp only at h1;omega)]
  exact zib (fun p hp=>h p (by simp[hp])) id hid
end Go.Abs
