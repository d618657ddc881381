/- several texts of this proof in one; no conditions -/
import Derived.Test.YtalbdmcklgglbaaDoorAT
import Derived.Test.YtalbdmcklgglbaaDoorQ1
import Derived.Test.YtalbdmcklgglbaaDoorY5
set_option maxRecDepth 100000
set_option maxHeartbeats 1000000
set_option linter.unusedSimpArgs false
namespace Go.Proofs.YtalbdmcklgglbaaDoor
open Go Go.Abs Go.Proofs
def Q8:Tbl:=Q7.add 73 (sp1 zcn fun _=>True)
attribute [go_sem] Q8
theorem hQ8:zan Tryd.prog G0 Q8:=by
 refine zbY zFr hQ7 fun k _ hs=>?_
 refine zaj (N:=16) hm hQ7 73000 (lst []) zFr Tryd.func73 rfl rfl (by simp) (by kernel_rfl) ?_
 repeat'(first|refine zaB.d (fun _=>?_) (fun _=>?_)|refine rq fun _=>?_|simp only[go_sem,Tryd.f73, *])
 all_goals(unfold zcn;first|rw[if_pos (by omega)]|rw[if_neg (by omega),if_pos (by omega)]|rw[if_neg (by omega),if_neg (by omega),if_pos (by omega)]|rw[if_neg (by omega),if_neg (by omega),if_neg (by omega)])
def Q9:Tbl:=Q8.add 74 (sp1 (fun f:Abs.zac=>decide (f.kind=8∨f.kind=9)) fun _=>True)
attribute [go_sem] Q9
theorem hQ9:zan Tryd.prog G0 Q9:=by
 refine zbY zFs hQ8 fun f _ hs=>?_
 refine zaj (N:=11) hm hQ8 74000 (lst []) zFs Tryd.func74 rfl rfl (by simp) (by kernel_rfl) ?_
 repeat'(first|refine zaB.d (fun _=>?_) (fun _=>?_)|refine rq fun _=>?_|simp only[go_sem,Tryd.f74, *])
theorem f72 {c a:Int}{id:Abs.Id}{H:zas}{n:Nat}{R:D→zas→Nat→Prop}(hid:id.2<n)(ho:H id=some ⟨[.fz (.i .i64 a)],true,false⟩)(hR:∀n',n≤n'→R (.agg [.fz (.i .i64 c),.fz (.i .i64 a)]) H n'):
  zav Tryd.prog G0 72 [.fz (.i .i64 c),.ptr id 0] H n R:=by
 refine zb3 zFq (fun hfr=>?_) hR
 have hne:id≠(72003,n):=by rintro rfl;simp at hid
 have hne':(id=(72003,n))=False:=eq_false hne
 obtain⟨Q,hQ⟩:∃Q:D→zas→Nat→Prop,Q=(fun d' H' n'=>d'= .agg [.fz (.i .i64 c),.fz (.i .i64 a)]∧n≤n'∧∀id,id.2<n→H' id=H id):=⟨_,rfl⟩
 rw[←hQ]
 have e:H=hpX [] H:=rfl
 rw[e]
 refine zaj (N:=7) hm hQ9 72000 (lst []) zFq Tryd.func72 rfl rfl (by simp) (by kernel_rfl) ?_
 simp only[go_sem]
 rw[if_neg hne,ho]
 simp only[go_sem,Tryd.f72]
 rw[hQ]
 refine⟨?_,by omega,fun id hid=>zmK (n:=n) (by intro p hp;simp at hp;rcases hp with rfl|rfl<;>simp) id hid⟩
 simp only[go_sem]
end Go.Proofs.YtalbdmcklgglbaaDoor
namespace Go.Proofs.YtalbdmcklgglbaaDoor
open Go Go.Abs Go.Proofs
attribute [local irreducible] zai
def HHc (op:Bool)(n:Nat):List (Abs.Id×Option O):=
  [((62005,3),some ⟨[.fz (.i .i64 n)],true,false⟩),((62003,1),some ⟨[.fz (.b op)],true,false⟩),
   ((62006,4),some ⟨[.fn 71 [.ptr (62005,3) 0,.ptr (62003,1) 0,.ptr (62006,4) 0]],true,false⟩),
   ((62004,2),some ⟨[.fz (.i .i64 0),.fz (.i .i64 0)],true,false⟩)]
def zg3 (x:zh9):D:= .agg [.fz (.i .i64 x.code),.fz (.i .i64 x.index)]
theorem zvy {op:Bool}{f:Abs.zac}{d:Int}{n:Nat}(h:zda op f d n≠0):chk op f d n=(⟨zda op f d n,n⟩,n+1):=by rw[zqq,if_pos h]
theorem zae {s:Str}:(⟨s.l⟩:Str)=s:=rfl
theorem zm7 {s:Str}:s=⟨[]⟩↔s.l=[]:=by cases s;simp
def zkr (id:Abs.Id):List (Abs.Id×Option O)→Prop
 |[]=>True
 |(i,_)::l=>i≠id∧zkr id l
theorem zcz {id:Abs.Id}{X:zas}:∀{l:List (Abs.Id×Option O)},zkr id l→hpX l X id=X id
 |[],_=>rfl
 |(i,o)::l,h=>by simp only[hpX];rw[if_neg (fun e=>h.1 e.symm)];exact zcz h.2
theorem zbZ {op:Bool}{f:Abs.zac}{d p:Int}{n:Nat}(hp:za2 op f=p):zda op f d n=if 200<(n:Int)+1∨40<d then 1 else if p<0 then 4
  else if¬((f.subs.length:Int)=p∧(f.kind=2→(f.words.length:Int)≤3)∧(f.kind=3→(f.words.length:Int)=2)∧(f.kind≠2→f.kind≠3→(f.words.length:Int)=0))then 9
  else if(f.kind=2∨f.kind=8∨f.kind=9∨f.kind=10)∧zai f.name=false then 10 else if¬(f.kind=2∨f.kind=8∨f.kind=9∨f.kind=10)∧¬f.name.l=[]then 5 else if f.words.all zai=false then 10 else 0:=by
 have e1:(200<n+1∨40<d)=(200<(n:Int)+1∨40<d):=propext (by omega)
 have e2:(zdw f=true)=((f.kind=2→(f.words.length:Int)≤3)∧(f.kind=3→(f.words.length:Int)=2)∧(f.kind≠2→f.kind≠3→(f.words.length:Int)=0)):=propext (by
  unfold zdw
  by_cases h2:f.kind=2
  ·rw[if_pos h2,decide_eq_true_eq];omega
  ·rw[if_neg h2]
   by_cases h3:f.kind=3
   ·rw[if_pos h3,decide_eq_true_eq];omega
   ·rw[if_neg h3,decide_eq_true_eq];omega)
 have e3:(f.name≠⟨[]⟩)=¬f.name.l=[]:=propext (by rw[Ne,zm7])
 unfold zda
 simp only[hp,e1,e2,e3,named,decide_eq_true_eq,decide_eq_false_iff_not]
theorem zu8:zcn 10= -1:=by decide
theorem zzJ:zcn 2=0:=by decide
theorem zzK:zcn 3=0:=by decide
theorem zhK (op:Bool)(f:Abs.zac):(f.kind=2∧za2 op f=0)∨(f.kind=3∧za2 op f=0)∨(f.kind=10∧op=true∧za2 op f=0)∨(f.kind=10∧op=false∧za2 op f= -1)∨(¬f.kind=2∧¬f.kind=3∧¬f.kind=10∧za2 op f=zcn f.kind):=by
 unfold za2
 by_cases h2:f.kind=2
 ·exact .inl ⟨h2,by rw[if_neg (by omega),h2];rfl⟩
 by_cases h3:f.kind=3
 ·exact .inr (.inl ⟨h3,by rw[if_neg (by omega),h3];rfl⟩)
 by_cases h10:f.kind=10
 ·cases op
  ·exact .inr (.inr (.inr (.inl ⟨h10,rfl,by rw[if_neg (by simp),h10];rfl⟩)))
  ·exact .inr (.inr (.inl ⟨h10,rfl,by rw[if_pos ⟨h10,rfl⟩]⟩))
 ·exact .inr (.inr (.inr (.inr ⟨h2,h3,h10,by rw[if_neg (fun h=>h10 h.1)]⟩)))
theorem zfd {P:Program}{G:Nat→List FD}{f:FuncId}{args:List D}{H X:zas}{hl:List (Abs.Id×Option O)}{n n':Nat}{R:D→zas→Nat→Prop}(hf:zpN (frL (zg8 0 args)) (zg8 0 args))(hh:zfW H hl)(hx:∀id o,X id=some o→H id=some o)(hn:n≤n')(h:zav P G f args (hpX hl X) n' R):zav P G f args H n R:=
 zcV rfl (zb9 hf (zfW.getX hx hh) hn) h
theorem zex {P:Program}{G:Nat→List FD}{f:FuncId}{d:D}{x:FD}{rest:List D}{H:zas}{n:Nat}{R:D→zas→Nat→Prop}(ha:D.toFDs [d]=some [x])(h:zav P G f (.fz x::rest) H n R):zav P G f (d::rest) H n R:=by
 refine⟨h.1,fun w L F vs hok hvs=>h.2 w L F vs hok ?_⟩
 cases vs with
 |nil=>simp[zap]at hvs
 |cons v vs=>
  simp only[zap]at hvs ⊢
  have h1:zap w L F (Ub n) [d] [v]:=by simp only[zap];exact⟨hvs.1,trivial⟩
  have h2:zap w L F (Ub n) ([x].map .fz) [v]:=h1.of_toFDs ha
  simp only[List.map_cons,List.map_nil,zap]at h2
  exact⟨h2.1,hvs.2⟩
structure Kp (p:Prop):Prop where
 out:p
structure zxU (n0 len:Nat)(p:Nat→Nat→Prop) where
 j:Nat
 n:Nat
 m:Nat
 hj:j≤len
 hm:n0≤m
 hp:p j n
theorem f71 (op:Bool):∀(k:Nat) (f:Abs.zac) (d:Int) (n m:Nat) (X:zas),f.size≤k→(enc f).Wf→0≤d→d≤41→n≤200→4<m→
  (∀id o,X id=some o→id.2<m∧id.1≠62003∧id.1≠62004∧id.1≠62005∧id.1≠62006)→
  zav Tryd.prog G0 71 [.fz (enc f),.fz (.i .i64 d),.ptr (62005,3) 0,.ptr (62003,1) 0,.ptr (62006,4) 0] (hpX (HHc op n) X) m
   (fun d' H' n'=>d'=zg3 (chk op f d n).1∧m≤n'∧zfW H' (HHc op (chk op f d n).2)∧∀id o,X id=some o→H' id=some o):=by
 intro k
 induction k with
 |zero=>intro f d n m X hs;have:=f.size_pos;omega
 |succ k ih=>
  intro f d n m X hs hw hd0 hd hn hm' hX
  obtain⟨Q,hQ⟩:∃Q:D→zas→Nat→Prop,Q=(fun d' H' n'=>d'=zg3 (chk op f d n).1∧m≤n'∧zfW H' (HHc op (chk op f d n).2)∧∀id o,X id=some o→H' id=some o):=⟨_,rfl⟩
  rw[←hQ]
  have hbad:∀{c:Int} {d':D} {H':zas} {n':Nat},zda op f d n=c→c≠0→d'=zg3 ⟨c,n⟩→m≤n'→zfW H' (HHc op (n+1))→(∀id o,X id=some o→H' id=some o)→Q d' H' n':=fun h1 h2 h3 h4 h5 h6=>by
   rw[hQ]
   have e:chk op f d n=(⟨_,n⟩,n+1):=(zvy (by rw[h1];exact h2)).trans (by rw[h1])
   rw[e]
   exact⟨h3,h4,h5,h6⟩
  have hX':∀{l:List (Abs.Id×Option O)} (id o),X id=some o→(id.2<m∧id.1≠62003∧id.1≠62004∧id.1≠62005∧id.1≠62006→zkr id l)→hpX l X id=some o:=fun id o h1 h2=>(zcz (h2 (hX id o h1))).trans h1
  have hwl:f.words.length≤zaZ:=by
   have h:=zbC (by have h:=hw;rw[zbA]at h;exact h) (FD.sl (f.words.map enc)) (by simp)
   have:=zc1 h
   simpa using this
  have hsl:f.subs.length≤zaZ:=by
   have h:=zbC (by have h:=hw;rw[zbA]at h;exact h) (FD.sl (f.subs.map enc)) (by simp)
   have:=zc1 h
   simpa using this
  have hsw:∀g∈f.subs,(enc g).Wf:=fun g hg=>zg0 (zbC (by have h:=hw;rw[zbA]at h;exact h) (FD.sl (f.subs.map enc)) (by simp)) _ (List.mem_map_of_mem hg)
  have hss:∀g∈f.subs,g.size≤k:=fun g hg=>by have:=zac.size_sub hg;omega
  unfold zaZ at hwl hsl
  have kX:=Kp.mk @hX'
  have kQ:=Kp.mk hQ
  have kI:=Kp.mk ih
  have kS:=Kp.mk hsw
  have kZ:=Kp.mk hss
  have kb:=Kp.mk @hbad
  have kx:=Kp.mk hX
  clear hX' hQ ih hsw hss hX hbad
  refine zaj (N:=133) hm hQ9 71000 (lst []) zGA Tryd.func71 rfl rfl (by simp) (by kernel_rfl) ?_
  rcases zhK op f with⟨hk,hp⟩|⟨hk,hp⟩|⟨hk,hop,hp⟩|⟨hk,hop,hp⟩|⟨hk,hk3,hk10,hp⟩
  all_goals repeat'(first|refine zaB.d (fun _=>?_) (fun _=>?_)|refine zaB.i (fun _=>?_) (fun _=>?_)|refine rq fun _=>?_|refine zaD.i (f72 (a:=(n:Int)) (by simp only;omega) (by simp only[go_sem,HHc]) fun n' hn'=>?_)|simp only[go_sem,HHc,zu8,zzJ,zzK,Tryd.f71, *])
  all_goals try
   refine kb.out (by first
    |rw[zbZ hp,if_pos (by omega)]
    |rw[zbZ hp,if_neg (by omega),if_pos (by omega)]
    |rw[zbZ hp,if_neg (by omega),if_neg (by omega),if_pos (by omega)]
    |rw[zbZ hp,if_neg (by omega),if_neg (by omega),if_neg (by omega),if_pos ⟨by omega,by first|assumption|simp_all [zae]⟩]
    |rw[zbZ hp,if_neg (by omega),if_neg (by omega),if_neg (by omega),if_neg (by omega),if_pos ⟨by omega,by assumption⟩]) (by decide) rfl (by omega) (by first|(simp only[go_sem,HHc];done)|(simp only[go_sem,HHc,hop];done)) fun id o ho=>?_
   refine kX.out id o ho fun h1=>?_
   ((repeat'(first|exact trivial|apply And.intro))<;>(rintro rfl;simp only at h1;omega))
  all_goals
   have hN:zda op f d n=if f.words.all zai=false then 10 else 0:=by
    rw[zbZ hp,if_neg (by omega),if_neg (by omega),if_neg (by omega),if_neg (by first|omega|(rintro⟨_,h⟩;simp_all [zae])),if_neg (by first|omega|(rintro⟨_,h⟩;simp_all))]
  all_goals
   refine zar hm hQ9 71000 (lst []) (ι:=zcp f.words.length (m+1+1+1) fun i=>(f.words.take i).all zai=true)
    ⟨fun q=>⟨frL [(1,.fz (.i .i64 d)),(2,.ptr (62005,3) 0),(3,.ptr (62003,1) 0),(4,.ptr (62006,4) 0),(5,.ptr (71005,m) 0),(7,.ptr (71007,m+1) 0),(9,.fn 72 [.ptr (71008,m+1+1) 0]),
      (103,.fz (.sl (f.words.map enc))),(104,.fz (.i .i64 f.words.length)),(105,.fz (.i .i64 q.i))],
     hpX ([((71007,m+1),some ⟨[.fz (.i .i64 0),.fz (.i .i64 0)],true,false⟩),((71008,m+1+1),some ⟨[.fz (.i .i64 n)],true,false⟩),
      ((71005,m),some ⟨[.fz (.i .i64 f.kind),.fz (.s f.name.l),.fz (.sl (f.words.map enc)),.fz (.sl (f.subs.map enc))],true,false⟩)]++HHc op (n+1)) X,q.m⟩,fun q=>f.words.length-q.i⟩
    ⟨0,_,by omega,Nat.le_refl _,by simp⟩ (by kernel_rfl) ?_ ?_
   ·refine zaJ ?_ ?_ (fun id o ho=>?_) ?_
    ·simp only[go_sem, *]
    ·simp only[go_sem,HHc, *]
    ·refine kX.out id o ho fun h1=>?_
     ((repeat'(first|exact trivial|apply And.intro))<;>(rintro rfl;simp only at h1;omega))
    ·simp only[go_sem]
   rintro⟨i,q,hi,hq,hpi⟩
   try simp only at hi hq hpi
   rcases Nat.lt_or_ge i f.words.length with h1|h1
   ·cases hnm:zai f.words[i]with
    |false=>
     have hall:f.words.all zai=false:=List.all_eq_false.2 ⟨_,List.getElem_mem h1,by simp[hnm]⟩
     rw[if_pos hall]at hN
     repeat'(first|refine rq fun _=>?_|refine zaD.i (f72 (a:=(n:Int)) (by simp only;omega) (by simp only[go_sem,HHc]) fun n' hn'=>?_)|simp only[go_sem,HHc,h1,hnm,zae,zaa,Tryd.f71])
     refine kb.out hN (by decide) rfl (by omega) (by simp only[go_sem,HHc]) fun id o ho=>?_
     refine kX.out id o ho fun h1=>?_
     ((repeat'(first|exact trivial|apply And.intro))<;>(rintro rfl;simp only at h1;omega))
    |true=>
     repeat'(first|refine rq fun _=>?_|simp only[go_sem,HHc,h1,hnm,zae,zaa,Tryd.f71])
     refine⟨⟨i+1,q,by omega,by omega,by rw[zdQ h1,hpi,hnm];rfl⟩,by simp only;omega,?_⟩
     refine zaJ ?_ ?_ (fun id o ho=>?_) ?_
     ·simp only[go_sem]
     ·simp only[go_sem,HHc]
     ·refine kX.out id o ho fun h1=>?_
      ((repeat'(first|exact trivial|apply And.intro))<;>(rintro rfl;simp only at h1;omega))
     ·simp only[go_sem]
   ·have h1':¬i<f.words.length:=by omega
    rw[List.take_of_length_le h1]at hpi
    rw[if_neg (by rw[hpi];simp)]at hN
    repeat'(first|refine rq fun _=>?_|simp only[go_sem,HHc,h1',zaa,Tryd.f71])
    have hchk:chk op f d n=zd3 op f.subs (d+1) (n+1):=by rw[zqq,if_neg (by rw[hN];simp)]
    refine zar hm hQ9 71000 (lst []) (ι:=zxU (m+1+1+1) f.subs.length fun j n2=>n2≤200∧zd3 op f.subs (d+1) (n+1)=zd3 op (f.subs.drop j) (d+1) n2)
     ⟨fun q=>⟨frL [(1,.fz (.i .i64 d)),(2,.ptr (62005,3) 0),(3,.ptr (62003,1) 0),(4,.ptr (62006,4) 0),(7,.ptr (71007,m+1) 0),
       (116,.fz (.sl (f.subs.map enc))),(117,.fz (.i .i64 f.subs.length)),(118,.fz (.i .i64 q.j))],
      hpX (((71007,m+1),some ⟨[.fz (.i .i64 0),.fz (.i .i64 0)],true,false⟩)::HHc op q.n) X,q.m⟩,fun q=>f.subs.length-q.j⟩
     ⟨0,n+1,q,by omega,hq,by omega,rfl⟩ (by kernel_rfl) ?_ ?_
    ·refine zaJ ?_ ?_ (fun id o ho=>?_) ?_
     ·simp only[go_sem]
     ·simp only[go_sem,HHc]
     ·refine kX.out id o ho fun h1=>?_
      ((repeat'(first|exact trivial|apply And.intro))<;>(rintro rfl;simp only at h1;omega))
     ·simp only[go_sem]
    rintro⟨j,n2,q2,hj,hq2,hn2,hch⟩
    try simp only at hj hq2 hn2 hch
    rcases Nat.lt_or_ge j f.subs.length with h2|h2
    ·have hmem:=List.getElem_mem h2
     rw[List.drop_eq_getElem_cons h2,zd3]at hch
     have ih2:=kI.out f.subs[j] (d+1) n2 (q2+1) (hpX [((71007,m+1),some ⟨[.fz (.i .i64 0),.fz (.i .i64 0)],true,false⟩)] X) (kZ.out _ hmem) (kS.out _ hmem) (by omega) (by omega) hn2 (by omega) (by
      intro id o ho
      simp only[hpX]at ho
      split at ho
      ·rename_i e;subst e;simp only;omega
      ·have:=kx.out id o ho;omega)
     rw[zbA]at ih2
     repeat'(first|refine rq fun _=>?_|simp only[go_sem,HHc,h2,zaa,Tryd.f71])
     refine zaD.i (zex rfl (zfd (by simp only[go_sem,zg8]) (by simp only[go_sem,HHc]) (fun id o ho=>?_) (Nat.le_refl _) (zaP ih2 ?_)))
     ·simp only[hpX]at ho
      split at ho
      ·rename_i e;subst e;simp only[go_sem];exact Option.some.inj ho
      ·refine kX.out id o ho fun h1=>?_
       ((repeat'(first|exact trivial|apply And.intro))<;>(rintro rfl;simp only at h1;omega))
     rintro d' H' n' ⟨rfl,e1,e2,e3⟩
     have b0:=e3 (71007,m+1) ⟨[.fz (.i .i64 0),.fz (.i .i64 0)],true,false⟩ (by simp only[hpX,if_true])
     have hX2:∀id o,X id=some o→H' id=some o:=fun id o ho=>e3 id o (kX.out id o ho fun h1=>⟨by rintro rfl;simp only at h1;omega,trivial⟩)
     simp only[go_sem,HHc]at e2
     obtain⟨b1,b2,b3,b4⟩:=e2
     rw[show H'=hpX [] H' from rfl]
     by_cases hc:(chk op f.subs[j] (d+1) n2).1.code=0
     ·rw[if_neg (by rw[hc];simp)]at hch
      obtain⟨c1,c2,c3⟩:=zs5 _ _ _ hc
      repeat'(first|refine rq fun _=>?_|simp only[go_sem,HHc,h2,hc,zg3,b0,Tryd.f71])
      refine⟨⟨j+1,_,n'+1,by omega,by omega,c2,hch⟩,by simp only;omega,?_⟩
      refine zaJ ?_ ?_ (fun id o ho=>?_) ?_
      ·simp only[go_sem]
      ·simp only[go_sem,HHc,b0,b1,b2,b3,b4]
      ·have h1:=kx.out id o ho
       refine(zcz ?_).trans (hX2 id o ho)
       ((repeat'(first|exact trivial|apply And.intro))<;>(rintro rfl;simp only at h1;omega))
      ·simp only[go_sem]
     ·rw[if_pos hc]at hch
      repeat'(first|refine rq fun _=>?_|simp only[go_sem,HHc,h2,hc,zg3,b0,Tryd.f71])
      rw[kQ.out,hchk,hch]
      refine⟨rfl,by omega,by simp only[go_sem,HHc,b1,b2,b3,b4],fun id o ho=>?_⟩
      have h1:=kx.out id o ho
      refine(zcz ?_).trans (hX2 id o ho)
      ((repeat'(first|exact trivial|apply And.intro))<;>(rintro rfl;simp only at h1;omega))
    ·have h2':¬j<f.subs.length:=by omega
     rw[List.drop_of_length_le h2,zd3]at hch
     repeat'(first|refine rq fun _=>?_|simp only[go_sem,HHc,h2',zg3,Tryd.f71])
     rw[kQ.out,hchk,hch]
     refine⟨rfl,by omega,by simp only[go_sem,HHc],fun id o ho=>kX.out id o ho fun h1=>?_⟩
     ((repeat'(first|exact trivial|apply And.intro))<;>(rintro rfl;simp only at h1;omega))
end Go.Proofs.YtalbdmcklgglbaaDoor
namespace Go.Proofs.YtalbdmcklgglbaaDoor
open Go Go.Abs Go.Proofs
def Q10:Tbl:=Q9.add 62 (sp2 (fun(f:Abs.zac) (op:Bool)=>zaL op f) fun _ _=>True)
attribute [go_sem] Q10
theorem zDB:zan Tryd.prog G0 Q10:=by
 refine zbr zFi hQ9 fun f op _ hf _=>?_
 refine zaj (N:=11) hm hQ9 62000 (lst []) zFi Tryd.func62 rfl rfl (by simp) (by kernel_rfl) ?_
 have h:=f71 op f.size f 1 0 5 (fun _=>none) (Nat.le_refl _) hf (by omega) (by omega) (by omega) (by omega) (fun id o ho=>nomatch ho)
 rw[zbA]at h
 repeat'(first|refine rq fun _=>?_|simp only[go_sem,Tryd.f62])
 refine zaD.i (zex rfl (zfd (by simp only[go_sem,zg8]) (by simp only[go_sem,HHc]) (fun id o ho=>?_) (Nat.le_refl _) (zaP h ?_)))
 ·cases ho
 rintro d' H' n' ⟨rfl,e1,e2,e3⟩
 simp only[go_sem,HHc]at e2
 obtain⟨b1,b2,b3,b4⟩:=e2
 rw[show H'=hpX [] H' from rfl]
 repeat'(first|refine rq fun _=>?_|simp only[go_sem,HHc,zg3,b4,zaL,Tryd.f62])
def Q11:Tbl:=Q10.add 33 (sp1 (fun(f:Abs.zac)=>zaL false f) fun _=>True)
attribute [go_sem] Q11
theorem zDC:zan Tryd.prog G0 Q11:=by
 refine zbY zE0 zDB fun f _ hf=>?_
 refine zaj (N:=5) hm zDB 33000 (lst []) zE0 Tryd.func33 rfl rfl (by simp) (by kernel_rfl) ?_
 repeat'(first|refine rq fun _=>?_|simp only[go_sem,Tryd.f33])
end Go.Proofs.YtalbdmcklgglbaaDoor
namespace Go.Proofs.YtalbdmcklgglbaaDoor
open Go Go.Abs Go.Proofs
def Q12:Tbl:=Q11.add 78 (sp1 zcn fun _=>True)
attribute [go_sem] Q12
theorem zDD:zan Tryd.prog G0 Q12:=by
 refine zbY zFu zDC fun k _ hs=>?_
 refine zaj (N:=13) hm zDC 78000 (lst []) zFu Tryd.func78 rfl rfl (by simp) (by kernel_rfl) ?_
 by_cases h:1≤k∧k≤9
 ·have hk:k=1∨k=2∨k=3∨k=4∨k=5∨k=6∨k=7∨k=8∨k=9:=by omega
  rcases hk with rfl|rfl|rfl|rfl|rfl|rfl|rfl|rfl|rfl
  all_goals
   repeat'(first|refine rq fun _=>?_|simp only[go_sem,Tryd.f78,zcn])
 ·have e:zcn k= -1:=by unfold zcn;rw[if_neg (by omega),if_neg (by omega),if_neg (by omega)]
  repeat'(first|refine zaB.d (fun _=>?_) (fun _=>?_)|refine rq fun _=>?_|simp only[go_sem,Tryd.f78,e, *])
  all_goals(exfalso;omega)
def Q13:Tbl:=Q12.add 54 (sp1 zax fun _=>True)
attribute [go_sem] Q13
theorem zBK:zan Tryd.prog G0 Q13:=by
 refine zbY zFc zDD fun k _ hs=>?_
 refine zaj (N:=13) hm zDD 54000 (lst []) zFc Tryd.func54 rfl rfl (by simp) (by kernel_rfl) ?_
 by_cases h:1≤k∧k≤6
 ·have hk:k=1∨k=2∨k=3∨k=4∨k=5∨k=6:=by omega
  rcases hk with rfl|rfl|rfl|rfl|rfl|rfl
  all_goals
   repeat'(first|refine rq fun _=>?_|simp only[go_sem,Tryd.f54,zax])
 ·have e:zax k= -1:=by unfold zax;rw[if_neg (by omega),if_neg (by omega),if_neg (by omega)]
  repeat'(first|refine zaB.d (fun _=>?_) (fun _=>?_)|refine rq fun _=>?_|simp only[go_sem,Tryd.f54,e, *])
  all_goals(exfalso;omega)
end Go.Proofs.YtalbdmcklgglbaaDoor
