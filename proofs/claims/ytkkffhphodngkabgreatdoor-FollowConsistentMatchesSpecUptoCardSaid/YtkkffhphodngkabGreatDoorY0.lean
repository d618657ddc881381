/- several texts of this proof in one; no conditions -/
import Derived.Test.YtkkffhphodngkabGreatDoorAT
import Derived.Test.YtkkffhphodngkabGreatDoorFacts
import Derived.Test.YtkkffhphodngkabGreatDoorY15
import Derived.Test.YtkkffhphodngkabGreatDoorY6
set_option maxRecDepth 100000
set_option maxHeartbeats 1000000
set_option linter.unusedSimpArgs false
namespace Go.Proofs.YtkkffhphodngkabGreatDoor
open Go Go.Abs Go.Proofs
def G0:Nat→List FD:=fun _=>[]
def Q1:Tbl:=zoH
attribute [go_sem] Q1
theorem hQ1:zaq Tryz.prog G0 Q1:=zAr
def Q2:Tbl:=Q1
attribute [go_sem] Q2
theorem hQ2:zaq Tryz.prog G0 Q2:=hQ1
def Q3:Tbl:=Q2.add 115 (sp2 idx fun _ _=>True)
attribute [go_sem] Q3
theorem hQ3:zaq Tryz.prog G0 Q3:=by
 refine zbC zER hQ2 fun l s _ ha hb=>?_
 have la:=zdf ha
 simp only[List.length_map,zbe]at la
 refine zae (N:=19) hm hQ2 115000 (lst []) zER Tryz.func115 rfl rfl (by simp) (by kernel_rfl) ?_
 simp only[go_sem]
 refine zat hm hQ2 115000 (lst []) (ι:=zhd l.length fun i=>s∉l.take i) ⟨fun i=>⟨frL [(0,.fz (enc l)),(1,.fz (enc s)),(7,.fz (.i .i64 l.length)),(8,.fz (.i .i64 i.i))],hpL [],0⟩,fun i=>l.length-i.i⟩ ⟨0,by simp,by simp⟩ (by kernel_rfl) ?_ ?_
 ·refine zaj ?_ ?_ ?_<;>simp only[go_sem]
 ·intro i
  have hi:=i.hi
  simp only[go_sem]
  refine zbu.d (fun h2=>?_) (fun h2=>?_)
  ·simp only[go_sem,h2,zaa]
   refine zbu.d (fun h4=>?_) (fun h4=>?_)
   ·have hin:s∈l:=h4▸List.getElem_mem h2
    have e:idx l s=i.i:=by
     unfold idx
     rw[if_pos hin,zqU (l:=l) h2 i.hp h4.symm]
    simp only[go_sem,Tryz.f115,e]
   ·simp only[go_sem]
    refine zaA.i (by omega) fun _=>?_
    simp only[go_sem]
    refine⟨⟨i.i+1,by omega,zsV h2 i.hp fun e=>h4 e.symm⟩,by simp only;omega,?_⟩
    refine zaj ?_ ?_ ?_<;>simp only[go_sem]
  ·have e:idx l s= -1:=by
    unfold idx
    rw[if_neg (zvD h2 i.hp)]
   simp only[go_sem,Tryz.f115,e]
def Q4:Tbl:=Q3.add 79 (sp2 (fun(l:List Str) (s:Str)=>decide (s∈l)) fun _ _=>True)
attribute [go_sem] Q4
theorem hQ4:zaq Tryz.prog G0 Q4:=by
 refine zbC zLm hQ3 fun l s _ ha hb=>?_
 refine zae (N:=9) hm hQ3 79000 (lst []) zLm Tryz.func79 rfl rfl (by simp) (by kernel_rfl) ?_
 have e:decide (0≤idx l s)=decide (s∈l):=by
  unfold idx
  split<;>rename_i h<;>simp[h]
 simp only[go_sem,Q3,Tryz.f79,e]
def Q5:Tbl:=Q4.add 76 (sp1 zas fun _=>True)
attribute [go_sem] Q5
theorem hQ5:zaq Tryz.prog G0 Q5:=by
  refine zb3 zLk hQ4 fun s _ hs=>?_
  have ls:=zLV hs
  simp only[zbe]at ls
  refine zae (N:=55) hm hQ4 76000 (lst []) zLk Tryz.func76 rfl rfl (by simp) (by kernel_rfl) ?_
  simp only[go_sem]
  repeat'(first|refine zbu.d (fun _=>?_) (fun _=>?_)|refine rq fun _=>?_|simp only[go_sem,Tryz.f76, *])
  · rw[zfP (by unfold znM;omega)]
  · rw[zfP (by unfold znM;omega)]
  · rw[zfP (by unfold znM;omega)]
  · rw[zfP (by unfold znM;omega)]
  · refine zat hm hQ4 76000 (lst []) (ι:=zhd s.l.length fun i=>∀j,j<i→okc (s.l.getD j 0)) ⟨fun i=>⟨frL [(0,.fz (enc s)),(24,.fz (.i .i64 s.l.length)),(25,.fz (.i .i64 i.i))],hpL [],0⟩,fun i=>s.l.length-i.i⟩ ⟨0,by simp,by simp⟩ (by kernel_rfl) ?_ ?_
    · refine zaj ?_ ?_ ?_<;>simp only[go_sem]
    · intro i
      have hi:=i.hi
      have hp:=i.hp
      simp only[go_sem]
      refine zbu.d (fun h2=>?_) (fun h2=>?_)
      · repeat'(first|refine zbu.d (fun _=>?_) (fun _=>?_)|refine rq fun _=>?_|simp only[go_sem,Tryz.f76, *])
        all_goals first
          |rw[zyz h2 (by unfold okc znM;omega)]
          |(refine⟨⟨i.i+1,by omega,ztX hp (by unfold okc znM;omega)⟩,by simp only;omega,?_⟩
            refine zaj ?_ ?_ ?_<;>simp only[go_sem])
      · simp only[go_sem,Tryz.f76]
        rw[zjh (by omega) (by omega) (by unfold znM;omega) fun j hj=>hp j (by omega)]
def Q6:Tbl:=Q5
attribute [go_sem] Q6
theorem hQ6:zaq Tryz.prog G0 Q6:=hQ5
def Q7:Tbl:=Q6.add 99 (sp1 (fun l:List Str=>l) fun l=>l.length≤4194304)
attribute [go_sem] Q7
theorem hQ7:zaq Tryz.prog G0 Q7:=by
 refine zb3 zJm hQ6 fun l hl hw=>?_
 refine zae (N:=8) hm hQ6 99000 (lst []) zJm Tryz.func99 rfl rfl (by simp) (by kernel_rfl) ?_
 simp only[go_sem]
 refine zrL.i fun b hb=>?_
 cases b
 ·simp only[go_sem]
  refine zaA.i (zAU (by omega) (by decide)) fun _=>?_
  simp only[go_sem,Tryz.f99]
 ·have:l=[]:=List.eq_nil_of_length_eq_zero (hb rfl)
  subst this
  simp only[go_sem,Tryz.f99]
end Go.Proofs.YtkkffhphodngkabGreatDoor
namespace Go.Proofs.YtkkffhphodngkabGreatDoor
open Go Go.Abs Go.Proofs
def Q8:Tbl:=Q7.add 121 (sp1 zg0 fun _=>True)
attribute [go_sem] Q8
theorem hQ8:zaq Tryz.prog G0 Q8:=by
 refine zb3 zEU hQ7 fun k _ hs=>?_
 refine zae (N:=16) hm hQ7 121000 (lst []) zEU Tryz.func121 rfl rfl (by simp) (by kernel_rfl) ?_
 repeat'(first|refine zbu.d (fun _=>?_) (fun _=>?_)|refine rq fun _=>?_|simp only[go_sem,Tryz.f121, *])
 all_goals(unfold zg0;first|rw[if_pos (by omega)]|rw[if_neg (by omega),if_pos (by omega)]|rw[if_neg (by omega),if_neg (by omega),if_pos (by omega)]|rw[if_neg (by omega),if_neg (by omega),if_neg (by omega)])
def Q9:Tbl:=Q8.add 122 (sp1 (fun f:Abs.zac=>decide (f.kind=8∨f.kind=9)) fun _=>True)
attribute [go_sem] Q9
theorem hQ9:zaq Tryz.prog G0 Q9:=by
 refine zb3 zEV hQ8 fun f _ hs=>?_
 refine zae (N:=11) hm hQ8 122000 (lst []) zEV Tryz.func122 rfl rfl (by simp) (by kernel_rfl) ?_
 repeat'(first|refine zbu.d (fun _=>?_) (fun _=>?_)|refine rq fun _=>?_|simp only[go_sem,Tryz.f122, *])
theorem f120 {c a:Int}{id:Abs.Id}{H:zav}{n:Nat}{R:D→zav→Nat→Prop}(hid:id.2<n)(ho:H id=some ⟨[.fz (.i .i64 a)],true,false⟩)(hR:∀n',n≤n'→R (.agg [.fz (.i .i64 c),.fz (.i .i64 a)]) H n'):
  zaw Tryz.prog G0 120 [.fz (.i .i64 c),.ptr id 0] H n R:=by
 refine zby zET (fun hfr=>?_) hR
 have hne:id≠(120003,n):=by rintro rfl;simp at hid
 have hne':(id=(120003,n))=False:=eq_false hne
 obtain⟨Q,hQ⟩:∃Q:D→zav→Nat→Prop,Q=(fun d' H' n'=>d'= .agg [.fz (.i .i64 c),.fz (.i .i64 a)]∧n≤n'∧∀id,id.2<n→H' id=H id):=⟨_,rfl⟩
 rw[←hQ]
 have e:H=hpX [] H:=rfl
 rw[e]
 refine zae (N:=7) hm hQ9 120000 (lst []) zET Tryz.func120 rfl rfl (by simp) (by kernel_rfl) ?_
 simp only[go_sem]
 rw[if_neg hne,ho]
 simp only[go_sem,Tryz.f120]
 rw[hQ]
 refine⟨?_,by omega,fun id hid=>zi7 (n:=n) (by intro p hp;simp at hp;rcases hp with rfl|rfl<;>simp) id hid⟩
 simp only[go_sem]
end Go.Proofs.YtkkffhphodngkabGreatDoor
namespace Go.Proofs.YtkkffhphodngkabGreatDoor
open Go Go.Abs Go.Proofs
attribute [local irreducible] zas
def HHc (op:Bool)(n:Nat):List (Abs.Id×Option O):=
  [((85005,3),some ⟨[.fz (.i .i64 n)],true,false⟩),((85003,1),some ⟨[.fz (.b op)],true,false⟩),
   ((85006,4),some ⟨[.fn 119 [.ptr (85005,3) 0,.ptr (85003,1) 0,.ptr (85006,4) 0]],true,false⟩),
   ((85004,2),some ⟨[.fz (.i .i64 0),.fz (.i .i64 0)],true,false⟩)]
def zAv (x:zbp):D:= .agg [.fz (.i .i64 x.code),.fz (.i .i64 x.index)]
theorem zAA {op:Bool}{f:Abs.zac}{d:Int}{n:Nat}(h:zex op f d n≠0):chk op f d n=(⟨zex op f d n,n⟩,n+1):=by rw[zzG,if_pos h]
theorem zad {s:Str}:(⟨s.l⟩:Str)=s:=rfl
theorem zBU {s:Str}:s=⟨[]⟩↔s.l=[]:=by cases s;simp
def zgq (id:Abs.Id):List (Abs.Id×Option O)→Prop
 |[]=>True
 |(i,_)::l=>i≠id∧zgq id l
theorem zcx {id:Abs.Id}{X:zav}:∀{l:List (Abs.Id×Option O)},zgq id l→hpX l X id=X id
 |[],_=>rfl
 |(i,o)::l,h=>by simp only[hpX];rw[if_neg (fun e=>h.1 e.symm)];exact zcx h.2
theorem zfQ {op:Bool}{f:Abs.zac}{d p:Int}{n:Nat}(hp:zcj op f=p):zex op f d n=if 200<(n:Int)+1∨40<d then 1 else if p<0 then 4
  else if¬((f.subs.length:Int)=p∧(f.kind=2→(f.words.length:Int)≤3)∧(f.kind=3→(f.words.length:Int)=2)∧(f.kind≠2→f.kind≠3→(f.words.length:Int)=0))then 9
  else if(f.kind=2∨f.kind=8∨f.kind=9∨f.kind=10)∧zas f.name=false then 10 else if¬(f.kind=2∨f.kind=8∨f.kind=9∨f.kind=10)∧¬f.name.l=[]then 5 else if f.words.all zas=false then 10 else 0:=by
 have e1:(200<n+1∨40<d)=(200<(n:Int)+1∨40<d):=propext (by omega)
 have e2:(zdq f=true)=((f.kind=2→(f.words.length:Int)≤3)∧(f.kind=3→(f.words.length:Int)=2)∧(f.kind≠2→f.kind≠3→(f.words.length:Int)=0)):=propext (by
  unfold zdq
  by_cases h2:f.kind=2
  ·rw[if_pos h2,decide_eq_true_eq];omega
  ·rw[if_neg h2]
   by_cases h3:f.kind=3
   ·rw[if_pos h3,decide_eq_true_eq];omega
   ·rw[if_neg h3,decide_eq_true_eq];omega)
 have e3:(f.name≠⟨[]⟩)=¬f.name.l=[]:=propext (by rw[Ne,zBU])
 unfold zex
 simp only[hp,e1,e2,e3,named,decide_eq_true_eq,decide_eq_false_iff_not]
theorem zFx:zg0 10= -1:=by decide
theorem zJx:zg0 2=0:=by decide
theorem zJy:zg0 3=0:=by decide
theorem zpS (op:Bool)(f:Abs.zac):(f.kind=2∧zcj op f=0)∨(f.kind=3∧zcj op f=0)∨(f.kind=10∧op=true∧zcj op f=0)∨(f.kind=10∧op=false∧zcj op f= -1)∨(¬f.kind=2∧¬f.kind=3∧¬f.kind=10∧zcj op f=zg0 f.kind):=by
 unfold zcj
 by_cases h2:f.kind=2
 ·exact .inl ⟨h2,by rw[if_neg (by omega),h2];rfl⟩
 by_cases h3:f.kind=3
 ·exact .inr (.inl ⟨h3,by rw[if_neg (by omega),h3];rfl⟩)
 by_cases h10:f.kind=10
 ·cases op
  ·exact .inr (.inr (.inr (.inl ⟨h10,rfl,by rw[if_neg (by simp),h10];rfl⟩)))
  ·exact .inr (.inr (.inl ⟨h10,rfl,by rw[if_pos ⟨h10,rfl⟩]⟩))
 ·exact .inr (.inr (.inr (.inr ⟨h2,h3,h10,by rw[if_neg (fun h=>h10 h.1)]⟩)))
theorem zde {P:Program}{G:Nat→List FD}{f:FuncId}{args:List D}{H X:zav}{hl:List (Abs.Id×Option O)}{n n':Nat}{R:D→zav→Nat→Prop}(hf:ztu (frL (zgr 0 args)) (zgr 0 args))(hh:zgk H hl)(hx:∀id o,X id=some o→H id=some o)(hn:n≤n')(h:zaw P G f args (hpX hl X) n' R):zaw P G f args H n R:=
 zdD rfl (zb1 hf (zgk.getX hx hh) hn) h
theorem zcv {P:Program}{G:Nat→List FD}{f:FuncId}{d:D}{x:FD}{rest:List D}{H:zav}{n:Nat}{R:D→zav→Nat→Prop}(ha:D.toFDs [d]=some [x])(h:zaw P G f (.fz x::rest) H n R):zaw P G f (d::rest) H n R:=by
 refine⟨h.1,fun w L F vs hok hvs=>h.2 w L F vs hok ?_⟩
 cases vs with
 |nil=>simp[zao]at hvs
 |cons v vs=>
  simp only[zao]at hvs ⊢
  have h1:zao w L F (Ub n) [d] [v]:=by simp only[zao];exact⟨hvs.1,trivial⟩
  have h2:zao w L F (Ub n) ([x].map .fz) [v]:=h1.of_toFDs ha
  simp only[List.map_cons,List.map_nil,zao]at h2
  exact⟨h2.1,hvs.2⟩
structure Kp (p:Prop):Prop where
 out:p
structure zHl (n0 len:Nat)(p:Nat→Nat→Prop) where
 j:Nat
 n:Nat
 m:Nat
 hj:j≤len
 hm:n0≤m
 hp:p j n
theorem f119 (op:Bool):∀(k:Nat) (f:Abs.zac) (d:Int) (n m:Nat) (X:zav),f.size≤k→(enc f).Wf→0≤d→d≤41→n≤200→4<m→
  (∀id o,X id=some o→id.2<m∧id.1≠85003∧id.1≠85004∧id.1≠85005∧id.1≠85006)→
  zaw Tryz.prog G0 119 [.fz (enc f),.fz (.i .i64 d),.ptr (85005,3) 0,.ptr (85003,1) 0,.ptr (85006,4) 0] (hpX (HHc op n) X) m
   (fun d' H' n'=>d'=zAv (chk op f d n).1∧m≤n'∧zgk H' (HHc op (chk op f d n).2)∧∀id o,X id=some o→H' id=some o):=by
 intro k
 induction k with
 |zero=>intro f d n m X hs;have:=f.size_pos;omega
 |succ k ih=>
  intro f d n m X hs hw hd0 hd hn hm' hX
  obtain⟨Q,hQ⟩:∃Q:D→zav→Nat→Prop,Q=(fun d' H' n'=>d'=zAv (chk op f d n).1∧m≤n'∧zgk H' (HHc op (chk op f d n).2)∧∀id o,X id=some o→H' id=some o):=⟨_,rfl⟩
  rw[←hQ]
  have hbad:∀{c:Int} {d':D} {H':zav} {n':Nat},zex op f d n=c→c≠0→d'=zAv ⟨c,n⟩→m≤n'→zgk H' (HHc op (n+1))→(∀id o,X id=some o→H' id=some o)→Q d' H' n':=fun h1 h2 h3 h4 h5 h6=>by
   rw[hQ]
   have e:chk op f d n=(⟨_,n⟩,n+1):=(zAA (by rw[h1];exact h2)).trans (by rw[h1])
   rw[e]
   exact⟨h3,h4,h5,h6⟩
  have hX':∀{l:List (Abs.Id×Option O)} (id o),X id=some o→(id.2<m∧id.1≠85003∧id.1≠85004∧id.1≠85005∧id.1≠85006→zgq id l)→hpX l X id=some o:=fun id o h1 h2=>(zcx (h2 (hX id o h1))).trans h1
  have hwl:f.words.length≤zbe:=by
   have h:=zbS (by have h:=hw;rw[zaE]at h;exact h) (FD.sl (f.words.map enc)) (by simp)
   have:=zdf h
   simpa using this
  have hsl:f.subs.length≤zbe:=by
   have h:=zbS (by have h:=hw;rw[zaE]at h;exact h) (FD.sl (f.subs.map enc)) (by simp)
   have:=zdf h
   simpa using this
  have hsw:∀g∈f.subs,(enc g).Wf:=fun g hg=>zfY (zbS (by have h:=hw;rw[zaE]at h;exact h) (FD.sl (f.subs.map enc)) (by simp)) _ (List.mem_map_of_mem hg)
  have hss:∀g∈f.subs,g.size≤k:=fun g hg=>by have:=zac.size_sub hg;omega
  unfold zbe at hwl hsl
  have kX:=Kp.mk @hX'
  have kQ:=Kp.mk hQ
  have kI:=Kp.mk ih
  have kS:=Kp.mk hsw
  have kZ:=Kp.mk hss
  have kb:=Kp.mk @hbad
  have kx:=Kp.mk hX
  clear hX' hQ ih hsw hss hX hbad
  refine zae (N:=133) hm hQ9 119000 (lst []) zI4 Tryz.func119 rfl rfl (by simp) (by kernel_rfl) ?_
  rcases zpS op f with⟨hk,hp⟩|⟨hk,hp⟩|⟨hk,hop,hp⟩|⟨hk,hop,hp⟩|⟨hk,hk3,hk10,hp⟩
  all_goals repeat'(first|refine zbu.d (fun _=>?_) (fun _=>?_)|refine zbu.i (fun _=>?_) (fun _=>?_)|refine rq fun _=>?_|refine zak.i (f120 (a:=(n:Int)) (by simp only;omega) (by simp only[go_sem,HHc]) fun n' hn'=>?_)|simp only[go_sem,HHc,zFx,zJx,zJy,Tryz.f119, *])
  all_goals try
   refine kb.out (by first
    |rw[zfQ hp,if_pos (by omega)]
    |rw[zfQ hp,if_neg (by omega),if_pos (by omega)]
    |rw[zfQ hp,if_neg (by omega),if_neg (by omega),if_pos (by omega)]
    |rw[zfQ hp,if_neg (by omega),if_neg (by omega),if_neg (by omega),if_pos ⟨by omega,by first|assumption|simp_all [zad]⟩]
    |rw[zfQ hp,if_neg (by omega),if_neg (by omega),if_neg (by omega),if_neg (by omega),if_pos ⟨by omega,by assumption⟩]) (by decide) rfl (by omega) (by first|(simp only[go_sem,HHc];done)|(simp only[go_sem,HHc,hop];done)) fun id o ho=>?_
   refine kX.out id o ho fun h1=>?_
   ((repeat'(first|exact trivial|apply And.intro))<;>(rintro rfl;simp only at h1;omega))
  all_goals
   have hN:zex op f d n=if f.words.all zas=false then 10 else 0:=by
    rw[zfQ hp,if_neg (by omega),if_neg (by omega),if_neg (by omega),if_neg (by first|omega|(rintro⟨_,h⟩;simp_all [zad])),if_neg (by first|omega|(rintro⟨_,h⟩;simp_all))]
  all_goals
   refine zat hm hQ9 119000 (lst []) (ι:=zcW f.words.length (m+1+1+1) fun i=>(f.words.take i).all zas=true)
    ⟨fun q=>⟨frL [(1,.fz (.i .i64 d)),(2,.ptr (85005,3) 0),(3,.ptr (85003,1) 0),(4,.ptr (85006,4) 0),(5,.ptr (119005,m) 0),(7,.ptr (119007,m+1) 0),(9,.fn 120 [.ptr (119008,m+1+1) 0]),
      (103,.fz (.sl (f.words.map enc))),(104,.fz (.i .i64 f.words.length)),(105,.fz (.i .i64 q.i))],
     hpX ([((119007,m+1),some ⟨[.fz (.i .i64 0),.fz (.i .i64 0)],true,false⟩),((119008,m+1+1),some ⟨[.fz (.i .i64 n)],true,false⟩),
      ((119005,m),some ⟨[.fz (.i .i64 f.kind),.fz (.s f.name.l),.fz (.sl (f.words.map enc)),.fz (.sl (f.subs.map enc))],true,false⟩)]++HHc op (n+1)) X,q.m⟩,fun q=>f.words.length-q.i⟩
    ⟨0,_,by omega,Nat.le_refl _,by simp⟩ (by kernel_rfl) ?_ ?_
   ·refine zaO ?_ ?_ (fun id o ho=>?_) ?_
    ·simp only[go_sem, *]
    ·simp only[go_sem,HHc, *]
    ·refine kX.out id o ho fun h1=>?_
     ((repeat'(first|exact trivial|apply And.intro))<;>(rintro rfl;simp only at h1;omega))
    ·simp only[go_sem]
   rintro⟨i,q,hi,hq,hpi⟩
   try simp only at hi hq hpi
   rcases Nat.lt_or_ge i f.words.length with h1|h1
   ·cases hnm:zas f.words[i]with
    |false=>
     have hall:f.words.all zas=false:=List.all_eq_false.2 ⟨_,List.getElem_mem h1,by simp[hnm]⟩
     rw[if_pos hall]at hN
     repeat'(first|refine rq fun _=>?_|refine zak.i (f120 (a:=(n:Int)) (by simp only;omega) (by simp only[go_sem,HHc]) fun n' hn'=>?_)|simp only[go_sem,HHc,h1,hnm,zad,zaa,Tryz.f119])
     refine kb.out hN (by decide) rfl (by omega) (by simp only[go_sem,HHc]) fun id o ho=>?_
     refine kX.out id o ho fun h1=>?_
     ((repeat'(first|exact trivial|apply And.intro))<;>(rintro rfl;simp only at h1;omega))
    |true=>
     repeat'(first|refine rq fun _=>?_|simp only[go_sem,HHc,h1,hnm,zad,zaa,Tryz.f119])
     refine⟨⟨i+1,q,by omega,by omega,by rw[zkY h1,hpi,hnm];rfl⟩,by simp only;omega,?_⟩
     refine zaO ?_ ?_ (fun id o ho=>?_) ?_
     ·simp only[go_sem]
     ·simp only[go_sem,HHc]
     ·refine kX.out id o ho fun h1=>?_
      ((repeat'(first|exact trivial|apply And.intro))<;>(rintro rfl;simp only at h1;omega))
     ·simp only[go_sem]
   ·have h1':¬i<f.words.length:=by omega
    rw[List.take_of_length_le h1]at hpi
    rw[if_neg (by rw[hpi];simp)]at hN
    repeat'(first|refine rq fun _=>?_|simp only[go_sem,HHc,h1',zaa,Tryz.f119])
    have hchk:chk op f d n=zfb op f.subs (d+1) (n+1):=by rw[zzG,if_neg (by rw[hN];simp)]
    refine zat hm hQ9 119000 (lst []) (ι:=zHl (m+1+1+1) f.subs.length fun j n2=>n2≤200∧zfb op f.subs (d+1) (n+1)=zfb op (f.subs.drop j) (d+1) n2)
     ⟨fun q=>⟨frL [(1,.fz (.i .i64 d)),(2,.ptr (85005,3) 0),(3,.ptr (85003,1) 0),(4,.ptr (85006,4) 0),(7,.ptr (119007,m+1) 0),
       (116,.fz (.sl (f.subs.map enc))),(117,.fz (.i .i64 f.subs.length)),(118,.fz (.i .i64 q.j))],
      hpX (((119007,m+1),some ⟨[.fz (.i .i64 0),.fz (.i .i64 0)],true,false⟩)::HHc op q.n) X,q.m⟩,fun q=>f.subs.length-q.j⟩
     ⟨0,n+1,q,by omega,hq,by omega,rfl⟩ (by kernel_rfl) ?_ ?_
    ·refine zaO ?_ ?_ (fun id o ho=>?_) ?_
     ·simp only[go_sem]
     ·simp only[go_sem,HHc]
     ·refine kX.out id o ho fun h1=>?_
      ((repeat'(first|exact trivial|apply And.intro))<;>(rintro rfl;simp only at h1;omega))
     ·simp only[go_sem]
    rintro⟨j,n2,q2,hj,hq2,hn2,hch⟩
    try simp only at hj hq2 hn2 hch
    rcases Nat.lt_or_ge j f.subs.length with h2|h2
    ·have hmem:=List.getElem_mem h2
     rw[List.drop_eq_getElem_cons h2,zfb]at hch
     have ih2:=kI.out f.subs[j] (d+1) n2 (q2+1) (hpX [((119007,m+1),some ⟨[.fz (.i .i64 0),.fz (.i .i64 0)],true,false⟩)] X) (kZ.out _ hmem) (kS.out _ hmem) (by omega) (by omega) hn2 (by omega) (by
      intro id o ho
      simp only[hpX]at ho
      split at ho
      ·rename_i e;subst e;simp only;omega
      ·have:=kx.out id o ho;omega)
     rw[zaE]at ih2
     repeat'(first|refine rq fun _=>?_|simp only[go_sem,HHc,h2,zaa,Tryz.f119])
     refine zak.i (zcv rfl (zde (by simp only[go_sem,zgr]) (by simp only[go_sem,HHc]) (fun id o ho=>?_) (Nat.le_refl _) (zaK ih2 ?_)))
     ·simp only[hpX]at ho
      split at ho
      ·rename_i e;subst e;simp only[go_sem];exact Option.some.inj ho
      ·refine kX.out id o ho fun h1=>?_
       ((repeat'(first|exact trivial|apply And.intro))<;>(rintro rfl;simp only at h1;omega))
     rintro d' H' n' ⟨rfl,e1,e2,e3⟩
     have b0:=e3 (119007,m+1) ⟨[.fz (.i .i64 0),.fz (.i .i64 0)],true,false⟩ (by simp only[hpX,if_true])
     have hX2:∀id o,X id=some o→H' id=some o:=fun id o ho=>e3 id o (kX.out id o ho fun h1=>⟨by rintro rfl;simp only at h1;omega,trivial⟩)
     simp only[go_sem,HHc]at e2
     obtain⟨b1,b2,b3,b4⟩:=e2
     rw[show H'=hpX [] H' from rfl]
     by_cases hc:(chk op f.subs[j] (d+1) n2).1.code=0
     ·rw[if_neg (by rw[hc];simp)]at hch
      obtain⟨c1,c2,c3⟩:=zxB _ _ _ hc
      repeat'(first|refine rq fun _=>?_|simp only[go_sem,HHc,h2,hc,zAv,b0,Tryz.f119])
      refine⟨⟨j+1,_,n'+1,by omega,by omega,c2,hch⟩,by simp only;omega,?_⟩
      refine zaO ?_ ?_ (fun id o ho=>?_) ?_
      ·simp only[go_sem]
      ·simp only[go_sem,HHc,b0,b1,b2,b3,b4]
      ·have h1:=kx.out id o ho
       refine(zcx ?_).trans (hX2 id o ho)
       ((repeat'(first|exact trivial|apply And.intro))<;>(rintro rfl;simp only at h1;omega))
      ·simp only[go_sem]
     ·rw[if_pos hc]at hch
      repeat'(first|refine rq fun _=>?_|simp only[go_sem,HHc,h2,hc,zAv,b0,Tryz.f119])
      rw[kQ.out,hchk,hch]
      refine⟨rfl,by omega,by simp only[go_sem,HHc,b1,b2,b3,b4],fun id o ho=>?_⟩
      have h1:=kx.out id o ho
      refine(zcx ?_).trans (hX2 id o ho)
      ((repeat'(first|exact trivial|apply And.intro))<;>(rintro rfl;simp only at h1;omega))
    ·have h2':¬j<f.subs.length:=by omega
     rw[List.drop_of_length_le h2,zfb]at hch
     repeat'(first|refine rq fun _=>?_|simp only[go_sem,HHc,h2',zAv,Tryz.f119])
     rw[kQ.out,hchk,hch]
     refine⟨rfl,by omega,by simp only[go_sem,HHc],fun id o ho=>kX.out id o ho fun h1=>?_⟩
     ((repeat'(first|exact trivial|apply And.intro))<;>(rintro rfl;simp only at h1;omega))
end Go.Proofs.YtkkffhphodngkabGreatDoor
namespace Go.Proofs.YtkkffhphodngkabGreatDoor
open Go Go.Abs Go.Proofs
def Q10:Tbl:=Q9.add 85 (sp2 (fun(f:Abs.zac) (op:Bool)=>zaz op f) fun _ _=>True)
attribute [go_sem] Q10
theorem zKf:zaq Tryz.prog G0 Q10:=by
 refine zbC zLs hQ9 fun f op _ hf _=>?_
 refine zae (N:=11) hm hQ9 85000 (lst []) zLs Tryz.func85 rfl rfl (by simp) (by kernel_rfl) ?_
 have h:=f119 op f.size f 1 0 5 (fun _=>none) (Nat.le_refl _) hf (by omega) (by omega) (by omega) (by omega) (fun id o ho=>nomatch ho)
 rw[zaE]at h
 repeat'(first|refine rq fun _=>?_|simp only[go_sem,Tryz.f85])
 refine zak.i (zcv rfl (zde (by simp only[go_sem,zgr]) (by simp only[go_sem,HHc]) (fun id o ho=>?_) (Nat.le_refl _) (zaK h ?_)))
 ·cases ho
 rintro d' H' n' ⟨rfl,e1,e2,e3⟩
 simp only[go_sem,HHc]at e2
 obtain⟨b1,b2,b3,b4⟩:=e2
 rw[show H'=hpX [] H' from rfl]
 repeat'(first|refine rq fun _=>?_|simp only[go_sem,HHc,zAv,b4,zaz,Tryz.f85])
def Q11:Tbl:=Q10.add 47 (sp1 (fun(f:Abs.zac)=>zaz false f) fun _=>True)
attribute [go_sem] Q11
theorem zMr:zaq Tryz.prog G0 Q11:=by
 refine zb3 zLe zKf fun f _ hf=>?_
 refine zae (N:=5) hm zKf 47000 (lst []) zLe Tryz.func47 rfl rfl (by simp) (by kernel_rfl) ?_
 repeat'(first|refine rq fun _=>?_|simp only[go_sem,Tryz.f47])
end Go.Proofs.YtkkffhphodngkabGreatDoor
namespace Go.Proofs.YtkkffhphodngkabGreatDoor
open Go Go.Abs Go.Proofs
def Q12:Tbl:=Q11
attribute [go_sem] Q12
theorem zMs:zaq Tryz.prog G0 Q12:=zMr
def Q13:Tbl:=Q12
attribute [go_sem] Q13
theorem zMt:zaq Tryz.prog G0 Q13:=zMs
end Go.Proofs.YtkkffhphodngkabGreatDoor
namespace Go.Proofs.YtkkffhphodngkabGreatDoor
open Go Go.Abs Go.Proofs
def Q14:Tbl:=Q13
attribute [go_sem] Q14
theorem zKg:zaq Tryz.prog G0 Q14:=zMt
def zsZ (nm:Str)(w:List Str):Abs.zac:= .mk 2 nm w []
def Q15:Tbl:=Q14.add 10 (sp2 zsZ fun _ _=>True)
attribute [go_sem] Q15
theorem zMu:zaq Tryz.prog G0 Q15:=by
 refine zbC zGX zKg fun nm w _ _ hs=>?_
 refine zae (N:=8) hm zKg 10000 (lst []) zGX Tryz.func10 rfl rfl (by simp) (by kernel_rfl) ?_
 repeat'(first|refine rq fun _=>?_|simp only[go_sem,Tryz.f10,zsZ])
def Q16:Tbl:=Q15
attribute [go_sem] Q16
theorem zMv:zaq Tryz.prog G0 Q16:=zMu
end Go.Proofs.YtkkffhphodngkabGreatDoor
namespace Go.Proofs.YtkkffhphodngkabGreatDoor
open Go Go.Abs Go.Proofs
def Q17:Tbl:=Q16
attribute [go_sem] Q17
theorem zMw:zaq Tryz.prog G0 Q17:=zMv
def Q18:Tbl:=Q17
attribute [go_sem] Q18
theorem zMx:zaq Tryz.prog G0 Q18:=zMw
end Go.Proofs.YtkkffhphodngkabGreatDoor
namespace Go.Proofs.YtkkffhphodngkabGreatDoor
open Go Go.Abs Go.Proofs
attribute [local irreducible] zas
theorem zcw {n b:Nat}(h:n≤1000000000)(hb:b≤256):fits n b:=by
 have h1:n≤zbe:=Nat.le_trans h (by unfold zbe;decide)
 refine⟨h1,Nat.le_trans (Nat.mul_le_mul_left _ hb) ?_⟩
 omega
structure Stk where
 st:List (Abs.zac×Int)
 cells:List D
 g:Nat
 m:Nat
 n:Nat
structure zPv where
 j:Nat
 cells:List D
 g:Nat
 m:Nat
def Q19:Tbl:=Q18
attribute [go_sem] Q19
theorem zMy:zaq Tryz.prog G0 Q19:=zMx
def Q20:Tbl:=Q19
attribute [go_sem] Q20
theorem zA6:zaq Tryz.prog G0 Q20:=zMy
end Go.Proofs.YtkkffhphodngkabGreatDoor
