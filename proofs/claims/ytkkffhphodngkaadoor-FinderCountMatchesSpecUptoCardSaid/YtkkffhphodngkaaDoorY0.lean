/- several texts of this proof in one; no conditions -/
import Derived.Test.YtkkffhphodngkaaDoorAT
import Derived.Test.YtkkffhphodngkaaDoorFacts
import Derived.Test.YtkkffhphodngkaaDoorBX
import Derived.Test.YtkkffhphodngkaaDoorAbs40
set_option maxRecDepth 100000
set_option maxHeartbeats 1000000
set_option linter.unusedSimpArgs false
namespace Go.Proofs.YtkkffhphodngkaaDoor
open Go Go.Abs Go.Proofs
def G0:Nat→List FD:=fun _=>[]
def Q1:Tbl:=ziN
attribute [go_sem] Q1
theorem hQ1:zan Tryd.prog G0 Q1:=zjG
def Q2:Tbl:=Q1.add 68 (sp2 (fun(l:List Str) (s:Str)=>decide (s∈l)) fun _ _=>True)
attribute [go_sem] Q2
theorem hQ2:zan Tryd.prog G0 Q2:=by
 refine zbq zGh hQ1 fun l s _ ha hb=>?_
 have la:=zbV ha
 simp only[List.length_map,zba]at la
 refine zah (N:=17) hm hQ1 68000 (lst []) zGh Tryd.func68 rfl rfl (by simp) (by kernel_rfl) ?_
 simp only[go_sem]
 refine zai hm hQ1 68000 (lst []) (ι:=za5 l.length fun i=>s∉l.take i) ⟨fun i=>⟨frL [(0,.fz (enc l)),(1,.fz (enc s)),(7,.fz (enc l)),(8,.fz (.i .i64 l.length)),(9,.fz (.i .i64 i.i))],hpL [],0⟩,fun i=>l.length-i.i⟩ ⟨0,by simp,by simp⟩ (by kernel_rfl) ?_ ?_
 ·refine zag ?_ ?_ ?_<;>simp only[go_sem]
 ·intro i
  have hi:=i.hi
  simp only[go_sem]
  refine za0.d (fun h2=>?_) (fun h2=>?_)
  ·simp only[go_sem,h2,zaa]
   refine za0.d (fun h4=>?_) (fun h4=>?_)
   ·have hin:s∈l:=h4▸List.getElem_mem h2
    simp only[go_sem,Tryd.f68,hin]
   ·simp only[go_sem]
    refine zaB.i (by omega) fun _=>?_
    simp only[go_sem]
    refine⟨⟨i.i+1,by omega,zjr h2 i.hp h4⟩,by simp only;omega,?_⟩
    refine zag ?_ ?_ ?_<;>simp only[go_sem]
  ·simp only[go_sem,Tryd.f68,zl3 h2 i.hp]
def Q3:Tbl:=Q2.add 87 (sp2 idx fun _ _=>True)
attribute [go_sem] Q3
theorem hQ3:zan Tryd.prog G0 Q3:=by
 refine zbq zGs hQ2 fun l s _ ha hb=>?_
 have la:=zbV ha
 simp only[List.length_map,zba]at la
 refine zah (N:=19) hm hQ2 87000 (lst []) zGs Tryd.func87 rfl rfl (by simp) (by kernel_rfl) ?_
 simp only[go_sem]
 refine zai hm hQ2 87000 (lst []) (ι:=za5 l.length fun i=>s∉l.take i) ⟨fun i=>⟨frL [(0,.fz (enc l)),(1,.fz (enc s)),(7,.fz (.i .i64 l.length)),(8,.fz (.i .i64 i.i))],hpL [],0⟩,fun i=>l.length-i.i⟩ ⟨0,by simp,by simp⟩ (by kernel_rfl) ?_ ?_
 ·refine zag ?_ ?_ ?_<;>simp only[go_sem]
 ·intro i
  have hi:=i.hi
  simp only[go_sem]
  refine za0.d (fun h2=>?_) (fun h2=>?_)
  ·simp only[go_sem,h2,zaa]
   refine za0.d (fun h4=>?_) (fun h4=>?_)
   ·have hin:s∈l:=h4▸List.getElem_mem h2
    have e:idx l s=i.i:=by
     unfold idx
     rw[if_pos hin,zow (l:=l) h2 i.hp h4.symm]
    simp only[go_sem,Tryd.f87,e]
   ·simp only[go_sem]
    refine zaB.i (by omega) fun _=>?_
    simp only[go_sem]
    refine⟨⟨i.i+1,by omega,zjr h2 i.hp fun e=>h4 e.symm⟩,by simp only;omega,?_⟩
    refine zag ?_ ?_ ?_<;>simp only[go_sem]
  ·have e:idx l s= -1:=by
    unfold idx
    rw[if_neg (zl3 h2 i.hp)]
   simp only[go_sem,Tryd.f87,e]
def Q4:Tbl:=Q3.add 77 (sp2 (fun(l:List Str) (s:Str)=>decide (s∈l)) fun _ _=>True)
attribute [go_sem] Q4
theorem hQ4:zan Tryd.prog G0 Q4:=by
 refine zbq zGn hQ3 fun l s _ ha hb=>?_
 refine zah (N:=9) hm hQ3 77000 (lst []) zGn Tryd.func77 rfl rfl (by simp) (by kernel_rfl) ?_
 have e:decide (0≤idx l s)=decide (s∈l):=by
  unfold idx
  split<;>rename_i h<;>simp[h]
 simp only[go_sem,Q3,Tryd.f77,e]
def Q5:Tbl:=Q4.add 44 (sp1 zax fun _=>True)
attribute [go_sem] Q5
theorem hQ5:zan Tryd.prog G0 Q5:=by
  refine zb4 zF4 hQ4 fun s _ hs=>?_
  have ls:=zEC hs
  simp only[zba]at ls
  refine zah (N:=55) hm hQ4 44000 (lst []) zF4 Tryd.func44 rfl rfl (by simp) (by kernel_rfl) ?_
  simp only[go_sem]
  repeat'(first|refine za0.d (fun _=>?_) (fun _=>?_)|refine rq fun _=>?_|simp only[go_sem,Tryd.f44, *])
  · rw[zcv (by unfold zhh;omega)]
  · rw[zcv (by unfold zhh;omega)]
  · rw[zcv (by unfold zhh;omega)]
  · rw[zcv (by unfold zhh;omega)]
  · refine zai hm hQ4 44000 (lst []) (ι:=za5 s.l.length fun i=>∀j,j<i→okc (s.l.getD j 0)) ⟨fun i=>⟨frL [(0,.fz (enc s)),(24,.fz (.i .i64 s.l.length)),(25,.fz (.i .i64 i.i))],hpL [],0⟩,fun i=>s.l.length-i.i⟩ ⟨0,by simp,by simp⟩ (by kernel_rfl) ?_ ?_
    · refine zag ?_ ?_ ?_<;>simp only[go_sem]
    · intro i
      have hi:=i.hi
      have hp:=i.hp
      simp only[go_sem]
      refine za0.d (fun h2=>?_) (fun h2=>?_)
      · repeat'(first|refine za0.d (fun _=>?_) (fun _=>?_)|refine rq fun _=>?_|simp only[go_sem,Tryd.f44, *])
        all_goals first
          |rw[zoG h2 (by unfold okc zhh;omega)]
          |(refine⟨⟨i.i+1,by omega,zkV hp (by unfold okc zhh;omega)⟩,by simp only;omega,?_⟩
            refine zag ?_ ?_ ?_<;>simp only[go_sem])
      · simp only[go_sem,Tryd.f44]
        rw[zil (by omega) (by omega) (by unfold zhh;omega) fun j hj=>hp j (by omega)]
def Q6:Tbl:=Q5.add 66 (sp1 zax fun _=>True)
attribute [go_sem] Q6
theorem hQ6:zan Tryd.prog G0 Q6:=by
  refine zb4 zGf hQ5 fun s _ hs=>?_
  have ls:=zEC hs
  simp only[zba]at ls
  refine zah (N:=62) hm hQ5 66000 (lst []) zGf Tryd.func66 rfl rfl (by simp) (by kernel_rfl) ?_
  simp only[go_sem]
  repeat'(first|refine za0.d (fun _=>?_) (fun _=>?_)|refine rq fun _=>?_|simp only[go_sem,Tryd.f66, *])
  · rw[zcv (by unfold zhh;omega)]
  · rw[zcv (by unfold zhh;omega)]
  · refine zai hm hQ5 66000 (lst []) (ι:=za5 s.l.length fun i=>(∀j,j<i→okc (s.l.getD j 0))∧(0<i→zhh (s.l.getD 0 0))) ⟨fun i=>⟨frL [(0,.fz (enc s)),(3,.fz (.i .i64 i.i))],hpL [],0⟩,fun i=>s.l.length-i.i⟩ ⟨0,by simp,by simp⟩ (by kernel_rfl) ?_ ?_
    · refine zag ?_ ?_ ?_<;>simp only[go_sem]
    · intro i
      have hi:=i.hi
      have hp:=i.hp.1
      have hz:=i.hp.2
      simp only[go_sem]
      refine za0.d (fun h2=>?_) (fun h2=>?_)
      · repeat'(first|refine za0.d (fun _=>?_) (fun _=>?_)|refine rq fun _=>?_|simp only[go_sem,Tryd.f66, *])
        all_goals first
          |rw[zsf (s:=s) (j:=i.i) (by omega) (by unfold zhh;omega)]
          |rw[zoG h2 (by unfold okc zhh;omega)]
          |(refine⟨⟨i.i+1,by omega,zkV hp (by unfold okc zhh;omega),zuA hz (by unfold zhh;omega)⟩,by simp only;omega,?_⟩
            refine zag ?_ ?_ ?_<;>simp only[go_sem])
      · simp only[go_sem,Tryd.f66]
        rw[zil (by omega) (by omega) (hz (by omega)) fun j hj=>hp j (by omega)]
def Q7:Tbl:=Q6
attribute [go_sem] Q7
theorem hQ7:zan Tryd.prog G0 Q7:=hQ6
end Go.Proofs.YtkkffhphodngkaaDoor
namespace Go.Proofs.YtkkffhphodngkaaDoor
open Go Go.Abs Go.Proofs
def Q8:Tbl:=Q7.add 75 (sp1 zd3 fun _=>True)
attribute [go_sem] Q8
theorem hQ8:zan Tryd.prog G0 Q8:=by
 refine zb4 zGl hQ7 fun k _ hs=>?_
 refine zah (N:=16) hm hQ7 75000 (lst []) zGl Tryd.func75 rfl rfl (by simp) (by kernel_rfl) ?_
 repeat'(first|refine za0.d (fun _=>?_) (fun _=>?_)|refine rq fun _=>?_|simp only[go_sem,Tryd.f75, *])
 all_goals(unfold zd3;first|rw[if_pos (by omega)]|rw[if_neg (by omega),if_pos (by omega)]|rw[if_neg (by omega),if_neg (by omega),if_pos (by omega)]|rw[if_neg (by omega),if_neg (by omega),if_neg (by omega)])
def Q9:Tbl:=Q8.add 55 (sp1 (fun f:Abs.zaf=>decide (f.kind=8∨f.kind=9)) fun _=>True)
attribute [go_sem] Q9
theorem hQ9:zan Tryd.prog G0 Q9:=by
 refine zb4 zF9 hQ8 fun f _ hs=>?_
 refine zah (N:=11) hm hQ8 55000 (lst []) zF9 Tryd.func55 rfl rfl (by simp) (by kernel_rfl) ?_
 repeat'(first|refine za0.d (fun _=>?_) (fun _=>?_)|refine rq fun _=>?_|simp only[go_sem,Tryd.f55, *])
theorem f74 {c a:Int}{id:Abs.Id}{H:zau}{n:Nat}{R:D→zau→Nat→Prop}(hid:id.2<n)(ho:H id=some ⟨[.fz (.i .i64 a)],true,false⟩)(hR:∀n',n≤n'→R (.agg [.fz (.i .i64 c),.fz (.i .i64 a)]) H n'):
  zay Tryd.prog G0 74 [.fz (.i .i64 c),.ptr id 0] H n R:=by
 refine zcr zGk (fun hfr=>?_) hR
 have hne:id≠(74003,n):=by rintro rfl;simp at hid
 have hne':(id=(74003,n))=False:=eq_false hne
 obtain⟨Q,hQ⟩:∃Q:D→zau→Nat→Prop,Q=(fun d' H' n'=>d'= .agg [.fz (.i .i64 c),.fz (.i .i64 a)]∧n≤n'∧∀id,id.2<n→H' id=H id):=⟨_,rfl⟩
 rw[←hQ]
 have e:H=hpX [] H:=rfl
 rw[e]
 refine zah (N:=7) hm hQ9 74000 (lst []) zGk Tryd.func74 rfl rfl (by simp) (by kernel_rfl) ?_
 simp only[go_sem]
 rw[if_neg hne,ho]
 simp only[go_sem,Tryd.f74]
 rw[hQ]
 refine⟨?_,by omega,fun id hid=>zib (n:=n) (by intro p hp;simp at hp;rcases hp with rfl|rfl<;>simp) id hid⟩
 simp only[go_sem]
end Go.Proofs.YtkkffhphodngkaaDoor
namespace Go.Proofs.YtkkffhphodngkaaDoor
open Go Go.Abs Go.Proofs
attribute [local irreducible] zax
def HHc (op:Bool)(n:Nat):List (Abs.Id×Option O):=
  [((48005,3),some ⟨[.fz (.i .i64 n)],true,false⟩),((48003,1),some ⟨[.fz (.b op)],true,false⟩),
   ((48006,4),some ⟨[.fn 73 [.ptr (48005,3) 0,.ptr (48003,1) 0,.ptr (48006,4) 0]],true,false⟩),
   ((48004,2),some ⟨[.fz (.i .i64 0),.fz (.i .i64 0)],true,false⟩)]
def zv8 (x:zcD):D:= .agg [.fz (.i .i64 x.code),.fz (.i .i64 x.index)]
theorem zwc {op:Bool}{f:Abs.zaf}{d:Int}{n:Nat}(h:zdj op f d n≠0):chk op f d n=(⟨zdj op f d n,n⟩,n+1):=by rw[zrl,if_pos h]
theorem zac {s:Str}:(⟨s.l⟩:Str)=s:=rfl
theorem zxA {s:Str}:s=⟨[]⟩↔s.l=[]:=by cases s;simp
def zhL (id:Abs.Id):List (Abs.Id×Option O)→Prop
 |[]=>True
 |(i,_)::l=>i≠id∧zhL id l
theorem zdy {id:Abs.Id}{X:zau}:∀{l:List (Abs.Id×Option O)},zhL id l→hpX l X id=X id
 |[],_=>rfl
 |(i,o)::l,h=>by simp only[hpX];rw[if_neg (fun e=>h.1 e.symm)];exact zdy h.2
theorem zb6 {op:Bool}{f:Abs.zaf}{d p:Int}{n:Nat}(hp:zbl op f=p):zdj op f d n=if 200<(n:Int)+1∨40<d then 1 else if p<0 then 4
  else if¬((f.subs.length:Int)=p∧(f.kind=2→(f.words.length:Int)≤3)∧(f.kind=3→(f.words.length:Int)=2)∧(f.kind≠2→f.kind≠3→(f.words.length:Int)=0))then 9
  else if(f.kind=2∨f.kind=8∨f.kind=9∨f.kind=10)∧zax f.name=false then 10 else if¬(f.kind=2∨f.kind=8∨f.kind=9∨f.kind=10)∧¬f.name.l=[]then 5 else if f.words.all zax=false then 10 else 0:=by
 have e1:(200<n+1∨40<d)=(200<(n:Int)+1∨40<d):=propext (by omega)
 have e2:(zdn f=true)=((f.kind=2→(f.words.length:Int)≤3)∧(f.kind=3→(f.words.length:Int)=2)∧(f.kind≠2→f.kind≠3→(f.words.length:Int)=0)):=propext (by
  unfold zdn
  by_cases h2:f.kind=2
  ·rw[if_pos h2,decide_eq_true_eq];omega
  ·rw[if_neg h2]
   by_cases h3:f.kind=3
   ·rw[if_pos h3,decide_eq_true_eq];omega
   ·rw[if_neg h3,decide_eq_true_eq];omega)
 have e3:(f.name≠⟨[]⟩)=¬f.name.l=[]:=propext (by rw[Ne,zxA])
 unfold zdj
 simp only[hp,e1,e2,e3,named,decide_eq_true_eq,decide_eq_false_iff_not]
theorem zvU:zd3 10= -1:=by decide
theorem zAH:zd3 2=0:=by decide
theorem zAI:zd3 3=0:=by decide
theorem zis (op:Bool)(f:Abs.zaf):(f.kind=2∧zbl op f=0)∨(f.kind=3∧zbl op f=0)∨(f.kind=10∧op=true∧zbl op f=0)∨(f.kind=10∧op=false∧zbl op f= -1)∨(¬f.kind=2∧¬f.kind=3∧¬f.kind=10∧zbl op f=zd3 f.kind):=by
 unfold zbl
 by_cases h2:f.kind=2
 ·exact .inl ⟨h2,by rw[if_neg (by omega),h2];rfl⟩
 by_cases h3:f.kind=3
 ·exact .inr (.inl ⟨h3,by rw[if_neg (by omega),h3];rfl⟩)
 by_cases h10:f.kind=10
 ·cases op
  ·exact .inr (.inr (.inr (.inl ⟨h10,rfl,by rw[if_neg (by simp),h10];rfl⟩)))
  ·exact .inr (.inr (.inl ⟨h10,rfl,by rw[if_pos ⟨h10,rfl⟩]⟩))
 ·exact .inr (.inr (.inr (.inr ⟨h2,h3,h10,by rw[if_neg (fun h=>h10 h.1)]⟩)))
theorem zdM {P:Program}{G:Nat→List FD}{f:FuncId}{args:List D}{H X:zau}{hl:List (Abs.Id×Option O)}{n n':Nat}{R:D→zau→Nat→Prop}(hf:zqH (frL (zhM 0 args)) (zhM 0 args))(hh:zhk H hl)(hx:∀id o,X id=some o→H id=some o)(hn:n≤n')(h:zay P G f args (hpX hl X) n' R):zay P G f args H n R:=
 zdN rfl (zeT hf (zhk.getX hx hh) hn) h
theorem zci {P:Program}{G:Nat→List FD}{f:FuncId}{d:D}{x:FD}{rest:List D}{H:zau}{n:Nat}{R:D→zau→Nat→Prop}(ha:D.toFDs [d]=some [x])(h:zay P G f (.fz x::rest) H n R):zay P G f (d::rest) H n R:=by
 refine⟨h.1,fun w L F vs hok hvs=>h.2 w L F vs hok ?_⟩
 cases vs with
 |nil=>simp[zak]at hvs
 |cons v vs=>
  simp only[zak]at hvs ⊢
  have h1:zak w L F (Ub n) [d] [v]:=by simp only[zak];exact⟨hvs.1,trivial⟩
  have h2:zak w L F (Ub n) ([x].map .fz) [v]:=h1.of_toFDs ha
  simp only[List.map_cons,List.map_nil,zak]at h2
  exact⟨h2.1,hvs.2⟩
structure Kp (p:Prop):Prop where
 out:p
structure zyG (n0 len:Nat)(p:Nat→Nat→Prop) where
 j:Nat
 n:Nat
 m:Nat
 hj:j≤len
 hm:n0≤m
 hp:p j n
theorem f73 (op:Bool):∀(k:Nat) (f:Abs.zaf) (d:Int) (n m:Nat) (X:zau),f.size≤k→(enc f).Wf→0≤d→d≤41→n≤200→4<m→
  (∀id o,X id=some o→id.2<m∧id.1≠48003∧id.1≠48004∧id.1≠48005∧id.1≠48006)→
  zay Tryd.prog G0 73 [.fz (enc f),.fz (.i .i64 d),.ptr (48005,3) 0,.ptr (48003,1) 0,.ptr (48006,4) 0] (hpX (HHc op n) X) m
   (fun d' H' n'=>d'=zv8 (chk op f d n).1∧m≤n'∧zhk H' (HHc op (chk op f d n).2)∧∀id o,X id=some o→H' id=some o):=by
 intro k
 induction k with
 |zero=>intro f d n m X hs;have:=f.size_pos;omega
 |succ k ih=>
  intro f d n m X hs hw hd0 hd hn hm' hX
  obtain⟨Q,hQ⟩:∃Q:D→zau→Nat→Prop,Q=(fun d' H' n'=>d'=zv8 (chk op f d n).1∧m≤n'∧zhk H' (HHc op (chk op f d n).2)∧∀id o,X id=some o→H' id=some o):=⟨_,rfl⟩
  rw[←hQ]
  have hbad:∀{c:Int} {d':D} {H':zau} {n':Nat},zdj op f d n=c→c≠0→d'=zv8 ⟨c,n⟩→m≤n'→zhk H' (HHc op (n+1))→(∀id o,X id=some o→H' id=some o)→Q d' H' n':=fun h1 h2 h3 h4 h5 h6=>by
   rw[hQ]
   have e:chk op f d n=(⟨_,n⟩,n+1):=(zwc (by rw[h1];exact h2)).trans (by rw[h1])
   rw[e]
   exact⟨h3,h4,h5,h6⟩
  have hX':∀{l:List (Abs.Id×Option O)} (id o),X id=some o→(id.2<m∧id.1≠48003∧id.1≠48004∧id.1≠48005∧id.1≠48006→zhL id l)→hpX l X id=some o:=fun id o h1 h2=>(zdy (h2 (hX id o h1))).trans h1
  have hwl:f.words.length≤zba:=by
   have h:=za9 (by have h:=hw;rw[zaH]at h;exact h) (FD.sl (f.words.map enc)) (by simp)
   have:=zbV h
   simpa using this
  have hsl:f.subs.length≤zba:=by
   have h:=za9 (by have h:=hw;rw[zaH]at h;exact h) (FD.sl (f.subs.map enc)) (by simp)
   have:=zbV h
   simpa using this
  have hsw:∀g∈f.subs,(enc g).Wf:=fun g hg=>zdO (za9 (by have h:=hw;rw[zaH]at h;exact h) (FD.sl (f.subs.map enc)) (by simp)) _ (List.mem_map_of_mem hg)
  have hss:∀g∈f.subs,g.size≤k:=fun g hg=>by have:=zaf.size_sub hg;omega
  unfold zba at hwl hsl
  have kX:=Kp.mk @hX'
  have kQ:=Kp.mk hQ
  have kI:=Kp.mk ih
  have kS:=Kp.mk hsw
  have kZ:=Kp.mk hss
  have kb:=Kp.mk @hbad
  have kx:=Kp.mk hX
  clear hX' hQ ih hsw hss hX hbad
  refine zah (N:=133) hm hQ9 73000 (lst []) zHN Tryd.func73 rfl rfl (by simp) (by kernel_rfl) ?_
  rcases zis op f with⟨hk,hp⟩|⟨hk,hp⟩|⟨hk,hop,hp⟩|⟨hk,hop,hp⟩|⟨hk,hk3,hk10,hp⟩
  all_goals repeat'(first|refine za0.d (fun _=>?_) (fun _=>?_)|refine za0.i (fun _=>?_) (fun _=>?_)|refine rq fun _=>?_|refine zas.i (f74 (a:=(n:Int)) (by simp only;omega) (by simp only[go_sem,HHc]) fun n' hn'=>?_)|simp only[go_sem,HHc,zvU,zAH,zAI,Tryd.f73, *])
  all_goals try
   refine kb.out (by first
    |rw[zb6 hp,if_pos (by omega)]
    |rw[zb6 hp,if_neg (by omega),if_pos (by omega)]
    |rw[zb6 hp,if_neg (by omega),if_neg (by omega),if_pos (by omega)]
    |rw[zb6 hp,if_neg (by omega),if_neg (by omega),if_neg (by omega),if_pos ⟨by omega,by first|assumption|simp_all [zac]⟩]
    |rw[zb6 hp,if_neg (by omega),if_neg (by omega),if_neg (by omega),if_neg (by omega),if_pos ⟨by omega,by assumption⟩]) (by decide) rfl (by omega) (by first|(simp only[go_sem,HHc];done)|(simp only[go_sem,HHc,hop];done)) fun id o ho=>?_
   refine kX.out id o ho fun h1=>?_
   ((repeat'(first|exact trivial|apply And.intro))<;>(rintro rfl;simp only at h1;omega))
  all_goals
   have hN:zdj op f d n=if f.words.all zax=false then 10 else 0:=by
    rw[zb6 hp,if_neg (by omega),if_neg (by omega),if_neg (by omega),if_neg (by first|omega|(rintro⟨_,h⟩;simp_all [zac])),if_neg (by first|omega|(rintro⟨_,h⟩;simp_all))]
  all_goals
   refine zai hm hQ9 73000 (lst []) (ι:=zbG f.words.length (m+1+1+1) fun i=>(f.words.take i).all zax=true)
    ⟨fun q=>⟨frL [(1,.fz (.i .i64 d)),(2,.ptr (48005,3) 0),(3,.ptr (48003,1) 0),(4,.ptr (48006,4) 0),(5,.ptr (73005,m) 0),(7,.ptr (73007,m+1) 0),(9,.fn 74 [.ptr (73008,m+1+1) 0]),
      (103,.fz (.sl (f.words.map enc))),(104,.fz (.i .i64 f.words.length)),(105,.fz (.i .i64 q.i))],
     hpX ([((73007,m+1),some ⟨[.fz (.i .i64 0),.fz (.i .i64 0)],true,false⟩),((73008,m+1+1),some ⟨[.fz (.i .i64 n)],true,false⟩),
      ((73005,m),some ⟨[.fz (.i .i64 f.kind),.fz (.s f.name.l),.fz (.sl (f.words.map enc)),.fz (.sl (f.subs.map enc))],true,false⟩)]++HHc op (n+1)) X,q.m⟩,fun q=>f.words.length-q.i⟩
    ⟨0,_,by omega,Nat.le_refl _,by simp⟩ (by kernel_rfl) ?_ ?_
   ·refine zaX ?_ ?_ (fun id o ho=>?_) ?_
    ·simp only[go_sem, *]
    ·simp only[go_sem,HHc, *]
    ·refine kX.out id o ho fun h1=>?_
     ((repeat'(first|exact trivial|apply And.intro))<;>(rintro rfl;simp only at h1;omega))
    ·simp only[go_sem]
   rintro⟨i,q,hi,hq,hpi⟩
   try simp only at hi hq hpi
   rcases Nat.lt_or_ge i f.words.length with h1|h1
   ·cases hnm:zax f.words[i]with
    |false=>
     have hall:f.words.all zax=false:=List.all_eq_false.2 ⟨_,List.getElem_mem h1,by simp[hnm]⟩
     rw[if_pos hall]at hN
     repeat'(first|refine rq fun _=>?_|refine zas.i (f74 (a:=(n:Int)) (by simp only;omega) (by simp only[go_sem,HHc]) fun n' hn'=>?_)|simp only[go_sem,HHc,h1,hnm,zac,zaa,Tryd.f73])
     refine kb.out hN (by decide) rfl (by omega) (by simp only[go_sem,HHc]) fun id o ho=>?_
     refine kX.out id o ho fun h1=>?_
     ((repeat'(first|exact trivial|apply And.intro))<;>(rintro rfl;simp only at h1;omega))
    |true=>
     repeat'(first|refine rq fun _=>?_|simp only[go_sem,HHc,h1,hnm,zac,zaa,Tryd.f73])
     refine⟨⟨i+1,q,by omega,by omega,by rw[zd9 h1,hpi,hnm];rfl⟩,by simp only;omega,?_⟩
     refine zaX ?_ ?_ (fun id o ho=>?_) ?_
     ·simp only[go_sem]
     ·simp only[go_sem,HHc]
     ·refine kX.out id o ho fun h1=>?_
      ((repeat'(first|exact trivial|apply And.intro))<;>(rintro rfl;simp only at h1;omega))
     ·simp only[go_sem]
   ·have h1':¬i<f.words.length:=by omega
    rw[List.take_of_length_le h1]at hpi
    rw[if_neg (by rw[hpi];simp)]at hN
    repeat'(first|refine rq fun _=>?_|simp only[go_sem,HHc,h1',zaa,Tryd.f73])
    have hchk:chk op f d n=zek op f.subs (d+1) (n+1):=by rw[zrl,if_neg (by rw[hN];simp)]
    refine zai hm hQ9 73000 (lst []) (ι:=zyG (m+1+1+1) f.subs.length fun j n2=>n2≤200∧zek op f.subs (d+1) (n+1)=zek op (f.subs.drop j) (d+1) n2)
     ⟨fun q=>⟨frL [(1,.fz (.i .i64 d)),(2,.ptr (48005,3) 0),(3,.ptr (48003,1) 0),(4,.ptr (48006,4) 0),(7,.ptr (73007,m+1) 0),
       (116,.fz (.sl (f.subs.map enc))),(117,.fz (.i .i64 f.subs.length)),(118,.fz (.i .i64 q.j))],
      hpX (((73007,m+1),some ⟨[.fz (.i .i64 0),.fz (.i .i64 0)],true,false⟩)::HHc op q.n) X,q.m⟩,fun q=>f.subs.length-q.j⟩
     ⟨0,n+1,q,by omega,hq,by omega,rfl⟩ (by kernel_rfl) ?_ ?_
    ·refine zaX ?_ ?_ (fun id o ho=>?_) ?_
     ·simp only[go_sem]
     ·simp only[go_sem,HHc]
     ·refine kX.out id o ho fun h1=>?_
      ((repeat'(first|exact trivial|apply And.intro))<;>(rintro rfl;simp only at h1;omega))
     ·simp only[go_sem]
    rintro⟨j,n2,q2,hj,hq2,hn2,hch⟩
    try simp only at hj hq2 hn2 hch
    rcases Nat.lt_or_ge j f.subs.length with h2|h2
    ·have hmem:=List.getElem_mem h2
     rw[List.drop_eq_getElem_cons h2,zek]at hch
     have ih2:=kI.out f.subs[j] (d+1) n2 (q2+1) (hpX [((73007,m+1),some ⟨[.fz (.i .i64 0),.fz (.i .i64 0)],true,false⟩)] X) (kZ.out _ hmem) (kS.out _ hmem) (by omega) (by omega) hn2 (by omega) (by
      intro id o ho
      simp only[hpX]at ho
      split at ho
      ·rename_i e;subst e;simp only;omega
      ·have:=kx.out id o ho;omega)
     rw[zaH]at ih2
     repeat'(first|refine rq fun _=>?_|simp only[go_sem,HHc,h2,zaa,Tryd.f73])
     refine zas.i (zci rfl (zdM (by simp only[go_sem,zhM]) (by simp only[go_sem,HHc]) (fun id o ho=>?_) (Nat.le_refl _) (zaI ih2 ?_)))
     ·simp only[hpX]at ho
      split at ho
      ·rename_i e;subst e;simp only[go_sem];exact Option.some.inj ho
      ·refine kX.out id o ho fun h1=>?_
       ((repeat'(first|exact trivial|apply And.intro))<;>(rintro rfl;simp only at h1;omega))
     rintro d' H' n' ⟨rfl,e1,e2,e3⟩
     have b0:=e3 (73007,m+1) ⟨[.fz (.i .i64 0),.fz (.i .i64 0)],true,false⟩ (by simp only[hpX,if_true])
     have hX2:∀id o,X id=some o→H' id=some o:=fun id o ho=>e3 id o (kX.out id o ho fun h1=>⟨by rintro rfl;simp only at h1;omega,trivial⟩)
     simp only[go_sem,HHc]at e2
     obtain⟨b1,b2,b3,b4⟩:=e2
     rw[show H'=hpX [] H' from rfl]
     by_cases hc:(chk op f.subs[j] (d+1) n2).1.code=0
     ·rw[if_neg (by rw[hc];simp)]at hch
      obtain⟨c1,c2,c3⟩:=zrn _ _ _ hc
      repeat'(first|refine rq fun _=>?_|simp only[go_sem,HHc,h2,hc,zv8,b0,Tryd.f73])
      refine⟨⟨j+1,_,n'+1,by omega,by omega,c2,hch⟩,by simp only;omega,?_⟩
      refine zaX ?_ ?_ (fun id o ho=>?_) ?_
      ·simp only[go_sem]
      ·simp only[go_sem,HHc,b0,b1,b2,b3,b4]
      ·have h1:=kx.out id o ho
       refine(zdy ?_).trans (hX2 id o ho)
       ((repeat'(first|exact trivial|apply And.intro))<;>(rintro rfl;simp only at h1;omega))
      ·simp only[go_sem]
     ·rw[if_pos hc]at hch
      repeat'(first|refine rq fun _=>?_|simp only[go_sem,HHc,h2,hc,zv8,b0,Tryd.f73])
      rw[kQ.out,hchk,hch]
      refine⟨rfl,by omega,by simp only[go_sem,HHc,b1,b2,b3,b4],fun id o ho=>?_⟩
      have h1:=kx.out id o ho
      refine(zdy ?_).trans (hX2 id o ho)
      ((repeat'(first|exact trivial|apply And.intro))<;>(rintro rfl;simp only at h1;omega))
    ·have h2':¬j<f.subs.length:=by omega
     rw[List.drop_of_length_le h2,zek]at hch
     repeat'(first|refine rq fun _=>?_|simp only[go_sem,HHc,h2',zv8,Tryd.f73])
     rw[kQ.out,hchk,hch]
     refine⟨rfl,by omega,by simp only[go_sem,HHc],fun id o ho=>kX.out id o ho fun h1=>?_⟩
     ((repeat'(first|exact trivial|apply And.intro))<;>(rintro rfl;simp only at h1;omega))
end Go.Proofs.YtkkffhphodngkaaDoor
namespace Go.Proofs.YtkkffhphodngkaaDoor
open Go Go.Abs Go.Proofs
def Q10:Tbl:=Q9.add 48 (sp2 (fun(f:Abs.zaf) (op:Bool)=>zaA op f) fun _ _=>True)
attribute [go_sem] Q10
theorem zEP:zan Tryd.prog G0 Q10:=by
 refine zbq zF8 hQ9 fun f op _ hf _=>?_
 refine zah (N:=11) hm hQ9 48000 (lst []) zF8 Tryd.func48 rfl rfl (by simp) (by kernel_rfl) ?_
 have h:=f73 op f.size f 1 0 5 (fun _=>none) (Nat.le_refl _) hf (by omega) (by omega) (by omega) (by omega) (fun id o ho=>nomatch ho)
 rw[zaH]at h
 repeat'(first|refine rq fun _=>?_|simp only[go_sem,Tryd.f48])
 refine zas.i (zci rfl (zdM (by simp only[go_sem,zhM]) (by simp only[go_sem,HHc]) (fun id o ho=>?_) (Nat.le_refl _) (zaI h ?_)))
 ·cases ho
 rintro d' H' n' ⟨rfl,e1,e2,e3⟩
 simp only[go_sem,HHc]at e2
 obtain⟨b1,b2,b3,b4⟩:=e2
 rw[show H'=hpX [] H' from rfl]
 repeat'(first|refine rq fun _=>?_|simp only[go_sem,HHc,zv8,b4,zaA,Tryd.f48])
def Q11:Tbl:=Q10.add 29 (sp1 (fun(f:Abs.zaf)=>zaA false f) fun _=>True)
attribute [go_sem] Q11
theorem zEQ:zan Tryd.prog G0 Q11:=by
 refine zb4 zFU zEP fun f _ hf=>?_
 refine zah (N:=5) hm zEP 29000 (lst []) zFU Tryd.func29 rfl rfl (by simp) (by kernel_rfl) ?_
 repeat'(first|refine rq fun _=>?_|simp only[go_sem,Tryd.f29])
end Go.Proofs.YtkkffhphodngkaaDoor
namespace Go.Proofs.YtkkffhphodngkaaDoor
open Go Go.Abs Go.Proofs
def Q12:Tbl:=Q11.add 65 (sp1 zd3 fun _=>True)
attribute [go_sem] Q12
theorem zHf:zan Tryd.prog G0 Q12:=by
 refine zb4 zGe zEQ fun k _ hs=>?_
 refine zah (N:=13) hm zEQ 65000 (lst []) zGe Tryd.func65 rfl rfl (by simp) (by kernel_rfl) ?_
 by_cases h:1≤k∧k≤9
 ·have hk:k=1∨k=2∨k=3∨k=4∨k=5∨k=6∨k=7∨k=8∨k=9:=by omega
  rcases hk with rfl|rfl|rfl|rfl|rfl|rfl|rfl|rfl|rfl
  all_goals
   repeat'(first|refine rq fun _=>?_|simp only[go_sem,Tryd.f65,zd3])
 ·have e:zd3 k= -1:=by unfold zd3;rw[if_neg (by omega),if_neg (by omega),if_neg (by omega)]
  repeat'(first|refine za0.d (fun _=>?_) (fun _=>?_)|refine rq fun _=>?_|simp only[go_sem,Tryd.f65,e, *])
  all_goals(exfalso;omega)
def Q13:Tbl:=Q12
attribute [go_sem] Q13
theorem zHg:zan Tryd.prog G0 Q13:=zHf
end Go.Proofs.YtkkffhphodngkaaDoor
namespace Go.Proofs.YtkkffhphodngkaaDoor
open Go Go.Abs Go.Proofs
def Q14:Tbl:=Q13
attribute [go_sem] Q14
theorem zER:zan Tryd.prog G0 Q14:=zHg
def zAq (nm:Str)(w:List Str):Abs.zaf:= .mk 2 nm w []
def Q15:Tbl:=Q14.add 8 (sp2 zAq fun _ _=>True)
attribute [go_sem] Q15
theorem zHh:zan Tryd.prog G0 Q15:=by
 refine zbq ok8 zER fun nm w _ _ hs=>?_
 refine zah (N:=8) hm zER 8000 (lst []) ok8 Tryd.func8 rfl rfl (by simp) (by kernel_rfl) ?_
 repeat'(first|refine rq fun _=>?_|simp only[go_sem,Tryd.f8,zAq])
def Q16:Tbl:=Q15
attribute [go_sem] Q16
theorem zHi:zan Tryd.prog G0 Q16:=zHh
end Go.Proofs.YtkkffhphodngkaaDoor
namespace Go.Proofs.YtkkffhphodngkaaDoor
open Go Go.Abs Go.Proofs
def Q17:Tbl:=Q16
attribute [go_sem] Q17
theorem zHj:zan Tryd.prog G0 Q17:=zHi
def Q18:Tbl:=Q17
attribute [go_sem] Q18
theorem zzn:zan Tryd.prog G0 Q18:=zHj
end Go.Proofs.YtkkffhphodngkaaDoor
