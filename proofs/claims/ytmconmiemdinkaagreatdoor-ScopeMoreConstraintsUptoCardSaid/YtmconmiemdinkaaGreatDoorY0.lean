/- several texts of this proof in one; no conditions -/
import Derived.Test.YtmconmiemdinkaaGreatDoorAT
import Derived.Test.YtmconmiemdinkaaGreatDoorFacts
import Derived.Test.YtmconmiemdinkaaGreatDoorY14
import Derived.Test.YtmconmiemdinkaaGreatDoorY6
set_option maxRecDepth 100000
set_option maxHeartbeats 1000000
set_option linter.unusedSimpArgs false
namespace Go.Proofs.YtmconmiemdinkaaGreatDoor
open Go Go.Abs Go.Proofs
def G0:Nat→List FD:=fun _=>[]
def Q1:Tbl:=zbA.add 16 (sp2 (fun a b:List Str=>decide (a=b)) fun _ _=>True)
attribute [go_sem] Q1
theorem hQ1:zai Tryz.prog G0 Q1:=by
 refine zbC zGy zcL fun a b _ ha hb=>?_
 have la:=zd9 ha
 have lb:=zd9 hb
 simp only[List.length_map,zbr]at la lb
 refine zam (N:=26) hm zcL 16000 (lst []) zGy Tryz.func16 rfl rfl (by simp) (by kernel_rfl) ?_
 simp only[go_sem]
 refine za1.d (fun h=>?_) (fun h=>?_)
 ·simp only[go_sem]
  refine zaJ hm zcL 16000 (lst []) (ι:=zg4 a.length fun i=>a.take i=b.take i) ⟨fun i=>⟨frL [(0,.fz (enc a)),(1,.fz (enc b)),(12,.fz (.i .i64 a.length)),(13,.fz (.i .i64 i.i))],hpL [],0⟩,fun i=>a.length-i.i⟩ ⟨0,by simp,by simp⟩ (by kernel_rfl) ?_ ?_
  ·refine zau ?_ ?_ ?_<;>simp only[go_sem]
  ·intro i
   have hi:=i.hi
   simp only[go_sem]
   refine za1.d (fun h2=>?_) (fun h2=>?_)
   ·have h3:i.i<b.length:=by omega
    simp only[go_sem,h2,h3,zaa]
    refine za1.d (fun h4=>?_) (fun h4=>?_)
    ·simp only[go_sem]
     refine zaA.i (by omega) fun _=>?_
     simp only[go_sem]
     refine⟨⟨i.i+1,by omega,zmN h2 h3 i.hp h4⟩,by simp only;omega,?_⟩
     refine zau ?_ ?_ ?_<;>simp only[go_sem]
    ·simp only[go_sem,Tryz.f16,zvK h2 h3 h4]
   ·simp only[go_sem,Tryz.f16,zmM h h2 i.hp]
 ·have hne:a≠b:=fun e=>h (e▸rfl)
  simp only[go_sem,Tryz.f16,hne]
def Q2:Tbl:=Q1.add 18 (sp2 (fun(l:List Str) (s:Str)=>decide (s∈l)) fun _ _=>True)
attribute [go_sem] Q2
theorem hQ2:zai Tryz.prog G0 Q2:=by
 refine zbC zGz hQ1 fun l s _ ha hb=>?_
 have la:=zd9 ha
 simp only[List.length_map,zbr]at la
 refine zam (N:=17) hm hQ1 18000 (lst []) zGz Tryz.func18 rfl rfl (by simp) (by kernel_rfl) ?_
 simp only[go_sem]
 refine zaJ hm hQ1 18000 (lst []) (ι:=zg4 l.length fun i=>s∉l.take i) ⟨fun i=>⟨frL [(0,.fz (enc l)),(1,.fz (enc s)),(7,.fz (enc l)),(8,.fz (.i .i64 l.length)),(9,.fz (.i .i64 i.i))],hpL [],0⟩,fun i=>l.length-i.i⟩ ⟨0,by simp,by simp⟩ (by kernel_rfl) ?_ ?_
 ·refine zau ?_ ?_ ?_<;>simp only[go_sem]
 ·intro i
  have hi:=i.hi
  simp only[go_sem]
  refine za1.d (fun h2=>?_) (fun h2=>?_)
  ·simp only[go_sem,h2,zaa]
   refine za1.d (fun h4=>?_) (fun h4=>?_)
   ·have hin:s∈l:=h4▸List.getElem_mem h2
    simp only[go_sem,Tryz.f18,hin]
   ·simp only[go_sem]
    refine zaA.i (by omega) fun _=>?_
    simp only[go_sem]
    refine⟨⟨i.i+1,by omega,zdI h2 i.hp h4⟩,by simp only;omega,?_⟩
    refine zau ?_ ?_ ?_<;>simp only[go_sem]
  ·simp only[go_sem,Tryz.f18,zey h2 i.hp]
def Q3:Tbl:=Q2.add 67 (sp2 idx fun _ _=>True)
attribute [go_sem] Q3
theorem hQ3:zai Tryz.prog G0 Q3:=by
 refine zbC zGY hQ2 fun l s _ ha hb=>?_
 have la:=zd9 ha
 simp only[List.length_map,zbr]at la
 refine zam (N:=19) hm hQ2 67000 (lst []) zGY Tryz.func67 rfl rfl (by simp) (by kernel_rfl) ?_
 simp only[go_sem]
 refine zaJ hm hQ2 67000 (lst []) (ι:=zg4 l.length fun i=>s∉l.take i) ⟨fun i=>⟨frL [(0,.fz (enc l)),(1,.fz (enc s)),(7,.fz (.i .i64 l.length)),(8,.fz (.i .i64 i.i))],hpL [],0⟩,fun i=>l.length-i.i⟩ ⟨0,by simp,by simp⟩ (by kernel_rfl) ?_ ?_
 ·refine zau ?_ ?_ ?_<;>simp only[go_sem]
 ·intro i
  have hi:=i.hi
  simp only[go_sem]
  refine za1.d (fun h2=>?_) (fun h2=>?_)
  ·simp only[go_sem,h2,zaa]
   refine za1.d (fun h4=>?_) (fun h4=>?_)
   ·have hin:s∈l:=h4▸List.getElem_mem h2
    have e:idx l s=i.i:=by
     unfold idx
     rw[if_pos hin,zst (l:=l) h2 i.hp h4.symm]
    simp only[go_sem,Tryz.f67,e]
   ·simp only[go_sem]
    refine zaA.i (by omega) fun _=>?_
    simp only[go_sem]
    refine⟨⟨i.i+1,by omega,zdI h2 i.hp fun e=>h4 e.symm⟩,by simp only;omega,?_⟩
    refine zau ?_ ?_ ?_<;>simp only[go_sem]
  ·have e:idx l s= -1:=by
    unfold idx
    rw[if_neg (zey h2 i.hp)]
   simp only[go_sem,Tryz.f67,e]
def Q4:Tbl:=Q3.add 40 (sp2 (fun(l:List Str) (s:Str)=>decide (s∈l)) fun _ _=>True)
attribute [go_sem] Q4
theorem hQ4:zai Tryz.prog G0 Q4:=by
 refine zbC zGK hQ3 fun l s _ ha hb=>?_
 refine zam (N:=9) hm hQ3 40000 (lst []) zGK Tryz.func40 rfl rfl (by simp) (by kernel_rfl) ?_
 have e:decide (0≤idx l s)=decide (s∈l):=by
  unfold idx
  split<;>rename_i h<;>simp[h]
 simp only[go_sem,Q3,Tryz.f40,e]
def Q5:Tbl:=Q4.add 39 (sp1 zaq fun _=>True)
attribute [go_sem] Q5
theorem hQ5:zai Tryz.prog G0 Q5:=by
  refine zdd zGJ hQ4 fun s _ hs=>?_
  have ls:=zHw hs
  simp only[zbr]at ls
  refine zam (N:=55) hm hQ4 39000 (lst []) zGJ Tryz.func39 rfl rfl (by simp) (by kernel_rfl) ?_
  simp only[go_sem]
  repeat'(first|refine za1.d (fun _=>?_) (fun _=>?_)|refine rq fun _=>?_|simp only[go_sem,Tryz.f39, *])
  · rw[zeR (by unfold zkj;omega)]
  · rw[zeR (by unfold zkj;omega)]
  · rw[zeR (by unfold zkj;omega)]
  · rw[zeR (by unfold zkj;omega)]
  · refine zaJ hm hQ4 39000 (lst []) (ι:=zg4 s.l.length fun i=>∀j,j<i→okc (s.l.getD j 0)) ⟨fun i=>⟨frL [(0,.fz (enc s)),(24,.fz (.i .i64 s.l.length)),(25,.fz (.i .i64 i.i))],hpL [],0⟩,fun i=>s.l.length-i.i⟩ ⟨0,by simp,by simp⟩ (by kernel_rfl) ?_ ?_
    · refine zau ?_ ?_ ?_<;>simp only[go_sem]
    · intro i
      have hi:=i.hi
      have hp:=i.hp
      simp only[go_sem]
      refine za1.d (fun h2=>?_) (fun h2=>?_)
      · repeat'(first|refine za1.d (fun _=>?_) (fun _=>?_)|refine rq fun _=>?_|simp only[go_sem,Tryz.f39, *])
        all_goals first
          |rw[zvf h2 (by unfold okc zkj;omega)]
          |(refine⟨⟨i.i+1,by omega,zrx hp (by unfold okc zkj;omega)⟩,by simp only;omega,?_⟩
            refine zau ?_ ?_ ?_<;>simp only[go_sem])
      · simp only[go_sem,Tryz.f39]
        rw[zmc (by omega) (by omega) (by unfold zkj;omega) fun j hj=>hp j (by omega)]
def Q6:Tbl:=Q5
attribute [go_sem] Q6
theorem hQ6:zai Tryz.prog G0 Q6:=hQ5
def Q7:Tbl:=Q6
attribute [go_sem] Q7
theorem hQ7:zai Tryz.prog G0 Q7:=hQ6
end Go.Proofs.YtmconmiemdinkaaGreatDoor
namespace Go.Proofs.YtmconmiemdinkaaGreatDoor
open Go Go.Abs Go.Proofs
def Q8:Tbl:=Q7.add 70 (sp1 zcw fun _=>True)
attribute [go_sem] Q8
theorem hQ8:zai Tryz.prog G0 Q8:=by
 refine zdd zG0 hQ7 fun k _ hs=>?_
 refine zam (N:=16) hm hQ7 70000 (lst []) zG0 Tryz.func70 rfl rfl (by simp) (by kernel_rfl) ?_
 repeat'(first|refine za1.d (fun _=>?_) (fun _=>?_)|refine rq fun _=>?_|simp only[go_sem,Tryz.f70, *])
 all_goals(unfold zcw;first|rw[if_pos (by omega)]|rw[if_neg (by omega),if_pos (by omega)]|rw[if_neg (by omega),if_neg (by omega),if_pos (by omega)]|rw[if_neg (by omega),if_neg (by omega),if_neg (by omega)])
def Q9:Tbl:=Q8.add 71 (sp1 (fun f:Abs.zab=>decide (f.kind=8∨f.kind=9)) fun _=>True)
attribute [go_sem] Q9
theorem hQ9:zai Tryz.prog G0 Q9:=by
 refine zdd zG1 hQ8 fun f _ hs=>?_
 refine zam (N:=11) hm hQ8 71000 (lst []) zG1 Tryz.func71 rfl rfl (by simp) (by kernel_rfl) ?_
 repeat'(first|refine za1.d (fun _=>?_) (fun _=>?_)|refine rq fun _=>?_|simp only[go_sem,Tryz.f71, *])
theorem f69 {c a:Int}{id:Abs.Id}{H:zaw}{n:Nat}{R:D→zaw→Nat→Prop}(hid:id.2<n)(ho:H id=some ⟨[.fz (.i .i64 a)],true,false⟩)(hR:∀n',n≤n'→R (.agg [.fz (.i .i64 c),.fz (.i .i64 a)]) H n'):
  zaH Tryz.prog G0 69 [.fz (.i .i64 c),.ptr id 0] H n R:=by
 refine zeJ zGZ (fun hfr=>?_) hR
 have hne:id≠(69003,n):=by rintro rfl;simp at hid
 have hne':(id=(69003,n))=False:=eq_false hne
 obtain⟨Q,hQ⟩:∃Q:D→zaw→Nat→Prop,Q=(fun d' H' n'=>d'= .agg [.fz (.i .i64 c),.fz (.i .i64 a)]∧n≤n'∧∀id,id.2<n→H' id=H id):=⟨_,rfl⟩
 rw[←hQ]
 have e:H=hpX [] H:=rfl
 rw[e]
 refine zam (N:=7) hm hQ9 69000 (lst []) zGZ Tryz.func69 rfl rfl (by simp) (by kernel_rfl) ?_
 simp only[go_sem]
 rw[if_neg hne,ho]
 simp only[go_sem,Tryz.f69]
 rw[hQ]
 refine⟨?_,by omega,fun id hid=>znE (n:=n) (by intro p hp;simp at hp;rcases hp with rfl|rfl<;>simp) id hid⟩
 simp only[go_sem]
end Go.Proofs.YtmconmiemdinkaaGreatDoor
namespace Go.Proofs.YtmconmiemdinkaaGreatDoor
open Go Go.Abs Go.Proofs
attribute [local irreducible] zaq
def HHc (op:Bool)(n:Nat):List (Abs.Id×Option O):=
  [((41005,3),some ⟨[.fz (.i .i64 n)],true,false⟩),((41003,1),some ⟨[.fz (.b op)],true,false⟩),
   ((41006,4),some ⟨[.fn 68 [.ptr (41005,3) 0,.ptr (41003,1) 0,.ptr (41006,4) 0]],true,false⟩),
   ((41004,2),some ⟨[.fz (.i .i64 0),.fz (.i .i64 0)],true,false⟩)]
def zwV (x:zg2):D:= .agg [.fz (.i .i64 x.code),.fz (.i .i64 x.index)]
theorem zw0 {op:Bool}{f:Abs.zab}{d:Int}{n:Nat}(h:zeb op f d n≠0):chk op f d n=(⟨zeb op f d n,n⟩,n+1):=by rw[zwb,if_pos h]
theorem zad {s:Str}:(⟨s.l⟩:Str)=s:=rfl
theorem zyl {s:Str}:s=⟨[]⟩↔s.l=[]:=by cases s;simp
def zhw (id:Abs.Id):List (Abs.Id×Option O)→Prop
 |[]=>True
 |(i,_)::l=>i≠id∧zhw id l
theorem zcz {id:Abs.Id}{X:zaw}:∀{l:List (Abs.Id×Option O)},zhw id l→hpX l X id=X id
 |[],_=>rfl
 |(i,o)::l,h=>by simp only[hpX];rw[if_neg (fun e=>h.1 e.symm)];exact zcz h.2
theorem zeS {op:Bool}{f:Abs.zab}{d p:Int}{n:Nat}(hp:zbe op f=p):zeb op f d n=if 200<(n:Int)+1∨40<d then 1 else if p<0 then 4
  else if¬((f.subs.length:Int)=p∧(f.kind=2→(f.words.length:Int)≤3)∧(f.kind=3→(f.words.length:Int)=2)∧(f.kind≠2→f.kind≠3→(f.words.length:Int)=0))then 9
  else if(f.kind=2∨f.kind=8∨f.kind=9∨f.kind=10)∧zaq f.name=false then 10 else if¬(f.kind=2∨f.kind=8∨f.kind=9∨f.kind=10)∧¬f.name.l=[]then 5 else if f.words.all zaq=false then 10 else 0:=by
 have e1:(200<n+1∨40<d)=(200<(n:Int)+1∨40<d):=propext (by omega)
 have e2:(zdf f=true)=((f.kind=2→(f.words.length:Int)≤3)∧(f.kind=3→(f.words.length:Int)=2)∧(f.kind≠2→f.kind≠3→(f.words.length:Int)=0)):=propext (by
  unfold zdf
  by_cases h2:f.kind=2
  ·rw[if_pos h2,decide_eq_true_eq];omega
  ·rw[if_neg h2]
   by_cases h3:f.kind=3
   ·rw[if_pos h3,decide_eq_true_eq];omega
   ·rw[if_neg h3,decide_eq_true_eq];omega)
 have e3:(f.name≠⟨[]⟩)=¬f.name.l=[]:=propext (by rw[Ne,zyl])
 unfold zeb
 simp only[hp,e1,e2,e3,named,decide_eq_true_eq,decide_eq_false_iff_not]
theorem zBC:zcw 10= -1:=by decide
theorem zFi:zcw 2=0:=by decide
theorem zFj:zcw 3=0:=by decide
theorem znQ (op:Bool)(f:Abs.zab):(f.kind=2∧zbe op f=0)∨(f.kind=3∧zbe op f=0)∨(f.kind=10∧op=true∧zbe op f=0)∨(f.kind=10∧op=false∧zbe op f= -1)∨(¬f.kind=2∧¬f.kind=3∧¬f.kind=10∧zbe op f=zcw f.kind):=by
 unfold zbe
 by_cases h2:f.kind=2
 ·exact .inl ⟨h2,by rw[if_neg (by omega),h2];rfl⟩
 by_cases h3:f.kind=3
 ·exact .inr (.inl ⟨h3,by rw[if_neg (by omega),h3];rfl⟩)
 by_cases h10:f.kind=10
 ·cases op
  ·exact .inr (.inr (.inr (.inl ⟨h10,rfl,by rw[if_neg (by simp),h10];rfl⟩)))
  ·exact .inr (.inr (.inl ⟨h10,rfl,by rw[if_pos ⟨h10,rfl⟩]⟩))
 ·exact .inr (.inr (.inr (.inr ⟨h2,h3,h10,by rw[if_neg (fun h=>h10 h.1)]⟩)))
theorem zdB {P:Program}{G:Nat→List FD}{f:FuncId}{args:List D}{H X:zaw}{hl:List (Abs.Id×Option O)}{n n':Nat}{R:D→zaw→Nat→Prop}(hf:zq2 (frL (zgE 0 args)) (zgE 0 args))(hh:ze0 H hl)(hx:∀id o,X id=some o→H id=some o)(hn:n≤n')(h:zaH P G f args (hpX hl X) n' R):zaH P G f args H n R:=
 zdC rfl (zeK hf (ze0.getX hx hh) hn) h
theorem zdO {P:Program}{G:Nat→List FD}{f:FuncId}{d:D}{x:FD}{rest:List D}{H:zaw}{n:Nat}{R:D→zaw→Nat→Prop}(ha:D.toFDs [d]=some [x])(h:zaH P G f (.fz x::rest) H n R):zaH P G f (d::rest) H n R:=by
 refine⟨h.1,fun w L F vs hok hvs=>h.2 w L F vs hok ?_⟩
 cases vs with
 |nil=>simp[zah]at hvs
 |cons v vs=>
  simp only[zah]at hvs ⊢
  have h1:zah w L F (Ub n) [d] [v]:=by simp only[zah];exact⟨hvs.1,trivial⟩
  have h2:zah w L F (Ub n) ([x].map .fz) [v]:=h1.of_toFDs ha
  simp only[List.map_cons,List.map_nil,zah]at h2
  exact⟨h2.1,hvs.2⟩
structure Kp (p:Prop):Prop where
 out:p
structure zDk (n0 len:Nat)(p:Nat→Nat→Prop) where
 j:Nat
 n:Nat
 m:Nat
 hj:j≤len
 hm:n0≤m
 hp:p j n
theorem f68 (op:Bool):∀(k:Nat) (f:Abs.zab) (d:Int) (n m:Nat) (X:zaw),f.size≤k→(enc f).Wf→0≤d→d≤41→n≤200→4<m→
  (∀id o,X id=some o→id.2<m∧id.1≠41003∧id.1≠41004∧id.1≠41005∧id.1≠41006)→
  zaH Tryz.prog G0 68 [.fz (enc f),.fz (.i .i64 d),.ptr (41005,3) 0,.ptr (41003,1) 0,.ptr (41006,4) 0] (hpX (HHc op n) X) m
   (fun d' H' n'=>d'=zwV (chk op f d n).1∧m≤n'∧ze0 H' (HHc op (chk op f d n).2)∧∀id o,X id=some o→H' id=some o):=by
 intro k
 induction k with
 |zero=>intro f d n m X hs;have:=f.size_pos;omega
 |succ k ih=>
  intro f d n m X hs hw hd0 hd hn hm' hX
  obtain⟨Q,hQ⟩:∃Q:D→zaw→Nat→Prop,Q=(fun d' H' n'=>d'=zwV (chk op f d n).1∧m≤n'∧ze0 H' (HHc op (chk op f d n).2)∧∀id o,X id=some o→H' id=some o):=⟨_,rfl⟩
  rw[←hQ]
  have hbad:∀{c:Int} {d':D} {H':zaw} {n':Nat},zeb op f d n=c→c≠0→d'=zwV ⟨c,n⟩→m≤n'→ze0 H' (HHc op (n+1))→(∀id o,X id=some o→H' id=some o)→Q d' H' n':=fun h1 h2 h3 h4 h5 h6=>by
   rw[hQ]
   have e:chk op f d n=(⟨_,n⟩,n+1):=(zw0 (by rw[h1];exact h2)).trans (by rw[h1])
   rw[e]
   exact⟨h3,h4,h5,h6⟩
  have hX':∀{l:List (Abs.Id×Option O)} (id o),X id=some o→(id.2<m∧id.1≠41003∧id.1≠41004∧id.1≠41005∧id.1≠41006→zhw id l)→hpX l X id=some o:=fun id o h1 h2=>(zcz (h2 (hX id o h1))).trans h1
  have hwl:f.words.length≤zbr:=by
   have h:=zc2 (by have h:=hw;rw[zaD]at h;exact h) (FD.sl (f.words.map enc)) (by simp)
   have:=zd9 h
   simpa using this
  have hsl:f.subs.length≤zbr:=by
   have h:=zc2 (by have h:=hw;rw[zaD]at h;exact h) (FD.sl (f.subs.map enc)) (by simp)
   have:=zd9 h
   simpa using this
  have hsw:∀g∈f.subs,(enc g).Wf:=fun g hg=>zoc (zc2 (by have h:=hw;rw[zaD]at h;exact h) (FD.sl (f.subs.map enc)) (by simp)) _ (List.mem_map_of_mem hg)
  have hss:∀g∈f.subs,g.size≤k:=fun g hg=>by have:=zab.size_sub hg;omega
  unfold zbr at hwl hsl
  have kX:=Kp.mk @hX'
  have kQ:=Kp.mk hQ
  have kI:=Kp.mk ih
  have kS:=Kp.mk hsw
  have kZ:=Kp.mk hss
  have kb:=Kp.mk @hbad
  have kx:=Kp.mk hX
  clear hX' hQ ih hsw hss hX hbad
  refine zam (N:=133) hm hQ9 68000 (lst []) zIP Tryz.func68 rfl rfl (by simp) (by kernel_rfl) ?_
  rcases znQ op f with⟨hk,hp⟩|⟨hk,hp⟩|⟨hk,hop,hp⟩|⟨hk,hop,hp⟩|⟨hk,hk3,hk10,hp⟩
  all_goals repeat'(first|refine za1.d (fun _=>?_) (fun _=>?_)|refine za1.i (fun _=>?_) (fun _=>?_)|refine rq fun _=>?_|refine zaV.i (f69 (a:=(n:Int)) (by simp only;omega) (by simp only[go_sem,HHc]) fun n' hn'=>?_)|simp only[go_sem,HHc,zBC,zFi,zFj,Tryz.f68, *])
  all_goals try
   refine kb.out (by first
    |rw[zeS hp,if_pos (by omega)]
    |rw[zeS hp,if_neg (by omega),if_pos (by omega)]
    |rw[zeS hp,if_neg (by omega),if_neg (by omega),if_pos (by omega)]
    |rw[zeS hp,if_neg (by omega),if_neg (by omega),if_neg (by omega),if_pos ⟨by omega,by first|assumption|simp_all [zad]⟩]
    |rw[zeS hp,if_neg (by omega),if_neg (by omega),if_neg (by omega),if_neg (by omega),if_pos ⟨by omega,by assumption⟩]) (by decide) rfl (by omega) (by first|(simp only[go_sem,HHc];done)|(simp only[go_sem,HHc,hop];done)) fun id o ho=>?_
   refine kX.out id o ho fun h1=>?_
   ((repeat'(first|exact trivial|apply And.intro))<;>(rintro rfl;simp only at h1;omega))
  all_goals
   have hN:zeb op f d n=if f.words.all zaq=false then 10 else 0:=by
    rw[zeS hp,if_neg (by omega),if_neg (by omega),if_neg (by omega),if_neg (by first|omega|(rintro⟨_,h⟩;simp_all [zad])),if_neg (by first|omega|(rintro⟨_,h⟩;simp_all))]
  all_goals
   refine zaJ hm hQ9 68000 (lst []) (ι:=zjB f.words.length (m+1+1+1) fun i=>(f.words.take i).all zaq=true)
    ⟨fun q=>⟨frL [(1,.fz (.i .i64 d)),(2,.ptr (41005,3) 0),(3,.ptr (41003,1) 0),(4,.ptr (41006,4) 0),(5,.ptr (68005,m) 0),(7,.ptr (68007,m+1) 0),(9,.fn 69 [.ptr (68008,m+1+1) 0]),
      (103,.fz (.sl (f.words.map enc))),(104,.fz (.i .i64 f.words.length)),(105,.fz (.i .i64 q.i))],
     hpX ([((68007,m+1),some ⟨[.fz (.i .i64 0),.fz (.i .i64 0)],true,false⟩),((68008,m+1+1),some ⟨[.fz (.i .i64 n)],true,false⟩),
      ((68005,m),some ⟨[.fz (.i .i64 f.kind),.fz (.s f.name.l),.fz (.sl (f.words.map enc)),.fz (.sl (f.subs.map enc))],true,false⟩)]++HHc op (n+1)) X,q.m⟩,fun q=>f.words.length-q.i⟩
    ⟨0,_,by omega,Nat.le_refl _,by simp⟩ (by kernel_rfl) ?_ ?_
   ·refine zaP ?_ ?_ (fun id o ho=>?_) ?_
    ·simp only[go_sem, *]
    ·simp only[go_sem,HHc, *]
    ·refine kX.out id o ho fun h1=>?_
     ((repeat'(first|exact trivial|apply And.intro))<;>(rintro rfl;simp only at h1;omega))
    ·simp only[go_sem]
   rintro⟨i,q,hi,hq,hpi⟩
   try simp only at hi hq hpi
   rcases Nat.lt_or_ge i f.words.length with h1|h1
   ·cases hnm:zaq f.words[i]with
    |false=>
     have hall:f.words.all zaq=false:=List.all_eq_false.2 ⟨_,List.getElem_mem h1,by simp[hnm]⟩
     rw[if_pos hall]at hN
     repeat'(first|refine rq fun _=>?_|refine zaV.i (f69 (a:=(n:Int)) (by simp only;omega) (by simp only[go_sem,HHc]) fun n' hn'=>?_)|simp only[go_sem,HHc,h1,hnm,zad,zaa,Tryz.f68])
     refine kb.out hN (by decide) rfl (by omega) (by simp only[go_sem,HHc]) fun id o ho=>?_
     refine kX.out id o ho fun h1=>?_
     ((repeat'(first|exact trivial|apply And.intro))<;>(rintro rfl;simp only at h1;omega))
    |true=>
     repeat'(first|refine rq fun _=>?_|simp only[go_sem,HHc,h1,hnm,zad,zaa,Tryz.f68])
     refine⟨⟨i+1,q,by omega,by omega,by rw[zjI h1,hpi,hnm];rfl⟩,by simp only;omega,?_⟩
     refine zaP ?_ ?_ (fun id o ho=>?_) ?_
     ·simp only[go_sem]
     ·simp only[go_sem,HHc]
     ·refine kX.out id o ho fun h1=>?_
      ((repeat'(first|exact trivial|apply And.intro))<;>(rintro rfl;simp only at h1;omega))
     ·simp only[go_sem]
   ·have h1':¬i<f.words.length:=by omega
    rw[List.take_of_length_le h1]at hpi
    rw[if_neg (by rw[hpi];simp)]at hN
    repeat'(first|refine rq fun _=>?_|simp only[go_sem,HHc,h1',zaa,Tryz.f68])
    have hchk:chk op f d n=zea op f.subs (d+1) (n+1):=by rw[zwb,if_neg (by rw[hN];simp)]
    refine zaJ hm hQ9 68000 (lst []) (ι:=zDk (m+1+1+1) f.subs.length fun j n2=>n2≤200∧zea op f.subs (d+1) (n+1)=zea op (f.subs.drop j) (d+1) n2)
     ⟨fun q=>⟨frL [(1,.fz (.i .i64 d)),(2,.ptr (41005,3) 0),(3,.ptr (41003,1) 0),(4,.ptr (41006,4) 0),(7,.ptr (68007,m+1) 0),
       (116,.fz (.sl (f.subs.map enc))),(117,.fz (.i .i64 f.subs.length)),(118,.fz (.i .i64 q.j))],
      hpX (((68007,m+1),some ⟨[.fz (.i .i64 0),.fz (.i .i64 0)],true,false⟩)::HHc op q.n) X,q.m⟩,fun q=>f.subs.length-q.j⟩
     ⟨0,n+1,q,by omega,hq,by omega,rfl⟩ (by kernel_rfl) ?_ ?_
    ·refine zaP ?_ ?_ (fun id o ho=>?_) ?_
     ·simp only[go_sem]
     ·simp only[go_sem,HHc]
     ·refine kX.out id o ho fun h1=>?_
      ((repeat'(first|exact trivial|apply And.intro))<;>(rintro rfl;simp only at h1;omega))
     ·simp only[go_sem]
    rintro⟨j,n2,q2,hj,hq2,hn2,hch⟩
    try simp only at hj hq2 hn2 hch
    rcases Nat.lt_or_ge j f.subs.length with h2|h2
    ·have hmem:=List.getElem_mem h2
     rw[List.drop_eq_getElem_cons h2,zea]at hch
     have ih2:=kI.out f.subs[j] (d+1) n2 (q2+1) (hpX [((68007,m+1),some ⟨[.fz (.i .i64 0),.fz (.i .i64 0)],true,false⟩)] X) (kZ.out _ hmem) (kS.out _ hmem) (by omega) (by omega) hn2 (by omega) (by
      intro id o ho
      simp only[hpX]at ho
      split at ho
      ·rename_i e;subst e;simp only;omega
      ·have:=kx.out id o ho;omega)
     rw[zaD]at ih2
     repeat'(first|refine rq fun _=>?_|simp only[go_sem,HHc,h2,zaa,Tryz.f68])
     refine zaV.i (zdO rfl (zdB (by simp only[go_sem,zgE]) (by simp only[go_sem,HHc]) (fun id o ho=>?_) (Nat.le_refl _) (zaK ih2 ?_)))
     ·simp only[hpX]at ho
      split at ho
      ·rename_i e;subst e;simp only[go_sem];exact Option.some.inj ho
      ·refine kX.out id o ho fun h1=>?_
       ((repeat'(first|exact trivial|apply And.intro))<;>(rintro rfl;simp only at h1;omega))
     rintro d' H' n' ⟨rfl,e1,e2,e3⟩
     have b0:=e3 (68007,m+1) ⟨[.fz (.i .i64 0),.fz (.i .i64 0)],true,false⟩ (by simp only[hpX,if_true])
     have hX2:∀id o,X id=some o→H' id=some o:=fun id o ho=>e3 id o (kX.out id o ho fun h1=>⟨by rintro rfl;simp only at h1;omega,trivial⟩)
     simp only[go_sem,HHc]at e2
     obtain⟨b1,b2,b3,b4⟩:=e2
     rw[show H'=hpX [] H' from rfl]
     by_cases hc:(chk op f.subs[j] (d+1) n2).1.code=0
     ·rw[if_neg (by rw[hc];simp)]at hch
      obtain⟨c1,c2,c3⟩:=zuj _ _ _ hc
      repeat'(first|refine rq fun _=>?_|simp only[go_sem,HHc,h2,hc,zwV,b0,Tryz.f68])
      refine⟨⟨j+1,_,n'+1,by omega,by omega,c2,hch⟩,by simp only;omega,?_⟩
      refine zaP ?_ ?_ (fun id o ho=>?_) ?_
      ·simp only[go_sem]
      ·simp only[go_sem,HHc,b0,b1,b2,b3,b4]
      ·have h1:=kx.out id o ho
       refine(zcz ?_).trans (hX2 id o ho)
       ((repeat'(first|exact trivial|apply And.intro))<;>(rintro rfl;simp only at h1;omega))
      ·simp only[go_sem]
     ·rw[if_pos hc]at hch
      repeat'(first|refine rq fun _=>?_|simp only[go_sem,HHc,h2,hc,zwV,b0,Tryz.f68])
      rw[kQ.out,hchk,hch]
      refine⟨rfl,by omega,by simp only[go_sem,HHc,b1,b2,b3,b4],fun id o ho=>?_⟩
      have h1:=kx.out id o ho
      refine(zcz ?_).trans (hX2 id o ho)
      ((repeat'(first|exact trivial|apply And.intro))<;>(rintro rfl;simp only at h1;omega))
    ·have h2':¬j<f.subs.length:=by omega
     rw[List.drop_of_length_le h2,zea]at hch
     repeat'(first|refine rq fun _=>?_|simp only[go_sem,HHc,h2',zwV,Tryz.f68])
     rw[kQ.out,hchk,hch]
     refine⟨rfl,by omega,by simp only[go_sem,HHc],fun id o ho=>kX.out id o ho fun h1=>?_⟩
     ((repeat'(first|exact trivial|apply And.intro))<;>(rintro rfl;simp only at h1;omega))
end Go.Proofs.YtmconmiemdinkaaGreatDoor
namespace Go.Proofs.YtmconmiemdinkaaGreatDoor
open Go Go.Abs Go.Proofs
def Q10:Tbl:=Q9.add 41 (sp2 (fun(f:Abs.zab) (op:Bool)=>zaX op f) fun _ _=>True)
attribute [go_sem] Q10
theorem zFy:zai Tryz.prog G0 Q10:=by
 refine zbC zGL hQ9 fun f op _ hf _=>?_
 refine zam (N:=11) hm hQ9 41000 (lst []) zGL Tryz.func41 rfl rfl (by simp) (by kernel_rfl) ?_
 have h:=f68 op f.size f 1 0 5 (fun _=>none) (Nat.le_refl _) hf (by omega) (by omega) (by omega) (by omega) (fun id o ho=>nomatch ho)
 rw[zaD]at h
 repeat'(first|refine rq fun _=>?_|simp only[go_sem,Tryz.f41])
 refine zaV.i (zdO rfl (zdB (by simp only[go_sem,zgE]) (by simp only[go_sem,HHc]) (fun id o ho=>?_) (Nat.le_refl _) (zaK h ?_)))
 ·cases ho
 rintro d' H' n' ⟨rfl,e1,e2,e3⟩
 simp only[go_sem,HHc]at e2
 obtain⟨b1,b2,b3,b4⟩:=e2
 rw[show H'=hpX [] H' from rfl]
 repeat'(first|refine rq fun _=>?_|simp only[go_sem,HHc,zwV,b4,zaX,Tryz.f41])
def Q11:Tbl:=Q10.add 48 (sp1 (fun(f:Abs.zab)=>zaX false f) fun _=>True)
attribute [go_sem] Q11
theorem zHT:zai Tryz.prog G0 Q11:=by
 refine zdd zGN zFy fun f _ hf=>?_
 refine zam (N:=5) hm zFy 48000 (lst []) zGN Tryz.func48 rfl rfl (by simp) (by kernel_rfl) ?_
 repeat'(first|refine rq fun _=>?_|simp only[go_sem,Tryz.f48])
end Go.Proofs.YtmconmiemdinkaaGreatDoor
namespace Go.Proofs.YtmconmiemdinkaaGreatDoor
open Go Go.Abs Go.Proofs
def Q12:Tbl:=Q11
attribute [go_sem] Q12
theorem zHU:zai Tryz.prog G0 Q12:=zHT
def Q13:Tbl:=Q12
attribute [go_sem] Q13
theorem zHV:zai Tryz.prog G0 Q13:=zHU
end Go.Proofs.YtmconmiemdinkaaGreatDoor
namespace Go.Proofs.YtmconmiemdinkaaGreatDoor
open Go Go.Abs Go.Proofs
def Q14:Tbl:=Q13
attribute [go_sem] Q14
theorem zFz:zai Tryz.prog G0 Q14:=zHV
def zmk (nm:Str)(w:List Str):Abs.zab:= .mk 2 nm w []
def Q15:Tbl:=Q14.add 19 (sp2 zmk fun _ _=>True)
attribute [go_sem] Q15
theorem zHW:zai Tryz.prog G0 Q15:=by
 refine zbC zGA zFz fun nm w _ _ hs=>?_
 refine zam (N:=8) hm zFz 19000 (lst []) zGA Tryz.func19 rfl rfl (by simp) (by kernel_rfl) ?_
 repeat'(first|refine rq fun _=>?_|simp only[go_sem,Tryz.f19,zmk])
def sX:Str:=⟨[120]⟩
def sY:Str:=⟨[121]⟩
def zFc:Str:=⟨[100,111,103]⟩
def Q16:Tbl:=Q15
attribute [go_sem] Q16
theorem zHX:zai Tryz.prog G0 Q16:=zHW
end Go.Proofs.YtmconmiemdinkaaGreatDoor
namespace Go.Proofs.YtmconmiemdinkaaGreatDoor
open Go Go.Abs Go.Proofs
def Q17:Tbl:=Q16
attribute [go_sem] Q17
theorem zHY:zai Tryz.prog G0 Q17:=zHX
def Q18:Tbl:=Q17
attribute [go_sem] Q18
theorem zHZ:zai Tryz.prog G0 Q18:=zHY
end Go.Proofs.YtmconmiemdinkaaGreatDoor
namespace Go.Proofs.YtmconmiemdinkaaGreatDoor
open Go Go.Abs Go.Proofs
attribute [local irreducible] zaq
theorem zaE {n b:Nat}(h:n≤1000000000)(hb:b≤256):fits n b:=by
 have h1:n≤zbr:=Nat.le_trans h (by unfold zbr;decide)
 refine⟨h1,Nat.le_trans (Nat.mul_le_mul_left _ hb) ?_⟩
 omega
structure Stk where
 st:List (Abs.zab×Int)
 cells:List D
 g:Nat
 m:Nat
 n:Nat
structure zKx where
 j:Nat
 cells:List D
 g:Nat
 m:Nat
def Q19:Tbl:=Q18
attribute [go_sem] Q19
theorem zH0:zai Tryz.prog G0 Q19:=zHZ
def Q20:Tbl:=Q19
attribute [go_sem] Q20
theorem zxv:zai Tryz.prog G0 Q20:=zH0
end Go.Proofs.YtmconmiemdinkaaGreatDoor
