/- several texts of this proof in one; no conditions -/
import Derived.Test.YtmconmiemdinkaaGreatDoorAT
import Derived.Test.YtmconmiemdinkaaGreatDoorFacts
import Derived.Test.YtmconmiemdinkaaGreatDoorY14
import Derived.Test.YtmconmiemdinkaaGreatDoorY6
set_option maxRecDepth 100000
set_option maxHeartbeats 1000000
set_option linter.unusedSimpArgs false
namespace Go.Proofs.YtmconmiemdinkaaGreatDoor
open Go Go.Abs Go.Proofs
def G0:Nat→List FD:=fun _=>[]
def Q1:Tbl:=zbp.add 16 (sp2 (fun a b:List Str=>decide (a=b)) fun _ _=>True)
attribute [go_sem] Q1
theorem hQ1:zan Tryz.prog G0 Q1:=by
 refine zbI zIb zcF fun a b _ ha hb=>?_
 have la:=zcI ha
 have lb:=zcI hb
 simp only[List.length_map,za6]at la lb
 refine zaj (N:=26) hm zcF 16000 (lst []) zIb Tryz.func16 rfl rfl (by simp) (by kernel_rfl) ?_
 simp only[go_sem]
 refine zaW.d (fun h=>?_) (fun h=>?_)
 ·simp only[go_sem]
  refine zam hm zcF 16000 (lst []) (ι:=zcX a.length fun i=>a.take i=b.take i) ⟨fun i=>⟨frL [(0,.fz (enc a)),(1,.fz (enc b)),(12,.fz (.i .i64 a.length)),(13,.fz (.i .i64 i.i))],hpL [],0⟩,fun i=>a.length-i.i⟩ ⟨0,by simp,by simp⟩ (by kernel_rfl) ?_ ?_
  ·refine zah ?_ ?_ ?_<;>simp only[go_sem]
  ·intro i
   have hi:=i.hi
   simp only[go_sem]
   refine zaW.d (fun h2=>?_) (fun h2=>?_)
   ·have h3:i.i<b.length:=by omega
    simp only[go_sem,h2,h3,zaa]
    refine zaW.d (fun h4=>?_) (fun h4=>?_)
    ·simp only[go_sem]
     refine zaq.i (by omega) fun _=>?_
     simp only[go_sem]
     refine⟨⟨i.i+1,by omega,znK h2 h3 i.hp h4⟩,by simp only;omega,?_⟩
     refine zah ?_ ?_ ?_<;>simp only[go_sem]
    ·simp only[go_sem,Tryz.f16,zwX h2 h3 h4]
   ·simp only[go_sem,Tryz.f16,znJ h h2 i.hp]
 ·have hne:a≠b:=fun e=>h (e▸rfl)
  simp only[go_sem,Tryz.f16,hne]
def Q2:Tbl:=Q1.add 18 (sp2 (fun(l:List Str) (s:Str)=>decide (s∈l)) fun _ _=>True)
attribute [go_sem] Q2
theorem hQ2:zan Tryz.prog G0 Q2:=by
 refine zbI zIc hQ1 fun l s _ ha hb=>?_
 have la:=zcI ha
 simp only[List.length_map,za6]at la
 refine zaj (N:=17) hm hQ1 18000 (lst []) zIc Tryz.func18 rfl rfl (by simp) (by kernel_rfl) ?_
 simp only[go_sem]
 refine zam hm hQ1 18000 (lst []) (ι:=zcX l.length fun i=>s∉l.take i) ⟨fun i=>⟨frL [(0,.fz (enc l)),(1,.fz (enc s)),(7,.fz (enc l)),(8,.fz (.i .i64 l.length)),(9,.fz (.i .i64 i.i))],hpL [],0⟩,fun i=>l.length-i.i⟩ ⟨0,by simp,by simp⟩ (by kernel_rfl) ?_ ?_
 ·refine zah ?_ ?_ ?_<;>simp only[go_sem]
 ·intro i
  have hi:=i.hi
  simp only[go_sem]
  refine zaW.d (fun h2=>?_) (fun h2=>?_)
  ·simp only[go_sem,h2,zaa]
   refine zaW.d (fun h4=>?_) (fun h4=>?_)
   ·have hin:s∈l:=h4▸List.getElem_mem h2
    simp only[go_sem,Tryz.f18,hin]
   ·simp only[go_sem]
    refine zaq.i (by omega) fun _=>?_
    simp only[go_sem]
    refine⟨⟨i.i+1,by omega,zcP h2 i.hp h4⟩,by simp only;omega,?_⟩
    refine zah ?_ ?_ ?_<;>simp only[go_sem]
  ·simp only[go_sem,Tryz.f18,zee h2 i.hp]
def Q3:Tbl:=Q2.add 67 (sp2 idx fun _ _=>True)
attribute [go_sem] Q3
theorem hQ3:zan Tryz.prog G0 Q3:=by
 refine zbI zIG hQ2 fun l s _ ha hb=>?_
 have la:=zcI ha
 simp only[List.length_map,za6]at la
 refine zaj (N:=19) hm hQ2 67000 (lst []) zIG Tryz.func67 rfl rfl (by simp) (by kernel_rfl) ?_
 simp only[go_sem]
 refine zam hm hQ2 67000 (lst []) (ι:=zcX l.length fun i=>s∉l.take i) ⟨fun i=>⟨frL [(0,.fz (enc l)),(1,.fz (enc s)),(7,.fz (.i .i64 l.length)),(8,.fz (.i .i64 i.i))],hpL [],0⟩,fun i=>l.length-i.i⟩ ⟨0,by simp,by simp⟩ (by kernel_rfl) ?_ ?_
 ·refine zah ?_ ?_ ?_<;>simp only[go_sem]
 ·intro i
  have hi:=i.hi
  simp only[go_sem]
  refine zaW.d (fun h2=>?_) (fun h2=>?_)
  ·simp only[go_sem,h2,zaa]
   refine zaW.d (fun h4=>?_) (fun h4=>?_)
   ·have hin:s∈l:=h4▸List.getElem_mem h2
    have e:idx l s=i.i:=by
     unfold idx
     rw[if_pos hin,zts (l:=l) h2 i.hp h4.symm]
    simp only[go_sem,Tryz.f67,e]
   ·simp only[go_sem]
    refine zaq.i (by omega) fun _=>?_
    simp only[go_sem]
    refine⟨⟨i.i+1,by omega,zcP h2 i.hp fun e=>h4 e.symm⟩,by simp only;omega,?_⟩
    refine zah ?_ ?_ ?_<;>simp only[go_sem]
  ·have e:idx l s= -1:=by
    unfold idx
    rw[if_neg (zee h2 i.hp)]
   simp only[go_sem,Tryz.f67,e]
def Q4:Tbl:=Q3.add 40 (sp2 (fun(l:List Str) (s:Str)=>decide (s∈l)) fun _ _=>True)
attribute [go_sem] Q4
theorem hQ4:zan Tryz.prog G0 Q4:=by
 refine zbI zIq hQ3 fun l s _ ha hb=>?_
 refine zaj (N:=9) hm hQ3 40000 (lst []) zIq Tryz.func40 rfl rfl (by simp) (by kernel_rfl) ?_
 have e:decide (0≤idx l s)=decide (s∈l):=by
  unfold idx
  split<;>rename_i h<;>simp[h]
 simp only[go_sem,Q3,Tryz.f40,e]
def Q5:Tbl:=Q4.add 39 (sp1 zav fun _=>True)
attribute [go_sem] Q5
theorem hQ5:zan Tryz.prog G0 Q5:=by
  refine zbR zIp hQ4 fun s _ hs=>?_
  have ls:=zGY hs
  simp only[za6]at ls
  refine zaj (N:=55) hm hQ4 39000 (lst []) zIp Tryz.func39 rfl rfl (by simp) (by kernel_rfl) ?_
  simp only[go_sem]
  repeat'(first|refine zaW.d (fun _=>?_) (fun _=>?_)|refine rq fun _=>?_|simp only[go_sem,Tryz.f39, *])
  · rw[zcM (by unfold zgM;omega)]
  · rw[zcM (by unfold zgM;omega)]
  · rw[zcM (by unfold zgM;omega)]
  · rw[zcM (by unfold zgM;omega)]
  · refine zam hm hQ4 39000 (lst []) (ι:=zcX s.l.length fun i=>∀j,j<i→okc (s.l.getD j 0)) ⟨fun i=>⟨frL [(0,.fz (enc s)),(24,.fz (.i .i64 s.l.length)),(25,.fz (.i .i64 i.i))],hpL [],0⟩,fun i=>s.l.length-i.i⟩ ⟨0,by simp,by simp⟩ (by kernel_rfl) ?_ ?_
    · refine zah ?_ ?_ ?_<;>simp only[go_sem]
    · intro i
      have hi:=i.hi
      have hp:=i.hp
      simp only[go_sem]
      refine zaW.d (fun h2=>?_) (fun h2=>?_)
      · repeat'(first|refine zaW.d (fun _=>?_) (fun _=>?_)|refine rq fun _=>?_|simp only[go_sem,Tryz.f39, *])
        all_goals first
          |rw[zpT h2 (by unfold okc zgM;omega)]
          |(refine⟨⟨i.i+1,by omega,zl5 hp (by unfold okc zgM;omega)⟩,by simp only;omega,?_⟩
            refine zah ?_ ?_ ?_<;>simp only[go_sem])
      · simp only[go_sem,Tryz.f39]
        rw[ziO (by omega) (by omega) (by unfold zgM;omega) fun j hj=>hp j (by omega)]
def Q6:Tbl:=Q5.add 33 (sp1 zav fun _=>True)
attribute [go_sem] Q6
theorem hQ6:zan Tryz.prog G0 Q6:=by
  refine zbR zIl hQ5 fun s _ hs=>?_
  have ls:=zGY hs
  simp only[za6]at ls
  refine zaj (N:=62) hm hQ5 33000 (lst []) zIl Tryz.func33 rfl rfl (by simp) (by kernel_rfl) ?_
  simp only[go_sem]
  repeat'(first|refine zaW.d (fun _=>?_) (fun _=>?_)|refine rq fun _=>?_|simp only[go_sem,Tryz.f33, *])
  · rw[zcM (by unfold zgM;omega)]
  · rw[zcM (by unfold zgM;omega)]
  · refine zam hm hQ5 33000 (lst []) (ι:=zcX s.l.length fun i=>(∀j,j<i→okc (s.l.getD j 0))∧(0<i→zgM (s.l.getD 0 0))) ⟨fun i=>⟨frL [(0,.fz (enc s)),(3,.fz (.i .i64 i.i))],hpL [],0⟩,fun i=>s.l.length-i.i⟩ ⟨0,by simp,by simp⟩ (by kernel_rfl) ?_ ?_
    · refine zah ?_ ?_ ?_<;>simp only[go_sem]
    · intro i
      have hi:=i.hi
      have hp:=i.hp.1
      have hz:=i.hp.2
      simp only[go_sem]
      refine zaW.d (fun h2=>?_) (fun h2=>?_)
      · repeat'(first|refine zaW.d (fun _=>?_) (fun _=>?_)|refine rq fun _=>?_|simp only[go_sem,Tryz.f33, *])
        all_goals first
          |rw[ztQ (s:=s) (j:=i.i) (by omega) (by unfold zgM;omega)]
          |rw[zpT h2 (by unfold okc zgM;omega)]
          |(refine⟨⟨i.i+1,by omega,zl5 hp (by unfold okc zgM;omega),zwr hz (by unfold zgM;omega)⟩,by simp only;omega,?_⟩
            refine zah ?_ ?_ ?_<;>simp only[go_sem])
      · simp only[go_sem,Tryz.f33]
        rw[ziO (by omega) (by omega) (hz (by omega)) fun j hj=>hp j (by omega)]
def Q7:Tbl:=Q6
attribute [go_sem] Q7
theorem hQ7:zan Tryz.prog G0 Q7:=hQ6
end Go.Proofs.YtmconmiemdinkaaGreatDoor
namespace Go.Proofs.YtmconmiemdinkaaGreatDoor
open Go Go.Abs Go.Proofs
def Q8:Tbl:=Q7.add 70 (sp1 zcd fun _=>True)
attribute [go_sem] Q8
theorem hQ8:zan Tryz.prog G0 Q8:=by
 refine zbR zII hQ7 fun k _ hs=>?_
 refine zaj (N:=16) hm hQ7 70000 (lst []) zII Tryz.func70 rfl rfl (by simp) (by kernel_rfl) ?_
 repeat'(first|refine zaW.d (fun _=>?_) (fun _=>?_)|refine rq fun _=>?_|simp only[go_sem,Tryz.f70, *])
 all_goals(unfold zcd;first|rw[if_pos (by omega)]|rw[if_neg (by omega),if_pos (by omega)]|rw[if_neg (by omega),if_neg (by omega),if_pos (by omega)]|rw[if_neg (by omega),if_neg (by omega),if_neg (by omega)])
def Q9:Tbl:=Q8.add 71 (sp1 (fun f:Abs.zac=>decide (f.kind=8∨f.kind=9)) fun _=>True)
attribute [go_sem] Q9
theorem hQ9:zan Tryz.prog G0 Q9:=by
 refine zbR zIJ hQ8 fun f _ hs=>?_
 refine zaj (N:=11) hm hQ8 71000 (lst []) zIJ Tryz.func71 rfl rfl (by simp) (by kernel_rfl) ?_
 repeat'(first|refine zaW.d (fun _=>?_) (fun _=>?_)|refine rq fun _=>?_|simp only[go_sem,Tryz.f71, *])
theorem f69 {c a:Int}{id:Abs.Id}{H:zax}{n:Nat}{R:D→zax→Nat→Prop}(hid:id.2<n)(ho:H id=some ⟨[.fz (.i .i64 a)],true,false⟩)(hR:∀n',n≤n'→R (.agg [.fz (.i .i64 c),.fz (.i .i64 a)]) H n'):
  zaH Tryz.prog G0 69 [.fz (.i .i64 c),.ptr id 0] H n R:=by
 refine zcH zIH (fun hfr=>?_) hR
 have hne:id≠(69003,n):=by rintro rfl;simp at hid
 have hne':(id=(69003,n))=False:=eq_false hne
 obtain⟨Q,hQ⟩:∃Q:D→zax→Nat→Prop,Q=(fun d' H' n'=>d'= .agg [.fz (.i .i64 c),.fz (.i .i64 a)]∧n≤n'∧∀id,id.2<n→H' id=H id):=⟨_,rfl⟩
 rw[←hQ]
 have e:H=hpX [] H:=rfl
 rw[e]
 refine zaj (N:=7) hm hQ9 69000 (lst []) zIH Tryz.func69 rfl rfl (by simp) (by kernel_rfl) ?_
 simp only[go_sem]
 rw[if_neg hne,ho]
 simp only[go_sem,Tryz.f69]
 rw[hQ]
 refine⟨?_,by omega,fun id hid=>zoD (n:=n) (by intro p hp;simp at hp;rcases hp with rfl|rfl<;>simp) id hid⟩
 simp only[go_sem]
end Go.Proofs.YtmconmiemdinkaaGreatDoor
namespace Go.Proofs.YtmconmiemdinkaaGreatDoor
open Go Go.Abs Go.Proofs
attribute [local irreducible] zav
def HHc (op:Bool)(n:Nat):List (Abs.Id×Option O):=
  [((41005,3),some ⟨[.fz (.i .i64 n)],true,false⟩),((41003,1),some ⟨[.fz (.b op)],true,false⟩),
   ((41006,4),some ⟨[.fn 68 [.ptr (41005,3) 0,.ptr (41003,1) 0,.ptr (41006,4) 0]],true,false⟩),
   ((41004,2),some ⟨[.fz (.i .i64 0),.fz (.i .i64 0)],true,false⟩)]
def zyb (x:zhH):D:= .agg [.fz (.i .i64 x.code),.fz (.i .i64 x.index)]
theorem zyg {op:Bool}{f:Abs.zac}{d:Int}{n:Nat}(h:zdb op f d n≠0):chk op f d n=(⟨zdb op f d n,n⟩,n+1):=by rw[zsJ,if_pos h]
theorem zad {s:Str}:(⟨s.l⟩:Str)=s:=rfl
theorem zzE {s:Str}:s=⟨[]⟩↔s.l=[]:=by cases s;simp
def zhf (id:Abs.Id):List (Abs.Id×Option O)→Prop
 |[]=>True
 |(i,_)::l=>i≠id∧zhf id l
theorem za0 {id:Abs.Id}{X:zax}:∀{l:List (Abs.Id×Option O)},zhf id l→hpX l X id=X id
 |[],_=>rfl
 |(i,o)::l,h=>by simp only[hpX];rw[if_neg (fun e=>h.1 e.symm)];exact za0 h.2
theorem zbu {op:Bool}{f:Abs.zac}{d p:Int}{n:Nat}(hp:za7 op f=p):zdb op f d n=if 200<(n:Int)+1∨40<d then 1 else if p<0 then 4
  else if¬((f.subs.length:Int)=p∧(f.kind=2→(f.words.length:Int)≤3)∧(f.kind=3→(f.words.length:Int)=2)∧(f.kind≠2→f.kind≠3→(f.words.length:Int)=0))then 9
  else if(f.kind=2∨f.kind=8∨f.kind=9∨f.kind=10)∧zav f.name=false then 10 else if¬(f.kind=2∨f.kind=8∨f.kind=9∨f.kind=10)∧¬f.name.l=[]then 5 else if f.words.all zav=false then 10 else 0:=by
 have e1:(200<n+1∨40<d)=(200<(n:Int)+1∨40<d):=propext (by omega)
 have e2:(zdB f=true)=((f.kind=2→(f.words.length:Int)≤3)∧(f.kind=3→(f.words.length:Int)=2)∧(f.kind≠2→f.kind≠3→(f.words.length:Int)=0)):=propext (by
  unfold zdB
  by_cases h2:f.kind=2
  ·rw[if_pos h2,decide_eq_true_eq];omega
  ·rw[if_neg h2]
   by_cases h3:f.kind=3
   ·rw[if_pos h3,decide_eq_true_eq];omega
   ·rw[if_neg h3,decide_eq_true_eq];omega)
 have e3:(f.name≠⟨[]⟩)=¬f.name.l=[]:=propext (by rw[Ne,zzE])
 unfold zdb
 simp only[hp,e1,e2,e3,named,decide_eq_true_eq,decide_eq_false_iff_not]
theorem zuu:zcd 10= -1:=by decide
theorem zzF:zcd 2=0:=by decide
theorem zzG:zcd 3=0:=by decide
theorem ziU (op:Bool)(f:Abs.zac):(f.kind=2∧za7 op f=0)∨(f.kind=3∧za7 op f=0)∨(f.kind=10∧op=true∧za7 op f=0)∨(f.kind=10∧op=false∧za7 op f= -1)∨(¬f.kind=2∧¬f.kind=3∧¬f.kind=10∧za7 op f=zcd f.kind):=by
 unfold za7
 by_cases h2:f.kind=2
 ·exact .inl ⟨h2,by rw[if_neg (by omega),h2];rfl⟩
 by_cases h3:f.kind=3
 ·exact .inr (.inl ⟨h3,by rw[if_neg (by omega),h3];rfl⟩)
 by_cases h10:f.kind=10
 ·cases op
  ·exact .inr (.inr (.inr (.inl ⟨h10,rfl,by rw[if_neg (by simp),h10];rfl⟩)))
  ·exact .inr (.inr (.inl ⟨h10,rfl,by rw[if_pos ⟨h10,rfl⟩]⟩))
 ·exact .inr (.inr (.inr (.inr ⟨h2,h3,h10,by rw[if_neg (fun h=>h10 h.1)]⟩)))
theorem zcY {P:Program}{G:Nat→List FD}{f:FuncId}{args:List D}{H X:zax}{hl:List (Abs.Id×Option O)}{n n':Nat}{R:D→zax→Nat→Prop}(hf:zrY (frL (zgJ 0 args)) (zgJ 0 args))(hh:zeF H hl)(hx:∀id o,X id=some o→H id=some o)(hn:n≤n')(h:zaH P G f args (hpX hl X) n' R):zaH P G f args H n R:=
 zd1 rfl (zff hf (zeF.getX hx hh) hn) h
theorem zdF {P:Program}{G:Nat→List FD}{f:FuncId}{d:D}{x:FD}{rest:List D}{H:zax}{n:Nat}{R:D→zax→Nat→Prop}(ha:D.toFDs [d]=some [x])(h:zaH P G f (.fz x::rest) H n R):zaH P G f (d::rest) H n R:=by
 refine⟨h.1,fun w L F vs hok hvs=>h.2 w L F vs hok ?_⟩
 cases vs with
 |nil=>simp[zao]at hvs
 |cons v vs=>
  simp only[zao]at hvs ⊢
  have h1:zao w L F (Ub n) [d] [v]:=by simp only[zao];exact⟨hvs.1,trivial⟩
  have h2:zao w L F (Ub n) ([x].map .fz) [v]:=h1.of_toFDs ha
  simp only[List.map_cons,List.map_nil,zao]at h2
  exact⟨h2.1,hvs.2⟩
structure Kp (p:Prop):Prop where
 out:p
structure zx1 (n0 len:Nat)(p:Nat→Nat→Prop) where
 j:Nat
 n:Nat
 m:Nat
 hj:j≤len
 hm:n0≤m
 hp:p j n
theorem f68 (op:Bool):∀(k:Nat) (f:Abs.zac) (d:Int) (n m:Nat) (X:zax),f.size≤k→(enc f).Wf→0≤d→d≤41→n≤200→4<m→
  (∀id o,X id=some o→id.2<m∧id.1≠41003∧id.1≠41004∧id.1≠41005∧id.1≠41006)→
  zaH Tryz.prog G0 68 [.fz (enc f),.fz (.i .i64 d),.ptr (41005,3) 0,.ptr (41003,1) 0,.ptr (41006,4) 0] (hpX (HHc op n) X) m
   (fun d' H' n'=>d'=zyb (chk op f d n).1∧m≤n'∧zeF H' (HHc op (chk op f d n).2)∧∀id o,X id=some o→H' id=some o):=by
 intro k
 induction k with
 |zero=>intro f d n m X hs;have:=f.size_pos;omega
 |succ k ih=>
  intro f d n m X hs hw hd0 hd hn hm' hX
  obtain⟨Q,hQ⟩:∃Q:D→zax→Nat→Prop,Q=(fun d' H' n'=>d'=zyb (chk op f d n).1∧m≤n'∧zeF H' (HHc op (chk op f d n).2)∧∀id o,X id=some o→H' id=some o):=⟨_,rfl⟩
  rw[←hQ]
  have hbad:∀{c:Int} {d':D} {H':zax} {n':Nat},zdb op f d n=c→c≠0→d'=zyb ⟨c,n⟩→m≤n'→zeF H' (HHc op (n+1))→(∀id o,X id=some o→H' id=some o)→Q d' H' n':=fun h1 h2 h3 h4 h5 h6=>by
   rw[hQ]
   have e:chk op f d n=(⟨_,n⟩,n+1):=(zyg (by rw[h1];exact h2)).trans (by rw[h1])
   rw[e]
   exact⟨h3,h4,h5,h6⟩
  have hX':∀{l:List (Abs.Id×Option O)} (id o),X id=some o→(id.2<m∧id.1≠41003∧id.1≠41004∧id.1≠41005∧id.1≠41006→zhf id l)→hpX l X id=some o:=fun id o h1 h2=>(za0 (h2 (hX id o h1))).trans h1
  have hwl:f.words.length≤za6:=by
   have h:=zbL (by have h:=hw;rw[zaz]at h;exact h) (FD.sl (f.words.map enc)) (by simp)
   have:=zcI h
   simpa using this
  have hsl:f.subs.length≤za6:=by
   have h:=zbL (by have h:=hw;rw[zaz]at h;exact h) (FD.sl (f.subs.map enc)) (by simp)
   have:=zcI h
   simpa using this
  have hsw:∀g∈f.subs,(enc g).Wf:=fun g hg=>zh6 (zbL (by have h:=hw;rw[zaz]at h;exact h) (FD.sl (f.subs.map enc)) (by simp)) _ (List.mem_map_of_mem hg)
  have hss:∀g∈f.subs,g.size≤k:=fun g hg=>by have:=zac.size_sub hg;omega
  unfold za6 at hwl hsl
  have kX:=Kp.mk @hX'
  have kQ:=Kp.mk hQ
  have kI:=Kp.mk ih
  have kS:=Kp.mk hsw
  have kZ:=Kp.mk hss
  have kb:=Kp.mk @hbad
  have kx:=Kp.mk hX
  clear hX' hQ ih hsw hss hX hbad
  refine zaj (N:=133) hm hQ9 68000 (lst []) zKz Tryz.func68 rfl rfl (by simp) (by kernel_rfl) ?_
  rcases ziU op f with⟨hk,hp⟩|⟨hk,hp⟩|⟨hk,hop,hp⟩|⟨hk,hop,hp⟩|⟨hk,hk3,hk10,hp⟩
  all_goals repeat'(first|refine zaW.d (fun _=>?_) (fun _=>?_)|refine zaW.i (fun _=>?_) (fun _=>?_)|refine rq fun _=>?_|refine zaQ.i (f69 (a:=(n:Int)) (by simp only;omega) (by simp only[go_sem,HHc]) fun n' hn'=>?_)|simp only[go_sem,HHc,zuu,zzF,zzG,Tryz.f68, *])
  all_goals try
   refine kb.out (by first
    |rw[zbu hp,if_pos (by omega)]
    |rw[zbu hp,if_neg (by omega),if_pos (by omega)]
    |rw[zbu hp,if_neg (by omega),if_neg (by omega),if_pos (by omega)]
    |rw[zbu hp,if_neg (by omega),if_neg (by omega),if_neg (by omega),if_pos ⟨by omega,by first|assumption|simp_all [zad]⟩]
    |rw[zbu hp,if_neg (by omega),if_neg (by omega),if_neg (by omega),if_neg (by omega),if_pos ⟨by omega,by assumption⟩]) (by decide) rfl (by omega) (by first|(simp only[go_sem,HHc];done)|(simp only[go_sem,HHc,hop];done)) fun id o ho=>?_
   refine kX.out id o ho fun h1=>?_
   ((repeat'(first|exact trivial|apply And.intro))<;>(rintro rfl;simp only at h1;omega))
  all_goals
   have hN:zdb op f d n=if f.words.all zav=false then 10 else 0:=by
    rw[zbu hp,if_neg (by omega),if_neg (by omega),if_neg (by omega),if_neg (by first|omega|(rintro⟨_,h⟩;simp_all [zad])),if_neg (by first|omega|(rintro⟨_,h⟩;simp_all))]
  all_goals
   refine zam hm hQ9 68000 (lst []) (ι:=zeC f.words.length (m+1+1+1) fun i=>(f.words.take i).all zav=true)
    ⟨fun q=>⟨frL [(1,.fz (.i .i64 d)),(2,.ptr (41005,3) 0),(3,.ptr (41003,1) 0),(4,.ptr (41006,4) 0),(5,.ptr (68005,m) 0),(7,.ptr (68007,m+1) 0),(9,.fn 69 [.ptr (68008,m+1+1) 0]),
      (103,.fz (.sl (f.words.map enc))),(104,.fz (.i .i64 f.words.length)),(105,.fz (.i .i64 q.i))],
     hpX ([((68007,m+1),some ⟨[.fz (.i .i64 0),.fz (.i .i64 0)],true,false⟩),((68008,m+1+1),some ⟨[.fz (.i .i64 n)],true,false⟩),
      ((68005,m),some ⟨[.fz (.i .i64 f.kind),.fz (.s f.name.l),.fz (.sl (f.words.map enc)),.fz (.sl (f.subs.map enc))],true,false⟩)]++HHc op (n+1)) X,q.m⟩,fun q=>f.words.length-q.i⟩
    ⟨0,_,by omega,Nat.le_refl _,by simp⟩ (by kernel_rfl) ?_ ?_
   ·refine zay ?_ ?_ (fun id o ho=>?_) ?_
    ·simp only[go_sem, *]
    ·simp only[go_sem,HHc, *]
    ·refine kX.out id o ho fun h1=>?_
     ((repeat'(first|exact trivial|apply And.intro))<;>(rintro rfl;simp only at h1;omega))
    ·simp only[go_sem]
   rintro⟨i,q,hi,hq,hpi⟩
   try simp only at hi hq hpi
   rcases Nat.lt_or_ge i f.words.length with h1|h1
   ·cases hnm:zav f.words[i]with
    |false=>
     have hall:f.words.all zav=false:=List.all_eq_false.2 ⟨_,List.getElem_mem h1,by simp[hnm]⟩
     rw[if_pos hall]at hN
     repeat'(first|refine rq fun _=>?_|refine zaQ.i (f69 (a:=(n:Int)) (by simp only;omega) (by simp only[go_sem,HHc]) fun n' hn'=>?_)|simp only[go_sem,HHc,h1,hnm,zad,zaa,Tryz.f68])
     refine kb.out hN (by decide) rfl (by omega) (by simp only[go_sem,HHc]) fun id o ho=>?_
     refine kX.out id o ho fun h1=>?_
     ((repeat'(first|exact trivial|apply And.intro))<;>(rintro rfl;simp only at h1;omega))
    |true=>
     repeat'(first|refine rq fun _=>?_|simp only[go_sem,HHc,h1,hnm,zad,zaa,Tryz.f68])
     refine⟨⟨i+1,q,by omega,by omega,by rw[zcr h1,hpi,hnm];rfl⟩,by simp only;omega,?_⟩
     refine zay ?_ ?_ (fun id o ho=>?_) ?_
     ·simp only[go_sem]
     ·simp only[go_sem,HHc]
     ·refine kX.out id o ho fun h1=>?_
      ((repeat'(first|exact trivial|apply And.intro))<;>(rintro rfl;simp only at h1;omega))
     ·simp only[go_sem]
   ·have h1':¬i<f.words.length:=by omega
    rw[List.take_of_length_le h1]at hpi
    rw[if_neg (by rw[hpi];simp)]at hN
    repeat'(first|refine rq fun _=>?_|simp only[go_sem,HHc,h1',zaa,Tryz.f68])
    have hchk:chk op f d n=zej op f.subs (d+1) (n+1):=by rw[zsJ,if_neg (by rw[hN];simp)]
    refine zam hm hQ9 68000 (lst []) (ι:=zx1 (m+1+1+1) f.subs.length fun j n2=>n2≤200∧zej op f.subs (d+1) (n+1)=zej op (f.subs.drop j) (d+1) n2)
     ⟨fun q=>⟨frL [(1,.fz (.i .i64 d)),(2,.ptr (41005,3) 0),(3,.ptr (41003,1) 0),(4,.ptr (41006,4) 0),(7,.ptr (68007,m+1) 0),
       (116,.fz (.sl (f.subs.map enc))),(117,.fz (.i .i64 f.subs.length)),(118,.fz (.i .i64 q.j))],
      hpX (((68007,m+1),some ⟨[.fz (.i .i64 0),.fz (.i .i64 0)],true,false⟩)::HHc op q.n) X,q.m⟩,fun q=>f.subs.length-q.j⟩
     ⟨0,n+1,q,by omega,hq,by omega,rfl⟩ (by kernel_rfl) ?_ ?_
    ·refine zay ?_ ?_ (fun id o ho=>?_) ?_
     ·simp only[go_sem]
     ·simp only[go_sem,HHc]
     ·refine kX.out id o ho fun h1=>?_
      ((repeat'(first|exact trivial|apply And.intro))<;>(rintro rfl;simp only at h1;omega))
     ·simp only[go_sem]
    rintro⟨j,n2,q2,hj,hq2,hn2,hch⟩
    try simp only at hj hq2 hn2 hch
    rcases Nat.lt_or_ge j f.subs.length with h2|h2
    ·have hmem:=List.getElem_mem h2
     rw[List.drop_eq_getElem_cons h2,zej]at hch
     have ih2:=kI.out f.subs[j] (d+1) n2 (q2+1) (hpX [((68007,m+1),some ⟨[.fz (.i .i64 0),.fz (.i .i64 0)],true,false⟩)] X) (kZ.out _ hmem) (kS.out _ hmem) (by omega) (by omega) hn2 (by omega) (by
      intro id o ho
      simp only[hpX]at ho
      split at ho
      ·rename_i e;subst e;simp only;omega
      ·have:=kx.out id o ho;omega)
     rw[zaz]at ih2
     repeat'(first|refine rq fun _=>?_|simp only[go_sem,HHc,h2,zaa,Tryz.f68])
     refine zaQ.i (zdF rfl (zcY (by simp only[go_sem,zgJ]) (by simp only[go_sem,HHc]) (fun id o ho=>?_) (Nat.le_refl _) (zaL ih2 ?_)))
     ·simp only[hpX]at ho
      split at ho
      ·rename_i e;subst e;simp only[go_sem];exact Option.some.inj ho
      ·refine kX.out id o ho fun h1=>?_
       ((repeat'(first|exact trivial|apply And.intro))<;>(rintro rfl;simp only at h1;omega))
     rintro d' H' n' ⟨rfl,e1,e2,e3⟩
     have b0:=e3 (68007,m+1) ⟨[.fz (.i .i64 0),.fz (.i .i64 0)],true,false⟩ (by simp only[hpX,if_true])
     have hX2:∀id o,X id=some o→H' id=some o:=fun id o ho=>e3 id o (kX.out id o ho fun h1=>⟨by rintro rfl;simp only at h1;omega,trivial⟩)
     simp only[go_sem,HHc]at e2
     obtain⟨b1,b2,b3,b4⟩:=e2
     rw[show H'=hpX [] H' from rfl]
     by_cases hc:(chk op f.subs[j] (d+1) n2).1.code=0
     ·rw[if_neg (by rw[hc];simp)]at hch
      obtain⟨c1,c2,c3⟩:=zsL _ _ _ hc
      repeat'(first|refine rq fun _=>?_|simp only[go_sem,HHc,h2,hc,zyb,b0,Tryz.f68])
      refine⟨⟨j+1,_,n'+1,by omega,by omega,c2,hch⟩,by simp only;omega,?_⟩
      refine zay ?_ ?_ (fun id o ho=>?_) ?_
      ·simp only[go_sem]
      ·simp only[go_sem,HHc,b0,b1,b2,b3,b4]
      ·have h1:=kx.out id o ho
       refine(za0 ?_).trans (hX2 id o ho)
       ((repeat'(first|exact trivial|apply And.intro))<;>(rintro rfl;simp only at h1;omega))
      ·simp only[go_sem]
     ·rw[if_pos hc]at hch
      repeat'(first|refine rq fun _=>?_|simp only[go_sem,HHc,h2,hc,zyb,b0,Tryz.f68])
      rw[kQ.out,hchk,hch]
      refine⟨rfl,by omega,by simp only[go_sem,HHc,b1,b2,b3,b4],fun id o ho=>?_⟩
      have h1:=kx.out id o ho
      refine(za0 ?_).trans (hX2 id o ho)
      ((repeat'(first|exact trivial|apply And.intro))<;>(rintro rfl;simp only at h1;omega))
    ·have h2':¬j<f.subs.length:=by omega
     rw[List.drop_of_length_le h2,zej]at hch
     repeat'(first|refine rq fun _=>?_|simp only[go_sem,HHc,h2',zyb,Tryz.f68])
     rw[kQ.out,hchk,hch]
     refine⟨rfl,by omega,by simp only[go_sem,HHc],fun id o ho=>kX.out id o ho fun h1=>?_⟩
     ((repeat'(first|exact trivial|apply And.intro))<;>(rintro rfl;simp only at h1;omega))
end Go.Proofs.YtmconmiemdinkaaGreatDoor
namespace Go.Proofs.YtmconmiemdinkaaGreatDoor
open Go Go.Abs Go.Proofs
def Q10:Tbl:=Q9.add 41 (sp2 (fun(f:Abs.zac) (op:Bool)=>zaV op f) fun _ _=>True)
attribute [go_sem] Q10
theorem zG8:zan Tryz.prog G0 Q10:=by
 refine zbI zIr hQ9 fun f op _ hf _=>?_
 refine zaj (N:=11) hm hQ9 41000 (lst []) zIr Tryz.func41 rfl rfl (by simp) (by kernel_rfl) ?_
 have h:=f68 op f.size f 1 0 5 (fun _=>none) (Nat.le_refl _) hf (by omega) (by omega) (by omega) (by omega) (fun id o ho=>nomatch ho)
 rw[zaz]at h
 repeat'(first|refine rq fun _=>?_|simp only[go_sem,Tryz.f41])
 refine zaQ.i (zdF rfl (zcY (by simp only[go_sem,zgJ]) (by simp only[go_sem,HHc]) (fun id o ho=>?_) (Nat.le_refl _) (zaL h ?_)))
 ·cases ho
 rintro d' H' n' ⟨rfl,e1,e2,e3⟩
 simp only[go_sem,HHc]at e2
 obtain⟨b1,b2,b3,b4⟩:=e2
 rw[show H'=hpX [] H' from rfl]
 repeat'(first|refine rq fun _=>?_|simp only[go_sem,HHc,zyb,b4,zaV,Tryz.f41])
def Q11:Tbl:=Q10.add 48 (sp1 (fun(f:Abs.zac)=>zaV false f) fun _=>True)
attribute [go_sem] Q11
theorem zG9:zan Tryz.prog G0 Q11:=by
 refine zbR zIu zG8 fun f _ hf=>?_
 refine zaj (N:=5) hm zG8 48000 (lst []) zIu Tryz.func48 rfl rfl (by simp) (by kernel_rfl) ?_
 repeat'(first|refine rq fun _=>?_|simp only[go_sem,Tryz.f48])
end Go.Proofs.YtmconmiemdinkaaGreatDoor
namespace Go.Proofs.YtmconmiemdinkaaGreatDoor
open Go Go.Abs Go.Proofs
def Q12:Tbl:=Q11.add 66 (sp1 zcd fun _=>True)
attribute [go_sem] Q12
theorem zJF:zan Tryz.prog G0 Q12:=by
 refine zbR zIF zG9 fun k _ hs=>?_
 refine zaj (N:=13) hm zG9 66000 (lst []) zIF Tryz.func66 rfl rfl (by simp) (by kernel_rfl) ?_
 by_cases h:1≤k∧k≤9
 ·have hk:k=1∨k=2∨k=3∨k=4∨k=5∨k=6∨k=7∨k=8∨k=9:=by omega
  rcases hk with rfl|rfl|rfl|rfl|rfl|rfl|rfl|rfl|rfl
  all_goals
   repeat'(first|refine rq fun _=>?_|simp only[go_sem,Tryz.f66,zcd])
 ·have e:zcd k= -1:=by unfold zcd;rw[if_neg (by omega),if_neg (by omega),if_neg (by omega)]
  repeat'(first|refine zaW.d (fun _=>?_) (fun _=>?_)|refine rq fun _=>?_|simp only[go_sem,Tryz.f66,e, *])
  all_goals(exfalso;omega)
def Q13:Tbl:=Q12
attribute [go_sem] Q13
theorem zJG:zan Tryz.prog G0 Q13:=zJF
end Go.Proofs.YtmconmiemdinkaaGreatDoor
namespace Go.Proofs.YtmconmiemdinkaaGreatDoor
open Go Go.Abs Go.Proofs
def Q14:Tbl:=Q13
attribute [go_sem] Q14
theorem zHa:zan Tryz.prog G0 Q14:=zJG
def zrw (nm:Str)(w:List Str):Abs.zac:= .mk 2 nm w []
def Q15:Tbl:=Q14.add 19 (sp2 zrw fun _ _=>True)
attribute [go_sem] Q15
theorem zJH:zan Tryz.prog G0 Q15:=by
 refine zbI zId zHa fun nm w _ _ hs=>?_
 refine zaj (N:=8) hm zHa 19000 (lst []) zId Tryz.func19 rfl rfl (by simp) (by kernel_rfl) ?_
 repeat'(first|refine rq fun _=>?_|simp only[go_sem,Tryz.f19,zrw])
def sX:Str:=⟨[120]⟩
def sY:Str:=⟨[121]⟩
def zI2:Str:=⟨[100,111,103]⟩
def Q16:Tbl:=Q15
attribute [go_sem] Q16
theorem zJI:zan Tryz.prog G0 Q16:=zJH
end Go.Proofs.YtmconmiemdinkaaGreatDoor
namespace Go.Proofs.YtmconmiemdinkaaGreatDoor
open Go Go.Abs Go.Proofs
def Q17:Tbl:=Q16
attribute [go_sem] Q17
theorem zJJ:zan Tryz.prog G0 Q17:=zJI
def Q18:Tbl:=Q17
attribute [go_sem] Q18
theorem zBG:zan Tryz.prog G0 Q18:=zJJ
end Go.Proofs.YtmconmiemdinkaaGreatDoor
namespace Go.Proofs.YtmconmiemdinkaaGreatDoor
open Go Go.Abs Go.Proofs
attribute [local irreducible] zav
theorem zal {n b:Nat}(h:n≤1000000000)(hb:b≤256):fits n b:=by
 have h1:n≤za6:=Nat.le_trans h (by unfold za6;decide)
 refine⟨h1,Nat.le_trans (Nat.mul_le_mul_left _ hb) ?_⟩
 omega
def zjT (p:Abs.zac×Int):FD:= .agg [.i .i64 p.1.kind,.s p.1.name.l,.sl (p.1.words.map enc),.sl (p.1.subs.map enc),.i .i64 p.2]
theorem zCw (l:List (Abs.zac×Int)):zbC (l.map zjT) 5:=fun x hx=>by
 obtain⟨a,_,rfl⟩:=List.mem_map.1 hx;rfl
theorem zea (l:List (Abs.zac×Int)):(zaf (l.map zjT)).length=l.length*5:=by
 rw[zbq (zbm (zCw l)),List.length_map]
theorem zgR {xs ys:List FD}:zaf (xs++ys)=zaf xs++zaf ys:=by simp[zaf]
theorem zhs (op:Bool)(f:Abs.zac):(f.kind=2∧za7 op f=0)∨(f.kind=3∧za7 op f=0)∨(f.kind=10∧op=true∧za7 op f=0)∨(f.kind=10∧op=false∧za7 op f= -1)∨(f.kind=8∧za7 op f=1)∨(f.kind=9∧za7 op f=1)∨
  (¬f.kind=2∧¬f.kind=3∧¬f.kind=10∧¬f.kind=8∧¬f.kind=9∧za7 op f=zcd f.kind):=by
 rcases ziU op f with h|h|h|h|⟨h2,h3,h10,hp⟩
 ·exact .inl h
 ·exact .inr (.inl h)
 ·exact .inr (.inr (.inl h))
 ·exact .inr (.inr (.inr (.inl h)))
 ·by_cases h8:f.kind=8
  ·exact .inr (.inr (.inr (.inr (.inl ⟨h8,by rw[hp,h8];rfl⟩))))
  by_cases h9:f.kind=9
  ·exact .inr (.inr (.inr (.inr (.inr (.inl ⟨h9,by rw[hp,h9];rfl⟩)))))
  exact .inr (.inr (.inr (.inr (.inr (.inr ⟨h2,h3,h10,h8,h9,hp⟩)))))
theorem zC2:zcd 8=1:=by decide
theorem zC3:zcd 9=1:=by decide
structure Stk where
 st:List (Abs.zac×Int)
 cells:List D
 g:Nat
 m:Nat
 n:Nat
theorem zus {cells:List D}{l st:List (Abs.zac×Int)}{x:Abs.zac×Int}(hst:st=l++[x])(hc:cells.take (st.length*5)=zaf (st.map zjT))(hl:st.length*5≤cells.length):
  (cells.drop (l.length*5)).take 5=[.fz (.i .i64 x.1.kind),.fz (.s x.1.name.l),.fz (.sl (x.1.words.map enc)),.fz (.sl (x.1.subs.map enc)),.fz (.i .i64 x.2)]∧cells.take (l.length*5)=zaf (l.map zjT):=by
 subst hst
 rw[List.length_append,List.length_singleton,List.map_append,zgR]at hc
 have hl2:=zea l
 have h1:cells=(zaf (l.map zjT)++zaf ([x].map zjT))++cells.drop ((l.length+1)*5):=by rw[←hc,List.take_append_drop]
 constructor
 ·rw[h1,List.append_assoc,List.drop_append_of_le_length (by omega),List.drop_of_length_le (by omega),List.nil_append]
  rfl
 ·rw[h1,List.append_assoc,List.take_append_of_le_length (by omega),List.take_of_length_le (by omega)]
def zbF (l:List (Abs.zac×Int))(s:List Abs.zac)(d:Int)(j:Nat):List (Abs.zac×Int):=l++((s.drop j).map fun g=>(g,d+1)).reverse
theorem zdo {l:List (Abs.zac×Int)}{s:List Abs.zac}{d:Int}:zbF l s d s.length=l:=by simp[zbF]
theorem zfo {l:List (Abs.zac×Int)}{s:List Abs.zac}{d:Int}{j:Nat}:(zbF l s d j).length=l.length+(s.length-j):=by simp[zbF]
theorem ziV {l:List (Abs.zac×Int)}{s:List Abs.zac}{d:Int}{j:Nat}(h:j<s.length):zbF l s d j=zbF l s d (j+1)++[(s[j],d+1)]:=by
 unfold zbF;rw[List.drop_eq_getElem_cons h,List.map_cons,List.reverse_cons,List.append_assoc]
theorem zkb {l:List (Abs.zac×Int)}{s:List Abs.zac}{d:Int}:(zbF l s d 0).reverse=s.map (fun g=>(g,d+1))++l.reverse:=by simp[zbF]
theorem zka {l:List (Abs.zac×Int)}{s:List Abs.zac}{d:Int}{j:Nat}{a:Abs.zac×Int}(h:a∈zbF l s d j):a∈l∨∃g∈s,a=(g,d+1):=by
 unfold zbF at h
 rcases List.mem_append.1 h with h|h
 ·exact .inl h
 ·rw[List.mem_reverse,List.mem_map]at h
  obtain⟨g,hg,rfl⟩:=h
  exact .inr ⟨g,List.mem_of_mem_drop hg,rfl⟩
structure zGV where
 j:Nat
 cells:List D
 g:Nat
 m:Nat
set_option maxHeartbeats 8000000 in
theorem f34:zan Tryz.prog G0 (Q18.add 34 (sp2 (fun(f:Abs.zac) op=>zaV op f) fun _ op=>op=false)):=by
 refine zbI zEv zBG fun f op hop hw _=>?_
 obtain rfl:op=false:=hop
 obtain⟨Q,hQ⟩:∃Q:D→zax→Nat→Prop,Q=(fun d _ _=>D.val d=some (.fz (enc (zaV false f)))):=⟨_,rfl⟩
 rw[←hQ]
 have hres:∀{c i:Int} {H':zax} {n':Nat},zaV false f=⟨c,i⟩→Q (.agg [.fz (.i .i64 c),.fz (.i .i64 i)]) H' n':=fun e=>by
  rw[hQ];show _=some (D.fz (enc (zaV false f)));rw[e];rfl
 have kr:=Kp.mk @hres
 clear hres hQ
 refine zaj (N:=150) hm zBG 34000 (lst [19,148]) zEv Tryz.func34 rfl rfl (by simp) (by kernel_rfl) ?_
 repeat'(first|refine rq fun _=>?_|simp only[go_sem])
 refine zam hm zBG 34000 (lst [19,148]) (ι:={q:Stk // Kp (q.g<q.m∧q.cells.take (q.st.length*5)=zaf (q.st.map zjT)∧q.st.length*5≤q.cells.length∧4≤q.m∧q.n≤200∧q.st.length≤1+2*q.n∧(∀a∈q.st,(enc a.1).Wf∧0≤a.2∧a.2≤41)∧zhO false q.st.reverse q.n=zaV false f)})
  ⟨fun q=>⟨frL [(1,.fz (.b false)),(4,.ptr (34004,1) 0),(5,.arr (34148,q.1.g) 5 0 q.1.st.length),(6,.fz (.i .i64 q.1.n))],
   hpL [((34004,1),some ⟨[.fz (.i .i64 0),.fz (.i .i64 0)],true,false⟩),((34148,q.1.g),some ⟨q.1.cells,false,false⟩)],q.1.m⟩,fun q=>201-q.1.n⟩
  ⟨⟨[(f,1)],[.fz (.i .i64 f.kind),.fz (.s f.name.l),.fz (.sl (f.words.map enc)),.fz (.sl (f.subs.map enc)),.fz (.i .i64 1)],3,4,0⟩,⟨by simp only;omega,rfl,Nat.le_refl _,by simp only;omega,by simp only;omega,by simp,by simp only[List.mem_singleton];rintro a rfl;exact⟨hw,by simp,by simp⟩,zns⟩⟩ (by kernel_rfl) ?_ ?_
 ·refine zb6 [((34148,3),(34019,2))] [] [] ?_ ?_ ?_ ?_ ?_<;>simp only[go_sem,zzr,zpZ,vL]
 rintro⟨⟨st,cells,g,m,n⟩,kp⟩
 obtain⟨hg,hc,hl,hm4,hn,hlen,hwf,hrest⟩:=kp.out
 try simp only at hm4 hn hlen hwf hrest hg hc hl
 rcases List.eq_nil_or_concat st with rfl|⟨l,⟨x,d⟩,hst⟩
 ·have e:zaV false f=⟨0,0⟩:=by rw[←hrest];rfl
  repeat'(first|refine rq fun _=>?_|simp only[go_sem,List.length_nil,Tryz.f34])
  exact kr.out e
 rw[List.concat_eq_append]at hst
 obtain⟨hcell,hcut⟩:=zus hst hc hl
 have hl1:st.length=l.length+1:=by rw[hst,List.length_append,List.length_singleton]
 have e1:((st.length:Int)-1).toNat=l.length:=by omega
 have e1b:((st.length:Int)-1-0).toNat=l.length:=by omega
 have hpos:0<(st.length:Int):=by omega
 have hl5:l.length*5+5≤cells.length:=by omega
 have hll:l.length≤2*n:=by omega
 obtain⟨hx1,hx2,hx3⟩:=hwf (x,d) (by rw[hst];simp)
 simp only at hx1 hx2 hx3 hcell
 have hlwf:∀a∈l,(enc a.1).Wf∧0≤a.2∧a.2≤41:=fun a ha=>hwf a (by rw[hst];exact List.mem_append_left _ ha)
 rw[hst,List.reverse_append,List.reverse_singleton,List.singleton_append,zkd]at hrest
 have hbad:∀{c:Int} {H':zax} {n':Nat},zdb false x d n=c→c≠0→Q (.agg [.fz (.i .i64 c),.fz (.i .i64 n)]) H' n':=fun h1 h2=>kr.out (by rw[←hrest,if_pos (by rw[h1];exact h2),h1])
 have hwl:x.words.length≤za6:=by
  have h:=zbL (by have h:=hx1;rw[zaz]at h;exact h) (FD.sl (x.words.map enc)) (by simp)
  have:=zcI h
  simpa using this
 have hsl:x.subs.length≤za6:=by
  have h:=zbL (by have h:=hx1;rw[zaz]at h;exact h) (FD.sl (x.subs.map enc)) (by simp)
  have:=zcI h
  simpa using this
 have hsw:∀g∈x.subs,(enc g).Wf:=fun g hg=>zh6 (zbL (by have h:=hx1;rw[zaz]at h;exact h) (FD.sl (x.subs.map enc)) (by simp)) _ (List.mem_map_of_mem hg)
 unfold za6 at hwl hsl
 have kb:=Kp.mk @hbad
 have kR:=Kp.mk hrest
 have kW:=Kp.mk hlwf
 have kS:=Kp.mk hsw
 have kC:=Kp.mk hcut
 clear hbad hrest hlwf hsw hst hx1 hcut hl1 hlen hwf hc hl hw
 rcases zhs false x with⟨hk,hp⟩|⟨hk,hp⟩|⟨_,hop,_⟩|⟨hk,_,hp⟩|⟨hk,hp⟩|⟨hk,hp⟩|⟨hk,hk3,hk10,hk8,hk9,hp⟩
 rotate_left 2
 ·exact Bool.noConfusion hop
 all_goals repeat'(first|refine zaW.d (fun _=>?_) (fun _=>?_)|refine zaW.i (fun _=>?_) (fun _=>?_)|refine rq fun _=>?_|simp only[go_sem,Nat.zero_add,zuu,zzF,zzG,zC2,zC3,Tryz.f34, *])
 all_goals try(exfalso;omega)
 all_goals try
  refine kb.out (by first
   |rw[zbu hp,if_pos (by omega)]
   |rw[zbu hp,if_neg (by omega),if_pos (by omega)]
   |rw[zbu hp,if_neg (by omega),if_neg (by omega),if_pos (by omega)]
   |rw[zbu hp,if_neg (by omega),if_neg (by omega),if_neg (by omega),if_pos ⟨by omega,by first|assumption|simp_all [zad]⟩]
   |rw[zbu hp,if_neg (by omega),if_neg (by omega),if_neg (by omega),if_neg (by omega),if_pos ⟨by omega,by assumption⟩]) (by decide)
 all_goals
  have hN:zdb false x d n=if x.words.all zav=false then 10 else 0:=by
   rw[zbu hp,if_neg (by omega),if_neg (by omega),if_neg (by omega),if_neg (by first|omega|(rintro⟨_,h⟩;simp_all [zad])),if_neg (by first|omega|(rintro⟨_,h⟩;simp_all))]
  have hs2:x.subs.length≤2:=by
   have h2:za7 false x≤2:=by
    unfold za7 zcd
    rw[if_neg (by simp)]
    repeat'(split<;>try decide)
   omega
  have hw0:((0:Nat):Int)=0:=rfl
  have hw10:((10:Nat):Int)=10:=rfl
  refine zam hm zBG 34000 (lst [19,148]) (ι:=zx1 (m+1+1) x.words.length fun i c=>c=if(x.words.take i).all zav=true then 0 else 10)
   ⟨fun q=>⟨frL [(1,.fz (.b false)),(4,.ptr (34004,1) 0),(5,.arr (34148,g) 5 0 l.length),(6,.fz (.i .i64 n)),(7,.ptr (34007,m) 0),(8,.ptr (34008,m+1) 0),
     (13,.fz (.i .i64 q.n)),(114,.fz (.sl (x.words.map enc))),(115,.fz (.i .i64 x.words.length)),(116,.fz (.i .i64 q.j))],
    hpL [((34007,m),some ⟨[.fz (.i .i64 x.kind),.fz (.s x.name.l),.fz (.sl (x.words.map enc)),.fz (.sl (x.subs.map enc)),.fz (.i .i64 d)],true,false⟩),
     ((34008,m+1),some ⟨[.fz (.i .i64 x.kind),.fz (.s x.name.l),.fz (.sl (x.words.map enc)),.fz (.sl (x.subs.map enc))],true,false⟩),
     ((34004,1),some ⟨[.fz (.i .i64 0),.fz (.i .i64 0)],true,false⟩),((34148,g),some ⟨cells,false,false⟩)],q.m⟩,fun q=>x.words.length-q.j⟩
   ⟨0,0,m+1+1,by omega,by omega,by simp⟩ (by kernel_rfl) ?_ ?_
  ·refine zah ?_ ?_ ?_<;>simp only[go_sem, *]
  rintro⟨i,c,m2,hi,hm2,hc⟩
  try simp only at hi hm2 hc
  rcases Nat.lt_or_ge i x.words.length with h1|h1
  ·cases hnm:zav x.words[i]with
   |false=>
    repeat'(first|refine rq fun _=>?_|simp only[go_sem,h1,hnm,zad,zaa,Tryz.f34])
    refine⟨⟨i+1,10,m2,by omega,by omega,by rw[zcr h1,hnm,Bool.and_false];rfl⟩,by simp only;omega,?_⟩
    refine zah ?_ ?_ ?_<;>simp only[go_sem,hw10]
   |true=>
    repeat'(first|refine rq fun _=>?_|simp only[go_sem,h1,hnm,zad,zaa,Tryz.f34])
    refine⟨⟨i+1,c,m2,by omega,by omega,by rw[zcr h1,hnm,Bool.and_true];exact hc⟩,by simp only;omega,?_⟩
    refine zah ?_ ?_ ?_<;>simp only[go_sem]
  have h1':¬i<x.words.length:=by omega
  rw[List.take_of_length_le h1]at hc
  cases hall:x.words.all zav with
  |false=>
   rw[hall]at hN hc
   rw[if_pos rfl]at hN
   rw[if_neg (by simp)]at hc
   subst hc
   repeat'(first|refine rq fun _=>?_|simp only[go_sem,h1',hw10,Tryz.f34])
   exact kb.out hN (by decide)
  |true=>
   rw[hall]at hN hc
   rw[if_neg (by simp)]at hN
   rw[if_pos rfl]at hc
   subst hc
   have hrest:=kR.out
   rw[if_neg (by rw[hN];simp)]at hrest
   repeat'(first|refine rq fun _=>?_|simp only[go_sem,h1',hw0,Tryz.f34])
   refine zam hm zBG 34000 (lst [19,148]) (ι:={q:zGV // q.j≤x.subs.length∧q.g<q.m∧m+1<q.m∧q.cells.take ((zbF l x.subs d q.j).length*5)=zaf ((zbF l x.subs d q.j).map zjT)∧(zbF l x.subs d q.j).length*5≤q.cells.length})
    ⟨fun q=>⟨frL [(1,.fz (.b false)),(4,.ptr (34004,1) 0),(5,.arr (34148,q.1.g) 5 0 (zbF l x.subs d q.1.j).length),(6,.fz (.i .i64 n)),(7,.ptr (34007,m) 0),(8,.ptr (34008,m+1) 0),(16,.fz (.i .i64 ((q.1.j:Int)-1)))],
     hpL [((34007,m),some ⟨[.fz (.i .i64 x.kind),.fz (.s x.name.l),.fz (.sl (x.words.map enc)),.fz (.sl (x.subs.map enc)),.fz (.i .i64 d)],true,false⟩),
      ((34008,m+1),some ⟨[.fz (.i .i64 x.kind),.fz (.s x.name.l),.fz (.sl (x.words.map enc)),.fz (.sl (x.subs.map enc))],true,false⟩),
      ((34004,1),some ⟨[.fz (.i .i64 0),.fz (.i .i64 0)],true,false⟩),((34148,q.1.g),some ⟨q.1.cells,false,false⟩)],q.1.m⟩,fun q=>q.1.j⟩
    ⟨⟨x.subs.length,cells,g,m2⟩,Nat.le_refl _,by simp only;omega,by simp only;omega,by simp only;rw[zdo];exact kC.out,by simp only;rw[zdo];omega⟩ (by kernel_rfl) ?_ ?_
   ·refine zah ?_ ?_ ?_<;>simp only[go_sem,zdo]
   rintro⟨⟨j,cells2,g2,m3⟩,hj,hg2,hm3,hc2,hl2⟩
   try simp only at hj hg2 hm3 hc2 hl2
   rcases j with _|j
   ·repeat'(first|refine rq fun _=>?_|simp only[go_sem,Tryz.f34,hw0,Int.zero_sub,Int.reduceNeg,Int.reduceSub])
    refine⟨⟨⟨zbF l x.subs d 0,cells2,g2,m3,n+1⟩,⟨hg2,hc2,hl2,by simp only;omega,by simp only;omega,by simp only;rw[zfo];omega,fun a ha=>?_,?_⟩⟩,by simp only;omega,?_⟩
    ·rcases zka ha with h|⟨h,h2,rfl⟩
     ·exact kW.out a h
     ·exact⟨kS.out _ h2,by simp only;omega,by simp only;omega⟩
    ·simp only;rw[zkb];exact hrest
    ·refine zah ?_ ?_ ?_<;>simp only[go_sem]
   ·have hps:=ziV (l:=l) (d:=d) (show j<x.subs.length by omega)
    have e2:((j:Int)+1-1)=(j:Int):=by omega
    have hj2:j<x.subs.length:=by omega
    have hpl:=zfo (l:=l) (s:=x.subs) (d:=d) (j:=j+1)
    repeat'(first|refine rq fun _=>?_|refine zaq.i ⟨by omega,zal (by omega) (by decide)⟩ fun _=>?_|simp only[go_sem,e2,hj2,zaa,Nat.zero_add,List.drop_zero,hc2,Tryz.f34])
    refine⟨⟨⟨j,zaf ((zbF l x.subs d (j+1)).map zjT)++zaf [zjT (x.subs[j],d+1)],m3,m3+1⟩,by simp only;omega,by simp only;omega,by simp only;omega,?_,?_⟩,by simp only;omega,?_⟩
    ·simp only
     rw[hps,List.map_append,zgR,List.length_append,List.length_singleton,List.take_of_length_le]
     ·rfl
     ·rw[List.length_append,zea,show(zaf [zjT (x.subs[j],d+1)]).length=5 from rfl];omega
    ·simp only
     rw[hps,List.length_append,List.length_singleton,List.length_append,zea,show(zaf [zjT (x.subs[j],d+1)]).length=5 from rfl];omega
    ·have hps2:(zbF l x.subs d j).length=(zbF l x.subs d (j+1)).length+1:=by rw[hps];simp
     refine zah ?_ ?_ ?_<;>simp only[go_sem,hps2,zjT]
def Q19:Tbl:=Q18.add 34 (sp2 (fun(f:Abs.zac) op=>zaV op f) fun _ op=>op=false)
attribute [go_sem] Q19
theorem zJK:zan Tryz.prog G0 Q19:=f34
def Q20:Tbl:=Q19
attribute [go_sem] Q20
theorem zyO:zan Tryz.prog G0 Q20:=zJK
end Go.Proofs.YtmconmiemdinkaaGreatDoor
