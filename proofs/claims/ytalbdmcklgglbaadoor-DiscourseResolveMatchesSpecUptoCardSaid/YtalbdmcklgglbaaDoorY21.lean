/- several texts of this proof in one; no conditions -/
import Derived.Test.YtalbdmcklgglbaaDoorAT
import Derived.Test.YtalbdmcklgglbaaDoorY20
import Derived.Test.YtalbdmcklgglbaaDoorY13
set_option maxRecDepth 100000
set_option maxHeartbeats 1000000
set_option linter.unusedSimpArgs false
namespace Go.Proofs.YtalbdmcklgglbaaDoor
open Go Go.Abs Go.Proofs
def lfP (f:Abs.zac):Prop:=(f.kind=2∨f.kind=3)∧txP f
def V9:Tbl:=V8.add 55 (sp1 txS lfP)
attribute [go_sem] V9
set_option maxHeartbeats 8000000 in
theorem hV9:zan Tryd.prog G0 V9:=by
 refine zbY zC8 hV8 fun f hp2 _=>?_
 obtain⟨hkk,hpre⟩:=hp2
 have hT:zan Tryd.prog G0 V8:=hV8
 have hn:True:=trivial
 have hkb:=zvf.1 hpre.v
 have hk3:=hkb.2.2.2.1
 clear hkb
 by_cases k2:f.kind=2
 ·have et:=zug k2
  have hl:=hpre.l
  have hwl:f.words.length≤1000:=by
   have hf:=hpre.ft
   cases f with
   |mk a b c d=>
    rw[zac.fit]at hf
    simp only[Bool.and_eq_true,decide_eq_true_eq]at hf
    exact hf.1.1
  obtain⟨J,hJ⟩:∃J:Nat→List UInt8,J=fun i=>jn [44] (f.words.take i):=⟨_,rfl⟩
  have hJ0:J 0=[]:=by rw[hJ];rfl
  have hJs:∀i (h:i<f.words.length),J (i+1)=if i=0 then f.words[i].l else J i++[44]++f.words[i].l:=fun i h=>by rw[hJ];exact zq4 h
  have hJl:∀i,(J i).length≤1000000000:=fun i=>by
   rw[et]at hl
   have:=zht (sep:=[44]) (ws:=f.words) (i:=i)
   rw[hJ]
   simp only[List.length_append,List.length_cons,List.length_nil]at hl ⊢
   omega
  have hJe:txS f=⟨f.name.l++[40]++J f.words.length++[41]⟩:=by unfold txS;rw[et,hJ];simp only[List.take_length]
  have hJn:f.name.l.length+(J f.words.length).length+2≤1000000000:=by
   rw[et]at hl
   rw[hJ]
   simp only[List.length_append,List.length_cons,List.length_nil,List.take_length]at hl ⊢
   omega
  rw[hJe]
  have kT:=Kp.mk hT
  have kJ:=Kp.mk hJs
  have kL:=Kp.mk hJl
  clear hT hJ hJs hJl hJe et hl hpre hn
  refine zaj (N:=108) hm kT.out 55000 (lst [1000020,1000022,1000026]) zC8 Tryd.func55 rfl rfl (by simp) (by kernel_rfl) ?_
  repeat'(first|refine And.intro ?_ ?_|exact True.intro|refine rq fun _=>?_|refine zaH.i (by unfold zaZ;simp only[List.length_append,List.length_cons,List.length_nil];omega) fun _=>?_|refine rq fun _=>?_|simp only[go_sem,k2,Tryd.f55,zev])
  refine zar hm kT.out 55000 (lst [1000020,1000022,1000026]) (ι:=zd8 f.words.length fun _=>True)
   ⟨fun q=>⟨frL [(1,.ptr (55001,0) 0),(3,.fz (.s (J q.i))),(15,.fz (.sl (f.words.map enc))),(16,.fz (.i .i64 f.words.length)),(17,.fz (.i .i64 q.i))],
    hpL [((55001,0),some ⟨[.fz (.i .i64 2),.fz (.s f.name.l),.fz (.sl (f.words.map enc)),.fz (.sl (f.subs.map enc))],true,false⟩)],1⟩,fun q=>f.words.length-q.i⟩
   ⟨0,by omega,trivial⟩ (by kernel_rfl) ?_ ?_
  ·refine zah ?_ ?_ ?_<;>simp only[go_sem,hJ0,k2]
   all_goals first|done|rfl|omega
  rintro⟨i,hi,_⟩
  try simp only at hi
  rcases Nat.lt_or_ge i f.words.length with h1|h1
  ·have es:=kJ.out i h1
   have el:=kL.out i
   have el2:=kL.out (i+1)
   obtain⟨w,hw⟩:∃w,f.words[i]=w:=⟨_,rfl⟩
   rw[hw]at es
   by_cases hi0:i=0
   ·subst hi0
    rw[if_pos rfl]at es
    rw[es]at el2
    have h1':((0:Int)<f.words.length)=True:=eq_true (by omega)
    repeat'(first|refine And.intro ?_ ?_|exact True.intro|refine rq fun _=>?_|refine zaH.i (by unfold zaZ;simp only[List.length_append,List.length_cons,List.length_nil];omega) fun _=>?_|refine rq fun _=>?_|simp only[go_sem,k2,h1,h1',hw,hJ0,List.nil_append,Nat.lt_irrefl,zaa,zae,Tryd.f55,zev])
    all_goals refine⟨⟨0+1,by omega,trivial⟩,by simp only;omega,?_⟩
    all_goals refine zah ?_ ?_ ?_<;>simp only[go_sem,es,k2]
    all_goals first|done|rfl|omega
   ·rw[if_neg hi0]at es
    have hpos:((0:Int)<i)=True:=eq_true (by omega)
    rw[es]at el2
    simp only[List.length_append,List.length_cons,List.length_nil]at el2
    repeat'(first|refine And.intro ?_ ?_|exact True.intro|refine rq fun _=>?_|refine zaH.i (by unfold zaZ;simp only[List.length_append,List.length_cons,List.length_nil];omega) fun _=>?_|refine rq fun _=>?_|simp only[go_sem,k2,h1,hw,hpos,zaa,zae,Tryd.f55,zev])
    all_goals refine⟨⟨i+1,by omega,trivial⟩,by simp only;omega,?_⟩
    all_goals refine zah ?_ ?_ ?_<;>simp only[go_sem,es,k2]
    all_goals first|done|rfl|omega
  obtain rfl:i=f.words.length:=by omega
  repeat'(first|refine And.intro ?_ ?_|exact True.intro|refine rq fun _=>?_|refine zaH.i (by unfold zaZ;simp only[List.length_append,List.length_cons,List.length_nil];omega) fun _=>?_|refine rq fun _=>?_|simp only[go_sem,k2,Nat.lt_irrefl,Tryd.f55,zev])
 have k3:f.kind=3:=by omega
 have et:=zuh k3
 have hl:=hpre.l
 have hwl:f.words.length≤1000:=by
  have hf:=hpre.ft
  cases f with
  |mk a b c d=>
   rw[zac.fit]at hf
   simp only[Bool.and_eq_true,decide_eq_true_eq]at hf
   exact hf.1.1
 obtain⟨J,hJ⟩:∃J:Nat→List UInt8,J=fun i=>jn [32,61,32] (f.words.take i):=⟨_,rfl⟩
 have hJ0:J 0=[]:=by rw[hJ];rfl
 have hJs:∀i (h:i<f.words.length),J (i+1)=if i=0 then f.words[i].l else J i++[32,61,32]++f.words[i].l:=fun i h=>by rw[hJ];exact zq4 h
 have hJl:∀i,(J i).length≤1000000000:=fun i=>by
  rw[et]at hl
  have:=zht (sep:=[32,61,32]) (ws:=f.words) (i:=i)
  rw[hJ]
  simp only[List.length_append,List.length_cons,List.length_nil]at hl ⊢
  omega
 have hJe:txS f=⟨f.name.l++[40]++J f.words.length++[41]⟩:=by unfold txS;rw[et,hJ];simp only[List.take_length]
 have hJn:f.name.l.length+(J f.words.length).length+2≤1000000000:=by
  rw[et]at hl
  rw[hJ]
  simp only[List.length_append,List.length_cons,List.length_nil,List.take_length]at hl ⊢
  omega
 rw[hJe]
 have kT:=Kp.mk hT
 have kJ:=Kp.mk hJs
 have kL:=Kp.mk hJl
 clear hT hJ hJs hJl hJe et hl hpre hn
 refine zaj (N:=108) hm kT.out 55000 (lst [1000020,1000022,1000026]) zC8 Tryd.func55 rfl rfl (by simp) (by kernel_rfl) ?_
 repeat'(first|refine And.intro ?_ ?_|exact True.intro|refine rq fun _=>?_|refine zaH.i (by unfold zaZ;simp only[List.length_append,List.length_cons,List.length_nil];omega) fun _=>?_|refine rq fun _=>?_|simp only[go_sem,k3,Tryd.f55,zev])
 refine zar hm kT.out 55000 (lst [1000020,1000022,1000026]) (ι:=zd8 f.words.length fun _=>True)
  ⟨fun q=>⟨frL [(1,.ptr (55001,0) 0),(3,.fz (.s (J q.i))),(15,.fz (.sl (f.words.map enc))),(16,.fz (.i .i64 f.words.length)),(17,.fz (.i .i64 q.i))],
   hpL [((55001,0),some ⟨[.fz (.i .i64 3),.fz (.s f.name.l),.fz (.sl (f.words.map enc)),.fz (.sl (f.subs.map enc))],true,false⟩)],1⟩,fun q=>f.words.length-q.i⟩
  ⟨0,by omega,trivial⟩ (by kernel_rfl) ?_ ?_
 ·refine zah ?_ ?_ ?_<;>simp only[go_sem,hJ0,k3]
  all_goals first|done|rfl|omega
 rintro⟨i,hi,_⟩
 try simp only at hi
 rcases Nat.lt_or_ge i f.words.length with h1|h1
 ·have es:=kJ.out i h1
  have el:=kL.out i
  have el2:=kL.out (i+1)
  obtain⟨w,hw⟩:∃w,f.words[i]=w:=⟨_,rfl⟩
  rw[hw]at es
  by_cases hi0:i=0
  ·subst hi0
   rw[if_pos rfl]at es
   rw[es]at el2
   have h1':((0:Int)<f.words.length)=True:=eq_true (by omega)
   repeat'(first|refine And.intro ?_ ?_|exact True.intro|refine rq fun _=>?_|refine zaH.i (by unfold zaZ;simp only[List.length_append,List.length_cons,List.length_nil];omega) fun _=>?_|refine rq fun _=>?_|simp only[go_sem,k3,h1,h1',hw,hJ0,List.nil_append,Nat.lt_irrefl,zaa,zae,Tryd.f55,zev])
   all_goals refine⟨⟨0+1,by omega,trivial⟩,by simp only;omega,?_⟩
   all_goals refine zah ?_ ?_ ?_<;>simp only[go_sem,es,k3]
   all_goals first|done|rfl|omega
  ·rw[if_neg hi0]at es
   have hpos:((0:Int)<i)=True:=eq_true (by omega)
   rw[es]at el2
   simp only[List.length_append,List.length_cons,List.length_nil]at el2
   repeat'(first|refine And.intro ?_ ?_|exact True.intro|refine rq fun _=>?_|refine zaH.i (by unfold zaZ;simp only[List.length_append,List.length_cons,List.length_nil];omega) fun _=>?_|refine rq fun _=>?_|simp only[go_sem,k3,h1,hw,hpos,zaa,zae,Tryd.f55,zev])
   all_goals refine⟨⟨i+1,by omega,trivial⟩,by simp only;omega,?_⟩
   all_goals refine zah ?_ ?_ ?_<;>simp only[go_sem,es,k3]
   all_goals first|done|rfl|omega
 obtain rfl:i=f.words.length:=by omega
 repeat'(first|refine And.intro ?_ ?_|exact True.intro|refine rq fun _=>?_|refine zaH.i (by unfold zaZ;simp only[List.length_append,List.length_cons,List.length_nil];omega) fun _=>?_|refine rq fun _=>?_|simp only[go_sem,k3,Nat.lt_irrefl,Tryd.f55,zev])
def zsp:Tv:=(.q 0 (.q 1 (.q 2 (.q 3 (.q 4 (.q 5 .leaf))))))
def zrZ (a b:Abs.zac):Bool:=decide (txt a=txt b)
def V10:Tbl:=V9.add 70 (sp2 zrZ fun a b=>lfP a∧lfP b)
attribute [go_sem] V10
set_option maxHeartbeats 8000000 in
theorem zBN:zan Tryd.prog G0 V10:=by
 refine zbr zFp hV9 fun a b hp _ _=>?_
 obtain⟨ha,hb⟩:=hp
 obtain⟨T,hT2⟩:∃T,txt a=T:=⟨_,rfl⟩
 obtain⟨V,hV⟩:∃T,txt b=T:=⟨_,rfl⟩
 have ea:txS a=⟨T⟩:=by unfold txS;rw[hT2]
 have eb:txS b=⟨V⟩:=by unfold txS;rw[hV]
 have e:zrZ a b=decide (T=V):=by unfold zrZ;rw[hT2,hV]
 rw[e]
 refine zaj (N:=10) hm hV9 70000 (lst [1000001]) zFp Tryd.func70 rfl rfl (by simp) (by kernel_rfl) ?_
 repeat'(first|refine zaH.i ha fun _=>?_|refine zaH.i hb fun _=>?_|refine zay (id:=1) hm hV9 70000 (lst [1000001]) zsp (by kernel_rfl) (by kernel_rfl) ?_|refine And.intro ?_ ?_|exact True.intro|refine rq fun _=>?_|refine rf fun _=>?_|simp only[go_sem,ea,eb,zsp,zab,zae,Tryd.f70])
 all_goals first|done|rfl|(by_cases h:T=V<;>simp[h])
theorem zBR {n:Int}(h1:0≤n)(h2:n≤255):inK .u8 n:=⟨h1,h2⟩
def ztd (k:Int):Str:=⟨ztc k⟩
def V11:Tbl:=V10.add 53 (sp1 ztd fun n=>1≤n∧n≤6)
attribute [go_sem] V11
set_option maxHeartbeats 8000000 in
theorem zz1:zan Tryd.prog G0 V11:=by
 refine zbY zFb zBN fun n hn _=>?_
 have hc:n=1∨n=2∨n=3∨n=4∨n=5∨n=6:=by omega
 have hb:UInt8.ofNat (48+n % 10).toNat=UInt8.ofNat (48+n.toNat):=by congr 1;omega
 have h0:n / 10=0:=by omega
 have hd:enc (ztd n)= .s [UInt8.ofNat (48+n.toNat)]:=by rcases hc with rfl|rfl|rfl|rfl|rfl|rfl<;>rfl
 rw[hd]
 refine zaj (N:=17) hm zBN 53000 (lst []) zFb Tryd.func53 rfl rfl (by simp) (by kernel_rfl) ?_
 repeat'(first|refine And.intro ?_ ?_|exact True.intro|refine rq fun _=>?_|refine rf fun _=>?_|simp only[go_sem,Tryd.f53])
 refine zar hm zBN 53000 (lst []) (ι:=zd8 0 fun _=>True)
  ⟨fun q=>⟨frL [(0,.fz (.i .i64 n)),(3,.fz (.s []))],hpL [],0⟩,fun q=>0-q.i⟩
  ⟨0,by omega,trivial⟩ (by kernel_rfl) ?_ ?_
 ·refine zah ?_ ?_ ?_<;>simp only[go_sem]
 rintro⟨i,hi,_⟩
 repeat'(first|refine zaH.i (zBR (by omega) (by omega)) fun _=>?_|refine And.intro ?_ ?_|exact True.intro|refine rq fun _=>?_|refine rf fun _=>?_|simp only[go_sem,hb,h0,List.append_nil,Tryd.f53])
 all_goals first|done|rfl|omega
end Go.Proofs.YtalbdmcklgglbaaDoor
namespace Go.Proofs.YtalbdmcklgglbaaDoor
open Go Go.Abs Go.Proofs
theorem ztL {a b:Abs.zac}(ha:zdH a)(hb:zdH b):zrZ a b=decide (a=b):=by
 unfold zrZ
 by_cases h:a=b
 ·rw[h];simp
 ·rw[decide_eq_false h,decide_eq_false fun e=>h (znP (s:=[]) (t:=[]) ha hb (by rw[e])).1]
def zgG (f:Abs.zac)(c:Abs.zal):Bool:=decide (c.kind=1)&&decide (c.form=f)
theorem zuf (l:List Abs.Box)(f:Abs.zac):zd6 (zcU l) f=l.any fun b=>b.conds.any (zgG f):=by
 show(l.flatMap Box.conds).any (zgG f)=_
 rw[List.any_flatMap]
structure okL (l:List Abs.Box)(f:Abs.zac):Prop where
 lf:lfP f
 le:zdH f
 ok:∀b∈l,∀c∈b.conds,c.kind=1→lfP c.form∧zdH c.form
 n1:l.length≤1000000
 n2:∀b∈l,b.conds.length≤1000000
def V12:Tbl:=V11.add 58 (sp2 (fun l f=>zd6 (zcU l) f) okL)
set_option maxHeartbeats 8000000 in
theorem zDN:zan Tryd.prog G0 V12:=by
 refine zbr zFf zz1 fun l f hp _ _=>?_
 obtain⟨p1,p2,p3,p4,p5⟩:=hp
 obtain⟨Q,hQ⟩:∃Q:D→zas→Nat→Prop,Q=(fun d _ _=>D.val d=some (.fz (enc (zd6 (zcU l) f)))):=⟨_,rfl⟩
 rw[←hQ]
 have hT:zd6 (zcU l) f=true→∀{H n},Q (.fz (.b true)) H n:=fun h H n=>by rw[hQ,h];rfl
 have hF:zd6 (zcU l) f=false→∀{H n},Q (.fz (.b false)) H n:=fun h H n=>by rw[hQ,h];rfl
 have kT:=Kp.mk @hT
 have kF:=Kp.mk @hF
 have k3:=Kp.mk p3
 have k5:=Kp.mk p5
 have ha:=zuf l f
 clear hT hF hQ p3 p5
 refine zaj (N:=41) hm zz1 58000 (lst []) zFf Tryd.func58 rfl rfl (by simp) (by kernel_rfl) ?_
 repeat'(first|refine And.intro ?_ ?_|exact True.intro|refine rq fun _=>?_|refine rf fun _=>?_|simp only[go_sem,zad,zab,zae,zaf,zaa,Tryd.f58])
 refine zar hm zz1 58000 (lst []) (ι:=zcp l.length 1 fun i=>(l.take i).any (fun b=>b.conds.any (zgG f))=false)
  ⟨fun q=>⟨frL [(0,.fz (.sl (l.map enc))),(3,.ptr (58003,0) 0),(9,.fz (.i .i64 l.length)),(10,.fz (.i .i64 q.i))],hpL [((58003,0),some ⟨[.fz (.i .i64 f.kind),.fz (.s f.name.l),.fz (.sl (f.words.map enc)),.fz (.sl (f.subs.map enc))],true,false⟩)],q.m⟩,fun q=>l.length-q.i⟩
  ⟨0,1,by omega,by omega,rfl⟩ (by kernel_rfl) ?_ ?_
 ·refine zah ?_ ?_ ?_<;>(try simp only[go_sem])
  all_goals first|done|rfl|omega
 rintro⟨i,m,hi,hm1,hpi⟩
 try simp only at hi hm1 hpi
 rcases Nat.lt_or_ge i l.length with h1|h1
 rotate_left
 ·obtain rfl:i=l.length:=by omega
  rw[List.take_length,←ha]at hpi
  repeat'(first|refine And.intro ?_ ?_|exact True.intro|refine rq fun _=>?_|refine rf fun _=>?_|simp only[go_sem,Nat.lt_irrefl,Tryd.f58])
  all_goals exact kF.out hpi
 obtain⟨b,hb⟩:∃b,l[i]=b:=⟨_,rfl⟩
 have hbm:b∈l:=by rw[←hb];exact List.getElem_mem h1
 have h5:=k5.out b hbm
 have h3:=k3.out b hbm
 have k3b:=Kp.mk h3
 clear h3
 repeat'(first|refine And.intro ?_ ?_|exact True.intro|refine rq fun _=>?_|refine rf fun _=>?_|simp only[go_sem,h1,hb,zad,zab,zae,zaf,zaa,Tryd.f58])
 refine zar hm zz1 58000 (lst []) (ι:=zcp b.conds.length m fun k=>(b.conds.take k).any (zgG f)=false)
  ⟨fun q=>⟨frL [(0,.fz (.sl (l.map enc))),(3,.ptr (58003,0) 0),(5,.fz (.i .i64 i)),(9,.fz (.i .i64 l.length)),(10,.fz (.i .i64 i)),(18,.fz (.i .i64 b.conds.length)),(19,.fz (.i .i64 q.i))],hpL [((58003,0),some ⟨[.fz (.i .i64 f.kind),.fz (.s f.name.l),.fz (.sl (f.words.map enc)),.fz (.sl (f.subs.map enc))],true,false⟩)],q.m⟩,fun q=>b.conds.length-q.i⟩
  ⟨0,m,by omega,by omega,rfl⟩ (by kernel_rfl) ?_ ?_
 ·refine zah ?_ ?_ ?_<;>(try simp only[go_sem])
  all_goals first|done|rfl|omega
 rintro⟨k,m2,hk,hm2,hpk⟩
 try simp only at hk hm2 hpk
 rcases Nat.lt_or_ge k b.conds.length with h2|h2
 rotate_left
 ·obtain rfl:k=b.conds.length:=by omega
  rw[List.take_length]at hpk
  repeat'(first|refine And.intro ?_ ?_|exact True.intro|refine rq fun _=>?_|refine rf fun _=>?_|simp only[go_sem,Nat.lt_irrefl,Tryd.f58])
  all_goals
   refine⟨⟨i+1,m2,by omega,by omega,?_⟩,by simp only;omega,?_⟩
   ·rw[List.take_succ_eq_append_getElem h1,List.any_append,hpi,hb];simp[hpk]
   refine zah ?_ ?_ ?_<;>(try simp only[go_sem])
   all_goals first|done|rfl|omega
 obtain⟨c,hc⟩:∃c,b.conds[k]=c:=⟨_,rfl⟩
 have hcm:c∈b.conds:=by rw[←hc];exact List.getElem_mem h2
 have hstep:zgG f c=false→((b.conds.take (k+1)).any (zgG f))=false:=fun h=>by
  rw[List.take_succ_eq_append_getElem h2,List.any_append,hpk,hc];simp[h]
 by_cases hk1:c.kind=1
 ·have hk1t:(c.kind=1)=True:=eq_true hk1
  obtain⟨q1,q2⟩:=k3b.out c hcm hk1
  have hsm:=ztL q2 p2
  have hreq:lfP c.form∧lfP f:=⟨q1,p1⟩
  by_cases hcf:c.form=f
  ·rw[decide_eq_true hcf]at hsm
   have hy:zgG f c=true:=by unfold zgG;rw[decide_eq_true hk1,decide_eq_true hcf];rfl
   have htl:zd6 (zcU l) f=true:=by
    rw[ha]
    exact List.any_eq_true.2 ⟨b,hbm,List.any_eq_true.2 ⟨c,hcm,hy⟩⟩
   repeat'(first|refine zaH.i hreq fun _=>?_|refine And.intro ?_ ?_|exact True.intro|refine rq fun _=>?_|refine rf fun _=>?_|simp only[go_sem,h1,h2,hb,hc,hk1t,hsm,zad,zab,zae,zaf,zaa,Tryd.f58])
   all_goals exact kT.out htl
  ·rw[decide_eq_false hcf]at hsm
   have hy:zgG f c=false:=by unfold zgG;rw[decide_eq_false hcf,Bool.and_false]
   repeat'(first|refine zaH.i hreq fun _=>?_|refine And.intro ?_ ?_|exact True.intro|refine rq fun _=>?_|refine rf fun _=>?_|simp only[go_sem,h1,h2,hb,hc,hk1t,hsm,zad,zab,zae,zaf,zaa,Tryd.f58])
   all_goals
    refine⟨⟨k+1,m2+1,by omega,by omega,hstep hy⟩,by simp only;omega,?_⟩
    refine zah ?_ ?_ ?_<;>(try simp only[go_sem])
    all_goals first|done|rfl|omega
 ·have hk1t:(c.kind=1)=False:=eq_false hk1
  have hy:zgG f c=false:=by unfold zgG;rw[decide_eq_false hk1];rfl
  repeat'(first|refine And.intro ?_ ?_|exact True.intro|refine rq fun _=>?_|refine rf fun _=>?_|simp only[go_sem,h1,h2,hb,hc,hk1t,zad,zab,zae,zaf,zaa,Tryd.f58])
  all_goals
   refine⟨⟨k+1,m2+1,by omega,by omega,hstep hy⟩,by simp only;omega,?_⟩
   refine zah ?_ ?_ ?_<;>(try simp only[go_sem])
   all_goals first|done|rfl|omega
def V13:Tbl:=V12.add 60 (sp2 zbc fun _ _=>True)
theorem zF0:zan Tryd.prog G0 V13:=by
 refine zbr zFg zDN fun a b _ _ _=>?_
 refine zaj (N:=10) hm zDN 60000 (lst []) zFg Tryd.func60 rfl rfl (by simp) (by kernel_rfl) ?_
 repeat'(first|refine And.intro ?_ ?_|exact True.intro|refine rq fun _=>?_|refine rf fun _=>?_|simp only[go_sem,zbc,Tryd.f60])
 all_goals first|done|rfl|omega
end Go.Proofs.YtalbdmcklgglbaaDoor
