/- several texts of this proof in one; no conditions -/
import Derived.Test.YtdlioodgfopmfaaGreatDoorAT
import Derived.Test.YtdlioodgfopmfaaGreatDoorQ119
import Derived.Test.YtdlioodgfopmfaaGreatDoorTX
set_option maxRecDepth 100000
set_option maxHeartbeats 1000000
set_option linter.unusedSimpArgs false
namespace Go.Proofs.YtdlioodgfopmfaaGreatDoor
open Go Go.Abs Go.Proofs
def zum:Tv:=(.q 0 (.q 1 (.q 2 (.q 3 (.q 4 (.q 5 (.q 6 (.q 7 (.q 8 (.q 9 (.q 10 .leaf)))))))))))
def zun:Tv:=(.q 0 (.q 1 (.q 2 (.q 3 (.q 4 (.q 5 (.q 6 (.q 7 (.q 8 (.q 9 (.q 10 .leaf)))))))))))
def zhf:Tv:=(.q 0 (.q 1 (.q 2 (.q 3 (.q 4 (.q 5 (.q 6 (.q 7 (.q 8 (.q 9 (.q 10 (.q 11 (.q 12 (.q 13 (.q 14 (.q 15 .leaf))))))))))))))))
def zxN:Tv:=(.q 0 (.q 1 (.q 2 (.q 3 (.q 4 (.q 5 .leaf))))))
def O10:Tbl:=O9.add 47 (sp1 txS txP)
attribute [go_sem] O10
set_option maxHeartbeats 8000000 in
theorem zEo:zap Tryz.prog GA O10:=by
 refine zza zac.size zuV hO9 fun n hT f hn hpre _=>?_
 have hkb:=zbf.1 hpre.v
 have hk1:=hkb.1
 have hk2:=hkb.2.1
 have hk3:=hkb.2.2.2.1
 clear hkb
 by_cases k1:f.kind=1
 ·have e:txS f=⟨[116,114,117,101]⟩:=by unfold txS;rw[zCq k1]
  rw[e]
  refine zah (N:=108) hm hT 47000 (lst [1000020,1000022,1000026]) zuV Tryz.func47 rfl rfl (by simp) (by kernel_rfl) ?_
  repeat'(first|refine And.intro ?_ ?_|exact True.intro|refine rq fun _=>?_|refine zaj.i (by unfold zbp;simp only[List.length_append,List.length_cons,List.length_nil];omega) fun _=>?_|refine rq fun _=>?_|simp only[go_sem,k1,Tryz.f47])
 by_cases k2:f.kind=2
 ·have et:=zCr k2
  have hl:=hpre.l
  have hwl:f.words.length≤1000:=by
   have hf:=hpre.ft
   cases f with
   |mk a b c d=>
    rw[zac.fit]at hf
    simp only[Bool.and_eq_true,decide_eq_true_eq]at hf
    exact hf.1.1
  obtain⟨J,hJ⟩:∃J:Nat→List UInt8,J=fun i=>jn [44] (f.words.take i):=⟨_,rfl⟩
  have hJ0:J 0=[]:=by rw[hJ];rfl
  have hJs:∀i (h:i<f.words.length),J (i+1)=if i=0 then f.words[i].l else J i++[44]++f.words[i].l:=fun i h=>by rw[hJ];exact zs6 h
  have hJl:∀i,(J i).length≤1000000000:=fun i=>by
   rw[et]at hl
   have:=ziJ (sep:=[44]) (ws:=f.words) (i:=i)
   rw[hJ]
   simp only[List.length_append,List.length_cons,List.length_nil]at hl ⊢
   omega
  have hJe:txS f=⟨f.name.l++[40]++J f.words.length++[41]⟩:=by unfold txS;rw[et,hJ];simp only[List.take_length]
  have hJn:f.name.l.length+(J f.words.length).length+2≤1000000000:=by
   rw[et]at hl
   rw[hJ]
   simp only[List.length_append,List.length_cons,List.length_nil,List.take_length]at hl ⊢
   omega
  rw[hJe]
  have kT:=Kp.mk hT
  have kJ:=Kp.mk hJs
  have kL:=Kp.mk hJl
  clear hT hJ hJs hJl hJe et hl hpre hn
  refine zah (N:=108) hm kT.out 47000 (lst [1000020,1000022,1000026]) zuV Tryz.func47 rfl rfl (by simp) (by kernel_rfl) ?_
  repeat'(first|refine And.intro ?_ ?_|exact True.intro|refine rq fun _=>?_|refine zaj.i (by unfold zbp;simp only[List.length_append,List.length_cons,List.length_nil];omega) fun _=>?_|refine rq fun _=>?_|simp only[go_sem,k2,Tryz.f47])
  refine zao hm kT.out 47000 (lst [1000020,1000022,1000026]) (ι:=zcO f.words.length fun _=>True)
   ⟨fun q=>⟨frL [(1,.ptr (47001,0) 0),(3,.fz (.s (J q.i))),(15,.fz (.sl (f.words.map enc))),(16,.fz (.i .i64 f.words.length)),(17,.fz (.i .i64 q.i))],
    hpL [((47001,0),some ⟨[.fz (.i .i64 2),.fz (.s f.name.l),.fz (.sl (f.words.map enc)),.fz (.sl (f.subs.map enc))],true,false⟩)],1⟩,fun q=>f.words.length-q.i⟩
   ⟨0,by omega,trivial⟩ (by kernel_rfl) ?_ ?_
  ·refine zai ?_ ?_ ?_<;>simp only[go_sem,hJ0,k2]
   all_goals first|done|rfl|omega
  rintro⟨i,hi,_⟩
  try simp only at hi
  rcases Nat.lt_or_ge i f.words.length with h1|h1
  ·have es:=kJ.out i h1
   have el:=kL.out i
   have el2:=kL.out (i+1)
   obtain⟨w,hw⟩:∃w,f.words[i]=w:=⟨_,rfl⟩
   rw[hw]at es
   by_cases hi0:i=0
   ·subst hi0
    rw[if_pos rfl]at es
    rw[es]at el2
    have h1':((0:Int)<f.words.length)=True:=eq_true (by omega)
    repeat'(first|refine And.intro ?_ ?_|exact True.intro|refine rq fun _=>?_|refine zaj.i (by unfold zbp;simp only[List.length_append,List.length_cons,List.length_nil];omega) fun _=>?_|refine rq fun _=>?_|simp only[go_sem,k2,h1,h1',hw,hJ0,List.nil_append,Nat.lt_irrefl,zaa,zad,Tryz.f47])
    all_goals refine⟨⟨0+1,by omega,trivial⟩,by simp only;omega,?_⟩
    all_goals refine zai ?_ ?_ ?_<;>simp only[go_sem,es,k2]
    all_goals first|done|rfl|omega
   ·rw[if_neg hi0]at es
    have hpos:((0:Int)<i)=True:=eq_true (by omega)
    rw[es]at el2
    simp only[List.length_append,List.length_cons,List.length_nil]at el2
    repeat'(first|refine And.intro ?_ ?_|exact True.intro|refine rq fun _=>?_|refine zaj.i (by unfold zbp;simp only[List.length_append,List.length_cons,List.length_nil];omega) fun _=>?_|refine rq fun _=>?_|simp only[go_sem,k2,h1,hw,hpos,zaa,zad,Tryz.f47])
    all_goals refine⟨⟨i+1,by omega,trivial⟩,by simp only;omega,?_⟩
    all_goals refine zai ?_ ?_ ?_<;>simp only[go_sem,es,k2]
    all_goals first|done|rfl|omega
  obtain rfl:i=f.words.length:=by omega
  repeat'(first|refine And.intro ?_ ?_|exact True.intro|refine rq fun _=>?_|refine zaj.i (by unfold zbp;simp only[List.length_append,List.length_cons,List.length_nil];omega) fun _=>?_|refine rq fun _=>?_|simp only[go_sem,k2,Nat.lt_irrefl,Tryz.f47])
 by_cases k3:f.kind=3
 ·have et:=zCs k3
  have hl:=hpre.l
  have hwl:f.words.length≤1000:=by
   have hf:=hpre.ft
   cases f with
   |mk a b c d=>
    rw[zac.fit]at hf
    simp only[Bool.and_eq_true,decide_eq_true_eq]at hf
    exact hf.1.1
  obtain⟨J,hJ⟩:∃J:Nat→List UInt8,J=fun i=>jn [32,61,32] (f.words.take i):=⟨_,rfl⟩
  have hJ0:J 0=[]:=by rw[hJ];rfl
  have hJs:∀i (h:i<f.words.length),J (i+1)=if i=0 then f.words[i].l else J i++[32,61,32]++f.words[i].l:=fun i h=>by rw[hJ];exact zs6 h
  have hJl:∀i,(J i).length≤1000000000:=fun i=>by
   rw[et]at hl
   have:=ziJ (sep:=[32,61,32]) (ws:=f.words) (i:=i)
   rw[hJ]
   simp only[List.length_append,List.length_cons,List.length_nil]at hl ⊢
   omega
  have hJe:txS f=⟨f.name.l++[40]++J f.words.length++[41]⟩:=by unfold txS;rw[et,hJ];simp only[List.take_length]
  have hJn:f.name.l.length+(J f.words.length).length+2≤1000000000:=by
   rw[et]at hl
   rw[hJ]
   simp only[List.length_append,List.length_cons,List.length_nil,List.take_length]at hl ⊢
   omega
  rw[hJe]
  have kT:=Kp.mk hT
  have kJ:=Kp.mk hJs
  have kL:=Kp.mk hJl
  clear hT hJ hJs hJl hJe et hl hpre hn
  refine zah (N:=108) hm kT.out 47000 (lst [1000020,1000022,1000026]) zuV Tryz.func47 rfl rfl (by simp) (by kernel_rfl) ?_
  repeat'(first|refine And.intro ?_ ?_|exact True.intro|refine rq fun _=>?_|refine zaj.i (by unfold zbp;simp only[List.length_append,List.length_cons,List.length_nil];omega) fun _=>?_|refine rq fun _=>?_|simp only[go_sem,k3,Tryz.f47])
  refine zao hm kT.out 47000 (lst [1000020,1000022,1000026]) (ι:=zcO f.words.length fun _=>True)
   ⟨fun q=>⟨frL [(1,.ptr (47001,0) 0),(3,.fz (.s (J q.i))),(15,.fz (.sl (f.words.map enc))),(16,.fz (.i .i64 f.words.length)),(17,.fz (.i .i64 q.i))],
    hpL [((47001,0),some ⟨[.fz (.i .i64 3),.fz (.s f.name.l),.fz (.sl (f.words.map enc)),.fz (.sl (f.subs.map enc))],true,false⟩)],1⟩,fun q=>f.words.length-q.i⟩
   ⟨0,by omega,trivial⟩ (by kernel_rfl) ?_ ?_
  ·refine zai ?_ ?_ ?_<;>simp only[go_sem,hJ0,k3]
   all_goals first|done|rfl|omega
  rintro⟨i,hi,_⟩
  try simp only at hi
  rcases Nat.lt_or_ge i f.words.length with h1|h1
  ·have es:=kJ.out i h1
   have el:=kL.out i
   have el2:=kL.out (i+1)
   obtain⟨w,hw⟩:∃w,f.words[i]=w:=⟨_,rfl⟩
   rw[hw]at es
   by_cases hi0:i=0
   ·subst hi0
    rw[if_pos rfl]at es
    rw[es]at el2
    have h1':((0:Int)<f.words.length)=True:=eq_true (by omega)
    repeat'(first|refine And.intro ?_ ?_|exact True.intro|refine rq fun _=>?_|refine zaj.i (by unfold zbp;simp only[List.length_append,List.length_cons,List.length_nil];omega) fun _=>?_|refine rq fun _=>?_|simp only[go_sem,k3,h1,h1',hw,hJ0,List.nil_append,Nat.lt_irrefl,zaa,zad,Tryz.f47])
    all_goals refine⟨⟨0+1,by omega,trivial⟩,by simp only;omega,?_⟩
    all_goals refine zai ?_ ?_ ?_<;>simp only[go_sem,es,k3]
    all_goals first|done|rfl|omega
   ·rw[if_neg hi0]at es
    have hpos:((0:Int)<i)=True:=eq_true (by omega)
    rw[es]at el2
    simp only[List.length_append,List.length_cons,List.length_nil]at el2
    repeat'(first|refine And.intro ?_ ?_|exact True.intro|refine rq fun _=>?_|refine zaj.i (by unfold zbp;simp only[List.length_append,List.length_cons,List.length_nil];omega) fun _=>?_|refine rq fun _=>?_|simp only[go_sem,k3,h1,hw,hpos,zaa,zad,Tryz.f47])
    all_goals refine⟨⟨i+1,by omega,trivial⟩,by simp only;omega,?_⟩
    all_goals refine zai ?_ ?_ ?_<;>simp only[go_sem,es,k3]
    all_goals first|done|rfl|omega
  obtain rfl:i=f.words.length:=by omega
  repeat'(first|refine And.intro ?_ ?_|exact True.intro|refine rq fun _=>?_|refine zaj.i (by unfold zbp;simp only[List.length_append,List.length_cons,List.length_nil];omega) fun _=>?_|refine rq fun _=>?_|simp only[go_sem,k3,Nat.lt_irrefl,Tryz.f47])
 by_cases k4:f.kind=4
 ·obtain⟨a,hab,ha,hsz⟩:=zuE hpre (by omega)
  have et:=zzk k4 hab
  have hl:=hpre.l
  have hra:a.size<n∧txP a:=⟨by omega,ha⟩
  obtain⟨T,hT2⟩:∃T,txt a=T:=⟨_,rfl⟩
  rw[hT2]at et
  rw[et]at hl
  simp only[List.length_append,List.length_cons,List.length_nil]at hl
  have ea:txS a=⟨T⟩:=by unfold txS;rw[hT2]
  have e:txS f=⟨45::T⟩:=by unfold txS;rw[et]
  rw[e]
  refine zah (N:=108) hm hT 47000 (lst [1000020,1000022,1000026]) zuV Tryz.func47 rfl rfl (by simp) (by kernel_rfl) ?_
  repeat'(first|refine zaj.i hra fun _=>?_|refine And.intro ?_ ?_|exact True.intro|refine rq fun _=>?_|refine zaj.i (by unfold zbp;simp only[List.length_append,List.length_cons,List.length_nil];omega) fun _=>?_|refine rq fun _=>?_|simp only[go_sem,k4,hab,ea,List.cons_append,List.nil_append,zaa,zab,Tryz.f47])
  all_goals first|done|rfl|omega
 by_cases k8:f.kind=8
 ·obtain⟨a,hab,ha,hsz⟩:=zuE hpre (by omega)
  have et:=zzm k8 hab
  have hl:=hpre.l
  have hra:a.size<n∧txP a:=⟨by omega,ha⟩
  obtain⟨T,hT2⟩:∃T,txt a=T:=⟨_,rfl⟩
  rw[hT2]at et
  rw[et]at hl
  simp only[List.length_append,List.length_cons,List.length_nil]at hl
  have ea:txS a=⟨T⟩:=by unfold txS;rw[hT2]
  have e:txS f=⟨[97,108,108,32]++f.name.l++[32]++T⟩:=by unfold txS;rw[et]
  rw[e]
  refine zah (N:=108) hm hT 47000 (lst [1000020,1000022,1000026]) zuV Tryz.func47 rfl rfl (by simp) (by kernel_rfl) ?_
  repeat'(first|refine zaj.i hra fun _=>?_|refine zae (id:=20) hm hT 47000 (lst [1000020,1000022,1000026]) zum (by kernel_rfl) (by kernel_rfl) ?_|refine And.intro ?_ ?_|exact True.intro|refine rq fun _=>?_|refine zaj.i (by unfold zbp;simp only[List.length_append,List.length_cons,List.length_nil];omega) fun _=>?_|refine rq fun _=>?_|simp only[go_sem,k8,hab,ea,zum,List.cons_append,List.nil_append,zaa,zab,Tryz.f47])
  all_goals first|done|rfl|omega
 by_cases k9:f.kind=9
 ·obtain⟨a,hab,ha,hsz⟩:=zuE hpre (by omega)
  have et:=zzn k9 hab
  have hl:=hpre.l
  have hra:a.size<n∧txP a:=⟨by omega,ha⟩
  obtain⟨T,hT2⟩:∃T,txt a=T:=⟨_,rfl⟩
  rw[hT2]at et
  rw[et]at hl
  simp only[List.length_append,List.length_cons,List.length_nil]at hl
  have ea:txS a=⟨T⟩:=by unfold txS;rw[hT2]
  have e:txS f=⟨[115,111,109,101,32]++f.name.l++[32]++T⟩:=by unfold txS;rw[et]
  rw[e]
  refine zah (N:=108) hm hT 47000 (lst [1000020,1000022,1000026]) zuV Tryz.func47 rfl rfl (by simp) (by kernel_rfl) ?_
  repeat'(first|refine zaj.i hra fun _=>?_|refine zae (id:=22) hm hT 47000 (lst [1000020,1000022,1000026]) zun (by kernel_rfl) (by kernel_rfl) ?_|refine And.intro ?_ ?_|exact True.intro|refine rq fun _=>?_|refine zaj.i (by unfold zbp;simp only[List.length_append,List.length_cons,List.length_nil];omega) fun _=>?_|refine rq fun _=>?_|simp only[go_sem,k9,hab,ea,zun,List.cons_append,List.nil_append,zaa,zab,Tryz.f47])
  all_goals first|done|rfl|omega
 have hk567:f.kind=5∨f.kind=6∨f.kind=7:=by omega
 obtain⟨a,b,hab,ha,hb,hsa,hsb,hll⟩:=zCp hpre hk567
 have et:=zzl hk567 hab
 have hl:=hpre.l
 have hra:a.size<n∧txP a:=⟨by omega,ha⟩
 have hrb:b.size<n∧txP b:=⟨by omega,hb⟩
 obtain⟨T,hT2⟩:∃T,txt a=T:=⟨_,rfl⟩
 obtain⟨V,hV⟩:∃T,txt b=T:=⟨_,rfl⟩
 rw[hT2,hV]at et hll
 have ea:txS a=⟨T⟩:=by unfold txS;rw[hT2]
 have eb:txS b=⟨V⟩:=by unfold txS;rw[hV]
 clear hk1 hk2 hk3
 by_cases k5:f.kind=5
 ·have e:txS f=⟨[40]++T++[32,38,32]++V++[41]⟩:=by unfold txS;rw[et,k5];rfl
  have hs:(5:Int)-5=0:=rfl
  rw[e]
  refine zah (N:=108) hm hT 47000 (lst [1000020,1000022,1000026]) zuV Tryz.func47 rfl rfl (by simp) (by kernel_rfl) ?_
  repeat'(first|refine rq fun _=>?_|refine zaj.i hra fun _=>?_|refine zaj.i hrb fun _=>?_|refine zae (id:=26) hm hT 47000 (lst [1000020,1000022,1000026]) zhf (by kernel_rfl) (by kernel_rfl) ?_|refine And.intro ?_ ?_|exact True.intro|refine rq fun _=>?_|refine zaj.i (by unfold zbp;simp only[List.length_append,List.length_cons,List.length_nil];omega) fun _=>?_|refine rq fun _=>?_|simp only[go_sem,k5,hs,hab,ea,eb,zhf,List.cons_append,List.nil_append,zaa,zab,Tryz.f47])
  all_goals first|done|rfl|omega
 by_cases k6:f.kind=6
 ·have e:txS f=⟨[40]++T++[32,124,32]++V++[41]⟩:=by unfold txS;rw[et,k6];rfl
  have hs:(6:Int)-5=1:=rfl
  rw[e]
  refine zah (N:=108) hm hT 47000 (lst [1000020,1000022,1000026]) zuV Tryz.func47 rfl rfl (by simp) (by kernel_rfl) ?_
  repeat'(first|refine rq fun _=>?_|refine zaj.i hra fun _=>?_|refine zaj.i hrb fun _=>?_|refine zae (id:=26) hm hT 47000 (lst [1000020,1000022,1000026]) zhf (by kernel_rfl) (by kernel_rfl) ?_|refine And.intro ?_ ?_|exact True.intro|refine rq fun _=>?_|refine zaj.i (by unfold zbp;simp only[List.length_append,List.length_cons,List.length_nil];omega) fun _=>?_|refine rq fun _=>?_|simp only[go_sem,k6,hs,hab,ea,eb,zhf,List.cons_append,List.nil_append,zaa,zab,Tryz.f47])
  all_goals first|done|rfl|omega
 by_cases k7:f.kind=7
 ·have e:txS f=⟨[40]++T++[32,62,32]++V++[41]⟩:=by unfold txS;rw[et,k7];rfl
  have hs:(7:Int)-5=2:=rfl
  rw[e]
  refine zah (N:=108) hm hT 47000 (lst [1000020,1000022,1000026]) zuV Tryz.func47 rfl rfl (by simp) (by kernel_rfl) ?_
  repeat'(first|refine rq fun _=>?_|refine zaj.i hra fun _=>?_|refine zaj.i hrb fun _=>?_|refine zae (id:=26) hm hT 47000 (lst [1000020,1000022,1000026]) zhf (by kernel_rfl) (by kernel_rfl) ?_|refine And.intro ?_ ?_|exact True.intro|refine rq fun _=>?_|refine zaj.i (by unfold zbp;simp only[List.length_append,List.length_cons,List.length_nil];omega) fun _=>?_|refine rq fun _=>?_|simp only[go_sem,k7,hs,hab,ea,eb,zhf,List.cons_append,List.nil_append,zaa,zab,Tryz.f47])
  all_goals first|done|rfl|omega
 exfalso;omega
def zow (a b:Abs.zac):Bool:=decide (txt a=txt b)
def O11:Tbl:=O10.add 19 (sp2 zow fun a b=>txP a∧txP b)
attribute [go_sem] O11
set_option maxHeartbeats 8000000 in
theorem zCN:zap Tryz.prog GA O11:=by
 refine zcy zHe zEo fun a b hp _ _=>?_
 obtain⟨ha,hb⟩:=hp
 obtain⟨T,hT2⟩:∃T,txt a=T:=⟨_,rfl⟩
 obtain⟨V,hV⟩:∃T,txt b=T:=⟨_,rfl⟩
 have ea:txS a=⟨T⟩:=by unfold txS;rw[hT2]
 have eb:txS b=⟨V⟩:=by unfold txS;rw[hV]
 have e:zow a b=decide (T=V):=by unfold zow;rw[hT2,hV]
 rw[e]
 refine zah (N:=10) hm zEo 19000 (lst [1000001]) zHe Tryz.func19 rfl rfl (by simp) (by kernel_rfl) ?_
 repeat'(first|refine zaj.i ha fun _=>?_|refine zaj.i hb fun _=>?_|refine zae (id:=1) hm zEo 19000 (lst [1000001]) zxN (by kernel_rfl) (by kernel_rfl) ?_|refine And.intro ?_ ?_|exact True.intro|refine rq fun _=>?_|refine zaj.i (by unfold zbp;simp only[List.length_append,List.length_cons,List.length_nil];omega) fun _=>?_|refine rq fun _=>?_|simp only[go_sem,ea,eb,zxN,zab,Tryz.f19])
 all_goals first|done|rfl|(by_cases h:T=V<;>simp[h])
end Go.Proofs.YtdlioodgfopmfaaGreatDoor
namespace Go.Proofs.YtdlioodgfopmfaaGreatDoor
open Go Go.Abs Go.Proofs
def O12:Tbl:=O11.add 49 (sp2 zeh fun l _=>l.length≤900000000)
attribute [go_sem] O12
set_option maxHeartbeats 4000000 in
theorem zCO:zap Tryz.prog GA O12:=by
 refine zcy zAh zCN fun l s hl _ _=>?_
 by_cases hin:s∈l
 ·have e:zeh l s=l:=by unfold zeh;rw[if_pos hin]
  rw[e]
  refine zah (N:=39) hm zCN 49000 (lsw [29,33,38] []) zAh Tryz.func49 rfl rfl (by simp) (by kernel_rfl) ?_
  repeat'(first|refine rq fun _=>?_|simp only[go_sem,hin,Tryz.f49])
 ·have e:zeh l s=l.take (twN l s)++[s]++l.drop (twN l s):=by unfold zeh;rw[if_neg hin];rfl
  rw[e]
  clear e
  have hlt:∀i (h:i<l.length),i<twN l s→Op.bytesLess l[i].l s.l=true:=fun i h h2=>by rw[zc1];exact decide_eq_true (zuD h h2)
  have hat:∀i (h:i<l.length),i=twN l s→Op.bytesLess l[i].l s.l=false:=fun i h h2=>by rw[zc1];exact decide_eq_false (zuB h h2)
  have htl:=zuC s l
  obtain⟨T,hT⟩:∃T,twN l s=T:=⟨_,rfl⟩
  rw[hT]at hlt hat htl ⊢
  clear hT
  have kl:=Kp.mk hlt
  have ka:=Kp.mk hat
  clear hlt hat
  refine zah (N:=39) hm zCN 49000 (lsw [29,33,38] []) zAh Tryz.func49 rfl rfl (by simp) (by kernel_rfl) ?_
  repeat'(first|refine rq fun _=>?_|simp only[go_sem,hin,Tryz.f49])
  refine zao hm zCN 49000 (lsw [29,33,38] []) (ι:=zcO T fun _=>True)
   ⟨fun q=>⟨frL [(0,.fz (.sl (l.map enc))),(1,.fz (.s s.l)),(5,.full []),(6,.fz (.i .i64 q.i))],hpL [],0⟩,fun q=>T-q.i⟩
   ⟨0,by omega,trivial⟩ (by kernel_rfl) ?_ ?_
  ·refine zai ?_ ?_ ?_<;>simp only[go_sem]
  rintro⟨i,hi,_⟩
  try simp only at hi
  rcases Nat.lt_or_ge i T with h1|h1
  ·have h2:i<l.length:=by omega
   have h3:=kl.out i h2 h1
   repeat'(first|refine rq fun _=>?_|simp only[go_sem,h2,h3,zaa,Tryz.f49])
   refine⟨⟨i+1,by omega,trivial⟩,by simp only;omega,?_⟩
   refine zai ?_ ?_ ?_<;>simp only[go_sem]
  ·obtain rfl:i=T:=by omega
   have hlt:(l.take i).length=i:=by rw[List.length_take];omega
   rcases Nat.lt_or_ge i l.length with h2|h2
   case' inl=>have h3:=ka.out i h2 rfl
   case' inr=>have h3:¬i<l.length:=by omega
   all_goals
    repeat'(first|refine rq fun _=>?_|refine zaj.i (zat (by first|omega|(simp only[List.length_map,List.length_take,List.length_drop,List.length_append,List.length_cons,List.length_nil];omega)) (by decide)) fun _=>?_|refine rq fun _=>?_|simp only[go_sem,h2,h3,zsz,zaa,Tryz.f49])
   all_goals first|done|(simp only[List.map_append,List.map_take,List.map_drop,List.map_cons,List.map_nil,zsK])
def acM (l:List Abs.zac):List Str:=l.foldl (fun out f=>(zgR f [] []).foldl zeh out) []
structure acP (f:Abs.zac):Prop where
 ft:f.fit=true
 s:f.size≤1000
 n:(zgR f [] []).length≤2400
theorem zoP {l:List Abs.zac}{i:Nat}(h:i<l.length):acM (l.take (i+1))=(zgR l[i] [] []).foldl zeh (acM (l.take i)):=by
 unfold acM
 rw[List.take_succ_eq_append_getElem h,List.foldl_append];rfl
theorem zk7:∀(ws l:List Str),(ws.foldl zeh l).length≤l.length+ws.length
 |[],l=>by simp
 |w::ws,l=>by
  rw[List.foldl_cons]
  have:=zk7 ws (zeh l w)
  have:=zpv l w
  rw[List.length_cons];omega
theorem ztE {ws l:List Str}{j:Nat}(h:j<ws.length):(ws.take (j+1)).foldl zeh l=zeh ((ws.take j).foldl zeh l) ws[j]:=by
 rw[List.take_succ_eq_append_getElem h,List.foldl_append];rfl
theorem znH {l:List Abs.zac}(hp:∀f∈l,acP f):∀i,i≤l.length→(acM (l.take i)).length≤2400*i:=by
 intro i
 induction i with
 |zero=>intro _;simp[acM]
 |succ i ih=>
  intro h
  rw[zoP (by omega)]
  have h1:=ih (by omega)
  have h2:=zk7 (zgR l[i] [] []) (acM (l.take i))
  have h3:=(hp l[i] (List.getElem_mem (by omega))).n
  omega
theorem zpm (x:Str):∀(ws l:List Str),x∈ws.foldl zeh l↔x∈l∨x∈ws
 |[],l=>by simp
 |w::ws,l=>by
  rw[List.foldl_cons,zpm x ws,zpn,List.mem_cons,or_assoc]
theorem ztl (x:Str)(l:List Abs.zac):x∈acM l↔∃f∈l,x∈cst f []:=by
 unfold acM
 suffices h:∀(l:List Abs.zac) (o:List Str),x∈l.foldl (fun out f=>(zgR f [] []).foldl zeh out) o↔x∈o∨∃f∈l,x∈cst f [] by
  rw[h];simp
 intro l
 induction l with
 |nil=>intro o;simp
 |cons f l ih=>
  intro o
  rw[List.foldl_cons,ih,zpm,zkZ]
  simp only[List.not_mem_nil,false_or,List.mem_cons,exists_eq_or_imp,or_assoc]
def O13:Tbl:=O12.add 26 (sp1 acM fun l=>(∀f∈l,acP f)∧l.length≤100000)
attribute [go_sem] O13
set_option maxHeartbeats 4000000 in
theorem zc7:zap Tryz.prog GA O13:=by
 refine zbM zHi zCO fun l hp _=>?_
 obtain⟨hac,hsl⟩:=hp
 have hal:=znH hac
 have kb:=Kp.mk hac
 have kl:=Kp.mk hal
 clear hac hal
 refine zah (N:=28) hm zCO 26000 (lst []) zHi Tryz.func26 rfl rfl (by simp) (by kernel_rfl) ?_
 repeat'(first|refine And.intro ?_ ?_|exact True.intro|refine rq fun _=>?_|simp only[go_sem,Tryz.f26])
 refine zao hm zCO 26000 (lst []) (ι:=zcO l.length fun _=>True)
  ⟨fun q=>⟨frL [(0,.fz (.sl (l.map enc))),(3,.fz (.sl ((acM (l.take q.i)).map enc))),(7,.fz (.sl (l.map enc))),(8,.fz (.i .i64 l.length)),(9,.fz (.i .i64 q.i))],hpL [],0⟩,fun q=>l.length-q.i⟩
  ⟨0,by omega,trivial⟩ (by kernel_rfl) ?_ ?_
 ·refine zbl [] [] [] ?_ ?_ ?_ ?_ ?_<;>simp only[go_sem,acM,List.take_zero,List.foldl_nil,List.map_nil]
  all_goals first|done|rfl|omega
 rintro⟨i,hi,_⟩
 try simp only at hi
 rcases Nat.lt_or_ge i l.length with h1|h1
 rotate_left
 ·obtain rfl:i=l.length:=by omega
  repeat'(first|refine And.intro ?_ ?_|exact True.intro|refine rq fun _=>?_|simp only[go_sem,Nat.lt_irrefl,List.take_length,Tryz.f26])
 obtain⟨x,hx⟩:∃x,l[i]=x:=⟨_,rfl⟩
 have hxb:acP x:=kb.out x (by rw[←hx];exact List.getElem_mem h1)
 have et:acM (l.take (i+1))=(zgR x [] []).foldl zeh (acM (l.take i)):=by rw[zoP h1,hx]
 have hA:=kl.out i hi
 obtain⟨A,hAe⟩:∃A,acM (l.take i)=A:=⟨_,rfl⟩
 rw[hAe]at et hA
 have hcp:x.fit=true∧x.size≤1000:=⟨hxb.ft,hxb.s⟩
 have hcn:=hxb.n
 obtain⟨cs,hcs⟩:∃c,zgR x [] []=c:=⟨_,rfl⟩
 rw[hcs]at et hcn
 obtain⟨M,hM⟩:∃M:Nat→List Str,M=fun j=>(cs.take j).foldl zeh A:=⟨_,rfl⟩
 have hM0:M 0=A:=by rw[hM];rfl
 have hMs:∀j (h:j<cs.length),M (j+1)=zeh (M j) cs[j]:=fun j h=>by rw[hM];exact ztE h
 have hMl:∀j,j≤cs.length→(M j).length≤800000000:=fun j h=>by
  rw[hM]
  have:=zk7 (cs.take j) A
  rw[List.length_take]at this
  simp only
  omega
 have hMe:acM (l.take (i+1))=M cs.length:=by rw[et,hM];simp only[List.take_length]
 have kM:=Kp.mk hMs
 have kN:=Kp.mk hMl
 clear hM hMs hMl et hxb hA
 repeat'(first|refine zaj.i hcp fun _=>?_|refine And.intro ?_ ?_|exact True.intro|refine rq fun _=>?_|simp only[go_sem,h1,hx,hcs,hAe,zaa,zab,Tryz.f26])
 refine zao hm zCO 26000 (lst []) (ι:=zcO cs.length fun _=>True)
  ⟨fun q=>⟨frL [(0,.fz (.sl (l.map enc))),(3,.fz (.sl ((M q.i).map enc))),(7,.fz (.sl (l.map enc))),(8,.fz (.i .i64 l.length)),(9,.fz (.i .i64 i)),(16,.fz (.sl (cs.map enc))),(17,.fz (.i .i64 cs.length)),(18,.fz (.i .i64 q.i))],hpL [],0⟩,fun q=>cs.length-q.i⟩
  ⟨0,by omega,trivial⟩ (by kernel_rfl) ?_ ?_
 ·refine zai ?_ ?_ ?_<;>simp only[go_sem,hM0,hAe]
  all_goals first|done|rfl|omega
 rintro⟨j,hj,_⟩
 try simp only at hj
 rcases Nat.lt_or_ge j cs.length with h2|h2
 ·have es:=kM.out j h2
  have hml:(M j).length≤900000000:=Nat.le_trans (kN.out j hj) (by decide)
  obtain⟨y,hy⟩:∃y,cs[j]=y:=⟨_,rfl⟩
  rw[hy]at es
  repeat'(first|refine zaj.i hml fun _=>?_|refine And.intro ?_ ?_|exact True.intro|refine rq fun _=>?_|simp only[go_sem,h2,hy,zaa,zad,Tryz.f26])
  all_goals refine⟨⟨j+1,by omega,trivial⟩,by simp only;omega,?_⟩
  all_goals refine zai ?_ ?_ ?_<;>simp only[go_sem,es]
  all_goals first|done|rfl|omega
 obtain rfl:j=cs.length:=by omega
 repeat'(first|refine And.intro ?_ ?_|exact True.intro|refine rq fun _=>?_|simp only[go_sem,Nat.lt_irrefl,Tryz.f26])
 all_goals refine⟨⟨i+1,by omega,trivial⟩,by simp only;omega,?_⟩
 all_goals refine zai ?_ ?_ ?_<;>simp only[go_sem,hMe]
 all_goals first|done|rfl|omega
end Go.Proofs.YtdlioodgfopmfaaGreatDoor
