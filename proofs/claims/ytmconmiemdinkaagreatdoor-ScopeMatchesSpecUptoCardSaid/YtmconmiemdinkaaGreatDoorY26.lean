/- several texts of this proof in one; no conditions -/
import Derived.Test.YtmconmiemdinkaaGreatDoorAT
import Derived.Test.YtmconmiemdinkaaGreatDoorY25
import Derived.Test.YtmconmiemdinkaaGreatDoorY23
import Derived.Test.YtmconmiemdinkaaGreatDoorY20
set_option maxRecDepth 100000
set_option maxHeartbeats 1000000
set_option linter.unusedSimpArgs false
namespace Go.Proofs.YtmconmiemdinkaaGreatDoor
open Go Go.Abs Go.Proofs
def zuC:Tv:=(.q 0 (.q 1 (.q 2 (.q 3 (.q 4 (.q 5 (.q 6 (.q 7 (.q 8 (.q 9 (.q 10 .leaf)))))))))))
def zuD:Tv:=(.q 0 (.q 1 (.q 2 (.q 3 (.q 4 (.q 5 (.q 6 (.q 7 (.q 8 (.q 9 (.q 10 .leaf)))))))))))
def zg8:Tv:=(.q 0 (.q 1 (.q 2 (.q 3 (.q 4 (.q 5 (.q 6 (.q 7 (.q 8 (.q 9 (.q 10 (.q 11 (.q 12 (.q 13 (.q 14 (.q 15 .leaf))))))))))))))))
def Oft:Tbl:=zbp.add 46 (sp1 txS txP)
set_option maxHeartbeats 8000000 in
theorem zJE:zan Tryz.prog GA Oft:=by
 refine zi3 zac.size zu9 zcF fun n hT f hn hpre _=>?_
 have hkb:=zqq.1 hpre.v
 have hk1:=hkb.1
 have hk2:=hkb.2.1
 have hk3:=hkb.2.2.2.1
 clear hkb
 by_cases k1:f.kind=1
 ·have e:txS f=⟨[116,114,117,101]⟩:=by unfold txS;rw[zDc k1]
  rw[e]
  refine zaj (N:=108) hm hT 46000 (lst [1000020,1000022,1000026]) zu9 Tryz.func46 rfl rfl (by simp) (by kernel_rfl) ?_
  repeat'(first|refine And.intro ?_ ?_|exact True.intro|refine rq fun _=>?_|refine zaq.i (by unfold za6;simp only[List.length_append,List.length_cons,List.length_nil];omega) fun _=>?_|refine rq fun _=>?_|simp only[go_sem,k1,Tryz.f46,zbp])
 by_cases k2:f.kind=2
 ·have et:=zzN k2
  have hl:=hpre.l
  have hwl:f.words.length≤1000:=by
   have hf:=hpre.ft
   cases f with
   |mk a b c d=>
    rw[zac.fit]at hf
    simp only[Bool.and_eq_true,decide_eq_true_eq]at hf
    exact hf.1.1
  obtain⟨J,hJ⟩:∃J:Nat→List UInt8,J=fun i=>jn [44] (f.words.take i):=⟨_,rfl⟩
  have hJ0:J 0=[]:=by rw[hJ];rfl
  have hJs:∀i (h:i<f.words.length),J (i+1)=if i=0 then f.words[i].l else J i++[44]++f.words[i].l:=fun i h=>by rw[hJ];exact ztw h
  have hJl:∀i,(J i).length≤1000000000:=fun i=>by
   rw[et]at hl
   have:=ziG (sep:=[44]) (ws:=f.words) (i:=i)
   rw[hJ]
   simp only[List.length_append,List.length_cons,List.length_nil]at hl ⊢
   omega
  have hJe:txS f=⟨f.name.l++[40]++J f.words.length++[41]⟩:=by unfold txS;rw[et,hJ];simp only[List.take_length]
  have hJn:f.name.l.length+(J f.words.length).length+2≤1000000000:=by
   rw[et]at hl
   rw[hJ]
   simp only[List.length_append,List.length_cons,List.length_nil,List.take_length]at hl ⊢
   omega
  rw[hJe]
  have kT:=Kp.mk hT
  have kJ:=Kp.mk hJs
  have kL:=Kp.mk hJl
  clear hT hJ hJs hJl hJe et hl hpre hn
  refine zaj (N:=108) hm kT.out 46000 (lst [1000020,1000022,1000026]) zu9 Tryz.func46 rfl rfl (by simp) (by kernel_rfl) ?_
  repeat'(first|refine And.intro ?_ ?_|exact True.intro|refine rq fun _=>?_|refine zaq.i (by unfold za6;simp only[List.length_append,List.length_cons,List.length_nil];omega) fun _=>?_|refine rq fun _=>?_|simp only[go_sem,k2,Tryz.f46,zbp])
  refine zam hm kT.out 46000 (lst [1000020,1000022,1000026]) (ι:=zcX f.words.length fun _=>True)
   ⟨fun q=>⟨frL [(1,.ptr (46001,0) 0),(3,.fz (.s (J q.i))),(15,.fz (.sl (f.words.map enc))),(16,.fz (.i .i64 f.words.length)),(17,.fz (.i .i64 q.i))],
    hpL [((46001,0),some ⟨[.fz (.i .i64 2),.fz (.s f.name.l),.fz (.sl (f.words.map enc)),.fz (.sl (f.subs.map enc))],true,false⟩)],1⟩,fun q=>f.words.length-q.i⟩
   ⟨0,by omega,trivial⟩ (by kernel_rfl) ?_ ?_
  ·refine zah ?_ ?_ ?_<;>simp only[go_sem,hJ0,k2]
   all_goals first|done|rfl|omega
  rintro⟨i,hi,_⟩
  try simp only at hi
  rcases Nat.lt_or_ge i f.words.length with h1|h1
  ·have es:=kJ.out i h1
   have el:=kL.out i
   have el2:=kL.out (i+1)
   obtain⟨w,hw⟩:∃w,f.words[i]=w:=⟨_,rfl⟩
   rw[hw]at es
   by_cases hi0:i=0
   ·subst hi0
    rw[if_pos rfl]at es
    rw[es]at el2
    have h1':((0:Int)<f.words.length)=True:=eq_true (by omega)
    repeat'(first|refine And.intro ?_ ?_|exact True.intro|refine rq fun _=>?_|refine zaq.i (by unfold za6;simp only[List.length_append,List.length_cons,List.length_nil];omega) fun _=>?_|refine rq fun _=>?_|simp only[go_sem,k2,h1,h1',hw,hJ0,List.nil_append,Nat.lt_irrefl,zaa,zad,Tryz.f46,zbp])
    all_goals refine⟨⟨0+1,by omega,trivial⟩,by simp only;omega,?_⟩
    all_goals refine zah ?_ ?_ ?_<;>simp only[go_sem,es,k2]
    all_goals first|done|rfl|omega
   ·rw[if_neg hi0]at es
    have hpos:((0:Int)<i)=True:=eq_true (by omega)
    rw[es]at el2
    simp only[List.length_append,List.length_cons,List.length_nil]at el2
    repeat'(first|refine And.intro ?_ ?_|exact True.intro|refine rq fun _=>?_|refine zaq.i (by unfold za6;simp only[List.length_append,List.length_cons,List.length_nil];omega) fun _=>?_|refine rq fun _=>?_|simp only[go_sem,k2,h1,hw,hpos,zaa,zad,Tryz.f46,zbp])
    all_goals refine⟨⟨i+1,by omega,trivial⟩,by simp only;omega,?_⟩
    all_goals refine zah ?_ ?_ ?_<;>simp only[go_sem,es,k2]
    all_goals first|done|rfl|omega
  obtain rfl:i=f.words.length:=by omega
  repeat'(first|refine And.intro ?_ ?_|exact True.intro|refine rq fun _=>?_|refine zaq.i (by unfold za6;simp only[List.length_append,List.length_cons,List.length_nil];omega) fun _=>?_|refine rq fun _=>?_|simp only[go_sem,k2,Nat.lt_irrefl,Tryz.f46,zbp])
 by_cases k3:f.kind=3
 ·have et:=zzO k3
  have hl:=hpre.l
  have hwl:f.words.length≤1000:=by
   have hf:=hpre.ft
   cases f with
   |mk a b c d=>
    rw[zac.fit]at hf
    simp only[Bool.and_eq_true,decide_eq_true_eq]at hf
    exact hf.1.1
  obtain⟨J,hJ⟩:∃J:Nat→List UInt8,J=fun i=>jn [32,61,32] (f.words.take i):=⟨_,rfl⟩
  have hJ0:J 0=[]:=by rw[hJ];rfl
  have hJs:∀i (h:i<f.words.length),J (i+1)=if i=0 then f.words[i].l else J i++[32,61,32]++f.words[i].l:=fun i h=>by rw[hJ];exact ztw h
  have hJl:∀i,(J i).length≤1000000000:=fun i=>by
   rw[et]at hl
   have:=ziG (sep:=[32,61,32]) (ws:=f.words) (i:=i)
   rw[hJ]
   simp only[List.length_append,List.length_cons,List.length_nil]at hl ⊢
   omega
  have hJe:txS f=⟨f.name.l++[40]++J f.words.length++[41]⟩:=by unfold txS;rw[et,hJ];simp only[List.take_length]
  have hJn:f.name.l.length+(J f.words.length).length+2≤1000000000:=by
   rw[et]at hl
   rw[hJ]
   simp only[List.length_append,List.length_cons,List.length_nil,List.take_length]at hl ⊢
   omega
  rw[hJe]
  have kT:=Kp.mk hT
  have kJ:=Kp.mk hJs
  have kL:=Kp.mk hJl
  clear hT hJ hJs hJl hJe et hl hpre hn
  refine zaj (N:=108) hm kT.out 46000 (lst [1000020,1000022,1000026]) zu9 Tryz.func46 rfl rfl (by simp) (by kernel_rfl) ?_
  repeat'(first|refine And.intro ?_ ?_|exact True.intro|refine rq fun _=>?_|refine zaq.i (by unfold za6;simp only[List.length_append,List.length_cons,List.length_nil];omega) fun _=>?_|refine rq fun _=>?_|simp only[go_sem,k3,Tryz.f46,zbp])
  refine zam hm kT.out 46000 (lst [1000020,1000022,1000026]) (ι:=zcX f.words.length fun _=>True)
   ⟨fun q=>⟨frL [(1,.ptr (46001,0) 0),(3,.fz (.s (J q.i))),(15,.fz (.sl (f.words.map enc))),(16,.fz (.i .i64 f.words.length)),(17,.fz (.i .i64 q.i))],
    hpL [((46001,0),some ⟨[.fz (.i .i64 3),.fz (.s f.name.l),.fz (.sl (f.words.map enc)),.fz (.sl (f.subs.map enc))],true,false⟩)],1⟩,fun q=>f.words.length-q.i⟩
   ⟨0,by omega,trivial⟩ (by kernel_rfl) ?_ ?_
  ·refine zah ?_ ?_ ?_<;>simp only[go_sem,hJ0,k3]
   all_goals first|done|rfl|omega
  rintro⟨i,hi,_⟩
  try simp only at hi
  rcases Nat.lt_or_ge i f.words.length with h1|h1
  ·have es:=kJ.out i h1
   have el:=kL.out i
   have el2:=kL.out (i+1)
   obtain⟨w,hw⟩:∃w,f.words[i]=w:=⟨_,rfl⟩
   rw[hw]at es
   by_cases hi0:i=0
   ·subst hi0
    rw[if_pos rfl]at es
    rw[es]at el2
    have h1':((0:Int)<f.words.length)=True:=eq_true (by omega)
    repeat'(first|refine And.intro ?_ ?_|exact True.intro|refine rq fun _=>?_|refine zaq.i (by unfold za6;simp only[List.length_append,List.length_cons,List.length_nil];omega) fun _=>?_|refine rq fun _=>?_|simp only[go_sem,k3,h1,h1',hw,hJ0,List.nil_append,Nat.lt_irrefl,zaa,zad,Tryz.f46,zbp])
    all_goals refine⟨⟨0+1,by omega,trivial⟩,by simp only;omega,?_⟩
    all_goals refine zah ?_ ?_ ?_<;>simp only[go_sem,es,k3]
    all_goals first|done|rfl|omega
   ·rw[if_neg hi0]at es
    have hpos:((0:Int)<i)=True:=eq_true (by omega)
    rw[es]at el2
    simp only[List.length_append,List.length_cons,List.length_nil]at el2
    repeat'(first|refine And.intro ?_ ?_|exact True.intro|refine rq fun _=>?_|refine zaq.i (by unfold za6;simp only[List.length_append,List.length_cons,List.length_nil];omega) fun _=>?_|refine rq fun _=>?_|simp only[go_sem,k3,h1,hw,hpos,zaa,zad,Tryz.f46,zbp])
    all_goals refine⟨⟨i+1,by omega,trivial⟩,by simp only;omega,?_⟩
    all_goals refine zah ?_ ?_ ?_<;>simp only[go_sem,es,k3]
    all_goals first|done|rfl|omega
  obtain rfl:i=f.words.length:=by omega
  repeat'(first|refine And.intro ?_ ?_|exact True.intro|refine rq fun _=>?_|refine zaq.i (by unfold za6;simp only[List.length_append,List.length_cons,List.length_nil];omega) fun _=>?_|refine rq fun _=>?_|simp only[go_sem,k3,Nat.lt_irrefl,Tryz.f46,zbp])
 by_cases k4:f.kind=4
 ·obtain⟨a,hab,ha,hsz⟩:=zkq hpre (by omega)
  have et:=zw2 k4 hab
  have hl:=hpre.l
  have hra:a.size<n∧txP a:=⟨by omega,ha⟩
  obtain⟨T,hT2⟩:∃T,txt a=T:=⟨_,rfl⟩
  rw[hT2]at et
  rw[et]at hl
  simp only[List.length_append,List.length_cons,List.length_nil]at hl
  have ea:txS a=⟨T⟩:=by unfold txS;rw[hT2]
  have e:txS f=⟨45::T⟩:=by unfold txS;rw[et]
  rw[e]
  refine zaj (N:=108) hm hT 46000 (lst [1000020,1000022,1000026]) zu9 Tryz.func46 rfl rfl (by simp) (by kernel_rfl) ?_
  repeat'(first|refine zaq.i hra fun _=>?_|refine And.intro ?_ ?_|exact True.intro|refine rq fun _=>?_|refine zaq.i (by unfold za6;simp only[List.length_append,List.length_cons,List.length_nil];omega) fun _=>?_|refine rq fun _=>?_|simp only[go_sem,k4,hab,ea,List.cons_append,List.nil_append,zaa,zab,Tryz.f46,zbp])
  all_goals first|done|rfl|omega
 by_cases k8:f.kind=8
 ·obtain⟨a,hab,ha,hsz⟩:=zkq hpre (by omega)
  have et:=zw3 k8 hab
  have hl:=hpre.l
  have hra:a.size<n∧txP a:=⟨by omega,ha⟩
  obtain⟨T,hT2⟩:∃T,txt a=T:=⟨_,rfl⟩
  rw[hT2]at et
  rw[et]at hl
  simp only[List.length_append,List.length_cons,List.length_nil]at hl
  have ea:txS a=⟨T⟩:=by unfold txS;rw[hT2]
  have e:txS f=⟨[97,108,108,32]++f.name.l++[32]++T⟩:=by unfold txS;rw[et]
  rw[e]
  refine zaj (N:=108) hm hT 46000 (lst [1000020,1000022,1000026]) zu9 Tryz.func46 rfl rfl (by simp) (by kernel_rfl) ?_
  repeat'(first|refine zaq.i hra fun _=>?_|refine zbk (id:=20) hm hT 46000 (lst [1000020,1000022,1000026]) zuC (by kernel_rfl) (by kernel_rfl) ?_|refine And.intro ?_ ?_|exact True.intro|refine rq fun _=>?_|refine zaq.i (by unfold za6;simp only[List.length_append,List.length_cons,List.length_nil];omega) fun _=>?_|refine rq fun _=>?_|simp only[go_sem,k8,hab,ea,zuC,List.cons_append,List.nil_append,zaa,zab,Tryz.f46,zbp])
  all_goals first|done|rfl|omega
 by_cases k9:f.kind=9
 ·obtain⟨a,hab,ha,hsz⟩:=zkq hpre (by omega)
  have et:=zw4 k9 hab
  have hl:=hpre.l
  have hra:a.size<n∧txP a:=⟨by omega,ha⟩
  obtain⟨T,hT2⟩:∃T,txt a=T:=⟨_,rfl⟩
  rw[hT2]at et
  rw[et]at hl
  simp only[List.length_append,List.length_cons,List.length_nil]at hl
  have ea:txS a=⟨T⟩:=by unfold txS;rw[hT2]
  have e:txS f=⟨[115,111,109,101,32]++f.name.l++[32]++T⟩:=by unfold txS;rw[et]
  rw[e]
  refine zaj (N:=108) hm hT 46000 (lst [1000020,1000022,1000026]) zu9 Tryz.func46 rfl rfl (by simp) (by kernel_rfl) ?_
  repeat'(first|refine zaq.i hra fun _=>?_|refine zbk (id:=22) hm hT 46000 (lst [1000020,1000022,1000026]) zuD (by kernel_rfl) (by kernel_rfl) ?_|refine And.intro ?_ ?_|exact True.intro|refine rq fun _=>?_|refine zaq.i (by unfold za6;simp only[List.length_append,List.length_cons,List.length_nil];omega) fun _=>?_|refine rq fun _=>?_|simp only[go_sem,k9,hab,ea,zuD,List.cons_append,List.nil_append,zaa,zab,Tryz.f46,zbp])
  all_goals first|done|rfl|omega
 have hk567:f.kind=5∨f.kind=6∨f.kind=7:=by omega
 obtain⟨a,b,hab,ha,hb,hsa,hsb,hll⟩:=zql hpre hk567
 have et:=zrT hk567 hab
 have hl:=hpre.l
 have hra:a.size<n∧txP a:=⟨by omega,ha⟩
 have hrb:b.size<n∧txP b:=⟨by omega,hb⟩
 obtain⟨T,hT2⟩:∃T,txt a=T:=⟨_,rfl⟩
 obtain⟨V,hV⟩:∃T,txt b=T:=⟨_,rfl⟩
 rw[hT2,hV]at et hll
 have ea:txS a=⟨T⟩:=by unfold txS;rw[hT2]
 have eb:txS b=⟨V⟩:=by unfold txS;rw[hV]
 clear hk1 hk2 hk3
 by_cases k5:f.kind=5
 ·have e:txS f=⟨[40]++T++[32,38,32]++V++[41]⟩:=by unfold txS;rw[et,k5];rfl
  have hs:(5:Int)-5=0:=rfl
  rw[e]
  refine zaj (N:=108) hm hT 46000 (lst [1000020,1000022,1000026]) zu9 Tryz.func46 rfl rfl (by simp) (by kernel_rfl) ?_
  repeat'(first|refine rq fun _=>?_|refine zaq.i hra fun _=>?_|refine zaq.i hrb fun _=>?_|refine zbk (id:=26) hm hT 46000 (lst [1000020,1000022,1000026]) zg8 (by kernel_rfl) (by kernel_rfl) ?_|refine And.intro ?_ ?_|exact True.intro|refine rq fun _=>?_|refine zaq.i (by unfold za6;simp only[List.length_append,List.length_cons,List.length_nil];omega) fun _=>?_|refine rq fun _=>?_|simp only[go_sem,k5,hs,hab,ea,eb,zg8,List.cons_append,List.nil_append,zaa,zab,Tryz.f46,zbp])
  all_goals first|done|rfl|omega
 by_cases k6:f.kind=6
 ·have e:txS f=⟨[40]++T++[32,124,32]++V++[41]⟩:=by unfold txS;rw[et,k6];rfl
  have hs:(6:Int)-5=1:=rfl
  rw[e]
  refine zaj (N:=108) hm hT 46000 (lst [1000020,1000022,1000026]) zu9 Tryz.func46 rfl rfl (by simp) (by kernel_rfl) ?_
  repeat'(first|refine rq fun _=>?_|refine zaq.i hra fun _=>?_|refine zaq.i hrb fun _=>?_|refine zbk (id:=26) hm hT 46000 (lst [1000020,1000022,1000026]) zg8 (by kernel_rfl) (by kernel_rfl) ?_|refine And.intro ?_ ?_|exact True.intro|refine rq fun _=>?_|refine zaq.i (by unfold za6;simp only[List.length_append,List.length_cons,List.length_nil];omega) fun _=>?_|refine rq fun _=>?_|simp only[go_sem,k6,hs,hab,ea,eb,zg8,List.cons_append,List.nil_append,zaa,zab,Tryz.f46,zbp])
  all_goals first|done|rfl|omega
 by_cases k7:f.kind=7
 ·have e:txS f=⟨[40]++T++[32,62,32]++V++[41]⟩:=by unfold txS;rw[et,k7];rfl
  have hs:(7:Int)-5=2:=rfl
  rw[e]
  refine zaj (N:=108) hm hT 46000 (lst [1000020,1000022,1000026]) zu9 Tryz.func46 rfl rfl (by simp) (by kernel_rfl) ?_
  repeat'(first|refine rq fun _=>?_|refine zaq.i hra fun _=>?_|refine zaq.i hrb fun _=>?_|refine zbk (id:=26) hm hT 46000 (lst [1000020,1000022,1000026]) zg8 (by kernel_rfl) (by kernel_rfl) ?_|refine And.intro ?_ ?_|exact True.intro|refine rq fun _=>?_|refine zaq.i (by unfold za6;simp only[List.length_append,List.length_cons,List.length_nil];omega) fun _=>?_|refine rq fun _=>?_|simp only[go_sem,k7,hs,hab,ea,eb,zg8,List.cons_append,List.nil_append,zaa,zab,Tryz.f46,zbp])
  all_goals first|done|rfl|omega
 exfalso;omega
end Go.Proofs.YtmconmiemdinkaaGreatDoor
namespace Go.Proofs.YtmconmiemdinkaaGreatDoor
open Go Go.Abs Go.Proofs
def Rg0:Tbl:=Tbl.or Re3 (Tbl.or Sd4 Oft)
theorem zHg:zan Tryz.prog GA Rg0:=zf0 zJX (zf0 zJ3 zJE)
def zrM (s:zar):Bool×zhH:=(decide ((0:Int)<((zhN s).1.length:Int)),(zhN s).2)
def Rg1:Tbl:=Rg0.add 11 (zum zrM fun _=>True)
theorem zFe:zan Tryz.prog GA Rg1:=by
 refine zg5 zH8 zHg fun s _ _=>?_
 unfold zrM
 obtain⟨R,e,hr⟩:∃R e,zhN s=(R,e):=⟨_,_,rfl⟩
 rw[hr]
 refine zaj (N:=15) Go.Proofs.YtmconmiemdinkaaGreatDoor.hm zHg 11000 (lst []) zH8 Tryz.func11 rfl rfl (by simp) (by kernel_rfl) ?_
 repeat'(first|refine And.intro ?_ ?_|exact True.intro|refine rq fun _=>?_|refine rf fun _=>?_|simp only[go_sem,hr,zab,zad,zae,zag,zai,zaa,Tryz.f11,Rg0,Re3,Re2,Re1,Rd1,Rd0,Sc6,Sc5,Sc4,Su4,Su3,Su2,Su1,Sc3,Sc2,Sc1,Sc0,Sd4,Sd1,Oft])
 all_goals first|done|rfl|omega
def Rg2:Tbl:=Rg1.add 14 (sp2 (fun a b:List Abs.zac=>decide (a=b)) fun _ _=>True)
theorem zBH:zan Tryz.prog GA Rg2:=by
 refine zbI zIa zFe fun a b _ hwa hwb=>?_
 obtain⟨Q,hQ⟩:∃Q:D→zax→Nat→Prop,Q=(fun d _ _=>D.val d=some (.fz (enc (decide (a=b))))):=⟨_,rfl⟩
 rw[←hQ]
 have hf:a≠b→∀{H' n'},Q (.fz (.b false)) H' n':=fun h H' n'=>by rw[hQ];show _=some (D.fz (.b (decide (a=b))));rw[decide_eq_false h];rfl
 have ht:a=b→∀{H' n'},Q (.fz (.b true)) H' n':=fun h H' n'=>by rw[hQ];show _=some (D.fz (.b (decide (a=b))));rw[decide_eq_true h];rfl
 have hsl:a.length≤za6:=by
  have:=zcI hwa
  simpa using this
 unfold za6 at hsl
 have kf:=Kp.mk @hf
 have kt:=Kp.mk @ht
 clear hf ht hQ hwa hwb
 refine zaj (N:=27) Go.Proofs.YtmconmiemdinkaaGreatDoor.hm zFe 14000 (lst []) zIa Tryz.func14 rfl rfl (by simp) (by kernel_rfl) ?_
 repeat'(first|refine zaW.d (fun _=>?_) (fun _=>?_)|refine And.intro ?_ ?_|exact True.intro|refine rq fun _=>?_|refine rf fun _=>?_|simp only[go_sem,zab,zad,zae,zag,zai,zaa,Tryz.f14,Rg1,Rg0,Re3,Re2,Re1,Rd1,Rd0,Sc6,Sc5,Sc4,Su4,Su3,Su2,Su1,Sc3,Sc2,Sc1,Sc0,Sd4,Sd1,Oft])
 all_goals try(refine kf.out (fun e=>?_);subst e;omega)
 rename_i e1
 have hlen:a.length=b.length:=by omega
 refine zam Go.Proofs.YtmconmiemdinkaaGreatDoor.hm zFe 14000 (lst []) (ι:=zcX a.length fun i=>a.take i=b.take i)
  ⟨fun q=>⟨frL [(0,.fz (.sl (a.map enc))),(1,.fz (.sl (b.map enc))),(12,.fz (.i .i64 a.length)),(13,.fz (.i .i64 q.i))],hpL [],0⟩,fun q=>a.length-q.i⟩
  ⟨0,by omega,rfl⟩ (by kernel_rfl) ?_ ?_
 ·refine zah ?_ ?_ ?_<;>simp only[go_sem]
 rintro⟨i,hi,hpi⟩
 rcases Nat.lt_or_ge i a.length with h1|h1
 ·have h2:i<b.length:=by omega
  obtain⟨x,hx⟩:∃x,a[i]=x:=⟨_,rfl⟩
  obtain⟨y,hy⟩:∃y,b[i]=y:=⟨_,rfl⟩
  by_cases hxy:x=y
  ·repeat'(first|refine And.intro ?_ ?_|exact True.intro|refine rq fun _=>?_|refine rf fun _=>?_|simp only[go_sem,h1,h2,hx,hy,eq_true hxy,zab,zad,zae,zag,zai,zaa,Tryz.f14,Rg1,Rg0,Re3,Re2,Re1,Rd1,Rd0,Sc6,Sc5,Sc4,Su4,Su3,Su2,Su1,Sc3,Sc2,Sc1,Sc0,Sd4,Sd1,Oft])
   refine⟨⟨i+1,by omega,?_⟩,by simp only;omega,?_⟩
   ·rw[List.take_succ_eq_append_getElem h1,List.take_succ_eq_append_getElem h2,hpi,hx,hy,hxy]
   ·refine zah ?_ ?_ ?_<;>simp only[go_sem]
  ·repeat'(first|refine And.intro ?_ ?_|exact True.intro|refine rq fun _=>?_|refine rf fun _=>?_|simp only[go_sem,h1,h2,hx,hy,eq_false hxy,zab,zad,zae,zag,zai,zaa,Tryz.f14,Rg1,Rg0,Re3,Re2,Re1,Rd1,Rd0,Sc6,Sc5,Sc4,Su4,Su3,Su2,Su1,Sc3,Sc2,Sc1,Sc0,Sd4,Sd1,Oft])
   exact kf.out fun e=>hxy (by subst e;rw[←hx,←hy])
 ·have h1':¬i<a.length:=by omega
  obtain rfl:i=a.length:=by omega
  repeat'(first|refine And.intro ?_ ?_|exact True.intro|refine rq fun _=>?_|refine rf fun _=>?_|simp only[go_sem,Nat.lt_irrefl,h1',Tryz.f14])
  exact kt.out (zfJ hlen hpi)
end Go.Proofs.YtmconmiemdinkaaGreatDoor
namespace Go.Proofs.YtmconmiemdinkaaGreatDoor
open Go Go.Abs Go.Proofs
theorem zmE {s:zar}(hs:ze3 s):(zd7 s).length≤100000:=by
 have h6:=hs.n6
 unfold zd7
 split
 ·simp
 ·rename_i h
  have h1:=zjW (s:=s) (i:=nP s^(za5 s.pieces).length)
  have h2:=zng (j:=nP s) (M:=(za5 s.pieces).length) h6 (by omega)
  omega
def Rg3:Tbl:=Rg2.add 13 (sp1 zdU ze3)
set_option maxHeartbeats 8000000 in
theorem zJY:zan Tryz.prog GA Rg3:=by
 refine zbR zH9 zBH fun s hs _=>?_
 obtain⟨F,hF⟩:∃F,(zd7 s).map (zfC s)=F:=⟨_,rfl⟩
 have hcan:zoe s=F.map fun f=>zaN f []:=by unfold zoe;rw[←hF,List.map_map];rfl
 have hFp:∀f∈F,(f.fit=true∧f.size≤1000)∧zxX f []=zaN f []∧txP (zaN f []):=fun f hf=>by
  have h1:zaN f []∈zoe s:=by rw[hcan];exact List.mem_map_of_mem hf
  have h2:=(zBh hs h1).1.p
  rw[←hF]at hf
  obtain⟨d,hd,rfl⟩:=List.mem_map.1 hf
  obtain⟨l,hl,rfl⟩:=(ziL hs).1 hd
  obtain⟨h3,h4,_⟩:=zgY hs hl
  unfold zfC at h2 ⊢
  rw[zc3]at h2 ⊢
  have h5:=zck hs h3 h4
  exact⟨⟨zcQ hs _ _,by omega⟩,(zqH (zjA (fun _ hw=>zm7 hw) _ (znS hs h3 h4).a) (by simp) (by simp)).symm,h2⟩
 have hFl:F.length≤100000:=by rw[←hF,List.length_map];exact zmE hs
 obtain⟨N,hN⟩:∃N,F.length=N:=⟨_,rfl⟩
 obtain⟨B,hB⟩:∃B:Nat→List Str,B=fun j=>(F.take j).foldl (fun l f=>ze6 l (txS (zaN f []))) []:=⟨_,rfl⟩
 have hB0:B 0=[]:=by rw[hB];rfl
 have hBs:∀j (h:j<F.length),B (j+1)=ze6 (B j) (txS (zaN F[j] [])):=fun j h=>by
  rw[hB];simp only
  rw[List.take_succ_eq_append_getElem h,List.foldl_append];rfl
 have hBe:B N=zgB s:=by rw[hB,←hN];simp only[List.take_length];unfold zgB;rw[hcan,List.foldl_map]
 have hBl:∀j,j≤F.length→(B j).length≤j:=by
  intro j
  induction j with
  |zero=>intro _;rw[hB0];simp
  |succ j ih=>
   intro hj
   rw[hBs j hj]
   have h1:=ih (by omega)
   have h2:=zp0 (B j) (txS (zaN F[j] []))
   omega
 have hfil:zgf s=(zd7 s,F):=by unfold zgf;rw[hF]
 have kB:=Kp.mk hBs
 have kL:=Kp.mk hBl
 have kF:=Kp.mk hFp
 clear hBs hBl hFp hB
 refine zaj (N:=58) Go.Proofs.YtmconmiemdinkaaGreatDoor.hm zBH 13000 (lsw [54] []) zH9 Tryz.func13 rfl rfl (by simp) (by kernel_rfl) ?_
 repeat'(first|refine zaq.i hs fun _=>?_|refine And.intro ?_ ?_|exact True.intro|refine rq fun _=>?_|refine rf fun _=>?_|simp only[go_sem,hfil,zab,zad,zae,zag,zai,zaa,Tryz.f13,Rg2,Rg1,Rg0,Re3,Re2,Re1,Rd1,Rd0,Sc6,Sc5,Sc4,Su4,Su3,Su2,Su1,Sc3,Sc2,Sc1,Sc0,Sd4,Sd1,Oft])
 refine zam Go.Proofs.YtmconmiemdinkaaGreatDoor.hm zBH 13000 (lsw [54] []) (ι:=zeC N 1 fun _=>True)
  ⟨fun q=>⟨frL [(4,.fz (.sl (F.map enc))),(5,.fz (.sl ((B q.i).map enc))),(18,.fz (.i .i64 N)),(19,.fz (.i .i64 q.i))],hpL [],q.m⟩,fun q=>N-q.i⟩
  ⟨0,1,by omega,by omega,trivial⟩ (by kernel_rfl) ?_ ?_
 ·refine zb6 [] [] [] ?_ ?_ ?_ ?_ ?_<;>(try simp only[go_sem,hB0,hN,List.map_nil])
  all_goals first|done|rfl|omega
 rintro⟨i,m,hi,hm1,_⟩
 try simp only at hi hm1
 rcases Nat.lt_or_ge i N with h1|h1
 ·have h1':i<F.length:=by omega
  obtain⟨f,hf⟩:∃f,F[i]=f:=⟨_,rfl⟩
  obtain⟨q1,q2,q3⟩:=kF.out f (by rw[←hf];exact List.getElem_mem h1')
  have hBi:=kB.out i h1'
  have hbl:=kL.out i (by omega)
  rw[hf]at hBi
  have hreq:(B i).length≤1000000:=by omega
  repeat'(first|refine zaq.i q1 fun _=>?_|refine zaq.i q3 fun _=>?_|refine zaq.i hreq fun _=>?_|refine And.intro ?_ ?_|exact True.intro|refine rq fun _=>?_|refine rf fun _=>?_|simp only[go_sem,h1,h1',hf,q2,zab,zad,zae,zag,zai,zaa,Tryz.f13,Rg2,Rg1,Rg0,Re3,Re2,Re1,Rd1,Rd0,Sc6,Sc5,Sc4,Su4,Su3,Su2,Su1,Sc3,Sc2,Sc1,Sc0,Sd4,Sd1,Oft])
  refine⟨⟨i+1,m,by omega,by omega,trivial⟩,by simp only;omega,?_⟩
  refine zah ?_ ?_ ?_<;>simp only[go_sem,hBi]
  all_goals first|done|rfl|omega
 obtain rfl:i=N:=by omega
 repeat'(first|refine And.intro ?_ ?_|exact True.intro|refine rq fun _=>?_|refine rf fun _=>?_|simp only[go_sem,Nat.lt_irrefl,zab,zad,zae,zag,zai,zaa,Tryz.f13,Rg2,Rg1,Rg0,Re3,Re2,Re1,Rd1,Rd0,Sc6,Sc5,Sc4,Su4,Su3,Su2,Su1,Sc3,Sc2,Sc1,Sc0,Sd4,Sd1,Oft])
 obtain⟨T,hT⟩:∃T,B i=T:=⟨_,rfl⟩
 have hTl:T.length≤100000:=by rw[←hT];exact Nat.le_trans (kL.out i (by omega)) (by omega)
 have hTe:T=zgB s:=by rw[←hT];exact hBe
 obtain⟨M,hM⟩:∃M,T.length=M:=⟨_,rfl⟩
 have hpk:∀t∈T,∃f∈F,zaN f []=pkS s t∧txS (pkS s t)=t:=fun t ht=>by
  obtain⟨h2,h3⟩:=zlp hs (by rw[←hTe];exact ht)
  rw[hcan]at h2
  obtain⟨f,hf,e⟩:=List.mem_map.1 h2
  exact⟨f,hf,e,h3⟩
 have hpk2:∀f∈F,pkS s (txS (zaN f []))=zaN f []:=fun f hf=>zt3 hs (by rw[hcan];exact List.mem_map_of_mem hf)
 have hres:T.map (pkS s)=zdU s:=by rw[hTe];exact zvE hs
 obtain⟨O,hO⟩:∃O:Nat→List Abs.zac,O=fun q=>(T.take q).map (pkS s):=⟨_,rfl⟩
 have hO0:O 0=[]:=by rw[hO];rfl
 have hOs:∀q (h:q<T.length),O (q+1)=O q++[pkS s T[q]]:=fun q h=>by rw[hO];simp only;rw[List.take_succ_eq_append_getElem h,List.map_append];rfl
 have hOe:O M=zdU s:=by rw[hO,←hM];simp only[List.take_length];exact hres
 have hOl:∀q,q≤M→(O q).length=q:=fun q hq=>by rw[hO];simp only[List.length_map,List.length_take];omega
 have kp:=Kp.mk hpk
 have kp2:=Kp.mk hpk2
 have kO:=Kp.mk hOs
 have kOl:=Kp.mk hOl
 clear hpk hpk2 hOs hOl hO hres hTe hBe
 rw[hT]
 refine zam Go.Proofs.YtmconmiemdinkaaGreatDoor.hm zBH 13000 (lsw [54] []) (ι:=zdR M 1 fun _=>True)
  ⟨fun q=>⟨frL [(4,.fz (.sl (F.map enc))),(7,.ow (13054,q.g) 4 ((O q.i).map enc)),(31,.fz (.sl (T.map enc))),(32,.fz (.i .i64 M)),(33,.fz (.i .i64 q.i))],hpL [((13054,q.g),some tok)],q.m⟩,fun q=>M-q.i⟩
  ⟨0,m,m+1,by omega,by omega,by omega,trivial⟩ (by kernel_rfl) ?_ ?_
 ·refine zb6 [] [(13054,m)] [] ?_ ?_ ?_ ?_ ?_<;>(try simp only[go_sem,hO0,hM,List.map_nil])
  all_goals first|done|rfl|omega
 rintro⟨q,g,m2,hq,hg,hm2,_⟩
 try simp only at hq hg hm2
 have hol:=kOl.out q hq
 rcases Nat.lt_or_ge q M with h2|h2
 ·have h2':q<T.length:=by omega
  obtain⟨t,ht⟩:∃t,T[q]=t:=⟨_,rfl⟩
  have hOq:=kO.out q h2'
  rw[ht]at hOq
  obtain⟨f0,hf0,e0,e1⟩:=kp.out t (by rw[←ht];exact List.getElem_mem h2')
  repeat'(first|refine And.intro ?_ ?_|exact True.intro|refine rq fun _=>?_|refine rf fun _=>?_|simp only[go_sem,h2,h2',ht,zab,zad,zae,zag,zai,zaa,Tryz.f13,Rg2,Rg1,Rg0,Re3,Re2,Re1,Rd1,Rd0,Sc6,Sc5,Sc4,Su4,Su3,Su2,Su1,Sc3,Sc2,Sc1,Sc0,Sd4,Sd1,Oft])
  refine zam Go.Proofs.YtmconmiemdinkaaGreatDoor.hm zBH 13000 (lsw [54] []) (ι:=zeC i m2 fun j=>∀f∈F.take j,txS (zaN f [])≠t)
   ⟨fun p=>⟨frL [(4,.fz (.sl (F.map enc))),(7,.ow (13054,g) 4 ((O q).map enc)),(9,.fz (.s t.l)),(31,.fz (.sl (T.map enc))),(32,.fz (.i .i64 M)),(33,.fz (.i .i64 q)),(38,.fz (.i .i64 i)),(39,.fz (.i .i64 p.i))],hpL [((13054,g),some tok)],p.m⟩,fun p=>i-p.i⟩
   ⟨0,m2,by omega,by omega,by simp⟩ (by kernel_rfl) ?_ ?_
  ·refine zah ?_ ?_ ?_<;>simp only[go_sem,hN]
   all_goals first|done|rfl|omega
  rintro⟨j,m3,hj,hm3,hpj⟩
  try simp only at hj hm3 hpj
  rcases Nat.lt_or_ge j i with h3|h3
  ·have h3':j<F.length:=by omega
   obtain⟨f,hf⟩:∃f,F[j]=f:=⟨_,rfl⟩
   have hfm:f∈F:=by rw[←hf];exact List.getElem_mem h3'
   obtain⟨q1,q2,q3⟩:=kF.out f hfm
   have hpf:=kp2.out f hfm
   have hfit:fits ((O q).length+1) 72:=zal (by omega) (by decide)
   by_cases hft:txS (zaN f [])=t
   ·have hteq:((txS (zaN f [])).l=t.l)=True:=eq_true (by rw[hft])
    rw[hft]at hpf
    rw[hpf]at hOq
    repeat'(first|refine zaq.i q1 fun _=>?_|refine zaq.i q3 fun _=>?_|refine And.intro ?_ ?_|exact True.intro|refine rq fun _=>?_|refine rf fun _=>?_|simp only[go_sem,h3,h3',hf,q2,hteq,hol,zab,zad,zae,zag,zai,zaa,Tryz.f13,Rg2,Rg1,Rg0,Re3,Re2,Re1,Rd1,Rd0,Sc6,Sc5,Sc4,Su4,Su3,Su2,Su1,Sc3,Sc2,Sc1,Sc0,Sd4,Sd1,Oft])
    refine⟨⟨q+1,m3+1,m3+2,by omega,by omega,by omega,trivial⟩,by simp only;omega,?_⟩
    refine zah ?_ ?_ ?_<;>simp only[go_sem,hOq,List.map_append,List.map_cons,List.map_nil,zaz]
    all_goals first|done|rfl|omega
   ·have hteq:((txS (zaN f [])).l=t.l)=False:=eq_false fun e=>hft (by cases h5:txS (zaN f []);cases h6:t;rw[h5,h6]at e;exact congrArg Str.mk e)
    repeat'(first|refine zaq.i q1 fun _=>?_|refine zaq.i q3 fun _=>?_|refine And.intro ?_ ?_|exact True.intro|refine rq fun _=>?_|refine rf fun _=>?_|simp only[go_sem,h3,h3',hf,q2,hteq,hol,zab,zad,zae,zag,zai,zaa,Tryz.f13,Rg2,Rg1,Rg0,Re3,Re2,Re1,Rd1,Rd0,Sc6,Sc5,Sc4,Su4,Su3,Su2,Su1,Sc3,Sc2,Sc1,Sc0,Sd4,Sd1,Oft])
    refine⟨⟨j+1,m3+1,by omega,by omega,fun x hx=>?_⟩,by simp only;omega,?_⟩
    ·rw[List.take_succ_eq_append_getElem h3',hf]at hx
     rcases List.mem_append.1 hx with hx|hx
     ·exact hpj x hx
     ·rw[List.mem_singleton.1 hx];exact hft
    refine zah ?_ ?_ ?_<;>simp only[go_sem]
    all_goals first|done|rfl|omega
  ·obtain rfl:j=i:=by omega
   rw[←hN,List.take_length]at hpj
   exact absurd (by rw[e0];exact e1) (hpj f0 hf0)
 ·obtain rfl:q=M:=by omega
  repeat'(first|refine And.intro ?_ ?_|exact True.intro|refine rq fun _=>?_|refine rf fun _=>?_|simp only[go_sem,Nat.lt_irrefl,hOe,zab,zad,zae,zag,zai,zaa,Tryz.f13,Rg2,Rg1,Rg0,Re3,Re2,Re1,Rd1,Rd0,Sc6,Sc5,Sc4,Su4,Su3,Su2,Su1,Sc3,Sc2,Sc1,Sc0,Sd4,Sd1,Oft])
end Go.Proofs.YtmconmiemdinkaaGreatDoor
namespace Go.Proofs.YtmconmiemdinkaaGreatDoor
open Go Go.Abs Go.Proofs
set_option maxHeartbeats 8000000 in
theorem ztD (hT:zan Tryz.prog GA Rg3)(s:zar)(_:(enc s).Wf):zaH Tryz.prog GA 4 [.fz (enc s)] (hpL []) 0 (fun d _ _=>d= .fz (.b true)):=by
 have hro:=zp2 (s:=zt0) (by rw[zzo])
 by_cases h0:(zaZ s).code=0
 case neg=>
  have h0':((zaZ s).code=0)=False:=eq_false h0
  have hr:zhN s=([],zaZ s):=by unfold zhN;rw[if_pos h0]
  have hsv:zrM s=(false,zaZ s):=by unfold zrM;rw[hr];rfl
  refine zaj (N:=72) Go.Proofs.YtmconmiemdinkaaGreatDoor.hm hT 4000 (lst []) ok4 Tryz.func4 rfl rfl (by simp) (by kernel_rfl) ?_
  repeat'(first|refine And.intro ?_ ?_|exact True.intro|refine rq fun _=>?_|refine rf fun _=>?_|simp only[go_sem,hr,hsv,h0',hro,zpX,zab,zad,zae,zag,zai,zaa,GA,Tryz.f4,Rg3,Rg2,Rg1,Rg0,Re3,Re2,Re1,Rd1,Rd0,Sc6,Sc5,Sc4,Su4,Su3,Su2,Su1,Sc3,Sc2,Sc1,Sc0,Sd4,Sd1,Oft])
  all_goals first|done|rfl|omega
 have hs:=zp5 h0
 have hsc:=zkg h0
 have hr:=zp2 h0
 obtain⟨R,hR⟩:∃R,zdU s=R:=⟨_,rfl⟩
 rw[hR]at hr
 have hsv:zrM s=(decide ((0:Int)<(R.length:Int)),⟨0,0⟩):=by unfold zrM;rw[hr]
 refine zaj (N:=72) Go.Proofs.YtmconmiemdinkaaGreatDoor.hm hT 4000 (lst []) ok4 Tryz.func4 rfl rfl (by simp) (by kernel_rfl) ?_
 repeat'(first|refine zaq.i hs fun _=>?_|refine And.intro ?_ ?_|exact True.intro|refine rq fun _=>?_|refine rf fun _=>?_|simp only[go_sem,hr,hsv,hsc,hR,hro,zpX,zab,zad,zae,zag,zai,zaa,GA,Tryz.f4,Rg3,Rg2,Rg1,Rg0,Re3,Re2,Re1,Rd1,Rd0,Sc6,Sc5,Sc4,Su4,Su3,Su2,Su1,Sc3,Sc2,Sc1,Sc0,Sd4,Sd1,Oft])
 all_goals first|done|rfl|omega
end Go.Proofs.YtmconmiemdinkaaGreatDoor
