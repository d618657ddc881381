/- several texts of this proof in one; no conditions -/
import Derived.Test.YtkkffhphodngkaaDoorAT
import Derived.Test.YtkkffhphodngkaaDoorZQ146Q1398
import Derived.Test.YtkkffhphodngkaaDoorY12
set_option maxRecDepth 100000
set_option maxHeartbeats 1000000
set_option linter.unusedSimpArgs false
namespace Go.Proofs.YtkkffhphodngkaaDoor
open Go Go.Abs Go.Proofs
theorem ok4:zao Tryd.prog 4:=Tryd.call4
end Go.Proofs.YtkkffhphodngkaaDoor
namespace Go.Proofs.YtkkffhphodngkaaDoor
open Go Go.Abs Go.Proofs
section
variable {G:Nat→List FD}
def zvY (a:Str)(b:List Str):Abs.zac:= .mk 2 a b []
def zFc (a:Int)(b c:Abs.zac):Abs.zac:= .mk a ⟨[]⟩ [] [b,c]
def zlg (a:zal):Bool:=decide ((a.consts.length:Int)≤300)&&decide ((a.rels.length:Int)≤300)
def I11:Tbl:=I10.add 8 (sp2 zvY fun _ _=>True)
attribute [go_sem] I11
theorem zDv:zap Tryd.prog G I11:=by
 refine zb7 ok8 zDu fun a b _ _ _=>?_
 unfold zvY
 refine zah (N:=8) hm zDu 8000 (lst []) ok8 Tryd.func8 rfl rfl (by simp) (by kernel_rfl) ?_
 repeat'(first|refine And.intro ?_ ?_|exact True.intro|refine rq fun _=>?_|refine rf fun _=>?_|simp only[go_sem,zag,zab,zae,zaa,Tryd.f8])
 all_goals first|done|rfl|omega
def I12:Tbl:=I11.add 11 (sp1 zy9 fun _=>True)
attribute [go_sem] I12
theorem zDw:zap Tryd.prog G I12:=by
 refine zb6 zAM zDv fun a _ _=>?_
 unfold zy9
 refine zah (N:=6) hm zDv 11000 (lst []) zAM Tryd.func11 rfl rfl (by simp) (by kernel_rfl) ?_
 repeat'(first|refine And.intro ?_ ?_|exact True.intro|refine rq fun _=>?_|refine rf fun _=>?_|simp only[go_sem,zag,zab,zae,zaa,Tryd.f11])
 all_goals first|done|rfl|omega
def I13:Tbl:=I12.add 12 (sp3 zFc fun _ _ _=>True)
attribute [go_sem] I13
theorem zBw:zap Tryd.prog G I13:=by
 refine zgs zEs zDw fun a b c _ _ _ _=>?_
 unfold zFc
 refine zah (N:=12) hm zDw 12000 (lst []) zEs Tryd.func12 rfl rfl (by simp) (by kernel_rfl) ?_
 repeat'(first|refine And.intro ?_ ?_|exact True.intro|refine rq fun _=>?_|refine rf fun _=>?_|simp only[go_sem,zag,zab,zae,zaa,Tryd.f12])
 all_goals first|done|rfl|omega
def I14:Tbl:=I13.add 17 (sp1 zlg fun _=>True)
attribute [go_sem] I14
theorem zFO:zap Tryd.prog G I14:=by
 refine zb6 zCL zBw fun a _ _=>?_
 unfold zlg
 by_cases h1:(a.consts.length:Int)≤300
 ·have h1':((a.consts.length:Int)≤300)=True:=eq_true h1
  refine zah (N:=13) hm zBw 17000 (lst []) zCL Tryd.func17 rfl rfl (by simp) (by kernel_rfl) ?_
  repeat'(first|refine And.intro ?_ ?_|exact True.intro|refine rq fun _=>?_|refine rf fun _=>?_|simp only[go_sem,h1',zag,zab,zae,zaa,Tryd.f17])
  all_goals first|done|rfl|omega
 ·have h1':((a.consts.length:Int)≤300)=False:=eq_false h1
  refine zah (N:=13) hm zBw 17000 (lst []) zCL Tryd.func17 rfl rfl (by simp) (by kernel_rfl) ?_
  repeat'(first|refine And.intro ?_ ?_|exact True.intro|refine rq fun _=>?_|refine rf fun _=>?_|simp only[go_sem,h1',zag,zab,zae,zaa,Tryd.f17])
  all_goals first|done|rfl|omega
end
def L1:Tbl:=Tbl.or I14 H1
attribute [go_sem] L1
theorem hL1:zap Tryd.prog GA L1:=zmZ zFO hH1
def zj4:Tv:=(.q 0 (.q 1 (.q 2 (.q 3 (.q 4 (.q 5 (.q 6 (.q 7 (.q 8 (.br [(9,(.q 10 (.br [(11,.leaf)])))]))))))))))
set_option maxHeartbeats 8000000 in
theorem zvQ (hT:zap Tryd.prog GA L1)(l:List Abs.zac)(size:Int)(_:(enc l).Wf)(_:(enc size).Wf):zaw Tryd.prog GA 6 [.fz (enc l),.fz (enc size)] (hpL []) 0 (fun d _ _=>d= .fz (.b true)):=by
 obtain⟨m0,hm0,hs0⟩:=zsO
 obtain⟨r,hr⟩:∃r,zih l size=r:=⟨_,rfl⟩
 obtain⟨M,b,e⟩:=r
 have hdog:zvY ⟨[100,111,103]⟩ [⟨[107,105,109]⟩]=znt:=rfl
 have kf:=Kp.mk hr
 by_cases h1:e.code=0
 rotate_left
 ·have h1':(e.code=0)=False:=eq_false h1
  refine zah (N:=125) hm hT 6000 (lst [1000010]) ok6 Tryd.func6 rfl rfl (by simp) (by kernel_rfl) ?_
  repeat'(first|refine And.intro ?_ ?_|exact True.intro|refine rq fun _=>?_|refine rf fun _=>?_|simp only[go_sem,hdog,hm0,hs0,hr,h1',zag,zab,zae,zaa,GA,Tryd.f6])
  all_goals first|done|rfl|omega
 have h1':(e.code=0)=True:=eq_true h1
 by_cases h2:e.index=0
 rotate_left
 ·have h2':(e.index=0)=False:=eq_false h2
  refine zah (N:=125) hm hT 6000 (lst [1000010]) ok6 Tryd.func6 rfl rfl (by simp) (by kernel_rfl) ?_
  repeat'(first|refine And.intro ?_ ?_|exact True.intro|refine rq fun _=>?_|refine rf fun _=>?_|simp only[go_sem,hdog,hm0,hs0,hr,h1',h2',zag,zab,zae,zaa,GA,Tryd.f6])
  all_goals first|done|rfl|omega
 have h2':(e.index=0)=True:=eq_true h2
 cases b with
 |false=>
  refine zah (N:=125) hm hT 6000 (lst [1000010]) ok6 Tryd.func6 rfl rfl (by simp) (by kernel_rfl) ?_
  repeat'(first|refine And.intro ?_ ?_|exact True.intro|refine rq fun _=>?_|refine rf fun _=>?_|simp only[go_sem,hdog,hm0,hs0,hr,h1',h2',zag,zab,zae,zaa,GA,Tryd.f6])
  all_goals first|done|rfl|omega
 |true=>
 obtain⟨s,hf0,hs1,hs2,⟨ms,hms⟩,hmn,he⟩:=zvh hr
 obtain⟨_,hll,hlv,hz1,hz4⟩:=zej hf0
 obtain⟨S,hS⟩:∃S:Nat,size=(S:Int):=⟨size.toNat,by omega⟩
 subst hS
 have hMs:M.size=(s:Int):=zhB hms
 obtain⟨n,i0,hn,hMe,hok⟩:=znN hms (show M∈M::ms by simp)
 have hholds:zlg M=true→∀x∈l,zem M x=(true,⟨0,0⟩):=fun hnm x hx=>by
  unfold zlg at hnm
  simp only[Bool.and_eq_true,decide_eq_true_eq]at hnm
  have hv:∀f∈l,(zaz false f).code=0:=fun f hf=>(hlv f hf).1
  have h3:=zrs hv hll hs1 (by omega) hn (i:=i0) (by rw[←hMe];omega)
  rw[←hMe]at h3
  have h4:=zrt (fs:=l) (size:=s) (n:=i0) hx (hlv x hx).2
  rw[←hMe]at h4
  rw[znF (by rw[h3]) (hv x hx) (by rw[h4]),(List.all_eq_true.1 hok) x hx]
 have hcount:∀k:Nat,1≤k→k≤S→zeP l (k:Int)=match zbk l k with|none=>(0,⟨17, -2⟩)|some l=>((l.length:Int),⟨0,0⟩):=fun k h3 h4=>by
  have h5:zaK l (k:Int)=⟨0,0⟩:=by
   unfold zaK
   rw[if_neg (by omega),zja 0 hlv,if_neg (by decide),if_neg (by omega)]
  unfold zeP
  rw[if_neg (by rw[h5];simp),Int.toNat_natCast]
  rfl
 have kh:=Kp.mk hholds
 have kc:=Kp.mk hcount
 have kn:=Kp.mk hmn
 clear hholds hcount hmn hlv kf
 refine zah (N:=125) hm hT 6000 (lst [1000010]) ok6 Tryd.func6 rfl rfl (by simp) (by kernel_rfl) ?_
 repeat'(first|refine And.intro ?_ ?_|exact True.intro|refine rq fun _=>?_|refine rf fun _=>?_|simp only[go_sem,hdog,hm0,hs0,hr,h1',h2',zag,zab,zae,zaa,GA,Tryd.f6])
 refine zak hm hT 6000 (lst [1000010]) (ι:=zbw l.length 4 fun _=>True)
  ⟨fun q=>⟨frL [(0,.fz (.sl (l.map enc))),(1,.fz (.i .i64 S)),(8,.ptr (6008,2) 0),(51,.fz (.sl (l.map enc))),(52,.fz (.i .i64 l.length)),(53,.fz (.i .i64 q.i))],hpL [((6008,2),some ⟨[.fz (.i .i64 M.size),.fz (.sl (M.consts.map enc)),.fz (.sl (M.rels.map enc))],true,false⟩)],q.m⟩,fun q=>l.length-q.i⟩
  ⟨0,4,by omega,by omega,trivial⟩ (by kernel_rfl) ?_ ?_
 ·refine zaf ?_ ?_ ?_<;>simp only[go_sem]
  all_goals first|done|rfl|omega
 rintro⟨i,q,hi,hq,_⟩
 try simp only at hi hq
 rcases Nat.lt_or_ge i l.length with h3|h3
 ·obtain⟨x,hx⟩:∃x,l[i]=x:=⟨_,rfl⟩
  have hxm:x∈l:=by rw[←hx];exact List.getElem_mem h3
  cases hnm:zlg M with
  |true=>
   have hh:=kh.out hnm x hxm
   repeat'(first|refine za6 (id:=10) hm hT 6000 (lst [1000010]) zj4 (by kernel_rfl) (by kernel_rfl) ?_|refine And.intro ?_ ?_|exact True.intro|refine rq fun _=>?_|refine rf fun _=>?_|simp only[go_sem,h3,hx,hh,hnm,zj4,zag,zab,zae,zaa,GA,Tryd.f6])
   all_goals
    refine⟨⟨i+1,q+1,by omega,by omega,trivial⟩,by simp only;omega,?_⟩
    refine zaf ?_ ?_ ?_<;>simp only[go_sem]
    all_goals first|done|rfl|omega
  |false=>
   obtain⟨r,hh⟩:∃r,zem M x=r:=⟨_,rfl⟩
   obtain⟨b2,e2⟩:=r
   repeat'(first|refine za6 (id:=10) hm hT 6000 (lst [1000010]) zj4 (by kernel_rfl) (by kernel_rfl) ?_|refine And.intro ?_ ?_|exact True.intro|refine rq fun _=>?_|refine rf fun _=>?_|simp only[go_sem,h3,hx,hh,hnm,zj4,zag,zab,zae,zaa,GA,Tryd.f6])
   all_goals
    refine⟨⟨i+1,q+1,by omega,by omega,trivial⟩,by simp only;omega,?_⟩
    refine zaf ?_ ?_ ?_<;>simp only[go_sem]
    all_goals first|done|rfl|omega
 obtain rfl:i=l.length:=by omega
 repeat'(first|refine And.intro ?_ ?_|exact True.intro|refine rq fun _=>?_|refine rf fun _=>?_|simp only[go_sem,Nat.lt_irrefl,zag,zab,zae,zaa,GA,Tryd.f6])
 refine zak hm hT 6000 (lst [1000010]) (ι:=zbw S q fun _=>True)
  ⟨fun q=>⟨frL [(0,.fz (.sl (l.map enc))),(1,.fz (.i .i64 S)),(8,.ptr (6008,2) 0),(14,.fz (.i .i64 ((q.i:Int)+1)))],hpL [((6008,2),some ⟨[.fz (.i .i64 M.size),.fz (.sl (M.consts.map enc)),.fz (.sl (M.rels.map enc))],true,false⟩)],q.m⟩,fun q=>S-q.i⟩
  ⟨0,q,by omega,by omega,trivial⟩ (by kernel_rfl) ?_ ?_
 ·refine zaf ?_ ?_ ?_<;>simp only[go_sem]
  all_goals first|done|rfl|omega
 rintro⟨k,q2,hk,hq2,_⟩
 try simp only at hk hq2
 rcases Nat.lt_or_ge k S with h4|h4
 rotate_left
 ·obtain rfl:k=S:=by omega
  have h5:((k:Int)+1≤(k:Int))=False:=eq_false (by omega)
  have h6:((1:Int)≤(s:Int))=True:=eq_true (by omega)
  have h7:((s:Int)≤(k:Int))=True:=eq_true hs2
  repeat'(first|refine And.intro ?_ ?_|exact True.intro|refine rq fun _=>?_|refine rf fun _=>?_|simp only[go_sem,h5,h6,h7,hMs,zag,zab,zae,zaa,GA,Tryd.f6])
  all_goals first|done|rfl|omega
 have h5:((k:Int)+1≤(S:Int))=True:=eq_true (by omega)
 have hc:=kc.out (k+1) (by omega) (by omega)
 rw[show((k+1:Nat):Int)=(k:Int)+1 by simp]at hc
 rcases Nat.lt_trichotomy (k+1) s with h6|h6|h6
 ·rw[kn.out (k+1) (by omega) h6]at hc
  simp only[List.length_nil]at hc
  have h7:((k:Int)+1<(s:Int))=True:=eq_true (by omega)
  have h8:((k:Int)+1=(s:Int))=False:=eq_false (by omega)
  repeat'(first|refine And.intro ?_ ?_|exact True.intro|refine rq fun _=>?_|refine rf fun _=>?_|simp only[go_sem,h5,h7,h8,hc,hMs,Int.natCast_zero,zag,zab,zae,zaa,GA,Tryd.f6])
  all_goals
   refine⟨⟨k+1,q2+1,by omega,by omega,trivial⟩,by simp only;omega,?_⟩
   refine zaf ?_ ?_ ?_<;>simp only[go_sem,hMs]
   all_goals first|done|rfl|omega
 ·rw[h6,hms]at hc
  simp only[List.length_cons]at hc
  have h7:((k:Int)+1<(s:Int))=False:=eq_false (by omega)
  have h8:((k:Int)+1=(s:Int))=True:=eq_true (by omega)
  obtain⟨z,hz⟩:∃z:Int,((ms.length+1:Nat):Int)=z:=⟨_,rfl⟩
  rw[hz]at hc
  have h9:(z=0)=False:=eq_false (by omega)
  repeat'(first|refine And.intro ?_ ?_|exact True.intro|refine rq fun _=>?_|refine rf fun _=>?_|simp only[go_sem,h5,h7,h8,h9,hc,hMs,zag,zab,zae,zaa,GA,Tryd.f6])
  all_goals
   refine⟨⟨k+1,q2+1,by omega,by omega,trivial⟩,by simp only;omega,?_⟩
   refine zaf ?_ ?_ ?_<;>simp only[go_sem,hMs]
   all_goals first|done|rfl|omega
 ·have h7:((k:Int)+1<(s:Int))=False:=eq_false (by omega)
  have h8:((k:Int)+1=(s:Int))=False:=eq_false (by omega)
  clear hc
  obtain⟨r,hc⟩:∃r,zeP l ((k:Int)+1)=r:=⟨_,rfl⟩
  obtain⟨c1,c2⟩:=r
  repeat'(first|refine And.intro ?_ ?_|exact True.intro|refine rq fun _=>?_|refine rf fun _=>?_|simp only[go_sem,h5,h7,h8,hc,hMs,zag,zab,zae,zaa,GA,Tryd.f6])
  all_goals
   refine⟨⟨k+1,q2+1,by omega,by omega,trivial⟩,by simp only;omega,?_⟩
   refine zaf ?_ ?_ ?_<;>simp only[go_sem,hMs]
   all_goals first|done|rfl|omega
end Go.Proofs.YtkkffhphodngkaaDoor
namespace Go.Proofs.YtkkffhphodngkaaDoor
open Go Go.Abs Go.Proofs
section
variable {G:Nat→List FD}
end
def zJT:Tv:=(.q 0 (.q 1 (.q 2 (.q 3 (.q 4 (.q 5 (.q 6 (.q 7 (.q 8 (.q 9 (.br [(10,(.q 11 (.br [(12,.leaf)])))])))))))))))
set_option maxHeartbeats 16000000 in
theorem zKx (hT:zap Tryd.prog GA I14)(f g:Abs.zac)(size:Int)(_:(enc f).Wf)(_:(enc g).Wf)(_:(enc size).Wf):zaw Tryd.prog GA 4 [.fz (enc f),.fz (enc g),.fz (enc size)] (hpL []) 0 (fun d _ _=>d= .fz (.b true)):=by
 have hd1:=zKh
 have hd2:=zKg
 have htw:∀k a b,zFc k a b=zKc k a b:=fun _ _ _=>rfl
 have hdog:zvY ⟨[100,111,103]⟩ [⟨[107,105,109]⟩]=znt:=rfl
 obtain⟨r1,h1⟩:∃r,zeP [f] size=r:=⟨_,rfl⟩
 obtain⟨r2,h2⟩:∃r,zeP [zy9 f] size=r:=⟨_,rfl⟩
 obtain⟨r3,h3⟩:∃r,zeP [zKc 6 f (zy9 f)] size=r:=⟨_,rfl⟩
 obtain⟨r4,h4⟩:∃r,zeP [f,g] size=r:=⟨_,rfl⟩
 obtain⟨r5,h5⟩:∃r,zeP [g,f] size=r:=⟨_,rfl⟩
 obtain⟨r6,h6⟩:∃r,zeP [zKc 5 f g] size=r:=⟨_,rfl⟩
 obtain⟨a,e1⟩:=r1
 obtain⟨b,e2⟩:=r2
 obtain⟨c,e3⟩:=r3
 obtain⟨x,e4⟩:=r4
 obtain⟨y,e5⟩:=r5
 obtain⟨z,e6⟩:=r6
 refine zah (N:=147) hm hT 4000 (lst [1000009]) ok4 Tryd.func4 rfl rfl (by simp) (by kernel_rfl) ?_
 repeat'(first|refine za6 (id:=9) hm hT 4000 (lst [1000009]) zJT (by kernel_rfl) (by kernel_rfl) ?_|refine And.intro ?_ ?_|exact True.intro|refine rq fun _=>?_|refine rf fun _=>?_|simp only[go_sem,hdog,hd1,hd2,htw,h1,h2,h3,h4,h5,h6,zJT,zag,zab,zae,zaa,GA,Tryd.f4])
 by_cases z1:e1.code=0
 rotate_left
 ·have z1':(e1.code=0)=False:=eq_false z1
  repeat'(first|refine za6 (id:=9) hm hT 4000 (lst [1000009]) zJT (by kernel_rfl) (by kernel_rfl) ?_|refine And.intro ?_ ?_|exact True.intro|refine rq fun _=>?_|refine rf fun _=>?_|simp only[go_sem,hdog,hd1,hd2,htw,h1,h2,h3,h4,h5,h6,zJT,z1',zag,zab,zae,zaa,GA,Tryd.f4])
  by_cases z4:e4.code=0
  rotate_left
  ·have z4':(e4.code=0)=False:=eq_false z4
   repeat'(first|refine za6 (id:=9) hm hT 4000 (lst [1000009]) zJT (by kernel_rfl) (by kernel_rfl) ?_|refine And.intro ?_ ?_|exact True.intro|refine rq fun _=>?_|refine rf fun _=>?_|simp only[go_sem,hdog,hd1,hd2,htw,h1,h2,h3,h4,h5,h6,zJT,z4',zag,zab,zae,zaa,GA,Tryd.f4])
   all_goals first|done|rfl|omega
  have y4:=(zJU h4 z4).2.1
  subst y4
  by_cases z5:e5.code=0
  rotate_left
  ·have z5':(e5.code=0)=False:=eq_false z5
   repeat'(first|refine za6 (id:=9) hm hT 4000 (lst [1000009]) zJT (by kernel_rfl) (by kernel_rfl) ?_|refine And.intro ?_ ?_|exact True.intro|refine rq fun _=>?_|refine rf fun _=>?_|simp only[go_sem,hdog,hd1,hd2,htw,h1,h2,h3,h4,h5,h6,zJT,z5',zag,zab,zae,zaa,GA,Tryd.f4])
   all_goals first|done|rfl|omega
  have y5:=(zJU h5 z5).2.1
  subst y5
  by_cases z6:e6.code=0
  rotate_left
  ·have z6':(e6.code=0)=False:=eq_false z6
   repeat'(first|refine za6 (id:=9) hm hT 4000 (lst [1000009]) zJT (by kernel_rfl) (by kernel_rfl) ?_|refine And.intro ?_ ?_|exact True.intro|refine rq fun _=>?_|refine rf fun _=>?_|simp only[go_sem,hdog,hd1,hd2,htw,h1,h2,h3,h4,h5,h6,zJT,z6',zag,zab,zae,zaa,GA,Tryd.f4])
   all_goals first|done|rfl|omega
  have y6:=(zJU h6 z6).2.1
  subst y6
  have q1:=zJV (zJW f g) (zJY f g) (fun m=>by rw[zJZ,zJZ,Bool.and_comm]) h4 h5 rfl rfl
  have q2:=zJV ((zJW g f).trans (zJ1 f g).symm) ((zJY g f).trans (zJ9 f g).symm) (fun m=>by rw[zJZ,zJ4,zJ5,Bool.and_comm]) h5 h6 rfl rfl
  subst q1 q2
  repeat'(first|refine za6 (id:=9) hm hT 4000 (lst [1000009]) zJT (by kernel_rfl) (by kernel_rfl) ?_|refine And.intro ?_ ?_|exact True.intro|refine rq fun _=>?_|refine rf fun _=>?_|simp only[go_sem,hdog,hd1,hd2,htw,h1,h2,h3,h4,h5,h6,zJT,zag,zab,zae,zaa,GA,Tryd.f4])
  all_goals first|done|rfl|omega
 have y1:=(zJU h1 z1).2.1
 subst y1
 by_cases z2:e2.code=0
 rotate_left
 ·have z2':(e2.code=0)=False:=eq_false z2
  repeat'(first|refine za6 (id:=9) hm hT 4000 (lst [1000009]) zJT (by kernel_rfl) (by kernel_rfl) ?_|refine And.intro ?_ ?_|exact True.intro|refine rq fun _=>?_|refine rf fun _=>?_|simp only[go_sem,hdog,hd1,hd2,htw,h1,h2,h3,h4,h5,h6,zJT,z2',zag,zab,zae,zaa,GA,Tryd.f4])
  by_cases z4:e4.code=0
  rotate_left
  ·have z4':(e4.code=0)=False:=eq_false z4
   repeat'(first|refine za6 (id:=9) hm hT 4000 (lst [1000009]) zJT (by kernel_rfl) (by kernel_rfl) ?_|refine And.intro ?_ ?_|exact True.intro|refine rq fun _=>?_|refine rf fun _=>?_|simp only[go_sem,hdog,hd1,hd2,htw,h1,h2,h3,h4,h5,h6,zJT,z4',zag,zab,zae,zaa,GA,Tryd.f4])
   all_goals first|done|rfl|omega
  have y4:=(zJU h4 z4).2.1
  subst y4
  by_cases z5:e5.code=0
  rotate_left
  ·have z5':(e5.code=0)=False:=eq_false z5
   repeat'(first|refine za6 (id:=9) hm hT 4000 (lst [1000009]) zJT (by kernel_rfl) (by kernel_rfl) ?_|refine And.intro ?_ ?_|exact True.intro|refine rq fun _=>?_|refine rf fun _=>?_|simp only[go_sem,hdog,hd1,hd2,htw,h1,h2,h3,h4,h5,h6,zJT,z5',zag,zab,zae,zaa,GA,Tryd.f4])
   all_goals first|done|rfl|omega
  have y5:=(zJU h5 z5).2.1
  subst y5
  by_cases z6:e6.code=0
  rotate_left
  ·have z6':(e6.code=0)=False:=eq_false z6
   repeat'(first|refine za6 (id:=9) hm hT 4000 (lst [1000009]) zJT (by kernel_rfl) (by kernel_rfl) ?_|refine And.intro ?_ ?_|exact True.intro|refine rq fun _=>?_|refine rf fun _=>?_|simp only[go_sem,hdog,hd1,hd2,htw,h1,h2,h3,h4,h5,h6,zJT,z6',zag,zab,zae,zaa,GA,Tryd.f4])
   all_goals first|done|rfl|omega
  have y6:=(zJU h6 z6).2.1
  subst y6
  have q1:=zJV (zJW f g) (zJY f g) (fun m=>by rw[zJZ,zJZ,Bool.and_comm]) h4 h5 rfl rfl
  have q2:=zJV ((zJW g f).trans (zJ1 f g).symm) ((zJY g f).trans (zJ9 f g).symm) (fun m=>by rw[zJZ,zJ4,zJ5,Bool.and_comm]) h5 h6 rfl rfl
  subst q1 q2
  repeat'(first|refine za6 (id:=9) hm hT 4000 (lst [1000009]) zJT (by kernel_rfl) (by kernel_rfl) ?_|refine And.intro ?_ ?_|exact True.intro|refine rq fun _=>?_|refine rf fun _=>?_|simp only[go_sem,hdog,hd1,hd2,htw,h1,h2,h3,h4,h5,h6,zJT,zag,zab,zae,zaa,GA,Tryd.f4])
  all_goals first|done|rfl|omega
 have y2:=(zJU h2 z2).2.1
 subst y2
 by_cases z3:e3.code=0
 rotate_left
 ·have z3':(e3.code=0)=False:=eq_false z3
  repeat'(first|refine za6 (id:=9) hm hT 4000 (lst [1000009]) zJT (by kernel_rfl) (by kernel_rfl) ?_|refine And.intro ?_ ?_|exact True.intro|refine rq fun _=>?_|refine rf fun _=>?_|simp only[go_sem,hdog,hd1,hd2,htw,h1,h2,h3,h4,h5,h6,zJT,z3',zag,zab,zae,zaa,GA,Tryd.f4])
  by_cases z4:e4.code=0
  rotate_left
  ·have z4':(e4.code=0)=False:=eq_false z4
   repeat'(first|refine za6 (id:=9) hm hT 4000 (lst [1000009]) zJT (by kernel_rfl) (by kernel_rfl) ?_|refine And.intro ?_ ?_|exact True.intro|refine rq fun _=>?_|refine rf fun _=>?_|simp only[go_sem,hdog,hd1,hd2,htw,h1,h2,h3,h4,h5,h6,zJT,z4',zag,zab,zae,zaa,GA,Tryd.f4])
   all_goals first|done|rfl|omega
  have y4:=(zJU h4 z4).2.1
  subst y4
  by_cases z5:e5.code=0
  rotate_left
  ·have z5':(e5.code=0)=False:=eq_false z5
   repeat'(first|refine za6 (id:=9) hm hT 4000 (lst [1000009]) zJT (by kernel_rfl) (by kernel_rfl) ?_|refine And.intro ?_ ?_|exact True.intro|refine rq fun _=>?_|refine rf fun _=>?_|simp only[go_sem,hdog,hd1,hd2,htw,h1,h2,h3,h4,h5,h6,zJT,z5',zag,zab,zae,zaa,GA,Tryd.f4])
   all_goals first|done|rfl|omega
  have y5:=(zJU h5 z5).2.1
  subst y5
  by_cases z6:e6.code=0
  rotate_left
  ·have z6':(e6.code=0)=False:=eq_false z6
   repeat'(first|refine za6 (id:=9) hm hT 4000 (lst [1000009]) zJT (by kernel_rfl) (by kernel_rfl) ?_|refine And.intro ?_ ?_|exact True.intro|refine rq fun _=>?_|refine rf fun _=>?_|simp only[go_sem,hdog,hd1,hd2,htw,h1,h2,h3,h4,h5,h6,zJT,z6',zag,zab,zae,zaa,GA,Tryd.f4])
   all_goals first|done|rfl|omega
  have y6:=(zJU h6 z6).2.1
  subst y6
  have q1:=zJV (zJW f g) (zJY f g) (fun m=>by rw[zJZ,zJZ,Bool.and_comm]) h4 h5 rfl rfl
  have q2:=zJV ((zJW g f).trans (zJ1 f g).symm) ((zJY g f).trans (zJ9 f g).symm) (fun m=>by rw[zJZ,zJ4,zJ5,Bool.and_comm]) h5 h6 rfl rfl
  subst q1 q2
  repeat'(first|refine za6 (id:=9) hm hT 4000 (lst [1000009]) zJT (by kernel_rfl) (by kernel_rfl) ?_|refine And.intro ?_ ?_|exact True.intro|refine rq fun _=>?_|refine rf fun _=>?_|simp only[go_sem,hdog,hd1,hd2,htw,h1,h2,h3,h4,h5,h6,zJT,zag,zab,zae,zaa,GA,Tryd.f4])
  all_goals first|done|rfl|omega
 have y3:=(zJU h3 z3).2.1
 subst y3
 obtain⟨hs,ha0,ha1,hb0,hb1⟩:=zKk h1 h2 h3 rfl rfl rfl
 repeat'(first|refine za6 (id:=9) hm hT 4000 (lst [1000009]) zJT (by kernel_rfl) (by kernel_rfl) ?_|refine And.intro ?_ ?_|exact True.intro|refine rq fun _=>?_|refine rf fun _=>?_|simp only[go_sem,hdog,hd1,hd2,htw,h1,h2,h3,h4,h5,h6,zJT,hs,zag,zab,zae,zaa,GA,Tryd.f4])
 by_cases z4:e4.code=0
 rotate_left
 ·have z4':(e4.code=0)=False:=eq_false z4
  repeat'(first|refine za6 (id:=9) hm hT 4000 (lst [1000009]) zJT (by kernel_rfl) (by kernel_rfl) ?_|refine And.intro ?_ ?_|exact True.intro|refine rq fun _=>?_|refine rf fun _=>?_|simp only[go_sem,hdog,hd1,hd2,htw,h1,h2,h3,h4,h5,h6,zJT,z4',zag,zab,zae,zaa,GA,Tryd.f4])
  all_goals first|done|rfl|omega
 have y4:=(zJU h4 z4).2.1
 subst y4
 by_cases z5:e5.code=0
 rotate_left
 ·have z5':(e5.code=0)=False:=eq_false z5
  repeat'(first|refine za6 (id:=9) hm hT 4000 (lst [1000009]) zJT (by kernel_rfl) (by kernel_rfl) ?_|refine And.intro ?_ ?_|exact True.intro|refine rq fun _=>?_|refine rf fun _=>?_|simp only[go_sem,hdog,hd1,hd2,htw,h1,h2,h3,h4,h5,h6,zJT,z5',zag,zab,zae,zaa,GA,Tryd.f4])
  all_goals first|done|rfl|omega
 have y5:=(zJU h5 z5).2.1
 subst y5
 by_cases z6:e6.code=0
 rotate_left
 ·have z6':(e6.code=0)=False:=eq_false z6
  repeat'(first|refine za6 (id:=9) hm hT 4000 (lst [1000009]) zJT (by kernel_rfl) (by kernel_rfl) ?_|refine And.intro ?_ ?_|exact True.intro|refine rq fun _=>?_|refine rf fun _=>?_|simp only[go_sem,hdog,hd1,hd2,htw,h1,h2,h3,h4,h5,h6,zJT,z6',zag,zab,zae,zaa,GA,Tryd.f4])
  all_goals first|done|rfl|omega
 have y6:=(zJU h6 z6).2.1
 subst y6
 have q1:=zJV (zJW f g) (zJY f g) (fun m=>by rw[zJZ,zJZ,Bool.and_comm]) h4 h5 rfl rfl
 have q2:=zJV ((zJW g f).trans (zJ1 f g).symm) ((zJY g f).trans (zJ9 f g).symm) (fun m=>by rw[zJZ,zJ4,zJ5,Bool.and_comm]) h5 h6 rfl rfl
 subst q1 q2
 repeat'(first|refine za6 (id:=9) hm hT 4000 (lst [1000009]) zJT (by kernel_rfl) (by kernel_rfl) ?_|refine And.intro ?_ ?_|exact True.intro|refine rq fun _=>?_|refine rf fun _=>?_|simp only[go_sem,hdog,hd1,hd2,htw,h1,h2,h3,h4,h5,h6,zJT,zag,zab,zae,zaa,GA,Tryd.f4])
 all_goals first|done|rfl|omega
end Go.Proofs.YtkkffhphodngkaaDoor
