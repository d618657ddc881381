/- several texts of this proof in one; no conditions -/
import Derived.Test.YtmconmiemdinkaaGreatDoorAT
import Derived.Test.YtmconmiemdinkaaGreatDoorY25
import Derived.Test.YtmconmiemdinkaaGreatDoorY21
set_option maxRecDepth 100000
set_option maxHeartbeats 1000000
set_option linter.unusedSimpArgs false
namespace Go.Proofs.YtmconmiemdinkaaGreatDoor
open Go Go.Abs Go.Proofs
def zMH (f:Abs.zab):List Str×zg2:=if(zaX false f).code≠0 then([],zaX false f)else(zbX f,⟨0,0⟩)
def Re4:Tbl:=Re3.add 17 (ztk zMH fun _=>True)
set_option maxHeartbeats 4000000 in
theorem zNu:zai Tryz.prog GA Re4:=by
 refine zgu zKM zIf fun f _ _=>?_
 by_cases h:(zaX false f).code=0
 rotate_left
 ·have e:zMH f=([],zaX false f):=by unfold zMH;rw[if_pos h]
  obtain⟨X,hX⟩:∃X,zaX false f=X:=⟨_,rfl⟩
  rw[hX]at e h
  rw[e]
  refine zam (N:=14) Go.Proofs.YtmconmiemdinkaaGreatDoor.hm zIf 17000 (lst []) zKM Tryz.func17 rfl rfl (by simp) (by kernel_rfl) ?_
  repeat'(first|refine And.intro ?_ ?_|exact True.intro|refine rq fun _=>?_|refine rf fun _=>?_|simp only[go_sem,h,hX,zac,zad,zak,zap,zaN,zaa,Tryz.f17,Re3,Re2,Re1,Rd1,Rd0,Sc6,Sc5,Sc4,Su4,Su3,Su2,Su1,Sc3,Sc2,Sc1,Sc0])
  all_goals first|done|rfl|omega
 have e:zMH f=(zbX f,⟨0,0⟩):=by unfold zMH;rw[if_neg (by simp[h])]
 rw[e]
 have hck:=zfa h
 have hp:(cst f []).length≤1000000∧f.size≤1000000:=by
  have:=zge (zcZ h) []
  have:=zbo h
  omega
 refine zam (N:=14) Go.Proofs.YtmconmiemdinkaaGreatDoor.hm zIf 17000 (lst []) zKM Tryz.func17 rfl rfl (by simp) (by kernel_rfl) ?_
 repeat'(first|refine zaA.i hp fun _=>?_|refine And.intro ?_ ?_|exact True.intro|refine rq fun _=>?_|refine rf fun _=>?_|simp only[go_sem,h,hck,zac,zad,zak,zap,zaN,zaa,Tryz.f17,Re3,Re2,Re1,Rd1,Rd0,Sc6,Sc5,Sc4,Su4,Su3,Su2,Su1,Sc3,Sc2,Sc1,Sc0])
 all_goals first|done|rfl|omega
def Re5:Tbl:=Re4.add 15 (sp2 zMt fun f l=>f.size+l.length≤1000000)
set_option maxHeartbeats 4000000 in
theorem zNv:zai Tryz.prog GA Re5:=by
 refine zBA zab.size zKL zNu fun n hT f l hn hpre hwf _=>?_
 have hss:∀x∈f.subs,x.size<n:=fun x hx=>by have:=zab.size_sub hx;omega
 obtain⟨A0,hA0⟩:∃A0,(if f.kind=2 then zhm l f.name else l)=A0:=⟨_,rfl⟩
 obtain⟨B,hB⟩:∃B:Nat→List Str,B=fun j=>(f.subs.take j).foldl (fun l x=>zMt x l) A0:=⟨_,rfl⟩
 have hB0:B 0=A0:=by rw[hB];rfl
 have hBs:∀j (h:j<f.subs.length),B (j+1)=zMt f.subs[j] (B j):=fun j h=>by
  rw[hB];simp only
  rw[List.take_succ_eq_append_getElem h,List.foldl_append];rfl
 have hBe:zMt f l=B f.subs.length:=by rw[zMY,hA0,hB];simp only[List.take_length]
 have hA0l:A0.length≤l.length+1:=by
  rw[←hA0]
  split
  ·exact zvo l f.name
  ·omega
 have hBl:∀j (h:j<f.subs.length),f.subs[j].size+(B j).length≤1000000:=fun j h=>by
  have key:∀k,k≤f.subs.length→(B k).length+zab.sizes (f.subs.drop k)≤A0.length+zab.sizes f.subs:=by
   intro k
   induction k with
   |zero=>intro _;rw[hB0];exact Nat.le_refl _
   |succ k ih=>
    intro hk
    have h1:=ih (by omega)
    rw[hBs k (by omega),List.drop_eq_getElem_cons (show k<f.subs.length by omega),zab.sizes]at*
    have:=zMB (f:=f.subs[k]) (l:=B k)
    omega
  have h1:=key j (by omega)
  rw[List.drop_eq_getElem_cons h,zab.sizes]at h1
  have h2:f.size=1+zab.sizes f.subs:=by cases f;rw[zab.size];first|rfl|exact Nat.add_comm _ _
  omega
 have kB:=Kp.mk hBs
 have kL:=Kp.mk hBl
 have kS:=Kp.mk hss
 have kT:=Kp.mk hT
 clear hBs hBl hss hT
 obtain⟨Q,hQ⟩:∃Q:D→zaw→Nat→Prop,Q=(fun d _ _=>D.val d=some (.fz (enc (zMt f l)))):=⟨_,rfl⟩
 rw[←hQ]
 have hfin:∀{H' n'},Q (.fz (.sl ((B f.subs.length).map enc))) H' n':=fun{H' n'}=>by rw[hQ];simp only[hBe];rfl
 have kf:=Kp.mk @hfin
 clear hfin hQ hBe hB
 have hsl:f.subs.length≤zbr:=by
  have h:=zc2 (by have h:=hwf;rw[zaD]at h;exact h) (FD.sl (f.subs.map enc)) (by simp)
  have:=zd9 h
  simpa using this
 unfold zbr at hsl
 clear hwf
 have hput:l.length≤1000000:=by omega
 obtain⟨L,hL⟩:∃L,f.subs.length=L:=⟨_,rfl⟩
 have hk0:f.kind=2∨¬f.kind=2:=Classical.em _
 rcases hk0 with hk|hk
 case' inl=>
  have hk':(f.kind=2)=True:=eq_true hk
  rw[if_pos hk]at hA0
 case' inr=>
  have hk':(f.kind=2)=False:=eq_false hk
  rw[if_neg hk]at hA0
 all_goals
  refine zam (N:=28) Go.Proofs.YtmconmiemdinkaaGreatDoor.hm kT.out 15000 (lst []) zKL Tryz.func15 rfl rfl (by simp) (by kernel_rfl) ?_
  repeat'(first|refine zaA.i hput fun _=>?_|refine And.intro ?_ ?_|exact True.intro|refine rq fun _=>?_|refine rf fun _=>?_|simp only[go_sem,hk',hA0,hput,zac,zad,zak,zap,zaN,zaa,Tryz.f15,Re4,Re3,Re2,Re1,Rd1,Rd0,Sc6,Sc5,Sc4,Su4,Su3,Su2,Su1,Sc3,Sc2,Sc1,Sc0])
  refine zaJ Go.Proofs.YtmconmiemdinkaaGreatDoor.hm kT.out 15000 (lst []) (ι:=zg4 L fun _=>True)
   ⟨fun q=>⟨frL [(1,.fz (.sl ((B q.i).map enc))),(2,.ptr (15002,0) 0),(14,.fz (.sl (f.subs.map enc))),(15,.fz (.i .i64 L)),(16,.fz (.i .i64 q.i))],
    hpL [((15002,0),some ⟨[.fz (.i .i64 f.kind),.fz (.s f.name.l),.fz (.sl (f.words.map enc)),.fz (.sl (f.subs.map enc))],true,false⟩)],1⟩,fun q=>L-q.i⟩
   ⟨0,by omega,trivial⟩ (by kernel_rfl) ?_ ?_
  ·refine zau ?_ ?_ ?_<;>simp only[go_sem,hB0,hA0,hL]
   all_goals first|done|rfl|omega
  rintro⟨i,hi,_⟩
  try simp only at hi
  rcases Nat.lt_or_ge i L with h1|h1
  ·have h1':i<f.subs.length:=by omega
   obtain⟨x,hx⟩:∃x,f.subs[i]=x:=⟨_,rfl⟩
   have hBi:=kB.out i h1'
   have hxs:x.size<n∧x.size+(B i).length≤1000000:=⟨kS.out x (by rw[←hx];exact List.getElem_mem h1'),by rw[←hx];exact kL.out i h1'⟩
   rw[hx]at hBi
   repeat'(first|refine zaA.i hxs fun _=>?_|refine And.intro ?_ ?_|exact True.intro|refine rq fun _=>?_|refine rf fun _=>?_|simp only[go_sem,h1,h1',hx,zac,zad,zak,zap,zaN,zaa,Tryz.f15,Re4,Re3,Re2,Re1,Rd1,Rd0,Sc6,Sc5,Sc4,Su4,Su3,Su2,Su1,Sc3,Sc2,Sc1,Sc0])
   refine⟨⟨i+1,by omega,trivial⟩,by simp only;omega,?_⟩
   refine zau ?_ ?_ ?_<;>simp only[go_sem,hBi]
   all_goals first|done|rfl|omega
  ·obtain rfl:i=L:=by omega
   have hf2:∀{H':zaw} {n':Nat},Q (.fz (.sl ((B i).map enc))) H' n':=fun{H' n'}=>by
    have:=@kf.out H' n'
    rwa [hL]at this
   repeat'(first|refine And.intro ?_ ?_|exact True.intro|refine rq fun _=>?_|refine rf fun _=>?_|simp only[go_sem,Nat.lt_irrefl,zac,zad,zak,zap,zaN,zaa,Tryz.f15,Re4,Re3,Re2,Re1,Rd1,Rd0,Sc6,Sc5,Sc4,Su4,Su3,Su2,Su1,Sc3,Sc2,Sc1,Sc0])
   all_goals first|done|exact hf2
end Go.Proofs.YtmconmiemdinkaaGreatDoor
namespace Go.Proofs.YtmconmiemdinkaaGreatDoor
open Go Go.Abs Go.Proofs
set_option maxHeartbeats 8000000 in
theorem zM2 (hT:zai Tryz.prog GA Re5)(s:zao)(_:(enc s).Wf):zaH Tryz.prog GA 5 [.fz (enc s)] (hpL []) 0 (fun d _ _=>d= .fz (.b true)):=by
 have hro:=zoW (s:=zvj) (by rw[zE6])
 by_cases h0:(zaZ s).code=0
 case neg=>
  have h0':((zaZ s).code=0)=False:=eq_false h0
  have hr:zmo s=([],zaZ s):=by unfold zmo;rw[if_pos h0]
  refine zam (N:=86) Go.Proofs.YtmconmiemdinkaaGreatDoor.hm hT 5000 (lst []) ok5 Tryz.func5 rfl rfl (by simp) (by kernel_rfl) ?_
  repeat'(first|refine And.intro ?_ ?_|exact True.intro|refine rq fun _=>?_|refine rf fun _=>?_|simp only[go_sem,hr,h0',hro,zC2,zac,zad,zak,zap,zaN,zaa,GA,Tryz.f5,Re5,Re4,Re3,Re2,Re1,Rd1,Rd0,Sc6,Sc5,Sc4,Su4,Su3,Su2,Su1,Sc3,Sc2,Sc1,Sc0])
  all_goals first|done|rfl|omega
 have hs:=zkH h0
 have hr:=zoW h0
 obtain⟨L,hL⟩:∃L,s.pieces.length=L:=⟨_,rfl⟩
 have hn6:=hs.n6
 have hnp:s.pieces.length=nP s:=rfl
 obtain⟨B,hB⟩:∃B:Nat→List Str,B=fun j=>(s.pieces.take j).foldl (fun l p=>zMt p.form l) []:=⟨_,rfl⟩
 have hB0:B 0=[]:=by rw[hB];rfl
 have hBs:∀j (h:j<s.pieces.length),B (j+1)=zMt s.pieces[j].form (B j):=fun j h=>by
  rw[hB];simp only
  rw[List.take_succ_eq_append_getElem h,List.foldl_append];rfl
 have hBe:B L=zM1 s:=by rw[hB,←hL];simp only[List.take_length];rfl
 have hsz:∀p∈s.pieces,p.form.size≤200:=fun p hp=>zbo (hs.chk p hp)
 have hBl:∀j,j≤s.pieces.length→(B j).length≤200*j:=by
  intro j
  induction j with
  |zero=>intro _;rw[hB0];simp
  |succ j ih=>
   intro hj
   rw[hBs j hj]
   have h1:=ih (by omega)
   have h2:=hsz _ (List.getElem_mem hj)
   have h3:=zMB (f:=s.pieces[j].form) (l:=B j)
   omega
 have kB:=Kp.mk hBs
 have kL:=Kp.mk hBl
 have kz:=Kp.mk hsz
 clear hBs hBl hsz hB
 refine zam (N:=86) Go.Proofs.YtmconmiemdinkaaGreatDoor.hm hT 5000 (lst []) ok5 Tryz.func5 rfl rfl (by simp) (by kernel_rfl) ?_
 repeat'(first|refine And.intro ?_ ?_|exact True.intro|refine rq fun _=>?_|refine rf fun _=>?_|simp only[go_sem,hr,hro,zC2,zac,zad,zak,zap,zaN,zaa,GA,Tryz.f5,Re5,Re4,Re3,Re2,Re1,Rd1,Rd0,Sc6,Sc5,Sc4,Su4,Su3,Su2,Su1,Sc3,Sc2,Sc1,Sc0])
 refine zaJ Go.Proofs.YtmconmiemdinkaaGreatDoor.hm hT 5000 (lst []) (ι:=zg4 L fun _=>True)
  ⟨fun q=>⟨frL [(1,.ptr (5001,0) 0),(5,.fz (.sl ((zcV s).map enc))),(7,.fz (.sl ((B q.i).map enc))),(36,.fz (.sl (s.pieces.map enc))),(37,.fz (.i .i64 L)),(38,.fz (.i .i64 q.i))],hpL [((5001,0),some ⟨[.fz (.sl (s.pieces.map enc)),.fz (.sl (s.overs.map enc)),.fz (.sl (s.vars.map enc))],true,false⟩)],3⟩,fun q=>L-q.i⟩
  ⟨0,by omega,trivial⟩ (by kernel_rfl) ?_ ?_
 ·refine zei [] [] [] ?_ ?_ ?_ ?_ ?_<;>(try simp only[go_sem,hB0,hL,List.map_nil])
  all_goals first|done|rfl|omega
 rintro⟨i,hi,_⟩
 try simp only at hi
 rcases Nat.lt_or_ge i L with h1|h1
 ·have h1':i<s.pieces.length:=by omega
  obtain⟨x,hx⟩:∃x,s.pieces[i]=x:=⟨_,rfl⟩
  have hBi:=kB.out i h1'
  have hbl:=kL.out i (by omega)
  have hxz:=kz.out x (by rw[←hx];exact List.getElem_mem h1')
  rw[hx]at hBi
  have hreq:x.form.size+(B i).length≤1000000:=by omega
  repeat'(first|refine zaA.i hreq fun _=>?_|refine And.intro ?_ ?_|exact True.intro|refine rq fun _=>?_|refine rf fun _=>?_|simp only[go_sem,h1,h1',hx,hro,zC2,zac,zad,zak,zap,zaN,zaa,GA,Tryz.f5,Re5,Re4,Re3,Re2,Re1,Rd1,Rd0,Sc6,Sc5,Sc4,Su4,Su3,Su2,Su1,Sc3,Sc2,Sc1,Sc0])
  refine⟨⟨i+1,by omega,trivial⟩,by simp only;omega,?_⟩
  refine zau ?_ ?_ ?_<;>simp only[go_sem,hBi]
  all_goals first|done|rfl|omega
 obtain rfl:i=L:=by omega
 have hrf:=zvu hs
 have hRp:∀x∈zcV s,zMt x []=B i∧zMH x=(zbX x,⟨0,0⟩)∧(∀v∈s.vars,v∉zbX x)∧x.size≤200:=fun x hx=>by
  obtain⟨l,hl,rfl⟩:=(zsN hs).1 hx
  obtain⟨h2,h3,h4⟩:=znS hs hl
  have h5:=zMQ h0 h2 h3
  refine⟨by rw[hBe];exact zMP hs h2 h3,by unfold zMH;rw[if_neg (by rw[h5];simp)],fun v hv=>zM0 h4 hv,zbo (op:=false) (by rw[h5])⟩
 have hvl:=hs.vs
 obtain⟨R,hR⟩:∃R,zcV s=R:=⟨_,rfl⟩
 rw[hR]at hRp hrf hr
 obtain⟨N,hN⟩:∃N,R.length=N:=⟨_,rfl⟩
 obtain⟨V,hV⟩:∃V,s.vars.length=V:=⟨_,rfl⟩
 have kR:=Kp.mk hRp
 clear hRp
 rw[hR]
 repeat'(first|refine And.intro ?_ ?_|exact True.intro|refine rq fun _=>?_|refine rf fun _=>?_|simp only[go_sem,Nat.lt_irrefl,hro,zC2,zac,zad,zak,zap,zaN,zaa,GA,Tryz.f5,Re5,Re4,Re3,Re2,Re1,Rd1,Rd0,Sc6,Sc5,Sc4,Su4,Su3,Su2,Su1,Sc3,Sc2,Sc1,Sc0])
 refine zaJ Go.Proofs.YtmconmiemdinkaaGreatDoor.hm hT 5000 (lst []) (ι:=zjB N 3 fun _=>True)
  ⟨fun q=>⟨frL [(1,.ptr (5001,0) 0),(5,.fz (.sl (R.map enc))),(7,.fz (.sl ((B i).map enc))),(51,.fz (.i .i64 N)),(52,.fz (.i .i64 q.i))],hpL [((5001,0),some ⟨[.fz (.sl (s.pieces.map enc)),.fz (.sl (s.overs.map enc)),.fz (.sl (s.vars.map enc))],true,false⟩)],q.m⟩,fun q=>N-q.i⟩
  ⟨0,3,by omega,by omega,trivial⟩ (by kernel_rfl) ?_ ?_
 ·refine zau ?_ ?_ ?_<;>simp only[go_sem,hN]
  all_goals first|done|rfl|omega
 rintro⟨k,m,hk,hm3,_⟩
 try simp only at hk hm3
 rcases Nat.lt_or_ge k N with h2|h2
 ·have h2':k<R.length:=by omega
  obtain⟨x,hx⟩:∃x,R[k]=x:=⟨_,rfl⟩
  obtain⟨q1,q2,q3,q4⟩:=kR.out x (by rw[←hx];exact List.getElem_mem h2')
  have hreq:x.size≤1000000:=by omega
  have hreq2:x.size+([]:List Str).length≤1000000:=by simp only[List.length_nil];omega
  have kv:=Kp.mk q3
  clear q3
  obtain⟨U,hU⟩:∃U,zbX x=U:=⟨_,rfl⟩
  rw[hU]at q2
  repeat'(first|refine zaA.i hreq fun _=>?_|refine zaA.i hreq2 fun _=>?_|refine And.intro ?_ ?_|exact True.intro|refine rq fun _=>?_|refine rf fun _=>?_|simp only[go_sem,h2,h2',hx,q1,q2,hro,zC2,zac,zad,zak,zap,zaN,zaa,GA,Tryz.f5,Re5,Re4,Re3,Re2,Re1,Rd1,Rd0,Sc6,Sc5,Sc4,Su4,Su3,Su2,Su1,Sc3,Sc2,Sc1,Sc0])
  refine zaJ Go.Proofs.YtmconmiemdinkaaGreatDoor.hm hT 5000 (lst []) (ι:=zg4 V fun _=>True)
   ⟨fun q=>⟨frL [(1,.ptr (5001,0) 0),(5,.fz (.sl (R.map enc))),(7,.fz (.sl ((B i).map enc))),(10,.fz (.sl (U.map enc))),(51,.fz (.i .i64 N)),(52,.fz (.i .i64 k)),(75,.fz (.sl (s.vars.map enc))),(76,.fz (.i .i64 V)),(77,.fz (.i .i64 q.i))],hpL [((5001,0),some ⟨[.fz (.sl (s.pieces.map enc)),.fz (.sl (s.overs.map enc)),.fz (.sl (s.vars.map enc))],true,false⟩)],m+1⟩,fun q=>V-q.i⟩
   ⟨0,by omega,trivial⟩ (by kernel_rfl) ?_ ?_
  ·refine zau ?_ ?_ ?_<;>simp only[go_sem,hV]
   all_goals first|done|rfl|omega
  rintro⟨j,hj,_⟩
  try simp only at hj
  rcases Nat.lt_or_ge j V with h3|h3
  ·have h3':j<s.vars.length:=by omega
   obtain⟨v,hv⟩:∃v,s.vars[j]=v:=⟨_,rfl⟩
   have hin:(v∈U)=False:=eq_false (by rw[←hU];exact kv.out v (by rw[←hv];exact List.getElem_mem h3'))
   repeat'(first|refine And.intro ?_ ?_|exact True.intro|refine rq fun _=>?_|refine rf fun _=>?_|simp only[go_sem,h3,h3',hv,hin,hro,zC2,zac,zad,zak,zap,zaN,zaa,GA,Tryz.f5,Re5,Re4,Re3,Re2,Re1,Rd1,Rd0,Sc6,Sc5,Sc4,Su4,Su3,Su2,Su1,Sc3,Sc2,Sc1,Sc0])
   refine⟨⟨j+1,by omega,trivial⟩,by simp only;omega,?_⟩
   refine zau ?_ ?_ ?_<;>simp only[go_sem]
   all_goals first|done|rfl|omega
  ·obtain rfl:j=V:=by omega
   repeat'(first|refine And.intro ?_ ?_|exact True.intro|refine rq fun _=>?_|refine rf fun _=>?_|simp only[go_sem,Nat.lt_irrefl,hro,zC2,zac,zad,zak,zap,zaN,zaa,GA,Tryz.f5,Re5,Re4,Re3,Re2,Re1,Rd1,Rd0,Sc6,Sc5,Sc4,Su4,Su3,Su2,Su1,Sc3,Sc2,Sc1,Sc0])
   refine⟨⟨k+1,m+1,by omega,by omega,trivial⟩,by simp only;omega,?_⟩
   refine zau ?_ ?_ ?_<;>simp only[go_sem]
   all_goals first|done|rfl|omega
 ·obtain rfl:k=N:=by omega
  repeat'(first|refine And.intro ?_ ?_|exact True.intro|refine rq fun _=>?_|refine rf fun _=>?_|simp only[go_sem,Nat.lt_irrefl,hro,zC2,zac,zad,zak,zap,zaN,zaa,GA,Tryz.f5,Re5,Re4,Re3,Re2,Re1,Rd1,Rd0,Sc6,Sc5,Sc4,Su4,Su3,Su2,Su1,Sc3,Sc2,Sc1,Sc0])
  all_goals first|done|rfl|omega
end Go.Proofs.YtmconmiemdinkaaGreatDoor
