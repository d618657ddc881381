/- several texts of this proof in one; no conditions -/
import Derived.Test.YtdlioodgfopmfaaGreatDoorAT
import Derived.Test.YtdlioodgfopmfaaGreatDoorQ122
import Derived.Test.YtdlioodgfopmfaaGreatDoorGW
import Derived.Test.YtdlioodgfopmfaaGreatDoorY3
import Derived.Test.YtdlioodgfopmfaaGreatDoorTA
import Derived.Test.YtdlioodgfopmfaaGreatDoorTK
set_option maxRecDepth 100000
set_option maxHeartbeats 1000000
set_option linter.unusedSimpArgs false
namespace Go.Proofs.YtdlioodgfopmfaaGreatDoor
open Go Go.Abs Go.Proofs
def za2:Tv:=(.q 0 (.q 1 (.q 2 (.q 3 (.q 4 (.q 5 (.q 6 (.q 7 (.q 8 (.q 9 (.q 10 (.q 11 (.q 12 (.q 13 (.q 14 (.q 15 (.q 16 (.q 17 (.q 18 (.q 19 (.q 20 .leaf)))))))))))))))))))))
def zaN:Tv:=(.q 0 (.q 1 (.q 2 (.q 3 (.q 4 (.q 5 (.q 6 (.q 7 (.q 8 (.q 9 (.q 10 (.q 11 (.q 12 (.q 13 .leaf))))))))))))))
def W1:Tbl:=O13.add 45 (sp1 zrn fun l=>(∀f∈l,brF f)∧l.length≤100000)
attribute [go_sem] W1
set_option maxHeartbeats 16000000 in
theorem hW1:zap Tryz.prog GA W1:=by
 refine zbM zHu zc7 fun l hpre _=>?_
 obtain⟨hbr,hlen⟩:=hpre
 have hlp:(∀f∈l,brF f)∧l.length≤100000:=⟨hbr,hlen⟩
 have hcd:=znV l l.length (Nat.le_refl _)
 rw[List.take_length]at hcd
 have hclp:(clD l).1.length=(clD l).2.length∧(clD l).1.length≤1000000:=⟨hcd.1,by omega⟩
 have heq:=zpb l
 obtain⟨C,hC⟩:∃C,clD l=C:=⟨_,rfl⟩
 rw[hC]at hclp heq
 obtain⟨V,hV⟩:∃V,zrn l=V:=⟨_,rfl⟩
 rw[hV]
 unfold zrn at hV
 obtain⟨c,hc⟩:∃c,zeM l=c:=⟨_,rfl⟩
 rw[hc]at hV heq
 obtain⟨Φ,hΦ⟩:∃Φ:Abs.zac→Bool,Φ=zoy c l:=⟨_,rfl⟩
 rw[←hΦ]at hV
 have ke:=Kp.mk heq
 have kb:=Kp.mk hbr
 clear heq hcd hbr hc
 refine zah (N:=112) hm zc7 45000 (lst [1000007,1000018]) zHu Tryz.func45 rfl rfl (by simp) (by kernel_rfl) ?_
 repeat'(first|refine zaj.i hlp fun _=>?_|refine zaj.i hclp fun _=>?_|refine zae (id:=7) hm zc7 45000 (lst [1000007,1000018]) za2 (by kernel_rfl) (by kernel_rfl) ?_|refine zae (id:=18) hm zc7 45000 (lst [1000007,1000018]) zaN (by kernel_rfl) (by kernel_rfl) ?_|refine And.intro ?_ ?_|exact True.intro|refine rq fun _=>?_|simp only[go_sem,hC,za2,zaN,Tryz.f45,zab,zad,zaa])
 refine zao hm zc7 45000 (lst [1000007,1000018]) (ι:=zep l.length 0 fun i=>(l.drop i).any Φ=V)
  ⟨fun q=>⟨frL [(0,.fz (.sl (l.map enc))),(2,.fz (.b false)),(3,.fz (.sl (C.1.map enc))),(4,.fz (.sl (C.2.map enc))),(17,.fz (.i .i64 l.length)),(18,.fz (.i .i64 q.i))],hpL [],q.m⟩,fun q=>l.length-q.i⟩
  ⟨0,20,by omega,by omega,hV⟩ (by kernel_rfl) ?_ ?_
 ·refine zai ?_ ?_ ?_<;>simp only[go_sem]
  all_goals first|done|rfl|omega
 rintro⟨i,q0,hi,hq,hP⟩
 try simp only at hi hq hP
 clear hV
 rcases Nat.lt_or_ge i l.length with h1|h1
 rotate_left
 ·obtain rfl:i=l.length:=by omega
  rw[List.drop_length]at hP
  have hVf:V=false:=hP.symm
  repeat'(first|refine zaj.i hlp fun _=>?_|refine zaj.i hclp fun _=>?_|refine zae (id:=7) hm zc7 45000 (lst [1000007,1000018]) za2 (by kernel_rfl) (by kernel_rfl) ?_|refine zae (id:=18) hm zc7 45000 (lst [1000007,1000018]) zaN (by kernel_rfl) (by kernel_rfl) ?_|refine And.intro ?_ ?_|exact True.intro|refine rq fun _=>?_|simp only[go_sem,Nat.lt_irrefl,za2,zaN,Tryz.f45,zab,zad,zaa])
  all_goals first|done|rw[hVf]|(rw[hVf];rfl)
 obtain⟨f,hf⟩:∃f,l[i]=f:=⟨_,rfl⟩
 have hfb:brF f:=kb.out f (by rw[←hf];exact List.getElem_mem h1)
 rw[List.drop_eq_getElem_cons h1,List.any_cons,hf]at hP
 by_cases h4:f.kind=4
 rotate_left
 ·have hF:Φ f=false:=by rw[hΦ];unfold zoy zhG;rw[decide_eq_false h4];simp
  rw[hF,Bool.false_or]at hP
  repeat'(first|refine zaj.i hlp fun _=>?_|refine zaj.i hclp fun _=>?_|refine zae (id:=7) hm zc7 45000 (lst [1000007,1000018]) za2 (by kernel_rfl) (by kernel_rfl) ?_|refine zae (id:=18) hm zc7 45000 (lst [1000007,1000018]) zaN (by kernel_rfl) (by kernel_rfl) ?_|refine And.intro ?_ ?_|exact True.intro|refine rq fun _=>?_|simp only[go_sem,h1,hf,h4,za2,zaN,Tryz.f45,zab,zad,zaa])
  refine⟨⟨i+1,q0,by omega,by omega,hP⟩,by simp only;omega,?_⟩
  refine zai ?_ ?_ ?_<;>simp only[go_sem]
  all_goals first|done|rfl|omega
 have eF:Abs.zac.mk 4 f.name f.words f.subs=f:=by rw[←h4];exact zab
 obtain⟨g,hg,s0,hgb⟩:=zdd hfb (.inl h4)
 have hF:Φ f=(zhG c f||(decide (g.kind=2)&&l.any fun h=>zci c h g)):=by rw[hΦ];unfold zoy;rw[decide_eq_true h4,s0,Bool.true_and]
 have hcon:zhG c f=(decide (g.kind=1)||(decide (g.kind=3)&&decide (zaB c (g.words.getD 0 ⟨[]⟩)=zaB c (g.words.getD 1 ⟨[]⟩)))):=by unfold zhG;rw[decide_eq_true h4,s0,Bool.true_and]
 by_cases j1:g.kind=1
 ·have hVt:V=true:=by rw[←hP,hF,hcon,decide_eq_true j1];rfl
  repeat'(first|refine zaj.i hlp fun _=>?_|refine zaj.i hclp fun _=>?_|refine zae (id:=7) hm zc7 45000 (lst [1000007,1000018]) za2 (by kernel_rfl) (by kernel_rfl) ?_|refine zae (id:=18) hm zc7 45000 (lst [1000007,1000018]) zaN (by kernel_rfl) (by kernel_rfl) ?_|refine And.intro ?_ ?_|exact True.intro|refine rq fun _=>?_|simp only[go_sem,h1,hf,h4,eF,hg,j1,za2,zaN,Tryz.f45,zab,zad,zaa])
  all_goals first|done|rw[hVt]|(rw[hVt];rfl)
 by_cases j3:g.kind=3
 ·obtain⟨a,b,hab⟩:∃a b,g.words=[a,b]:=by
   have h2:=(zbf.1 hgb.v).2.2.2.1 j3
   match h:g.words,h2 with
   |[a,b],_=>exact⟨a,b,rfl⟩
  have hcon:zhG c f=eqR C.1 C.2 a b:=by rw[hcon,decide_eq_false j1,decide_eq_true j3,hab,ke.out];rfl
  cases hB:eqR C.1 C.2 a b with
  |true=>
   have hVt:V=true:=by rw[←hP,hF,hcon,hB];rfl
   repeat'(first|refine zaj.i hlp fun _=>?_|refine zaj.i hclp fun _=>?_|refine zae (id:=7) hm zc7 45000 (lst [1000007,1000018]) za2 (by kernel_rfl) (by kernel_rfl) ?_|refine zae (id:=18) hm zc7 45000 (lst [1000007,1000018]) zaN (by kernel_rfl) (by kernel_rfl) ?_|refine And.intro ?_ ?_|exact True.intro|refine rq fun _=>?_|simp only[go_sem,h1,hf,h4,eF,hg,j1,j3,hab,hB,za2,zaN,Tryz.f45,zab,zad,zaa])
   all_goals first|done|rw[hVt]|(rw[hVt];rfl)
  |false=>
   have hF2:Φ f=false:=by rw[hF,hcon,hB,j3];rfl
   rw[hF2,Bool.false_or]at hP
   repeat'(first|refine zaj.i hlp fun _=>?_|refine zaj.i hclp fun _=>?_|refine zae (id:=7) hm zc7 45000 (lst [1000007,1000018]) za2 (by kernel_rfl) (by kernel_rfl) ?_|refine zae (id:=18) hm zc7 45000 (lst [1000007,1000018]) zaN (by kernel_rfl) (by kernel_rfl) ?_|refine And.intro ?_ ?_|exact True.intro|refine rq fun _=>?_|simp only[go_sem,h1,hf,h4,eF,hg,j1,j3,hab,hB,za2,zaN,Tryz.f45,zab,zad,zaa])
   refine⟨⟨i+1,q0+1,by omega,by omega,hP⟩,by simp only;omega,?_⟩
   refine zai ?_ ?_ ?_<;>simp only[go_sem]
   all_goals first|done|rfl|omega
 have hcon:zhG c f=false:=by rw[hcon,decide_eq_false j1,decide_eq_false j3];rfl
 by_cases j2:g.kind=2
 rotate_left
 ·have hF2:Φ f=false:=by rw[hF,hcon,decide_eq_false j2];rfl
  rw[hF2,Bool.false_or]at hP
  repeat'(first|refine zaj.i hlp fun _=>?_|refine zaj.i hclp fun _=>?_|refine zae (id:=7) hm zc7 45000 (lst [1000007,1000018]) za2 (by kernel_rfl) (by kernel_rfl) ?_|refine zae (id:=18) hm zc7 45000 (lst [1000007,1000018]) zaN (by kernel_rfl) (by kernel_rfl) ?_|refine And.intro ?_ ?_|exact True.intro|refine rq fun _=>?_|simp only[go_sem,h1,hf,h4,eF,hg,j1,j2,j3,za2,zaN,Tryz.f45,zab,zad,zaa])
  refine⟨⟨i+1,q0+1,by omega,by omega,hP⟩,by simp only;omega,?_⟩
  refine zai ?_ ?_ ?_<;>simp only[go_sem]
  all_goals first|done|rfl|omega
 have eG:Abs.zac.mk 2 g.name g.words g.subs=g:=by rw[←j2];exact zab
 obtain⟨U,hU⟩:∃U,(l.any fun h=>zci c h g)=U:=⟨_,rfl⟩
 have hF2:Φ f=U:=by rw[hF,hcon,decide_eq_true j2,hU];rfl
 rw[hF2]at hP
 clear hF hF2 hcon
 repeat'(first|refine zaj.i hlp fun _=>?_|refine zaj.i hclp fun _=>?_|refine zae (id:=7) hm zc7 45000 (lst [1000007,1000018]) za2 (by kernel_rfl) (by kernel_rfl) ?_|refine zae (id:=18) hm zc7 45000 (lst [1000007,1000018]) zaN (by kernel_rfl) (by kernel_rfl) ?_|refine And.intro ?_ ?_|exact True.intro|refine rq fun _=>?_|simp only[go_sem,h1,hf,h4,eF,hg,j2,za2,zaN,Tryz.f45,zab,zad,zaa])
 refine zao hm zc7 45000 (lst [1000007,1000018]) (ι:=zep l.length (q0+1) fun k=>((l.drop k).any fun h=>zci c h g)=U)
  ⟨fun q=>⟨frL [(0,.fz (.sl (l.map enc))),(2,.fz (.b false)),(3,.fz (.sl (C.1.map enc))),(4,.fz (.sl (C.2.map enc))),(17,.fz (.i .i64 l.length)),(18,.fz (.i .i64 i)),(6,.ptr (45006,q0) 0),(59,.fz (.i .i64 l.length)),(60,.fz (.i .i64 q.i))],hpL [((45006,q0),some ⟨[.fz (.i .i64 g.kind),.fz (.s g.name.l),.fz (.sl (g.words.map enc)),.fz (.sl (g.subs.map enc))],true,false⟩)],q.m⟩,fun q=>l.length-q.i⟩
  ⟨0,q0+1,by omega,by omega,hU⟩ (by kernel_rfl) ?_ ?_
 ·refine zai ?_ ?_ ?_<;>simp only[go_sem,j2]
  all_goals first|done|rfl|omega
 rintro⟨k,q1,hk,hq1,hE⟩
 try simp only at hk hq1 hE
 clear hU
 rcases Nat.lt_or_ge k l.length with h2|h2
 rotate_left
 ·obtain rfl:k=l.length:=by omega
  rw[List.drop_length]at hE
  have hUf:U=false:=hE.symm
  rw[hUf,Bool.false_or]at hP
  repeat'(first|refine zaj.i hlp fun _=>?_|refine zaj.i hclp fun _=>?_|refine zae (id:=7) hm zc7 45000 (lst [1000007,1000018]) za2 (by kernel_rfl) (by kernel_rfl) ?_|refine zae (id:=18) hm zc7 45000 (lst [1000007,1000018]) zaN (by kernel_rfl) (by kernel_rfl) ?_|refine And.intro ?_ ?_|exact True.intro|refine rq fun _=>?_|simp only[go_sem,Nat.lt_irrefl,za2,zaN,Tryz.f45,zab,zad,zaa])
  refine⟨⟨i+1,q1,by omega,by omega,hP⟩,by simp only;omega,?_⟩
  refine zai ?_ ?_ ?_<;>simp only[go_sem]
  all_goals first|done|rfl|omega
 obtain⟨h,hh⟩:∃h,l[k]=h:=⟨_,rfl⟩
 have hhb:brF h:=kb.out h (by rw[←hh];exact List.getElem_mem h2)
 rw[List.drop_eq_getElem_cons h2,List.any_cons,hh]at hE
 have hal:zci c h g=(decide (h.kind=2)&&decide (h.name=g.name)&&decide (h.words.map (zaB c)=g.words.map (zaB c))):=by unfold zci;rw[decide_eq_true j2,Bool.and_true]
 by_cases j2h:h.kind=2
 rotate_left
 ·have hN:((l.drop (k+1)).any fun h=>zci c h g)=U:=by rw[hal,decide_eq_false j2h]at hE;simpa using hE
  repeat'(first|refine zaj.i hlp fun _=>?_|refine zaj.i hclp fun _=>?_|refine zae (id:=7) hm zc7 45000 (lst [1000007,1000018]) za2 (by kernel_rfl) (by kernel_rfl) ?_|refine zae (id:=18) hm zc7 45000 (lst [1000007,1000018]) zaN (by kernel_rfl) (by kernel_rfl) ?_|refine And.intro ?_ ?_|exact True.intro|refine rq fun _=>?_|simp only[go_sem,h2,hh,j2h,za2,zaN,Tryz.f45,zab,zad,zaa])
  refine zao hm zc7 45000 (lst [1000007,1000018]) (ι:=zcO 0 fun _=>True)
   ⟨fun q=>⟨frL [(0,.fz (.sl (l.map enc))),(2,.fz (.b false)),(3,.fz (.sl (C.1.map enc))),(4,.fz (.sl (C.2.map enc))),(17,.fz (.i .i64 l.length)),(18,.fz (.i .i64 i)),(6,.ptr (45006,q0) 0),(59,.fz (.i .i64 l.length)),(60,.fz (.i .i64 k)),(8,.ptr (45008,q1) 0),(9,.fz (.b false)),(10,.fz (.i .i64 q.i))],hpL [((45006,q0),some ⟨[.fz (.i .i64 g.kind),.fz (.s g.name.l),.fz (.sl (g.words.map enc)),.fz (.sl (g.subs.map enc))],true,false⟩),((45008,q1),some ⟨[.fz (.i .i64 h.kind),.fz (.s h.name.l),.fz (.sl (h.words.map enc)),.fz (.sl (h.subs.map enc))],true,false⟩)],q1+1⟩,fun q=>0-q.i⟩
   ⟨0,by omega,trivial⟩ (by kernel_rfl) ?_ ?_
  ·refine zai ?_ ?_ ?_<;>simp only[go_sem,h2,hh,j2h]
   all_goals first|done|rfl|omega
  rintro⟨j,hj,_⟩
  try simp only at hj
  obtain rfl:j=0:=by omega
  repeat'(first|refine zaj.i hlp fun _=>?_|refine zaj.i hclp fun _=>?_|refine zae (id:=7) hm zc7 45000 (lst [1000007,1000018]) za2 (by kernel_rfl) (by kernel_rfl) ?_|refine zae (id:=18) hm zc7 45000 (lst [1000007,1000018]) zaN (by kernel_rfl) (by kernel_rfl) ?_|refine And.intro ?_ ?_|exact True.intro|refine rq fun _=>?_|simp only[go_sem,h1,za2,zaN,Tryz.f45,zab,zad,zaa])
  refine⟨⟨k+1,q1+1,by omega,by omega,hN⟩,by simp only;omega,?_⟩
  refine zai ?_ ?_ ?_<;>simp only[go_sem]
  all_goals first|done|rfl|omega
 have eH:Abs.zac.mk 2 h.name h.words h.subs=h:=by rw[←j2h];exact zab
 by_cases hnm:h.name=g.name
 rotate_left
 ·have hN:((l.drop (k+1)).any fun h=>zci c h g)=U:=by rw[hal,decide_eq_false hnm]at hE;simpa using hE
  have hnl:(h.name.l=g.name.l)=False:=eq_false fun e0=>hnm (show h.name=g.name from zfb e0)
  repeat'(first|refine zaj.i hlp fun _=>?_|refine zaj.i hclp fun _=>?_|refine zae (id:=7) hm zc7 45000 (lst [1000007,1000018]) za2 (by kernel_rfl) (by kernel_rfl) ?_|refine zae (id:=18) hm zc7 45000 (lst [1000007,1000018]) zaN (by kernel_rfl) (by kernel_rfl) ?_|refine And.intro ?_ ?_|exact True.intro|refine rq fun _=>?_|simp only[go_sem,h2,hh,j2h,eH,hnl,za2,zaN,Tryz.f45,zab,zad,zaa])
  refine zao hm zc7 45000 (lst [1000007,1000018]) (ι:=zcO 0 fun _=>True)
   ⟨fun q=>⟨frL [(0,.fz (.sl (l.map enc))),(2,.fz (.b false)),(3,.fz (.sl (C.1.map enc))),(4,.fz (.sl (C.2.map enc))),(17,.fz (.i .i64 l.length)),(18,.fz (.i .i64 i)),(6,.ptr (45006,q0) 0),(59,.fz (.i .i64 l.length)),(60,.fz (.i .i64 k)),(8,.ptr (45008,q1) 0),(9,.fz (.b false)),(10,.fz (.i .i64 q.i))],hpL [((45006,q0),some ⟨[.fz (.i .i64 g.kind),.fz (.s g.name.l),.fz (.sl (g.words.map enc)),.fz (.sl (g.subs.map enc))],true,false⟩),((45008,q1),some ⟨[.fz (.i .i64 h.kind),.fz (.s h.name.l),.fz (.sl (h.words.map enc)),.fz (.sl (h.subs.map enc))],true,false⟩)],q1+1⟩,fun q=>0-q.i⟩
   ⟨0,by omega,trivial⟩ (by kernel_rfl) ?_ ?_
  ·refine zai ?_ ?_ ?_<;>simp only[go_sem,h2,hh,j2h,eH,hnl]
   all_goals first|done|rfl|omega
  rintro⟨j,hj,_⟩
  try simp only at hj
  obtain rfl:j=0:=by omega
  repeat'(first|refine zaj.i hlp fun _=>?_|refine zaj.i hclp fun _=>?_|refine zae (id:=7) hm zc7 45000 (lst [1000007,1000018]) za2 (by kernel_rfl) (by kernel_rfl) ?_|refine zae (id:=18) hm zc7 45000 (lst [1000007,1000018]) zaN (by kernel_rfl) (by kernel_rfl) ?_|refine And.intro ?_ ?_|exact True.intro|refine rq fun _=>?_|simp only[go_sem,h1,za2,zaN,Tryz.f45,zab,zad,zaa])
  refine⟨⟨k+1,q1+1,by omega,by omega,hN⟩,by simp only;omega,?_⟩
  refine zai ?_ ?_ ?_<;>simp only[go_sem]
  all_goals first|done|rfl|omega
 have hnl:(h.name.l=g.name.l)=True:=eq_true (by rw[hnm])
 by_cases hwl:h.words.length=g.words.length
 rotate_left
 ·have hN:((l.drop (k+1)).any fun h=>zci c h g)=U:=by
   rw[hal,decide_eq_false (show¬(h.words.map (zaB c)=g.words.map (zaB c))from fun h0=>hwl (by have:=congrArg List.length h0;simpa using this))]at hE
   simpa using hE
  have hwl':((h.words.length:Int)=g.words.length)=False:=eq_false (by omega)
  repeat'(first|refine zaj.i hlp fun _=>?_|refine zaj.i hclp fun _=>?_|refine zae (id:=7) hm zc7 45000 (lst [1000007,1000018]) za2 (by kernel_rfl) (by kernel_rfl) ?_|refine zae (id:=18) hm zc7 45000 (lst [1000007,1000018]) zaN (by kernel_rfl) (by kernel_rfl) ?_|refine And.intro ?_ ?_|exact True.intro|refine rq fun _=>?_|simp only[go_sem,h2,hh,j2h,eH,hnl,hwl',za2,zaN,Tryz.f45,zab,zad,zaa])
  refine zao hm zc7 45000 (lst [1000007,1000018]) (ι:=zcO 0 fun _=>True)
   ⟨fun q=>⟨frL [(0,.fz (.sl (l.map enc))),(2,.fz (.b false)),(3,.fz (.sl (C.1.map enc))),(4,.fz (.sl (C.2.map enc))),(17,.fz (.i .i64 l.length)),(18,.fz (.i .i64 i)),(6,.ptr (45006,q0) 0),(59,.fz (.i .i64 l.length)),(60,.fz (.i .i64 k)),(8,.ptr (45008,q1) 0),(9,.fz (.b false)),(10,.fz (.i .i64 q.i))],hpL [((45006,q0),some ⟨[.fz (.i .i64 g.kind),.fz (.s g.name.l),.fz (.sl (g.words.map enc)),.fz (.sl (g.subs.map enc))],true,false⟩),((45008,q1),some ⟨[.fz (.i .i64 h.kind),.fz (.s h.name.l),.fz (.sl (h.words.map enc)),.fz (.sl (h.subs.map enc))],true,false⟩)],q1+1⟩,fun q=>0-q.i⟩
   ⟨0,by omega,trivial⟩ (by kernel_rfl) ?_ ?_
  ·refine zai ?_ ?_ ?_<;>simp only[go_sem,h2,hh,j2h,eH,hnl,hwl']
   all_goals first|done|rfl|omega
  rintro⟨j,hj,_⟩
  try simp only at hj
  obtain rfl:j=0:=by omega
  repeat'(first|refine zaj.i hlp fun _=>?_|refine zaj.i hclp fun _=>?_|refine zae (id:=7) hm zc7 45000 (lst [1000007,1000018]) za2 (by kernel_rfl) (by kernel_rfl) ?_|refine zae (id:=18) hm zc7 45000 (lst [1000007,1000018]) zaN (by kernel_rfl) (by kernel_rfl) ?_|refine And.intro ?_ ?_|exact True.intro|refine rq fun _=>?_|simp only[go_sem,h1,za2,zaN,Tryz.f45,zab,zad,zaa])
  refine⟨⟨k+1,q1+1,by omega,by omega,hN⟩,by simp only;omega,?_⟩
  refine zai ?_ ?_ ?_<;>simp only[go_sem]
  all_goals first|done|rfl|omega
 have hwl':((h.words.length:Int)=g.words.length)=True:=eq_true (by omega)
 obtain⟨R,hR⟩:∃R:Nat→Bool,R=fun j=>eqR C.1 C.2 (h.words.getD j ⟨[]⟩) (g.words.getD j ⟨[]⟩):=⟨_,rfl⟩
 have hRj:∀j (h1:j<h.words.length) (h2:j<g.words.length),eqR C.1 C.2 h.words[j] g.words[j]=R j:=fun j h1 h2=>by
  rw[hR]
  simp only
  rw[List.getD_eq_getElem?_getD,List.getElem?_eq_getElem h1,List.getD_eq_getElem?_getD,List.getElem?_eq_getElem h2];rfl
 have hRt:∀j (h1:j<h.words.length) (h2:j<g.words.length),R j=decide (zaB c h.words[j]=zaB c g.words[j]):=fun j h1 h2=>by rw[←hRj j h1 h2,ke.out]
 have eal:(∀j,j<h.words.length→R j=true)→zci c h g=true:=fun h0=>by
  rw[hal,decide_eq_true j2h,decide_eq_true hnm]
  refine decide_eq_true (List.ext_getElem (by simpa using hwl) fun j h1 h2=>?_)
  rw[List.length_map]at h1 h2
  rw[List.getElem_map,List.getElem_map]
  have:=h0 j h1
  rw[hRt j h1 h2]at this
  exact of_decide_eq_true this
 have eno:∀j,j<h.words.length→R j=false→zci c h g=false:=fun j h1 h0=>by
  have h2:j<g.words.length:=by omega
  have hne:¬(h.words.map (zaB c)=g.words.map (zaB c)):=fun h3=>by
   have h4:=congrArg (fun l:List Str=>l[j]?) h3
   simp only[List.getElem?_map,List.getElem?_eq_getElem h1,List.getElem?_eq_getElem h2,Option.map_some,Option.some.injEq]at h4
   rw[hRt j h1 h2,decide_eq_true h4]at h0
   cases h0
  rw[hal,decide_eq_false hne]
  simp
 obtain⟨okF,hok⟩:∃okF:Nat→Bool,okF=fun i=>if i=0 then true else R (i-1):=⟨_,rfl⟩
 have hok0:okF 0=true:=by rw[hok];rfl
 have hoks:∀i,okF (i+1)=R i:=fun i=>by rw[hok];rfl
 have hfw:h.words.length≤1000:=by
  have hf:=hhb.ft
  cases h with
  |mk a b c d=>
   rw[zac.fit]at hf
   simp only[Bool.and_eq_true,decide_eq_true_eq]at hf
   exact hf.1.1
 have kr:=Kp.mk hRj
 have kok:=Kp.mk hoks
 have keal:=Kp.mk eal
 have keno:=Kp.mk eno
 clear hR hRj hRt hok hoks eal eno hal
 repeat'(first|refine zaj.i hlp fun _=>?_|refine zaj.i hclp fun _=>?_|refine zae (id:=7) hm zc7 45000 (lst [1000007,1000018]) za2 (by kernel_rfl) (by kernel_rfl) ?_|refine zae (id:=18) hm zc7 45000 (lst [1000007,1000018]) zaN (by kernel_rfl) (by kernel_rfl) ?_|refine And.intro ?_ ?_|exact True.intro|refine rq fun _=>?_|simp only[go_sem,h2,hh,j2h,eH,hnl,hwl',za2,zaN,Tryz.f45,zab,zad,zaa])
 refine zao hm zc7 45000 (lst [1000007,1000018]) (ι:=zcO h.words.length fun j=>∀t,t+1<j→R t=true)
  ⟨fun q=>⟨frL [(0,.fz (.sl (l.map enc))),(2,.fz (.b false)),(3,.fz (.sl (C.1.map enc))),(4,.fz (.sl (C.2.map enc))),(17,.fz (.i .i64 l.length)),(18,.fz (.i .i64 i)),(6,.ptr (45006,q0) 0),(59,.fz (.i .i64 l.length)),(60,.fz (.i .i64 k)),(8,.ptr (45008,q1) 0),(9,.fz (.b (okF q.i))),(10,.fz (.i .i64 q.i))],hpL [((45006,q0),some ⟨[.fz (.i .i64 g.kind),.fz (.s g.name.l),.fz (.sl (g.words.map enc)),.fz (.sl (g.subs.map enc))],true,false⟩),((45008,q1),some ⟨[.fz (.i .i64 h.kind),.fz (.s h.name.l),.fz (.sl (h.words.map enc)),.fz (.sl (h.subs.map enc))],true,false⟩)],q1+1⟩,fun q=>h.words.length-q.i⟩
  ⟨0,by omega,fun t ht=>by omega⟩ (by kernel_rfl) ?_ ?_
 ·refine zai ?_ ?_ ?_<;>simp only[go_sem,hok0,j2h]
  all_goals first|done|rfl|omega
 rintro⟨j,hj,hT⟩
 try simp only at hj hT
 have stop:∀j,j<h.words.length→R j=false→((l.drop (k+1)).any fun h=>zci c h g)=U:=fun j h3 h0=>by
  rw[keno.out j h3 h0,Bool.false_or]at hE
  exact hE
 rcases Nat.lt_or_ge j h.words.length with h3|h3
 ·cases j with
  |zero=>
   have h4w:0<g.words.length:=by omega
   have hr:=kr.out 0 h3 h4w
   have hz0:((0:Int)<h.words.length)=True:=eq_true (by omega)
   repeat'(first|refine zaj.i hlp fun _=>?_|refine zaj.i hclp fun _=>?_|refine zae (id:=7) hm zc7 45000 (lst [1000007,1000018]) za2 (by kernel_rfl) (by kernel_rfl) ?_|refine zae (id:=18) hm zc7 45000 (lst [1000007,1000018]) zaN (by kernel_rfl) (by kernel_rfl) ?_|refine And.intro ?_ ?_|exact True.intro|refine rq fun _=>?_|simp only[go_sem,hz0,h3,h4w,hok0,hr,za2,zaN,Tryz.f45,zab,zad,zaa])
   refine⟨⟨1,by omega,fun t ht=>by omega⟩,by simp only;omega,?_⟩
   refine zai ?_ ?_ ?_<;>simp only[go_sem,kok.out]
   all_goals first|done|rfl|omega
  |succ j=>
   have ho:=kok.out j
   have h4w:j+1<g.words.length:=by omega
   have hr:=kr.out (j+1) h3 h4w
   cases hRv:R j with
   |true=>
    rw[hRv]at ho
    have hz0:((j:Int)+1<h.words.length)=True:=eq_true (by omega)
    have hjn:((j:Int)+1).toNat=j+1:=by omega
    repeat'(first|refine zaj.i hlp fun _=>?_|refine zaj.i hclp fun _=>?_|refine zae (id:=7) hm zc7 45000 (lst [1000007,1000018]) za2 (by kernel_rfl) (by kernel_rfl) ?_|refine zae (id:=18) hm zc7 45000 (lst [1000007,1000018]) zaN (by kernel_rfl) (by kernel_rfl) ?_|refine zaj.i ⟨by omega,rfl⟩ fun _=>?_|refine And.intro ?_ ?_|exact True.intro|refine rq fun _=>?_|simp only[go_sem,hz0,hjn,h3,h4w,ho,hr,za2,zaN,Tryz.f45,zab,zad,zaa])
    refine⟨⟨j+2,by omega,fun t ht=>?_⟩,by simp only;omega,?_⟩
    ·rcases Nat.lt_or_ge t j with h5|h5
     ·exact hT t (by omega)
     ·obtain rfl:t=j:=by omega
      exact hRv
    refine zai ?_ ?_ ?_<;>simp only[go_sem,kok.out]
    all_goals first|done|rfl|omega
   |false=>
    rw[hRv]at ho
    have hN:=stop j (by omega) hRv
    repeat'(first|refine zaj.i hlp fun _=>?_|refine zaj.i hclp fun _=>?_|refine zae (id:=7) hm zc7 45000 (lst [1000007,1000018]) za2 (by kernel_rfl) (by kernel_rfl) ?_|refine zae (id:=18) hm zc7 45000 (lst [1000007,1000018]) zaN (by kernel_rfl) (by kernel_rfl) ?_|refine And.intro ?_ ?_|exact True.intro|refine rq fun _=>?_|simp only[go_sem,h3,h4w,ho,za2,zaN,Tryz.f45,zab,zad,zaa])
    refine⟨⟨k+1,q1+1,by omega,by omega,hN⟩,by simp only;omega,?_⟩
    refine zai ?_ ?_ ?_<;>simp only[go_sem]
    all_goals first|done|rfl|omega
 ·obtain rfl:j=h.words.length:=by omega
  have hnl2:(h.words.length<h.words.length)=False:=eq_false (Nat.lt_irrefl _)
  have hnl3:((h.words.length:Int)<h.words.length)=False:=eq_false (by omega)
  obtain⟨B,hB⟩:∃B,okF h.words.length=B:=⟨_,rfl⟩
  cases B with
  |true=>
   have hall:∀t,t<h.words.length→R t=true:=fun t ht=>by
    rcases Nat.lt_or_ge (t+1) h.words.length with h5|h5
    ·exact hT t h5
    ·have h6:=kok.out t
     rw[show t+1=h.words.length by omega,hB]at h6
     exact h6.symm
   have hVt:V=true:=by rw[←hP,←hE,keal.out hall];rfl
   repeat'(first|refine zaj.i hlp fun _=>?_|refine zaj.i hclp fun _=>?_|refine zae (id:=7) hm zc7 45000 (lst [1000007,1000018]) za2 (by kernel_rfl) (by kernel_rfl) ?_|refine zae (id:=18) hm zc7 45000 (lst [1000007,1000018]) zaN (by kernel_rfl) (by kernel_rfl) ?_|refine And.intro ?_ ?_|exact True.intro|refine rq fun _=>?_|simp only[go_sem,hnl2,hnl3,hB,za2,zaN,Tryz.f45,zab,zad,zaa])
   all_goals first|done|rw[hVt]|(rw[hVt];rfl)
  |false=>
   have hN:((l.drop (k+1)).any fun h=>zci c h g)=U:=by
    cases hw:h.words.length with
    |zero=>rw[hw,hok0]at hB;cases hB
    |succ t=>
     have h6:=kok.out t
     rw[←hw,hB]at h6
     exact stop t (by omega) h6.symm
   repeat'(first|refine zaj.i hlp fun _=>?_|refine zaj.i hclp fun _=>?_|refine zae (id:=7) hm zc7 45000 (lst [1000007,1000018]) za2 (by kernel_rfl) (by kernel_rfl) ?_|refine zae (id:=18) hm zc7 45000 (lst [1000007,1000018]) zaN (by kernel_rfl) (by kernel_rfl) ?_|refine And.intro ?_ ?_|exact True.intro|refine rq fun _=>?_|simp only[go_sem,hnl2,hnl3,hB,za2,zaN,Tryz.f45,zab,zad,zaa])
   refine⟨⟨k+1,q1+1,by omega,by omega,hN⟩,by simp only;omega,?_⟩
   refine zai ?_ ?_ ?_<;>simp only[go_sem]
   all_goals first|done|rfl|omega
end Go.Proofs.YtdlioodgfopmfaaGreatDoor
namespace Go.Proofs.YtdlioodgfopmfaaGreatDoor
open Go Go.Abs Go.Proofs
def zhE (f:Abs.zac)(name:Str):Abs.zac:=zau (zbo f) [⟨f.name,name⟩]
def zr9 (f:Abs.zac)(_:Str):Prop:=∃a,f.subs=[a]∧a.fit=true∧a.size≤1000
def zxH:Tv:=(.q 0 (.q 1 (.q 2 (.q 3 (.q 4 (.q 5 (.q 6 (.q 7 (.q 8 (.q 9 (.br [(10,.leaf)])))))))))))
def Y1:Tbl:=N5.add 63 (sp2 zhE zr9)
attribute [go_sem] Y1
theorem hY1:zap Tryz.prog GA Y1:=by
 refine zcy zHE hN5 fun f name hp _ _=>?_
 obtain⟨a,ha,h1,h2⟩:=hp
 have e:zhE f name=zau a [⟨f.name,name⟩]:=by unfold zhE zbo;rw[ha];rfl
 rw[e]
 have hcp:zkw a [⟨f.name,name⟩]:=⟨h1,h2,by simp⟩
 obtain⟨R,hR⟩:∃R,zau a [⟨f.name,name⟩]=R:=⟨_,rfl⟩
 rw[hR]
 refine zah (N:=15) hm hN5 63000 (lst [1000001]) zHE Tryz.func63 rfl rfl (by simp) (by kernel_rfl) ?_
 repeat'(first|refine zaj.i ⟨rfl,hcp⟩ fun _=>?_|refine zaj.i hcp fun _=>?_|refine zae (id:=1) hm hN5 63000 (lst [1000001]) zxH (by kernel_rfl) (by kernel_rfl) ?_|refine And.intro ?_ ?_|exact True.intro|refine rq fun _=>?_|simp only[go_sem,ha,hR,zad,zab,zxH,Tryz.f63])
def zof (q:Abs.zac)(turned:Bool)(name:Str):Abs.zac:=if turned then zmU (zhE q name)else zhE q name
def zkV (q:Abs.zac)(_:Bool)(_:Str):Prop:=∃a,q.subs=[a]∧a.fit=true∧a.size≤800
theorem zqa {q:Abs.zac}{name:Str}(h:∃a,q.subs=[a]∧a.fit=true∧a.size≤800):(zhE q name).fit=true∧(zhE q name).size≤800:=by
 obtain⟨a,ha,h1,h2⟩:=h
 have e:zhE q name=zau a [⟨q.name,name⟩]:=by unfold zhE zbo;rw[ha];rfl
 rw[e]
 exact⟨by rw[zgN];exact h1,by rw[zbZ];exact h2⟩
def Y2:Tbl:=Y1.add 41 (sp3 zof zkV)
attribute [go_sem] Y2
theorem hY2:zap Tryz.prog GA Y2:=by
 refine zhx zFH hY1 fun q tn name hp _ _ _=>?_
 have hs:=zqa (name:=name) hp
 have hb:zr9 q name:=by obtain⟨a,ha,h1,h2⟩:=hp;exact⟨a,ha,h1,by omega⟩
 have hng:(zhE q name).fit=true∧(zhE q name).size≤900:=⟨hs.1,by omega⟩
 obtain⟨B,hB⟩:∃B,zhE q name=B:=⟨_,rfl⟩
 rw[hB]at hng
 cases tn with
 |true=>
  have e:zof q true name=zmU B:=by unfold zof;rw[hB];rfl
  rw[e]
  obtain⟨R,hR⟩:∃R,zmU B=R:=⟨_,rfl⟩
  rw[hR]
  refine zah (N:=15) hm hY1 41000 (lst []) zFH Tryz.func41 rfl rfl (by simp) (by kernel_rfl) ?_
  repeat'(first|refine zaj.i hb fun _=>?_|refine zaj.i hng fun _=>?_|refine And.intro ?_ ?_|exact True.intro|refine rq fun _=>?_|simp only[go_sem,hB,hR,zad,zab,Tryz.f41])
 |false=>
  have e:zof q false name=B:=by unfold zof;rw[hB];rfl
  rw[e]
  refine zah (N:=15) hm hY1 41000 (lst []) zFH Tryz.func41 rfl rfl (by simp) (by kernel_rfl) ?_
  repeat'(first|refine zaj.i hb fun _=>?_|refine zaj.i hng fun _=>?_|refine And.intro ?_ ?_|exact True.intro|refine rq fun _=>?_|simp only[go_sem,hB,zad,zab,Tryz.f41])
def zxK:Tv:=(.q 0 (.q 1 (.q 2 (.q 3 (.q 4 (.q 6 (.q 7 (.br [(5,(.q 8 (.q 9 (.q 10 (.br [(11,(.q 12 (.q 13 (.q 14 (.q 15 (.br [(16,(.q 17 .leaf))])))))),(13,(.br [(11,(.q 12 (.q 14 (.q 15 (.br [(16,(.q 17 .leaf))])))))]))]))))),(8,(.q 9 (.br [(5,(.q 10 (.br [(11,(.q 12 (.q 13 (.q 14 (.q 15 (.br [(16,(.q 17 .leaf))])))))),(13,(.br [(11,(.q 12 (.q 14 (.q 15 (.br [(16,(.q 17 .leaf))])))))]))]))),(10,(.br [(5,(.br [(11,(.q 12 (.q 13 (.q 14 (.q 15 (.br [(16,(.q 17 .leaf))])))))),(13,(.br [(11,(.q 12 (.q 14 (.q 15 (.br [(16,(.q 17 .leaf))])))))]))])),(13,(.br [(5,(.br [(11,(.q 12 (.q 14 (.q 15 (.br [(16,(.q 17 .leaf))])))))]))]))])),(13,(.br [(5,(.q 10 (.br [(11,(.q 12 (.q 14 (.q 15 (.br [(16,(.q 17 .leaf))])))))]))),(10,(.br [(5,(.br [(11,(.q 12 (.q 14 (.q 15 (.br [(16,(.q 17 .leaf))])))))]))]))]))]))),(13,(.br [(5,(.q 8 (.q 9 (.q 10 (.br [(11,(.q 12 (.q 14 (.q 15 (.br [(16,(.q 17 .leaf))])))))]))))),(8,(.q 9 (.br [(5,(.q 10 (.br [(11,(.q 12 (.q 14 (.q 15 (.br [(16,(.q 17 .leaf))])))))]))),(10,(.br [(5,(.br [(11,(.q 12 (.q 14 (.q 15 (.br [(16,(.q 17 .leaf))])))))]))]))])))]))]))))))))
def zxL:Tv:=(.q 0 (.q 1 (.q 2 (.q 3 (.q 4 (.q 6 (.q 7 (.br [(5,(.q 8 (.q 9 (.q 10 (.br [(11,(.q 12 (.q 13 (.q 14 (.q 15 (.br [(16,(.q 17 .leaf))])))))),(13,(.br [(11,(.q 12 (.q 14 (.q 15 (.br [(16,(.q 17 .leaf))])))))]))]))))),(8,(.q 9 (.br [(5,(.q 10 (.br [(11,(.q 12 (.q 13 (.q 14 (.q 15 (.br [(16,(.q 17 .leaf))])))))),(13,(.br [(11,(.q 12 (.q 14 (.q 15 (.br [(16,(.q 17 .leaf))])))))]))]))),(10,(.br [(5,(.br [(11,(.q 12 (.q 13 (.q 14 (.q 15 (.br [(16,(.q 17 .leaf))])))))),(13,(.br [(11,(.q 12 (.q 14 (.q 15 (.br [(16,(.q 17 .leaf))])))))]))])),(13,(.br [(5,(.br [(11,(.q 12 (.q 14 (.q 15 (.br [(16,(.q 17 .leaf))])))))]))]))])),(13,(.br [(5,(.q 10 (.br [(11,(.q 12 (.q 14 (.q 15 (.br [(16,(.q 17 .leaf))])))))]))),(10,(.br [(5,(.br [(11,(.q 12 (.q 14 (.q 15 (.br [(16,(.q 17 .leaf))])))))]))]))]))]))),(13,(.br [(5,(.q 8 (.q 9 (.q 10 (.br [(11,(.q 12 (.q 14 (.q 15 (.br [(16,(.q 17 .leaf))])))))]))))),(8,(.q 9 (.br [(5,(.q 10 (.br [(11,(.q 12 (.q 14 (.q 15 (.br [(16,(.q 17 .leaf))])))))]))),(10,(.br [(5,(.br [(11,(.q 12 (.q 14 (.q 15 (.br [(16,(.q 17 .leaf))])))))]))]))])))]))]))))))))
def zxM:Tv:=(.q 0 (.q 1 (.q 2 (.q 3 (.q 4 (.q 5 (.q 6 (.q 7 (.q 8 (.q 9 (.br [(10,(.q 11 (.q 12 (.q 13 (.q 14 (.br [(15,(.q 16 .leaf))])))))),(12,(.br [(10,(.q 11 (.q 13 (.q 14 (.br [(15,(.q 16 .leaf))])))))]))])))))))))))
def zuo:Tv:=(.q 0 (.q 1 (.q 2 (.br [(3,(.q 4 .leaf))]))))
def zup:Tv:=(.q 0 (.q 1 (.q 2 (.br [(3,(.q 4 .leaf))]))))
def zuq:Tv:=(.q 0 (.q 1 (.q 2 (.q 3 (.q 4 (.br [(5,(.q 6 (.q 7 (.q 8 (.q 9 (.br [(10,(.q 11 .leaf))])))))),(7,(.br [(5,(.q 6 (.q 8 (.q 9 (.br [(10,(.q 11 .leaf))])))))]))]))))))
def zur:Tv:=(.q 0 (.q 1 (.q 2 (.q 3 (.q 4 (.q 5 (.q 6 (.q 7 (.q 8 (.q 9 (.q 10 (.q 11 (.q 12 (.q 13 (.br [(14,(.q 15 .leaf))])))))))))))))))
def zus:Tv:=(.q 0 (.q 1 (.q 2 (.q 3 (.q 4 (.q 5 (.q 6 (.q 7 (.q 8 (.q 9 (.q 10 (.q 11 (.q 12 (.q 13 (.br [(14,(.q 15 .leaf))])))))))))))))))
def zut:Tv:=(.q 0 (.q 1 (.q 2 (.q 3 (.q 4 (.q 6 (.br [(5,(.q 7 (.q 8 (.q 9 (.q 10 (.q 11 (.q 12 (.q 13 (.q 14 (.br [(15,(.q 16 .leaf))])))))))))),(7,(.q 8 (.br [(5,(.q 9 (.q 10 (.q 11 (.q 12 (.q 13 (.q 14 (.br [(15,(.q 16 .leaf))])))))))),(9,(.br [(5,(.q 10 (.q 11 (.q 12 (.q 13 (.q 14 (.br [(15,(.q 16 .leaf))]))))))),(12,(.br [(5,(.q 10 (.q 11 (.q 13 (.q 14 (.br [(15,(.q 16 .leaf))]))))))]))])),(12,(.br [(5,(.q 9 (.q 10 (.q 11 (.q 13 (.q 14 (.br [(15,(.q 16 .leaf))]))))))),(9,(.br [(5,(.q 10 (.q 11 (.q 13 (.q 14 (.br [(15,(.q 16 .leaf))]))))))]))]))]))),(12,(.br [(5,(.q 7 (.q 8 (.q 9 (.q 10 (.q 11 (.q 13 (.q 14 (.br [(15,(.q 16 .leaf))]))))))))),(7,(.q 8 (.br [(5,(.q 9 (.q 10 (.q 11 (.q 13 (.q 14 (.br [(15,(.q 16 .leaf))]))))))),(9,(.br [(5,(.q 10 (.q 11 (.q 13 (.q 14 (.br [(15,(.q 16 .leaf))]))))))]))])))]))])))))))
def zuu:Tv:=(.q 0 (.q 1 (.q 2 (.br [(3,(.q 4 .leaf))]))))
def zuv:Tv:=(.q 0 (.q 1 (.q 2 (.br [(3,(.q 4 .leaf))]))))
def zlt:Tv:=(.q 0 (.q 1 (.q 2 (.br [(3,(.q 4 .leaf))]))))
theorem zeu {a:Abs.zac}(h:brF a):a.fit=true∧a.size≤1000:=⟨h.ft,by have:=h.s;omega⟩
theorem zft {a:Abs.zac}(h:brF a):a.fit=true∧a.size≤900:=⟨h.ft,by have:=h.s;omega⟩
def Y3:Tbl:=Y2.add 35 (zCe zag brF)
attribute [go_sem] Y3
set_option maxHeartbeats 16000000 in
theorem hY3:zap Tryz.prog GA Y3:=by
 refine zzb zpt hY2 fun f hbr _=>?_
 have zk:zbk.kind=0:=rfl
 have zn:zbk.name.l=[]:=rfl
 have zw:zbk.words=[]:=rfl
 have zs:zbk.subs=[]:=rfl
 have hkb:=zbf.1 hbr.v
 have hk1:=hkb.1
 have hk2:=hkb.2.1
 clear hkb
 by_cases k5:f.kind=5
 ·obtain⟨a,b,hab,s0,s1,ha,hb⟩:=zd8 hbr (by omega)
  have pa:=zeu ha
  have pb:=zeu hb
  obtain⟨A,hA⟩:∃A,zau a []=A:=⟨_,rfl⟩
  obtain⟨B,hB⟩:∃B,zau b []=B:=⟨_,rfl⟩
  have e:zag f=(1,[A,B],zbk,false):=by
   unfold zag
   rw[s0,s1,k5,←hA,←hB];rfl
  rw[e]
  clear e s0 s1 ha hb
  refine zah (N:=131) hm hY2 35000 (lst [1000004,1000006,1000008,1000010,1000012,1000017,1000019,1000021,1000023,1000025,1000027,1000028]) zpt Tryz.func35 rfl rfl (by simp) (by kernel_rfl) ?_
  repeat'(first|refine zaj.i pa fun _=>?_|refine zaj.i pb fun _=>?_|refine zae (id:=4) hm hY2 35000 (lst [1000004,1000006,1000008,1000010,1000012,1000017,1000019,1000021,1000023,1000025,1000027,1000028]) zxK (by kernel_rfl) (by kernel_rfl) ?_|refine And.intro ?_ ?_|exact True.intro|refine rq fun _=>?_|simp only[go_sem,k5,hab,hA,hB,zxK,zk,zn,zw,zs,zab,zaa,Tryz.f35])
 by_cases k6:f.kind=6
 ·obtain⟨a,b,hab,s0,s1,ha,hb⟩:=zd8 hbr (by omega)
  have pa:=zeu ha
  have pb:=zeu hb
  obtain⟨A,hA⟩:∃A,zau a []=A:=⟨_,rfl⟩
  obtain⟨B,hB⟩:∃B,zau b []=B:=⟨_,rfl⟩
  have e:zag f=(2,[A,B],zbk,false):=by
   unfold zag
   rw[s0,s1,k6,←hA,←hB];rfl
  rw[e]
  clear e s0 s1 ha hb
  refine zah (N:=131) hm hY2 35000 (lst [1000004,1000006,1000008,1000010,1000012,1000017,1000019,1000021,1000023,1000025,1000027,1000028]) zpt Tryz.func35 rfl rfl (by simp) (by kernel_rfl) ?_
  repeat'(first|refine zaj.i pa fun _=>?_|refine zaj.i pb fun _=>?_|refine zae (id:=6) hm hY2 35000 (lst [1000004,1000006,1000008,1000010,1000012,1000017,1000019,1000021,1000023,1000025,1000027,1000028]) zxL (by kernel_rfl) (by kernel_rfl) ?_|refine And.intro ?_ ?_|exact True.intro|refine rq fun _=>?_|simp only[go_sem,k6,hab,hA,hB,zxL,zk,zn,zw,zs,zab,zaa,Tryz.f35])
 by_cases k7:f.kind=7
 ·obtain⟨a,b,hab,s0,s1,ha,hb⟩:=zd8 hbr (by omega)
  have pa:=zft ha
  have pb:=zeu hb
  obtain⟨A,hA⟩:∃A,zmU a=A:=⟨_,rfl⟩
  obtain⟨B,hB⟩:∃B,zau b []=B:=⟨_,rfl⟩
  have e:zag f=(2,[A,B],zbk,false):=by
   unfold zag
   rw[s0,s1,k7,←hA,←hB];rfl
  rw[e]
  clear e s0 s1 ha hb
  refine zah (N:=131) hm hY2 35000 (lst [1000004,1000006,1000008,1000010,1000012,1000017,1000019,1000021,1000023,1000025,1000027,1000028]) zpt Tryz.func35 rfl rfl (by simp) (by kernel_rfl) ?_
  repeat'(first|refine zaj.i pa fun _=>?_|refine zaj.i pb fun _=>?_|refine zae (id:=8) hm hY2 35000 (lst [1000004,1000006,1000008,1000010,1000012,1000017,1000019,1000021,1000023,1000025,1000027,1000028]) zxM (by kernel_rfl) (by kernel_rfl) ?_|refine And.intro ?_ ?_|exact True.intro|refine rq fun _=>?_|simp only[go_sem,k7,hab,hA,hB,zxM,zk,zn,zw,zs,zab,zaa,Tryz.f35])
 by_cases k8:f.kind=8
 ·have eF:Abs.zac.mk 8 f.name f.words f.subs=f:=by rw[←k8];exact zab
  have e:zag f=(3,[],f,false):=by
   unfold zag
   rw[k8];rfl
  rw[e]
  clear e
  refine zah (N:=131) hm hY2 35000 (lst [1000004,1000006,1000008,1000010,1000012,1000017,1000019,1000021,1000023,1000025,1000027,1000028]) zpt Tryz.func35 rfl rfl (by simp) (by kernel_rfl) ?_
  repeat'(first|refine zae (id:=10) hm hY2 35000 (lst [1000004,1000006,1000008,1000010,1000012,1000017,1000019,1000021,1000023,1000025,1000027,1000028]) zuo (by kernel_rfl) (by kernel_rfl) ?_|refine And.intro ?_ ?_|exact True.intro|refine rq fun _=>?_|simp only[go_sem,k8,eF,zuo,zk,zn,zw,zs,zab,zaa,Tryz.f35])
 by_cases k9:f.kind=9
 ·have eF:Abs.zac.mk 9 f.name f.words f.subs=f:=by rw[←k9];exact zab
  have e:zag f=(4,[],f,false):=by
   unfold zag
   rw[k9];rfl
  rw[e]
  clear e
  refine zah (N:=131) hm hY2 35000 (lst [1000004,1000006,1000008,1000010,1000012,1000017,1000019,1000021,1000023,1000025,1000027,1000028]) zpt Tryz.func35 rfl rfl (by simp) (by kernel_rfl) ?_
  repeat'(first|refine zae (id:=12) hm hY2 35000 (lst [1000004,1000006,1000008,1000010,1000012,1000017,1000019,1000021,1000023,1000025,1000027,1000028]) zup (by kernel_rfl) (by kernel_rfl) ?_|refine And.intro ?_ ?_|exact True.intro|refine rq fun _=>?_|simp only[go_sem,k9,eF,zup,zk,zn,zw,zs,zab,zaa,Tryz.f35])
 by_cases k4:f.kind=4
 ·obtain⟨g,hg,s0,hbg⟩:=zdd hbr (.inl k4)
  have hgk:=zbf.1 hbg.v
  have hg1:=hgk.1
  have hg2:=hgk.2.1
  clear hgk
  by_cases j4:g.kind=4
  ·obtain⟨a,ha0,t0,ha⟩:=zdd hbg (.inl j4)
   have pa:=zeu ha
   obtain⟨A,hA⟩:∃A,zau a []=A:=⟨_,rfl⟩
   have e:zag f=(1,[A],zbk,false):=by
    unfold zag
    rw[s0,t0,k4,j4,←hA];rfl
   rw[e]
   clear e s0 t0 ha
   refine zah (N:=131) hm hY2 35000 (lst [1000004,1000006,1000008,1000010,1000012,1000017,1000019,1000021,1000023,1000025,1000027,1000028]) zpt Tryz.func35 rfl rfl (by simp) (by kernel_rfl) ?_
   repeat'(first|refine zaj.i pa fun _=>?_|refine zae (id:=17) hm hY2 35000 (lst [1000004,1000006,1000008,1000010,1000012,1000017,1000019,1000021,1000023,1000025,1000027,1000028]) zuq (by kernel_rfl) (by kernel_rfl) ?_|refine And.intro ?_ ?_|exact True.intro|refine rq fun _=>?_|simp only[go_sem,k4,j4,hg,ha0,hA,zuq,zk,zn,zw,zs,zab,zaa,Tryz.f35])
  by_cases j5:g.kind=5
  ·obtain⟨a,b,hab,t0,t1,ha,hb⟩:=zd8 hbg (by omega)
   have pa:=zft ha
   have pb:=zft hb
   obtain⟨A,hA⟩:∃A,zmU a=A:=⟨_,rfl⟩
   obtain⟨B,hB⟩:∃B,zmU b=B:=⟨_,rfl⟩
   have e:zag f=(2,[A,B],zbk,false):=by
    unfold zag
    rw[s0,t0,t1,k4,j5,←hA,←hB];rfl
   rw[e]
   clear e s0 t0 t1 ha hb
   refine zah (N:=131) hm hY2 35000 (lst [1000004,1000006,1000008,1000010,1000012,1000017,1000019,1000021,1000023,1000025,1000027,1000028]) zpt Tryz.func35 rfl rfl (by simp) (by kernel_rfl) ?_
   repeat'(first|refine zaj.i pa fun _=>?_|refine zaj.i pb fun _=>?_|refine zae (id:=19) hm hY2 35000 (lst [1000004,1000006,1000008,1000010,1000012,1000017,1000019,1000021,1000023,1000025,1000027,1000028]) zur (by kernel_rfl) (by kernel_rfl) ?_|refine And.intro ?_ ?_|exact True.intro|refine rq fun _=>?_|simp only[go_sem,k4,j5,hg,hab,hA,hB,zur,zk,zn,zw,zs,zab,zaa,Tryz.f35])
  by_cases j6:g.kind=6
  ·obtain⟨a,b,hab,t0,t1,ha,hb⟩:=zd8 hbg (by omega)
   have pa:=zft ha
   have pb:=zft hb
   obtain⟨A,hA⟩:∃A,zmU a=A:=⟨_,rfl⟩
   obtain⟨B,hB⟩:∃B,zmU b=B:=⟨_,rfl⟩
   have e:zag f=(1,[A,B],zbk,false):=by
    unfold zag
    rw[s0,t0,t1,k4,j6,←hA,←hB];rfl
   rw[e]
   clear e s0 t0 t1 ha hb
   refine zah (N:=131) hm hY2 35000 (lst [1000004,1000006,1000008,1000010,1000012,1000017,1000019,1000021,1000023,1000025,1000027,1000028]) zpt Tryz.func35 rfl rfl (by simp) (by kernel_rfl) ?_
   repeat'(first|refine zaj.i pa fun _=>?_|refine zaj.i pb fun _=>?_|refine zae (id:=21) hm hY2 35000 (lst [1000004,1000006,1000008,1000010,1000012,1000017,1000019,1000021,1000023,1000025,1000027,1000028]) zus (by kernel_rfl) (by kernel_rfl) ?_|refine And.intro ?_ ?_|exact True.intro|refine rq fun _=>?_|simp only[go_sem,k4,j6,hg,hab,hA,hB,zus,zk,zn,zw,zs,zab,zaa,Tryz.f35])
  by_cases j7:g.kind=7
  ·obtain⟨a,b,hab,t0,t1,ha,hb⟩:=zd8 hbg (by omega)
   have pa:=zeu ha
   have pb:=zft hb
   obtain⟨A,hA⟩:∃A,zau a []=A:=⟨_,rfl⟩
   obtain⟨B,hB⟩:∃B,zmU b=B:=⟨_,rfl⟩
   have e:zag f=(1,[A,B],zbk,false):=by
    unfold zag
    rw[s0,t0,t1,k4,j7,←hA,←hB];rfl
   rw[e]
   clear e s0 t0 t1 ha hb
   refine zah (N:=131) hm hY2 35000 (lst [1000004,1000006,1000008,1000010,1000012,1000017,1000019,1000021,1000023,1000025,1000027,1000028]) zpt Tryz.func35 rfl rfl (by simp) (by kernel_rfl) ?_
   repeat'(first|refine zaj.i pa fun _=>?_|refine zaj.i pb fun _=>?_|refine zae (id:=23) hm hY2 35000 (lst [1000004,1000006,1000008,1000010,1000012,1000017,1000019,1000021,1000023,1000025,1000027,1000028]) zut (by kernel_rfl) (by kernel_rfl) ?_|refine And.intro ?_ ?_|exact True.intro|refine rq fun _=>?_|simp only[go_sem,k4,j7,hg,hab,hA,hB,zut,zk,zn,zw,zs,zab,zaa,Tryz.f35])
  by_cases j8:g.kind=8
  ·have eF:Abs.zac.mk 8 g.name g.words g.subs=g:=by rw[←j8];exact zab
   have e:zag f=(4,[],g,true):=by
    unfold zag
    rw[s0,k4,j8];rfl
   rw[e]
   clear e s0
   refine zah (N:=131) hm hY2 35000 (lst [1000004,1000006,1000008,1000010,1000012,1000017,1000019,1000021,1000023,1000025,1000027,1000028]) zpt Tryz.func35 rfl rfl (by simp) (by kernel_rfl) ?_
   repeat'(first|refine zae (id:=25) hm hY2 35000 (lst [1000004,1000006,1000008,1000010,1000012,1000017,1000019,1000021,1000023,1000025,1000027,1000028]) zuu (by kernel_rfl) (by kernel_rfl) ?_|refine And.intro ?_ ?_|exact True.intro|refine rq fun _=>?_|simp only[go_sem,k4,j8,hg,eF,zuu,zk,zn,zw,zs,zab,zaa,Tryz.f35])
  by_cases j9:g.kind=9
  ·have eF:Abs.zac.mk 9 g.name g.words g.subs=g:=by rw[←j9];exact zab
   have e:zag f=(3,[],g,true):=by
    unfold zag
    rw[s0,k4,j9];rfl
   rw[e]
   clear e s0
   refine zah (N:=131) hm hY2 35000 (lst [1000004,1000006,1000008,1000010,1000012,1000017,1000019,1000021,1000023,1000025,1000027,1000028]) zpt Tryz.func35 rfl rfl (by simp) (by kernel_rfl) ?_
   repeat'(first|refine zae (id:=27) hm hY2 35000 (lst [1000004,1000006,1000008,1000010,1000012,1000017,1000019,1000021,1000023,1000025,1000027,1000028]) zuv (by kernel_rfl) (by kernel_rfl) ?_|refine And.intro ?_ ?_|exact True.intro|refine rq fun _=>?_|simp only[go_sem,k4,j9,hg,eF,zuv,zk,zn,zw,zs,zab,zaa,Tryz.f35])
  have e:zag f=(0,[],zbk,false):=by
   unfold zag
   rw[s0,k4]
   simp only[j4,j5,j6,j7,j8,j9,if_false]
   rfl
  rw[e]
  clear e s0
  refine zah (N:=131) hm hY2 35000 (lst [1000004,1000006,1000008,1000010,1000012,1000017,1000019,1000021,1000023,1000025,1000027,1000028]) zpt Tryz.func35 rfl rfl (by simp) (by kernel_rfl) ?_
  repeat'(first|refine zae (id:=28) hm hY2 35000 (lst [1000004,1000006,1000008,1000010,1000012,1000017,1000019,1000021,1000023,1000025,1000027,1000028]) zlt (by kernel_rfl) (by kernel_rfl) ?_|refine And.intro ?_ ?_|exact True.intro|refine rq fun _=>?_|simp only[go_sem,k4,hg,j4,j5,j6,j7,j8,j9,zlt,zk,zn,zw,zs,zab,zaa,Tryz.f35])
 have e:zag f=(0,[],zbk,false):=by
  unfold zag
  simp only[k4,k5,k6,k7,k8,k9,if_false]
 rw[e]
 clear e
 refine zah (N:=131) hm hY2 35000 (lst [1000004,1000006,1000008,1000010,1000012,1000017,1000019,1000021,1000023,1000025,1000027,1000028]) zpt Tryz.func35 rfl rfl (by simp) (by kernel_rfl) ?_
 repeat'(first|refine zae (id:=28) hm hY2 35000 (lst [1000004,1000006,1000008,1000010,1000012,1000017,1000019,1000021,1000023,1000025,1000027,1000028]) zlt (by kernel_rfl) (by kernel_rfl) ?_|refine And.intro ?_ ?_|exact True.intro|refine rq fun _=>?_|simp only[go_sem,k4,k5,k6,k7,k8,k9,zlt,zk,zn,zw,zs,zab,zaa,Tryz.f35])
end Go.Proofs.YtdlioodgfopmfaaGreatDoor
namespace Go.Proofs.YtdlioodgfopmfaaGreatDoor
open Go Go.Abs Go.Proofs
theorem zrv {f:Abs.zac}(h:(cst f []).isEmpty=true):zba f=[]:=by
 cases hu:zba f with
 |nil=>rfl
 |cons x l=>
  have:=(zbz f x).1 (by rw[hu];simp)
  rw[List.isEmpty_iff.1 h]at this
  simp at this
def Y4:Tbl:=Y3.add 58 (sp1 zba brF)
attribute [go_sem] Y4
theorem hY4:zap Tryz.prog GA Y4:=by
 refine zbM zHC hY3 fun f hp hw=>?_
 have hl:=zeV hp.ft []
 have hs:=hp.s
 refine zbb (f58 hw (by omega) (by omega)) ?_
 rintro d H n ⟨g,hg,rfl,ho⟩
 obtain⟨U,hU⟩:∃U,zba f=U:=⟨_,rfl⟩
 have hn:(cst f []).isEmpty=true→U=[]:=fun h=>by rw[←hU];exact zrv h
 rw[hU]at ho ⊢
 refine⟨.fz (.sl (U.map enc)),H0,n,?_,rfl⟩
 have e:H0=hpL []:=rfl
 rw[e]
 refine zbl [] [] [((76024,g),U.map enc)] ?_ ?_ ?_ ?_ ?_<;>simp only[go_sem,ho]
 intro h
 rw[hn h];rfl
def Y5:Tbl:=Y4
attribute [go_sem] Y5
theorem hY5:zap Tryz.prog GA Y5:=hY4
structure zDZ (c:List zaR)(w0:Str) where
 w:Str
 i:Nat
 j:Nat
 hi:i≤c.length
 hj:j≤c.length
 hr:zaB c w=zaB c w0
 h1:Kp (∀k (hk:k<c.length),k<i→c[k].fr≠w)
 h2:Kp (∀k (hk:k<c.length),k<j→c[k].fr≠w)
def Y6:Tbl:=Y5.add 73 (sp2 zaB fun c _=>wfC c∧c.length≤1000000)
attribute [go_sem] Y6
theorem hY6:zap Tryz.prog GA Y6:=by
 refine zcy zHL hY5 fun c w0 hp _ _=>?_
 obtain⟨hwf,hcl⟩:=hp
 obtain⟨R,hR⟩:∃R,zaB c w0=R:=⟨_,rfl⟩
 rw[hR]
 have kw:=Kp.mk hwf
 clear hwf
 refine zah (N:=25) hm hY5 73000 (lst []) zHL Tryz.func73 rfl rfl (by simp) (by kernel_rfl) ?_
 repeat'(first|refine And.intro ?_ ?_|exact True.intro|refine rq fun _=>?_|simp only[go_sem,Tryz.f73])
 refine zao hm hY5 73000 (lst []) (ι:=zDZ c w0)
  ⟨fun q=>⟨frL [(0,.fz (.sl (c.map enc))),(1,.fz (.s q.w.l)),(5,.fz (.i .i64 q.i))],hpL [],0⟩,fun q=>(c.length-q.j)*(c.length+2)+(c.length-q.i)⟩
  ⟨w0,0,0,by omega,by omega,rfl,⟨fun k hk h=>absurd h (by omega)⟩,⟨fun k hk h=>absurd h (by omega)⟩⟩ (by kernel_rfl) ?_ ?_
 ·refine zai ?_ ?_ ?_<;>simp only[go_sem]
  all_goals first|done|rfl|omega
 rintro⟨w,i,j,hi,hj,hr,k1,k2⟩
 try simp only at hi hj hr
 rcases Nat.lt_or_ge i c.length with h6|h6
 ·obtain⟨x,hx⟩:∃x,c[i]=x:=⟨_,rfl⟩
  by_cases hm2:x.fr=w
  ·have hml:(x.fr.l=w.l)=True:=eq_true (by rw[hm2])
   have hij:j≤i:=by
    rcases Nat.lt_or_ge i j with h|h
    ·exact absurd (by rw[hx];exact hm2) (k2.out i h6 h)
    ·exact h
   repeat'(first|refine And.intro ?_ ?_|exact True.intro|refine rq fun _=>?_|simp only[go_sem,h6,hx,hml,zaa,zad,Tryz.f73])
   refine⟨⟨x.to,0,i+1,by omega,by omega,?_,⟨fun k hk h=>absurd h (by omega)⟩,⟨fun k hk h=>?_⟩⟩,?_,?_⟩
   ·have:=zrg kw.out h6
    rw[hx,hm2]at this
    rw[←this,hr]
   ·rw[←hx]
    exact kw.out.t i k h6 hk (by omega)
   ·simp only
    have a1:(c.length-(i+1))+1≤c.length-j:=by omega
    have a2:=Nat.mul_le_mul_right (c.length+2) a1
    rw[Nat.succ_mul]at a2
    omega
   refine zai ?_ ?_ ?_<;>simp only[go_sem]
   all_goals first|done|rfl|omega
  ·have hml:(x.fr.l=w.l)=False:=eq_false fun h=>hm2 (show(⟨x.fr.l⟩:Str)=⟨w.l⟩ by rw[h])
   repeat'(first|refine And.intro ?_ ?_|exact True.intro|refine rq fun _=>?_|simp only[go_sem,h6,hx,hml,zaa,zad,Tryz.f73])
   refine⟨⟨w,i+1,j,by omega,by omega,hr,⟨fun k hk h=>?_⟩,k2⟩,by simp only;omega,?_⟩
   ·rcases Nat.lt_or_ge k i with h7|h7
    ·exact k1.out k hk h7
    ·obtain rfl:k=i:=by omega
     rw[hx];exact hm2
   refine zai ?_ ?_ ?_<;>simp only[go_sem]
   all_goals first|done|rfl|omega
 obtain rfl:i=c.length:=by omega
 have hw:zaB c w=w:=zgv fun l hl=>by
  obtain⟨k,hk,rfl⟩:=List.getElem_of_mem hl
  exact k1.out k hk hk
 have hwR:w=R:=by rw[←hw,hr,hR]
 subst hwR
 repeat'(first|refine And.intro ?_ ?_|exact True.intro|refine rq fun _=>?_|simp only[go_sem,Nat.lt_irrefl,zad,Tryz.f73])
end Go.Proofs.YtdlioodgfopmfaaGreatDoor
namespace Go.Proofs.YtdlioodgfopmfaaGreatDoor
open Go Go.Abs Go.Proofs
def Y7:Tbl:=Y6.add 55 (sp1 zeM fun l=>(∀f∈l,brF f)∧l.length≤100000)
attribute [go_sem] Y7
set_option maxHeartbeats 4000000 in
theorem hY7:zap Tryz.prog GA Y7:=by
 refine zbM zHB hY6 fun l hp _=>?_
 obtain⟨hbr,hsl⟩:=hp
 have kb:=Kp.mk hbr
 clear hbr
 refine zah (N:=40) hm hY6 55000 (lsw [37] []) zHB Tryz.func55 rfl rfl (by simp) (by kernel_rfl) ?_
 repeat'(first|refine And.intro ?_ ?_|exact True.intro|refine rq fun _=>?_|simp only[go_sem,Tryz.f55])
 refine zao hm hY6 55000 (lsw [37] []) (ι:=zkj l.length 1 fun _=>True)
  ⟨fun q=>⟨frL [(3,.ow (55037,q.g) 2 ((zeM (l.take q.i)).map enc)),(8,.fz (.sl (l.map enc))),(9,.fz (.i .i64 l.length)),(10,.fz (.i .i64 q.i))],
   hpL [((55037,q.g),some tok)],q.m⟩,fun q=>l.length-q.i⟩
  ⟨0,0,1,by omega,by omega,by omega,trivial⟩ (by kernel_rfl) ?_ ?_
 ·refine zbl [] [(55037,0)] [] ?_ ?_ ?_ ?_ ?_<;>simp only[go_sem,zeM]
  all_goals first|done|rfl|omega
 rintro⟨i,g,m,hi,hg,hm1,_⟩
 try simp only at hi hg hm1
 rcases Nat.lt_or_ge i l.length with h1|h1
 ·obtain⟨x,hx⟩:∃x,l[i]=x:=⟨_,rfl⟩
  have hxb:brF x:=kb.out x (by rw[←hx];exact List.getElem_mem h1)
  have et:zeM (l.take (i+1))=zjT (zeM (l.take i)) x:=by rw[List.take_succ_eq_append_getElem h1,zsp,hx]
  obtain⟨hwf,hcl⟩:=zw7 (l.take i)
  rw[List.length_take]at hcl
  obtain⟨c,hc⟩:∃c,zeM (l.take i)=c:=⟨_,rfl⟩
  rw[hc]at et hwf hcl
  have hcp:wfC c∧c.length≤1000000:=⟨hwf,by omega⟩
  by_cases hk:x.kind=3
  ·obtain⟨a,b,hab⟩:∃a b,x.words=[a,b]:=by
    have h2:=(zbf.1 hxb.v).2.2.2.1 hk
    match h:x.words,h2 with
    |[a,b],_=>exact⟨a,b,rfl⟩
   have el:zjT c x=if zaB c a=zaB c b then c else c++[⟨zaB c a,zaB c b⟩]:=by
    unfold zjT
    rw[if_neg (by simp[hk]),hab];rfl
   rw[el]at et
   obtain⟨ra,hra⟩:∃r,zaB c a=r:=⟨_,rfl⟩
   obtain⟨rb,hrb⟩:∃r,zaB c b=r:=⟨_,rfl⟩
   rw[hra,hrb]at et
   clear el hwf hxb
   by_cases hab2:ra=rb
   ·rw[if_pos hab2]at et
    have hl:(ra.l=rb.l)=True:=eq_true (by rw[hab2])
    repeat'(first|refine zaj.i hcp fun _=>?_|refine And.intro ?_ ?_|exact True.intro|refine rq fun _=>?_|simp only[go_sem,h1,hx,hc,hk,hab,hra,hrb,hl,zaa,zad,zab,Tryz.f55])
    refine⟨⟨i+1,g,m+1,by omega,by omega,by omega,trivial⟩,by simp only;omega,?_⟩
    refine zai ?_ ?_ ?_<;>simp only[go_sem,et]
    all_goals first|done|rfl|omega
   ·rw[if_neg hab2]at et
    have hl:(ra.l=rb.l)=False:=eq_false fun h=>hab2 (show(⟨ra.l⟩:Str)=⟨rb.l⟩ by rw[h])
    repeat'(first|refine zaj.i hcp fun _=>?_|refine rf fun _=>?_|refine And.intro ?_ ?_|exact True.intro|refine rq fun _=>?_|simp only[go_sem,h1,hx,hc,hk,hab,hra,hrb,hl,zaa,zad,zab,Tryz.f55])
    refine⟨⟨i+1,m+1,m+2,by omega,by omega,by omega,trivial⟩,by simp only;omega,?_⟩
    refine zai ?_ ?_ ?_<;>simp only[go_sem,et,List.map_append]
    all_goals first|done|rfl|omega
  ·have el:zjT c x=c:=by unfold zjT;rw[if_pos hk]
   rw[el]at et
   repeat'(first|refine And.intro ?_ ?_|exact True.intro|refine rq fun _=>?_|simp only[go_sem,h1,hx,hc,hk,zaa,zad,zab,Tryz.f55])
   refine⟨⟨i+1,g,m+1,by omega,by omega,by omega,trivial⟩,by simp only;omega,?_⟩
   refine zai ?_ ?_ ?_<;>simp only[go_sem,et]
   all_goals first|done|rfl|omega
 ·obtain rfl:i=l.length:=by omega
  repeat'(first|refine And.intro ?_ ?_|exact True.intro|refine rq fun _=>?_|simp only[go_sem,Nat.lt_irrefl,List.take_length,Tryz.f55])
theorem f75 {c:List zaR}{a b:Str}{id:Abs.Id}{H:zaw}{n:Nat}{R:D→zaw→Nat→Prop}(_hid:id.2<n)(ho:H id=some ⟨[.fz (.sl (c.map enc))],true,false⟩)(hc:wfC c∧c.length≤1000000)
  (hR:∀n',n≤n'→R (.fz (.b (decide (zaB c a=zaB c b)))) H n'):zaA Tryz.prog GA 75 [.fz (.s a.l),.fz (.s b.l),.ptr id 0] H n R:=by
 refine zgK zHN (fun hfr=>?_) hR
 obtain⟨ra,hra⟩:∃r,zaB c a=r:=⟨_,rfl⟩
 obtain⟨rb,hrb⟩:∃r,zaB c b=r:=⟨_,rfl⟩
 rw[hra,hrb]
 obtain⟨Q,hQ⟩:∃Q:D→zaw→Nat→Prop,Q=(fun d' H' n'=>d'= .fz (.b (decide (ra=rb)))∧n≤n'∧∀id,id.2<n→H' id=H id):=⟨_,rfl⟩
 rw[←hQ]
 have e:H=hpX [] H:=rfl
 rw[e]
 refine zah (N:=13) hm hY7 75000 (lst []) zHN Tryz.func75 rfl rfl (by simp) (by kernel_rfl) ?_
 repeat'(first|refine zaj.i hc fun _=>?_|refine And.intro ?_ ?_|exact True.intro|refine rq fun _=>?_|simp only[go_sem,ho,hra,hrb,zad,hpX,Tryz.f75])
 all_goals
  rw[hQ]
  refine⟨?_,by omega,fun id _=>rfl⟩
  by_cases h:ra=rb
  ·simp[h]
  ·have:¬ra.l=rb.l:=fun e=>h (show(⟨ra.l⟩:Str)=⟨rb.l⟩ by rw[e])
   simp[h,this]
set_option maxHeartbeats 4000000 in
theorem f74 {c:List zaR}{a b:List Str}{id:Abs.Id}{H:zaw}{n:Nat}{R:D→zaw→Nat→Prop}(hid:id.2<n)(ho:H id=some ⟨[.fz (.sl (c.map enc))],true,false⟩)(hc:wfC c∧c.length≤1000000)(hal:a.length≤1000000)
  (hR:∀n',n≤n'→R (.fz (.b (decide (a.map (zaB c)=b.map (zaB c))))) H n'):zaA Tryz.prog GA 74 [.fz (.sl (a.map enc)),.fz (.sl (b.map enc)),.fn 75 [.ptr id 0]] H n R:=by
 refine zgK zHM (fun hfr=>?_) hR
 obtain⟨Q,hQ⟩:∃Q:D→zaw→Nat→Prop,Q=(fun d' H' n'=>d'= .fz (.b (decide (a.map (zaB c)=b.map (zaB c))))∧n≤n'∧∀id,id.2<n→H' id=H id):=⟨_,rfl⟩
 rw[←hQ]
 have hf:a.map (zaB c)≠b.map (zaB c)→∀{n'},n≤n'→Q (.fz (.b false)) H n':=fun h n' hn=>by
  rw[hQ];exact⟨by rw[decide_eq_false h],hn,fun _ _=>rfl⟩
 have ht:a.map (zaB c)=b.map (zaB c)→∀{n'},n≤n'→Q (.fz (.b true)) H n':=fun h n' hn=>by
  rw[hQ];exact⟨by rw[decide_eq_true h],hn,fun _ _=>rfl⟩
 have kf:=Kp.mk @hf
 have kt:=Kp.mk @ht
 clear hf ht hQ
 have e:H=hpX [] H:=rfl
 rw[e]
 refine zah (N:=32) hm hY7 74000 (lst []) zHM Tryz.func74 rfl rfl (by simp) (by kernel_rfl) ?_
 by_cases hl:a.length=b.length
 rotate_left
 ·have hl':((a.length:Int)=b.length)=False:=eq_false (by omega)
  repeat'(first|refine And.intro ?_ ?_|exact True.intro|refine rq fun _=>?_|simp only[go_sem,hl',Tryz.f74])
  all_goals exact kf.out (fun e=>hl (by have:=congrArg List.length e;simpa using this)) (Nat.le_refl _)
 have hl':((a.length:Int)=b.length)=True:=eq_true (by omega)
 repeat'(first|refine And.intro ?_ ?_|exact True.intro|refine rq fun _=>?_|simp only[go_sem,hl',Tryz.f74])
 refine zao hm hY7 74000 (lst []) (ι:=zep a.length n fun i=>(a.take i).map (zaB c)=(b.take i).map (zaB c))
  ⟨fun q=>⟨frL [(1,.fz (.sl (b.map enc))),(2,.fn 75 [.ptr id 0]),(15,.fz (.sl (a.map enc))),(16,.fz (.i .i64 a.length)),(17,.fz (.i .i64 q.i))],hpX [] H,q.m⟩,fun q=>a.length-q.i⟩
  ⟨0,n,by omega,Nat.le_refl _,rfl⟩ (by kernel_rfl) ?_ ?_
 ·refine zaT ?_ ?_ (fun id2 o2 ho2=>?_) ?_
  ·simp only[go_sem]
  ·simp only[go_sem]
  ·exact ho2
  ·first|omega|(simp only[go_sem];done)|(simp only[go_sem];omega)
 rintro⟨i,m,hi,hm1,hp⟩
 try simp only at hi hm1 hp
 rcases Nat.lt_or_ge i a.length with h1|h1
 ·have h2:i<b.length:=by omega
  obtain⟨x,hx⟩:∃x,a[i]=x:=⟨_,rfl⟩
  obtain⟨y,hy⟩:∃y,b[i]=y:=⟨_,rfl⟩
  by_cases hxy:zaB c x=zaB c y
  ·have hd:decide (zaB c x=zaB c y)=true:=decide_eq_true hxy
   repeat'(first|refine zaI.i (f75 (c:=c) (a:=x) (b:=y) (by omega) ho hc fun n' hn'=>?_)|refine And.intro ?_ ?_|exact True.intro|refine rq fun _=>?_|simp only[go_sem,h1,h2,hx,hy,hd,zaa,Tryz.f74])
   all_goals
    refine⟨⟨i+1,n',by omega,by omega,?_⟩,by simp only;omega,?_⟩
    ·rw[List.take_succ_eq_append_getElem h1,List.take_succ_eq_append_getElem h2,List.map_append,List.map_append,hp,hx,hy,List.map_cons,List.map_cons,hxy]
    refine zaT ?_ ?_ (fun id2 o2 ho2=>?_) ?_
    ·simp only[go_sem]
    ·simp only[go_sem]
    ·exact ho2
    ·first|omega|(simp only[go_sem];done)|(simp only[go_sem];omega)
  ·have hd:decide (zaB c x=zaB c y)=false:=decide_eq_false hxy
   repeat'(first|refine zaI.i (f75 (c:=c) (a:=x) (b:=y) (by omega) ho hc fun n' hn'=>?_)|refine And.intro ?_ ?_|exact True.intro|refine rq fun _=>?_|simp only[go_sem,h1,h2,hx,hy,hd,zaa,Tryz.f74])
   all_goals
    refine kf.out (fun e=>hxy ?_) (by omega)
    have:=congrArg (fun l=>l[i]?) e
    simp only[List.getElem?_map,List.getElem?_eq_getElem h1,List.getElem?_eq_getElem h2,hx,hy,Option.map_some,Option.some.injEq]at this
    exact this
 ·obtain rfl:i=a.length:=by omega
  have h1':¬a.length<a.length:=by omega
  repeat'(first|refine And.intro ?_ ?_|exact True.intro|refine rq fun _=>?_|simp only[go_sem,Nat.lt_irrefl,h1',Tryz.f74])
  all_goals
   refine kt.out ?_ (by omega)
   rw[List.take_length,hl,List.take_length]at hp
   exact hp
end Go.Proofs.YtdlioodgfopmfaaGreatDoor
namespace Go.Proofs.YtdlioodgfopmfaaGreatDoor
open Go Go.Abs Go.Proofs
def Y8:Tbl:=Y7.add 57 (sp3 zci fun c f _=>(wfC c∧c.length≤1000000)∧f.fit=true)
attribute [go_sem] Y8
theorem hY8:zap Tryz.prog GA Y8:=by
 refine zhx zBY hY7 fun c f g hp _ _ _=>?_
 obtain⟨hcw,hff⟩:=hp
 have hfw:f.words.length≤1000000:=by have:=(zac.fit_eq hff).1;omega
 clear hff
 by_cases k1:f.kind=2
 rotate_left
 ·have e:zci c f g=false:=by unfold zci;simp[k1]
  rw[e]
  refine zah (N:=28) hm hY7 57000 (lst []) zBY Tryz.func57 rfl rfl (by simp) (by kernel_rfl) ?_
  repeat'(first|refine And.intro ?_ ?_|exact True.intro|refine rq fun _=>?_|simp only[go_sem,k1,zad,zab,Tryz.f57])
 by_cases k2:g.kind=2
 rotate_left
 ·have e:zci c f g=false:=by unfold zci;simp[k2]
  rw[e]
  refine zah (N:=28) hm hY7 57000 (lst []) zBY Tryz.func57 rfl rfl (by simp) (by kernel_rfl) ?_
  repeat'(first|refine And.intro ?_ ?_|exact True.intro|refine rq fun _=>?_|simp only[go_sem,k1,k2,zad,zab,Tryz.f57])
 by_cases k3:f.name=g.name
 rotate_left
 ·have e:zci c f g=false:=by unfold zci;simp[k3]
  have k3':(f.name.l=g.name.l)=False:=eq_false fun h=>k3 (show(⟨f.name.l⟩:Str)=⟨g.name.l⟩ by rw[h])
  rw[e]
  refine zah (N:=28) hm hY7 57000 (lst []) zBY Tryz.func57 rfl rfl (by simp) (by kernel_rfl) ?_
  repeat'(first|refine And.intro ?_ ?_|exact True.intro|refine rq fun _=>?_|simp only[go_sem,k1,k2,k3',zad,zab,Tryz.f57])
 have k3':(f.name.l=g.name.l)=True:=eq_true (by rw[k3])
 have e:zci c f g=decide (f.words.map (zaB c)=g.words.map (zaB c)):=by unfold zci;simp[k1,k2,k3]
 rw[e]
 obtain⟨b,hb⟩:∃b,decide (f.words.map (zaB c)=g.words.map (zaB c))=b:=⟨_,rfl⟩
 rw[hb]
 refine zah (N:=28) hm hY7 57000 (lst []) zBY Tryz.func57 rfl rfl (by simp) (by kernel_rfl) ?_
 repeat'(first|refine zaI.i (f74 (c:=c) (a:=f.words) (b:=g.words) (by simp only;omega) (by simp only[go_sem]) hcw hfw fun n' hn'=>?_)|refine And.intro ?_ ?_|exact True.intro|refine rq fun _=>?_|simp only[go_sem,k1,k2,k3',hb,zad,zab,Tryz.f57])
def zsu (c:List zaR)(f:Abs.zac):Prop:=(wfC c∧c.length≤1000000)∧brF f
def Y9:Tbl:=Y8.add 56 (sp2 zhG zsu)
attribute [go_sem] Y9
theorem hY9:zap Tryz.prog GA Y9:=by
 refine zcy zBX hY8 fun c f hp _ _=>?_
 obtain⟨hcw,hbr⟩:=hp
 by_cases k1:f.kind=4
 rotate_left
 ·have e:zhG c f=false:=by unfold zhG;simp[k1]
  rw[e]
  refine zah (N:=36) hm hY8 56000 (lst []) zBX Tryz.func56 rfl rfl (by simp) (by kernel_rfl) ?_
  repeat'(first|refine And.intro ?_ ?_|exact True.intro|refine rq fun _=>?_|simp only[go_sem,k1,zad,zab,Tryz.f56])
 obtain⟨g,hg,s0,hbg⟩:=zdd hbr (.inl k1)
 by_cases k2:g.kind=1
 ·have e:zhG c f=true:=by unfold zhG;rw[s0];simp[k1,k2]
  rw[e]
  refine zah (N:=36) hm hY8 56000 (lst []) zBX Tryz.func56 rfl rfl (by simp) (by kernel_rfl) ?_
  repeat'(first|refine And.intro ?_ ?_|exact True.intro|refine rq fun _=>?_|simp only[go_sem,k1,hg,k2,zad,zab,Tryz.f56])
 by_cases k3:g.kind=3
 rotate_left
 ·have e:zhG c f=false:=by unfold zhG;rw[s0];simp[k1,k2,k3]
  rw[e]
  refine zah (N:=36) hm hY8 56000 (lst []) zBX Tryz.func56 rfl rfl (by simp) (by kernel_rfl) ?_
  repeat'(first|refine And.intro ?_ ?_|exact True.intro|refine rq fun _=>?_|simp only[go_sem,k1,hg,k2,k3,zad,zab,Tryz.f56])
 obtain⟨a,b,hab⟩:∃a b,g.words=[a,b]:=by
  have h2:=(zbf.1 hbg.v).2.2.2.1 k3
  match h:g.words,h2 with
  |[a,b],_=>exact⟨a,b,rfl⟩
 have e:zhG c f=decide (zaB c a=zaB c b):=by unfold zhG;rw[s0,hab];simp[k1,k3]
 rw[e]
 obtain⟨ra,hra⟩:∃r,zaB c a=r:=⟨_,rfl⟩
 obtain⟨rb,hrb⟩:∃r,zaB c b=r:=⟨_,rfl⟩
 rw[hra,hrb]
 refine zah (N:=36) hm hY8 56000 (lst []) zBX Tryz.func56 rfl rfl (by simp) (by kernel_rfl) ?_
 by_cases hr:ra=rb
 ·have hl:(ra.l=rb.l)=True:=eq_true (by rw[hr])
  rw[decide_eq_true hr]
  repeat'(first|refine zaj.i hcw fun _=>?_|refine And.intro ?_ ?_|exact True.intro|refine rq fun _=>?_|simp only[go_sem,k1,hg,k3,hab,hra,hrb,hl,zad,zab,Tryz.f56])
 ·have hl:(ra.l=rb.l)=False:=eq_false fun h=>hr (show(⟨ra.l⟩:Str)=⟨rb.l⟩ by rw[h])
  rw[decide_eq_false hr]
  repeat'(first|refine zaj.i hcw fun _=>?_|refine And.intro ?_ ?_|exact True.intro|refine rq fun _=>?_|simp only[go_sem,k1,hg,k3,hab,hra,hrb,hl,zad,zab,Tryz.f56])
end Go.Proofs.YtdlioodgfopmfaaGreatDoor
namespace Go.Proofs.YtdlioodgfopmfaaGreatDoor
open Go Go.Abs Go.Proofs
section
variable {P:Program} {G:Nat→List FD} {T:Tbl}
theorem zwC {α β ρ:Type}[Enc α][Enc β][Enc ρ]{f:FuncId}{g:α→β→ρ}{pre:α→β→Prop}(m:β→Nat)(hc:zaq P f)(hT:zap P G T)
  (h:∀n,zap P G (T.add f (sp2 g fun a b=>m b<n∧pre a b))→∀a b,m b=n→pre a b→(enc a).Wf→(enc b).Wf→zaA P G f [.fz (enc a),.fz (enc b)] (hpL []) 0 (fun d _ _=>D.val d=some (.fz (enc (g a b))))):zap P G (T.add f (sp2 g pre)):=by
 have key:∀n,zap P G (T.add f (sp2 g fun a b=>m b<n∧pre a b)):=by
  intro n
  induction n with
  |zero=>exact zcy hc hT fun a b ha=>by omega
  |succ n ih=>
   refine zcy hc hT fun a b ha hw hw2=>?_
   rcases Nat.lt_or_ge (m b) n with h1|h1
   ·have h2:=ih f (sp2 g fun a b=>m b<n∧pre a b) [enc a,enc b] _ _ (by simp[Tbl.add]) (zFu) ⟨by rw[dec_enc],by rw[dec_enc],by rw[dec_enc,dec_enc];exact⟨h1,ha.2⟩⟩
    rw[dec_enc,dec_enc,zeK]at h2
    exact h2
   ·exact h n ih a b (by omega) ha.2 hw hw2
 exact zcy hc hT fun a b ha hw hw2=>h (m b) (key _) a b rfl ha hw hw2
end
def Y10:Tbl:=Y9
attribute [go_sem] Y10
theorem zkU {l:List Abs.zac}{i:Int}(h:inL l i=false):¬(0≤i∧i<l.length):=by
 unfold inL at h
 intro⟨h1,h2⟩
 rw[decide_eq_true h1,decide_eq_true h2]at h
 cases h
theorem zey {l:List Abs.zac}{i:Int}(h:inL l i=true):0≤i∧i<l.length:=by
 unfold inL at h
 simp only[Bool.and_eq_true,decide_eq_true_eq]at h
 exact h
end Go.Proofs.YtdlioodgfopmfaaGreatDoor
namespace Go.Proofs.YtdlioodgfopmfaaGreatDoor
open Go Go.Abs Go.Proofs
mutual
theorem zsr:∀(p:Prf) (n:Int),zvo p n≤2000→n+p.size=zvo p n
 | .mk k f o nm s,n,h=>by
  rw[zvo]at h ⊢
  have:=zjF s (n+1) h
  rw[Prf.size]
  omega
theorem zjF:∀(s:List Prf) (n:Int),zjk s n≤2000→n+Prf.sizes s=zjk s n
 |[],n,h=>by rw[zjk,Prf.sizes];simp
 |x::xs,n,h=>by
  rw[zjk]at h ⊢
  by_cases h1:2000<n
  ·rw[if_pos h1]at h;omega
  ·rw[if_neg h1]at h ⊢
   have i2:=zjF xs (zvo x n) h
   have i1:=zsr x n (by omega)
   rw[Prf.sizes]
   omega
end
def zbg (ax:List Abs.zac)(g:Abs.zac):List Abs.zac:=zhF ax++[zmU g]
theorem zkt {f:Abs.zac}(h:(zaE false f).code=0):brF f:=⟨zqd h,zfl h,by have:=zdr h;omega⟩
theorem zks {ax:List Abs.zac}{g:Abs.zac}(h:(zbL ax g).2.code=0):zbL ax g=(zbg ax g,⟨0,0⟩)∧ax.length≤40∧(∀f∈ax,(zaE false f).code=0)∧(zaE false g).code=0:=by
 unfold zbL at h ⊢
 split at h
 ·exact absurd h (by decide)
 rename_i h1
 split at h
 ·rename_i h2;exact absurd h h2
 rename_i h2
 split at h
 ·rename_i h3;exact absurd h h3
 rename_i h3
 rw[if_neg h1,if_neg h2,if_neg h3]
 refine⟨rfl,by omega,fun f hf=>?_,Decidable.not_not.1 h3⟩
 have h4:=Decidable.not_not.1 h2
 clear h h2 h3 h1
 by_cases hc:(zaE false f).code=0
 ·exact hc
 ·exfalso
  have:∀(l:List Abs.zac) (k:Nat),f∈l→(zrE l k).code≠0:=by
   intro l
   induction l with
   |nil=>intro k h;simp at h
   |cons x l ih=>
    intro k hm
    rw[zrE]
    by_cases hx:(zaE false x).code=0
    ·rw[if_neg (by simp[hx])]
     rcases List.mem_cons.1 hm with rfl|hm
     ·exact absurd hx hc
     ·exact ih _ hm
    ·rw[if_pos hx];exact hx
  exact this ax 0 hf h4
theorem zqb {ax:List Abs.zac}{g:Abs.zac}(h1:∀f∈ax,(zaE false f).code=0)(h2:(zaE false g).code=0):∀f∈zbg ax g,brF f:=fun f hf=>by
 unfold zbg zhF at hf
 rcases List.mem_append.1 hf with hf|hf
 ·obtain⟨a,ha,rfl⟩:=List.mem_map.1 hf
  exact(zkt (h1 a ha)).cn
 ·rw[List.mem_singleton.1 hf]
  exact(zkt h2).ng (by have:=zdr h2;omega)
end Go.Proofs.YtdlioodgfopmfaaGreatDoor
namespace Go.Proofs.YtdlioodgfopmfaaGreatDoor
open Go Go.Abs Go.Proofs
def Y11:Tbl:=Y10
attribute [go_sem] Y11
end Go.Proofs.YtdlioodgfopmfaaGreatDoor
namespace Go.Proofs.YtdlioodgfopmfaaGreatDoor
open Go Go.Abs Go.Proofs
def zaz:Tv:=(.q 0 (.q 1 (.q 2 (.q 3 (.q 4 (.q 5 (.q 6 (.q 7 (.q 8 .leaf)))))))))
def zdb:Tv:=(.q 0 (.q 1 (.q 2 (.q 3 .leaf))))
def zuj:Tv:=(.q 0 (.q 1 (.q 2 (.q 3 (.q 4 (.q 5 (.q 6 (.q 7 (.q 8 (.q 9 (.q 10 (.q 11 (.q 12 (.q 13 .leaf))))))))))))))
def zhd:Tv:=(.q 0 (.q 1 (.q 2 (.q 3 (.q 4 (.q 5 (.q 6 (.q 7 (.q 8 (.q 9 (.q 10 (.q 11 (.q 12 (.q 13 (.q 14 (.q 15 (.q 16 (.q 17 (.q 18 (.q 19 (.q 20 (.q 21 .leaf))))))))))))))))))))))
def zuk:Tv:=(.q 0 (.q 1 (.q 2 (.q 3 (.q 4 (.q 5 (.q 10 (.r 7 (.r 11 (.q 12 (.r 13 (.br [(6,(.q 8 (.br [(9,(.q 14 (.q 15 (.q 16 .leaf))))])))]))))))))))))
def zff:Tv:=(.q 0 (.q 1 (.q 6 (.q 8 (.r 3 (.q 4 (.r 7 (.q 9 (.r 10 (.br [(2,(.br [(5,(.q 11 (.q 12 .leaf)))]))]))))))))))
def zcJ:Tv:=(.q 0 (.q 1 (.q 2 (.q 3 (.q 4 (.q 5 (.q 6 (.q 7 (.q 8 (.q 9 (.q 10 (.q 11 (.q 12 (.q 13 (.q 14 (.q 15 (.q 16 (.q 17 (.q 18 (.q 19 (.q 20 (.q 21 (.q 22 (.q 23 .leaf))))))))))))))))))))))))
def zls:Tv:=(.q 0 (.q 1 (.q 4 (.q 9 (.r 3 (.r 5 (.r 10 (.q 11 (.r 12 (.br [(2,(.q 6 (.q 7 (.br [(8,(.q 13 (.q 14 .leaf)))]))))]))))))))))
def zd1:Tv:=(.q 0 (.q 1 (.q 2 (.q 3 (.q 4 (.q 5 (.q 6 (.q 7 (.q 8 (.q 9 (.q 10 (.q 11 (.q 12 (.q 13 (.q 14 (.q 15 (.q 16 (.q 17 (.q 18 (.q 19 (.q 20 .leaf)))))))))))))))))))))
def zhe:Tv:=(.q 0 (.q 1 (.q 3 (.q 4 (.q 8 (.q 11 (.q 12 (.q 16 (.r 5 (.q 6 (.r 7 (.r 9 (.q 10 (.r 17 (.q 18 (.r 19 (.br [(2,(.q 13 (.q 14 (.br [(15,(.q 20 (.q 21 .leaf)))]))))])))))))))))))))))
def zpL:Tv:=(.q 0 (.q 1 (.q 2 (.q 3 (.q 4 (.q 5 (.q 10 (.r 7 (.br [(6,(.q 8 (.br [(9,(.q 11 (.q 12 (.q 13 (.q 14 (.q 15 (.q 16 .leaf))))))),(11,(.q 12 (.br [(9,(.q 13 (.q 14 (.q 15 (.q 16 .leaf))))),(13,(.br [(9,(.q 14 (.q 15 (.q 16 .leaf))))]))])))]))),(11,(.q 12 (.br [(6,(.q 8 (.br [(9,(.q 13 (.q 14 (.q 15 (.q 16 .leaf))))),(13,(.br [(9,(.q 14 (.q 15 (.q 16 .leaf))))]))]))),(13,(.br [(6,(.q 8 (.br [(9,(.q 14 (.q 15 (.q 16 .leaf))))])))]))])))])))))))))
def clP (l:List Abs.zac)(p:Prf):Prop:=(∀f∈l,BF f)∧l.length+2*p.size≤100000
def zcg (n:Nat):Tbl:=O13.add 9 (sp2 (fun l p=>zbr p l) fun l p=>p.size<n∧clP l p)
theorem zji {f:Abs.zac}(h:BF f):clB f:=⟨h.o.b,h.o.clean⟩
theorem zj8 {f a:Abs.zac}(h:BF f)(ha:a∈f.subs):BF0 a∧a.size+1≤800:=⟨h.o.sub ha,by have:=zac.size_sub ha;have:=h.o.b.s;omega⟩
theorem zfT {f g a:Abs.zac}(h:BF f)(hg:g∈f.subs)(ha:a∈g.subs):BF0 a∧a.size+1≤800:=⟨(h.o.sub hg).sub ha,by have:=zac.size_sub hg;have:=zac.size_sub ha;have:=h.o.b.s;omega⟩
theorem zfp {f:Abs.zac}{i:Nat}(h:i<f.subs.length):f.subs.getD i zbk∈f.subs:=by
 rw[List.getD_eq_getElem?_getD,List.getElem?_eq_getElem h];exact List.getElem_mem h
theorem zk5 {f:Abs.zac}(h:BF f):∀g∈(zag f).2.1,BF g:=by
 have hv:=zbf.1 h.o.b.v
 have one:∀{x:Abs.zac},vok x→(x.kind=4∨x.kind=8∨x.kind=9)→zbo x∈x.subs:=fun{x} hx hk=>zfp (f:=x) (i:=0) (by rw[(zbf.1 hx).2.2.2.2.1 hk];omega)
 have two0:∀{x:Abs.zac},vok x→(x.kind=5∨x.kind=6∨x.kind=7)→zbo x∈x.subs:=fun{x} hx hk=>zfp (f:=x) (i:=0) (by rw[(zbf.1 hx).2.2.2.2.2.1 hk];omega)
 have two1:∀{x:Abs.zac},vok x→(x.kind=5∨x.kind=6∨x.kind=7)→zua x∈x.subs:=fun{x} hx hk=>zfp (f:=x) (i:=1) (by rw[(zbf.1 hx).2.2.2.2.2.1 hk];omega)
 have C:∀{a:Abs.zac},BF0 a∧a.size+1≤800→BF (cnn a):=fun h=>h.1.cn
 have N:∀{a:Abs.zac},BF0 a∧a.size+1≤800→BF (ngg a):=fun h=>h.1.ng h.2
 have fv:=h.o.b.v
 intro g hg
 unfold zag at hg
 by_cases k5:f.kind=5
 ·rw[if_pos k5]at hg
  simp only[List.mem_cons,List.not_mem_nil,or_false]at hg
  rcases hg with rfl|rfl
  ·exact C (zj8 h (two0 fv (by omega)))
  ·exact C (zj8 h (two1 fv (by omega)))
 rw[if_neg k5]at hg
 by_cases k6:f.kind=6
 ·rw[if_pos k6]at hg
  simp only[List.mem_cons,List.not_mem_nil,or_false]at hg
  rcases hg with rfl|rfl
  ·exact C (zj8 h (two0 fv (by omega)))
  ·exact C (zj8 h (two1 fv (by omega)))
 rw[if_neg k6]at hg
 by_cases k7:f.kind=7
 ·rw[if_pos k7]at hg
  simp only[List.mem_cons,List.not_mem_nil,or_false]at hg
  rcases hg with rfl|rfl
  ·exact N (zj8 h (two0 fv (by omega)))
  ·exact C (zj8 h (two1 fv (by omega)))
 rw[if_neg k7]at hg
 by_cases k8:f.kind=8
 ·rw[if_pos k8]at hg
  exact absurd hg List.not_mem_nil
 rw[if_neg k8]at hg
 by_cases k9:f.kind=9
 ·rw[if_pos k9]at hg
  exact absurd hg List.not_mem_nil
 rw[if_neg k9]at hg
 by_cases k4:f.kind=4
 rotate_left
 ·rw[if_neg k4]at hg
  exact absurd hg List.not_mem_nil
 rw[if_pos k4]at hg
 have hs:=one fv (.inl k4)
 have gv:vok (zbo f):=(h.o.sub hs).b.v
 by_cases j4:(zbo f).kind=4
 ·rw[if_pos j4]at hg
  simp only[List.mem_cons,List.not_mem_nil,or_false]at hg
  rw[hg]
  exact C (zfT h hs (one gv (.inl j4)))
 rw[if_neg j4]at hg
 by_cases j5:(zbo f).kind=5
 ·rw[if_pos j5]at hg
  simp only[List.mem_cons,List.not_mem_nil,or_false]at hg
  rcases hg with rfl|rfl
  ·exact N (zfT h hs (two0 gv (by omega)))
  ·exact N (zfT h hs (two1 gv (by omega)))
 rw[if_neg j5]at hg
 by_cases j6:(zbo f).kind=6
 ·rw[if_pos j6]at hg
  simp only[List.mem_cons,List.not_mem_nil,or_false]at hg
  rcases hg with rfl|rfl
  ·exact N (zfT h hs (two0 gv (by omega)))
  ·exact N (zfT h hs (two1 gv (by omega)))
 rw[if_neg j6]at hg
 by_cases j7:(zbo f).kind=7
 ·rw[if_pos j7]at hg
  simp only[List.mem_cons,List.not_mem_nil,or_false]at hg
  rcases hg with rfl|rfl
  ·exact C (zfT h hs (two0 gv (by omega)))
  ·exact N (zfT h hs (two1 gv (by omega)))
 rw[if_neg j7]at hg
 by_cases j8:(zbo f).kind=8
 ·rw[if_pos j8]at hg
  exact absurd hg List.not_mem_nil
 rw[if_neg j8]at hg
 by_cases j9:(zbo f).kind=9
 ·rw[if_pos j9]at hg
  exact absurd hg List.not_mem_nil
 rw[if_neg j9]at hg
 exact absurd hg List.not_mem_nil
theorem zs3 {f:Abs.zac}{nm:Str}(h:BF f)(hs:zaY f=3∨zaY f=4)(hn:zas nm=true):BF (zjP f nm):=by
 have hq:=zt0 h.o.b hs
 have key:∀{q:Abs.zac},BF0 q→(q.kind=8∨q.kind=9)→BF (zdE q nm):=fun{q} hq0 hk=>by
  have hl:=(zbf.1 hq0.b.v).2.2.2.2.1 (.inr hk)
  have hm:zbo q∈q.subs:=zfp (f:=q) (i:=0) (by omega)
  exact(hq0.sub hm).can (by simp) fun b hb=>by rw[List.mem_singleton.1 hb];exact hn
 by_cases k4:f.kind=4
 ·have hl:=(zbf.1 h.o.b.v).2.2.2.2.1 (.inl k4)
  have hm:zbo f∈f.subs:=zfp (f:=f) (i:=0) (by omega)
  have hqk:(zbo f).kind=8∨(zbo f).kind=9:=by omega
  have e:zjP f nm=ngg (zdE (zbo f) nm):=by
   unfold zjP zag
   rcases hqk with j|j<;>(rw[k4,j];rfl)
  have hb:=key (h.o.sub hm) hqk
  rw[e]
  refine hb.o.ng ?_
  have h2:=(zbf.1 (h.o.sub hm).b.v).2.2.2.2.1 (.inr hqk)
  have hm2:zbo (zbo f)∈(zbo f).subs:=zfp (f:=zbo f) (i:=0) (by omega)
  have:=zac.size_sub hm
  have:=zac.size_sub hm2
  have:=h.o.b.s
  unfold zdE
  rw[zbZ];omega
 ·have hqk:f.kind=8∨f.kind=9:=by omega
  have e:zjP f nm=zdE f nm:=by
   unfold zjP zag
   rcases hqk with j|j<;>(rw[j];rfl)
  rw[e]
  exact key h.o hqk
end Go.Proofs.YtdlioodgfopmfaaGreatDoor
