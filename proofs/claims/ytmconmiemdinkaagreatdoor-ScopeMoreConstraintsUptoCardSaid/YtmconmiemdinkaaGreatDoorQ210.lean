import Derived.Test.YtmconmiemdinkaaGreatDoorAT
import Derived.Test.YtmconmiemdinkaaGreatDoorY25
import Derived.Test.YtmconmiemdinkaaGreatDoorY21
set_option linter.unusedSimpArgs false
namespace Go.Proofs.YtmconmiemdinkaaGreatDoor
open Go Go.Abs Go.Proofs
theorem ok3:zal Tryz.prog 3:=Tryz.call3
end Go.Proofs.YtmconmiemdinkaaGreatDoor
namespace Go.Proofs.YtmconmiemdinkaaGreatDoor
open Go Go.Abs Go.Proofs
def zbW:Tv:=(.q 0 (.q 1 (.q 2 (.br [(3,(.q 4 (.q 5 (.br [(6,(.q 7 (.br [(8,.leaf)])))])))),(4,(.q 5 (.br [(3,(.br [(6,(.q 7 (.br [(8,.leaf)])))]))])))]))))
theorem zfj {s:zao}{o:zjC}{l:List Nat}:∀f i,zb2 (zd8 s o) l f i=zb2 s l f i
 |0,i=>rfl
 |f+1,i=>by
  rw[zb2,zb2]
  exact zeF _ fun x _=>zfj f _
theorem zfn {s:zao}{o:zjC}{l:List Nat}:zcS (zd8 s o) l=zcS s l:=zfj _ _
theorem zjW {s:zao}{o:zjC}(h:(zaZ s).code=0)(h2:(zaZ (zd8 s o)).code=0){x:Abs.zab}(hx:x∈zcV (zd8 s o)):x∈zcV s:=by
 obtain⟨l,hl,rfl⟩:=(zsN (zkH h2)).1 hx
 refine(zsN (zkH h)).2 ⟨l,?_,by unfold zha;rw[zfn]⟩
 obtain⟨h3,h4,h5,h6,h7⟩:=zl9.1 hl
 refine zl9.2 ⟨h3,h4,h5,h6,?_⟩
 unfold okS at h7 ⊢
 simp only[Bool.and_eq_true]at h7 ⊢
 refine⟨⟨h7.1.1,List.all_eq_true.2 fun p hp=>?_⟩,List.all_eq_true.2 fun v hv=>?_⟩
 ·exact List.all_eq_true.1 h7.1.2 p (List.mem_append_left _ hp)
 ·have:=List.all_eq_true.1 h7.2 v hv
  unfold zyB at this ⊢
  rwa [zfn]at this
theorem zbj {l:List zjC}{x:FD}:(l.map enc++[x]).map dec=l++[(dec x:zjC)]:=by
 rw[List.map_append,zbE];rfl
set_option maxRecDepth 100000 in
set_option maxHeartbeats 1000000 in
set_option maxHeartbeats 8000000 in
theorem zkG (hT:zai Tryz.prog GA Re3)(s:zao)(hsl:s.overs.length≤1048576)(o:zjC)(_:(enc s).Wf)(_:(enc o).Wf):zaH Tryz.prog GA 3 [.fz (enc s),.fz (enc o)] (hpL []) 0 (fun d _ _=>d= .fz (.b true)):=by
 have ho1:zmo ⟨zvj.pieces,[⟨⟨[104,48]⟩,⟨[115,111,109,101]⟩⟩],zvj.vars⟩=(zcV (zd8 zvj ⟨sH0,zBw⟩),⟨0,0⟩):=zoW (s:=zd8 zvj ⟨sH0,zBw⟩) (by rw[zkV])
 obtain⟨R,e,hre⟩:∃R e,zmo s=(R,e):=⟨_,_,rfl⟩
 obtain⟨R',e',hre'⟩:∃R' e',zmo ⟨s.pieces,s.overs++[o],s.vars⟩=(R',e'):=⟨_,_,rfl⟩
 by_cases h0:(zaZ s).code=0
 case neg=>
  have he:e=zaZ s:=by unfold zmo at hre;rw[if_pos h0]at hre;exact(Prod.mk.inj hre).2.symm
  have he0:(e.code=0)=False:=eq_false (by rw[he];exact h0)
  refine zam (N:=86) Go.Proofs.YtmconmiemdinkaaGreatDoor.hm hT 3000 (lsw [42,45] [1000008]) ok3 Tryz.func3 rfl rfl (by simp) (by kernel_rfl) ?_
  repeat'(first|refine zch (id:=8) Go.Proofs.YtmconmiemdinkaaGreatDoor.hm hT 3000 (lsw [42,45] [1000008]) zbW (by kernel_rfl) (by kernel_rfl) ?_|refine And.intro ?_ ?_|exact True.intro|refine rq fun _=>?_|refine rf fun _=>?_|simp only[go_sem,hre,hre',he0,ho1,zco,zbj,zbW,zac,zad,zak,zap,zaN,zaa,GA,Tryz.f3,Re3,Re2,Re1,Rd1,Rd0,Sc6,Sc5,Sc4,Su4,Su3,Su2,Su1,Sc3,Sc2,Sc1,Sc0])
  all_goals first|done|rfl|omega
 have he:e=⟨0,0⟩:=by rw[zoW h0]at hre;exact(Prod.mk.inj hre).2.symm
 subst he
 by_cases h1:(zaZ (zd8 s o)).code=0
 case neg=>
  have he:e'=zaZ (zd8 s o):=by
   have h2:zmo (zd8 s o)=(R',e'):=hre'
   unfold zmo at h2;rw[if_pos h1]at h2;exact(Prod.mk.inj h2).2.symm
  have he0:(e'.code=0)=False:=eq_false (by rw[he];exact h1)
  refine zam (N:=86) Go.Proofs.YtmconmiemdinkaaGreatDoor.hm hT 3000 (lsw [42,45] [1000008]) ok3 Tryz.func3 rfl rfl (by simp) (by kernel_rfl) ?_
  repeat'(first|refine zch (id:=8) Go.Proofs.YtmconmiemdinkaaGreatDoor.hm hT 3000 (lsw [42,45] [1000008]) zbW (by kernel_rfl) (by kernel_rfl) ?_|refine And.intro ?_ ?_|exact True.intro|refine rq fun _=>?_|refine rf fun _=>?_|simp only[go_sem,hre,hre',he0,ho1,zco,zbj,zbW,zac,zad,zak,zap,zaN,zaa,GA,Tryz.f3,Re3,Re2,Re1,Rd1,Rd0,Sc6,Sc5,Sc4,Su4,Su3,Su2,Su1,Sc3,Sc2,Sc1,Sc0])
  all_goals first|done|rfl|omega
 have h2:zmo (zd8 s o)=(R',e'):=hre'
 rw[zoW h1]at h2
 have he:e'=⟨0,0⟩:=(Prod.mk.inj h2).2.symm
 subst he
 have hR':R'=zcV (zd8 s o):=(Prod.mk.inj h2).1.symm
 have hR:R=zcV s:=by rw[zoW h0]at hre;exact(Prod.mk.inj hre).1.symm
 have hsub:∀x∈R',x∈R:=fun x hx=>by rw[hR];rw[hR']at hx;exact zjW h0 h1 hx
 have hf1:R.length≤10000:=by rw[hR];exact zvu (zkH h0)
 have hf2:R'.length≤10000:=by rw[hR'];exact zvu (zkH h1)
 obtain⟨N,hN⟩:∃N,R.length=N:=⟨_,rfl⟩
 obtain⟨M,hM⟩:∃M,R'.length=M:=⟨_,rfl⟩
 have ks:=Kp.mk hsub
 clear hsub hR hR' h2
 refine zam (N:=86) Go.Proofs.YtmconmiemdinkaaGreatDoor.hm hT 3000 (lsw [42,45] [1000008]) ok3 Tryz.func3 rfl rfl (by simp) (by kernel_rfl) ?_
 repeat'(first|refine zch (id:=8) Go.Proofs.YtmconmiemdinkaaGreatDoor.hm hT 3000 (lsw [42,45] [1000008]) zbW (by kernel_rfl) (by kernel_rfl) ?_|refine And.intro ?_ ?_|exact True.intro|refine rq fun _=>?_|refine rf fun _=>?_|simp only[go_sem,hre,hre',ho1,zco,zbj,zbW,zac,zad,zak,zap,zaN,zaa,GA,Tryz.f3,Re3,Re2,Re1,Rd1,Rd0,Sc6,Sc5,Sc4,Su4,Su3,Su2,Su1,Sc3,Sc2,Sc1,Sc0])
 all_goals
  refine zaJ Go.Proofs.YtmconmiemdinkaaGreatDoor.hm hT 3000 (lsw [42,45] [1000008]) (ι:=zjB M 9 fun _=>True)
   ⟨fun q=>⟨frL [(8,.fz (.sl (R.map enc))),(11,.fz (.sl (R'.map enc))),(61,.fz (.i .i64 M)),(62,.fz (.i .i64 q.i))],hpL [],q.m⟩,fun q=>M-q.i⟩
   ⟨0,30,Nat.zero_le _,by omega,trivial⟩ (by kernel_rfl) ?_ ?_
  ·refine zau ?_ ?_ ?_<;>simp only[go_sem,hM]
   all_goals first|done|rfl|omega
  rintro⟨i,m,hi,hm9,_⟩
  try simp only at hi hm9
  rcases Nat.lt_or_ge i M with h2|h2
  ·have h2':i<R'.length:=by omega
   obtain⟨x,hx⟩:∃x,R'[i]=x:=⟨_,rfl⟩
   have hin:x∈R:=ks.out x (by rw[←hx];exact List.getElem_mem h2')
   repeat'(first|refine zch (id:=8) Go.Proofs.YtmconmiemdinkaaGreatDoor.hm hT 3000 (lsw [42,45] [1000008]) zbW (by kernel_rfl) (by kernel_rfl) ?_|refine And.intro ?_ ?_|exact True.intro|refine rq fun _=>?_|refine rf fun _=>?_|simp only[go_sem,h2,h2',hx,ho1,zco,zbj,zbW,zac,zad,zak,zap,zaN,zaa,GA,Tryz.f3,Re3,Re2,Re1,Rd1,Rd0,Sc6,Sc5,Sc4,Su4,Su3,Su2,Su1,Sc3,Sc2,Sc1,Sc0])
   refine zaJ Go.Proofs.YtmconmiemdinkaaGreatDoor.hm hT 3000 (lsw [42,45] [1000008]) (ι:=zg4 N fun _=>True)
    ⟨fun q=>⟨frL [(8,.fz (.sl (R.map enc))),(11,.fz (.sl (R'.map enc))),(13,.fz (.i .i64 i)),(14,.fz (.b (decide (x∈R.take q.i)))),(61,.fz (.i .i64 M)),(62,.fz (.i .i64 i)),(66,.fz (.i .i64 N)),(67,.fz (.i .i64 q.i))],hpL [],m⟩,fun q=>N-q.i⟩
    ⟨0,by omega,trivial⟩ (by kernel_rfl) ?_ ?_
   ·refine zau ?_ ?_ ?_<;>simp only[go_sem,hN,List.take_zero,List.not_mem_nil,decide_false]
    all_goals first|done|rfl|omega
   rintro⟨k,hk,_⟩
   try simp only at hk
   rcases Nat.lt_or_ge k N with h3|h3
   ·have h3':k<R.length:=by omega
    obtain⟨y,hy⟩:∃y,R[k]=y:=⟨_,rfl⟩
    have htk:(x∈R.take (k+1))=(x∈R.take k∨x=y):=by
     rw[List.take_succ_eq_append_getElem h3',hy,List.mem_append,List.mem_singleton]
    by_cases hxk:x∈R.take k
    ·have hd:decide (x∈R.take k)=true:=decide_eq_true hxk
     repeat'(first|refine zch (id:=8) Go.Proofs.YtmconmiemdinkaaGreatDoor.hm hT 3000 (lsw [42,45] [1000008]) zbW (by kernel_rfl) (by kernel_rfl) ?_|refine And.intro ?_ ?_|exact True.intro|refine rq fun _=>?_|refine rf fun _=>?_|simp only[go_sem,h3,h3',hy,h2',hx,hd,ho1,zco,zbj,zbW,zac,zad,zak,zap,zaN,zaa,GA,Tryz.f3,Re3,Re2,Re1,Rd1,Rd0,Sc6,Sc5,Sc4,Su4,Su3,Su2,Su1,Sc3,Sc2,Sc1,Sc0])
     refine⟨⟨k+1,by omega,trivial⟩,by simp only;omega,?_⟩
     refine zau ?_ ?_ ?_<;>simp only[go_sem,htk,hxk,true_or,decide_true]
     all_goals first|done|rfl|omega
    ·have hd:decide (x∈R.take k)=false:=decide_eq_false hxk
     by_cases hxy:y=x
     ·repeat'(first|refine zch (id:=8) Go.Proofs.YtmconmiemdinkaaGreatDoor.hm hT 3000 (lsw [42,45] [1000008]) zbW (by kernel_rfl) (by kernel_rfl) ?_|refine And.intro ?_ ?_|exact True.intro|refine rq fun _=>?_|refine rf fun _=>?_|simp only[go_sem,h3,h3',hy,h2',hx,hd,eq_true hxy,ho1,zco,zbj,zbW,zac,zad,zak,zap,zaN,zaa,GA,Tryz.f3,Re3,Re2,Re1,Rd1,Rd0,Sc6,Sc5,Sc4,Su4,Su3,Su2,Su1,Sc3,Sc2,Sc1,Sc0])
      have ht:decide (x∈R.take (k+1))=true:=decide_eq_true (by rw[htk];exact .inr hxy.symm)
      refine⟨⟨k+1,by omega,trivial⟩,by simp only;omega,?_⟩
      refine zau ?_ ?_ ?_<;>simp only[go_sem,ht]
      all_goals first|done|rfl|omega
     ·have hxy2:(x=y)=False:=eq_false fun e=>hxy e.symm
      repeat'(first|refine zch (id:=8) Go.Proofs.YtmconmiemdinkaaGreatDoor.hm hT 3000 (lsw [42,45] [1000008]) zbW (by kernel_rfl) (by kernel_rfl) ?_|refine And.intro ?_ ?_|exact True.intro|refine rq fun _=>?_|refine rf fun _=>?_|simp only[go_sem,h3,h3',hy,h2',hx,hd,eq_false hxy,ho1,zco,zbj,zbW,zac,zad,zak,zap,zaN,zaa,GA,Tryz.f3,Re3,Re2,Re1,Rd1,Rd0,Sc6,Sc5,Sc4,Su4,Su3,Su2,Su1,Sc3,Sc2,Sc1,Sc0])
      refine⟨⟨k+1,by omega,trivial⟩,by simp only;omega,?_⟩
      refine zau ?_ ?_ ?_<;>simp only[go_sem,htk,hxk,hxy2,or_false,decide_false]
      all_goals first|done|rfl|omega
   ·obtain rfl:k=N:=by omega
    have hd:decide (x∈R.take k)=true:=decide_eq_true (by rw[←hN,List.take_length];exact hin)
    repeat'(first|refine zch (id:=8) Go.Proofs.YtmconmiemdinkaaGreatDoor.hm hT 3000 (lsw [42,45] [1000008]) zbW (by kernel_rfl) (by kernel_rfl) ?_|refine And.intro ?_ ?_|exact True.intro|refine rq fun _=>?_|refine rf fun _=>?_|simp only[go_sem,Nat.lt_irrefl,hd,ho1,zco,zbj,zbW,zac,zad,zak,zap,zaN,zaa,GA,Tryz.f3,Re3,Re2,Re1,Rd1,Rd0,Sc6,Sc5,Sc4,Su4,Su3,Su2,Su1,Sc3,Sc2,Sc1,Sc0])
    refine⟨⟨i+1,m,by omega,by omega,trivial⟩,by simp only;omega,?_⟩
    refine zau ?_ ?_ ?_<;>simp only[go_sem]
    all_goals first|done|rfl|omega
  ·obtain rfl:i=M:=by omega
   repeat'(first|refine zch (id:=8) Go.Proofs.YtmconmiemdinkaaGreatDoor.hm hT 3000 (lsw [42,45] [1000008]) zbW (by kernel_rfl) (by kernel_rfl) ?_|refine And.intro ?_ ?_|exact True.intro|refine rq fun _=>?_|refine rf fun _=>?_|simp only[go_sem,Nat.lt_irrefl,ho1,zco,zbj,zbW,zac,zad,zak,zap,zaN,zaa,GA,Tryz.f3,Re3,Re2,Re1,Rd1,Rd0,Sc6,Sc5,Sc4,Su4,Su3,Su2,Su1,Sc3,Sc2,Sc1,Sc0])
   all_goals first|done|rfl|omega
end Go.Proofs.YtmconmiemdinkaaGreatDoor
