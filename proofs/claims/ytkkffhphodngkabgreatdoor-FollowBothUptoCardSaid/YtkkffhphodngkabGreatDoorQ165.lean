import Derived.Test.YtkkffhphodngkabGreatDoorAT
import Derived.Test.YtkkffhphodngkabGreatDoorY20
import Derived.Test.YtkkffhphodngkabGreatDoorY22
set_option linter.unusedSimpArgs false
namespace Go.Proofs.YtkkffhphodngkabGreatDoor
open Go Go.Abs Go.Proofs
def T49:Tbl:=Tbl.or Z7 Fo2
attribute [go_sem] T49
theorem zRI:zaq Tryz.prog GA T49:=zgl hZ7 zMq
set_option maxRecDepth 100000 in
set_option maxHeartbeats 1000000 in
set_option maxHeartbeats 8000000 in
theorem zRx (hT:zaq Tryz.prog GA T49)(ax:List Abs.zac)(g:Abs.zac)(_:(enc ax).Wf)(_:(enc g).Wf):zaw Tryz.prog GA 6 [.fz (enc ax),.fz (enc g)] (hpL []) 0 (fun d _ _=>d= .fz (.b true)):=by
 have dO:Str.mk [109,111,114,116,97,108]=zwZ:=rfl
 have dK:Str.mk [107,105,109]=zjS:=rfl
 have eG:zsZ zwZ [zjS]=zj3:=rfl
 have kN:∀l,zDt l=zhc l (zbx zg4):=fun _=>rfl
 obtain⟨m0,hy0⟩:=zGW
 obtain⟨r,hC⟩:∃r,zhc ax (zbx zg4)=r:=⟨_,rfl⟩
 obtain⟨c,e⟩:=r
 obtain⟨r,hA⟩:∃r,zhc ax g=r:=⟨_,rfl⟩
 obtain⟨v,e1⟩:=r
 obtain⟨r,hB⟩:∃r,zhc ax (zbx g)=r:=⟨_,rfl⟩
 obtain⟨w,e2⟩:=r
 have hno:c.kind=2→v.kind=1→w.kind=1→False:=zHw hC hA hB
 by_cases b0:e.code=0
 rotate_left
 ·have a0:(e.code=0)=False:=eq_false b0
  clear hno
  refine zae (N:=73) Go.Proofs.YtkkffhphodngkabGreatDoor.hm hT 6000 (lst []) ok6 Tryz.func6 rfl rfl (by simp) (by kernel_rfl) ?_
  repeat'(first|refine And.intro ?_ ?_|exact True.intro|refine rq fun _=>?_|refine rf fun _=>?_|simp only[go_sem,hC,a0,zal,zbH,zco,GA,zab,zad,zag,zaa,hy0,dK,dO,eG,kN,Z7,T49,Tryz.f6,Fo2,Fo1,Fo0])
  all_goals first|done|rfl|omega
 have a0:(e.code=0)=True:=eq_true b0
 by_cases b1:e.index=0
 rotate_left
 ·have a1:(e.index=0)=False:=eq_false b1
  clear hno
  refine zae (N:=73) Go.Proofs.YtkkffhphodngkabGreatDoor.hm hT 6000 (lst []) ok6 Tryz.func6 rfl rfl (by simp) (by kernel_rfl) ?_
  repeat'(first|refine And.intro ?_ ?_|exact True.intro|refine rq fun _=>?_|refine rf fun _=>?_|simp only[go_sem,hC,a0,a1,zal,zbH,zco,GA,zab,zad,zag,zaa,hy0,dK,dO,eG,kN,Z7,T49,Tryz.f6,Fo2,Fo1,Fo0])
  all_goals first|done|rfl|omega
 have a1:(e.index=0)=True:=eq_true b1
 by_cases b2:c.kind=2
 rotate_left
 ·have a2:(c.kind=2)=False:=eq_false b2
  clear hno
  refine zae (N:=73) Go.Proofs.YtkkffhphodngkabGreatDoor.hm hT 6000 (lst []) ok6 Tryz.func6 rfl rfl (by simp) (by kernel_rfl) ?_
  repeat'(first|refine And.intro ?_ ?_|exact True.intro|refine rq fun _=>?_|refine rf fun _=>?_|simp only[go_sem,hC,a0,a1,a2,zal,zbH,zco,GA,zab,zad,zag,zaa,hy0,dK,dO,eG,kN,Z7,T49,Tryz.f6,Fo2,Fo1,Fo0])
  all_goals first|done|rfl|omega
 have a2:(c.kind=2)=True:=eq_true b2
 by_cases b3:e1.code=0
 rotate_left
 ·have a3:(e1.code=0)=False:=eq_false b3
  clear hno
  refine zae (N:=73) Go.Proofs.YtkkffhphodngkabGreatDoor.hm hT 6000 (lst []) ok6 Tryz.func6 rfl rfl (by simp) (by kernel_rfl) ?_
  repeat'(first|refine And.intro ?_ ?_|exact True.intro|refine rq fun _=>?_|refine rf fun _=>?_|simp only[go_sem,hC,hA,hB,a0,a1,a2,a3,zal,zbH,zco,GA,zab,zad,zag,zaa,hy0,dK,dO,eG,kN,Z7,T49,Tryz.f6,Fo2,Fo1,Fo0])
  all_goals first|done|rfl|omega
 have a3:(e1.code=0)=True:=eq_true b3
 by_cases b4:e1.index=0
 rotate_left
 ·have a4:(e1.index=0)=False:=eq_false b4
  clear hno
  refine zae (N:=73) Go.Proofs.YtkkffhphodngkabGreatDoor.hm hT 6000 (lst []) ok6 Tryz.func6 rfl rfl (by simp) (by kernel_rfl) ?_
  repeat'(first|refine And.intro ?_ ?_|exact True.intro|refine rq fun _=>?_|refine rf fun _=>?_|simp only[go_sem,hC,hA,hB,a0,a1,a2,a3,a4,zal,zbH,zco,GA,zab,zad,zag,zaa,hy0,dK,dO,eG,kN,Z7,T49,Tryz.f6,Fo2,Fo1,Fo0])
  all_goals first|done|rfl|omega
 have a4:(e1.index=0)=True:=eq_true b4
 by_cases b5:e2.code=0
 rotate_left
 ·have a5:(e2.code=0)=False:=eq_false b5
  clear hno
  refine zae (N:=73) Go.Proofs.YtkkffhphodngkabGreatDoor.hm hT 6000 (lst []) ok6 Tryz.func6 rfl rfl (by simp) (by kernel_rfl) ?_
  repeat'(first|refine And.intro ?_ ?_|exact True.intro|refine rq fun _=>?_|refine rf fun _=>?_|simp only[go_sem,hC,hA,hB,a0,a1,a2,a3,a4,a5,zal,zbH,zco,GA,zab,zad,zag,zaa,hy0,dK,dO,eG,kN,Z7,T49,Tryz.f6,Fo2,Fo1,Fo0])
  all_goals first|done|rfl|omega
 have a5:(e2.code=0)=True:=eq_true b5
 by_cases b6:e2.index=0
 rotate_left
 ·have a6:(e2.index=0)=False:=eq_false b6
  clear hno
  refine zae (N:=73) Go.Proofs.YtkkffhphodngkabGreatDoor.hm hT 6000 (lst []) ok6 Tryz.func6 rfl rfl (by simp) (by kernel_rfl) ?_
  repeat'(first|refine And.intro ?_ ?_|exact True.intro|refine rq fun _=>?_|refine rf fun _=>?_|simp only[go_sem,hC,hA,hB,a0,a1,a2,a3,a4,a5,a6,zal,zbH,zco,GA,zab,zad,zag,zaa,hy0,dK,dO,eG,kN,Z7,T49,Tryz.f6,Fo2,Fo1,Fo0])
  all_goals first|done|rfl|omega
 have a6:(e2.index=0)=True:=eq_true b6
 by_cases b7:v.kind=1
 rotate_left
 ·have a7:(v.kind=1)=False:=eq_false b7
  clear hno
  refine zae (N:=73) Go.Proofs.YtkkffhphodngkabGreatDoor.hm hT 6000 (lst []) ok6 Tryz.func6 rfl rfl (by simp) (by kernel_rfl) ?_
  repeat'(first|refine And.intro ?_ ?_|exact True.intro|refine rq fun _=>?_|refine rf fun _=>?_|simp only[go_sem,hC,hA,hB,a0,a1,a2,a3,a4,a5,a6,a7,zal,zbH,zco,GA,zab,zad,zag,zaa,hy0,dK,dO,eG,kN,Z7,T49,Tryz.f6,Fo2,Fo1,Fo0])
  all_goals first|done|rfl|omega
 have a7:(v.kind=1)=True:=eq_true b7
 have a8:(w.kind=1)=False:=eq_false (hno (of_eq_true a2) (of_eq_true a7))
 clear hno
 refine zae (N:=73) Go.Proofs.YtkkffhphodngkabGreatDoor.hm hT 6000 (lst []) ok6 Tryz.func6 rfl rfl (by simp) (by kernel_rfl) ?_
 repeat'(first|refine And.intro ?_ ?_|exact True.intro|refine rq fun _=>?_|refine rf fun _=>?_|simp only[go_sem,hC,hA,hB,a0,a1,a2,a3,a4,a5,a6,a7,a8,zal,zbH,zco,GA,zab,zad,zag,zaa,hy0,dK,dO,eG,kN,Z7,T49,Tryz.f6,Fo2,Fo1,Fo0])
 all_goals first|done|rfl|omega
end Go.Proofs.YtkkffhphodngkabGreatDoor
