import Derived.Test.YtkkffhphodngkabGreatDoorAT
import Derived.Test.YtkkffhphodngkabGreatDoorY20
import Derived.Test.YtkkffhphodngkabGreatDoorY22
import Derived.Test.YtkkffhphodngkabGreatDoorQ159
set_option linter.unusedSimpArgs false
namespace Go.Proofs.YtkkffhphodngkabGreatDoor
open Go Go.Abs Go.Proofs
def T48:Tbl:=Tbl.or Fo2 Em3
attribute [go_sem] T48
theorem zRR:zaq Tryz.prog GA T48:=zgl zMq zRQ
def zRA:Tv:=(.q 0 (.q 1 (.q 2 (.q 3 (.q 4 (.q 5 (.q 6 (.q 7 (.br [(8,(.br [(9,(.br [(10,(.br [(11,.leaf)]))]))])),(9,(.br [(8,(.br [(10,(.br [(11,.leaf)]))]))]))])))))))))
set_option maxRecDepth 100000 in
set_option maxHeartbeats 1000000 in
set_option maxHeartbeats 8000000 in
theorem zRF (hT:zaq Tryz.prog GA T48)(l:List Abs.zac)(_:(enc l).Wf):zaw Tryz.prog GA 5 [.fz (enc l)] (hpL []) 0 (fun d _ _=>d= .fz (.b true)):=by
 have dK:Str.mk [107,105,109]=zwY:=rfl
 have dD:Str.mk [100,111,103]=zzK:=rfl
 have dP:zsZ zzK [zwY]=zjQ:=rfl
 have dN:Abs.zac.mk 1 ⟨[]⟩ [] []=zg4:=rfl
 obtain⟨p0,hx0⟩:=zHA
 obtain⟨m0,hy0⟩:=zFT
 obtain⟨r,hA⟩:∃r,zhc l (zbx zg4)=r:=⟨_,rfl⟩
 obtain⟨v,e⟩:=r
 have kN:∀l,zDt l=zhc l (zbx zg4):=fun _=>rfl
 refine zae (N:=73) Go.Proofs.YtkkffhphodngkabGreatDoor.hm hT 5000 (lst [1000002]) ok5 Tryz.func5 rfl rfl (by simp) (by kernel_rfl) ?_
 repeat'(first|refine zar (id:=2) Go.Proofs.YtkkffhphodngkabGreatDoor.hm hT 5000 (lst [1000002]) zRA (by kernel_rfl) (by kernel_rfl) ?_|refine And.intro ?_ ?_|exact True.intro|refine rq fun _=>?_|refine rf fun _=>?_|simp only[go_sem,decide_true,zal,zbH,zco,GA,zab,zad,zag,zaa,hy0,hx0,hA,dK,dD,dP,dN,kN,zRA,Em3,Em2,Em1,zoH,T48,Tryz.f5,Fo2,Fo1,Fo0])
 all_goals first|done|rfl|omega
end Go.Proofs.YtkkffhphodngkabGreatDoor
