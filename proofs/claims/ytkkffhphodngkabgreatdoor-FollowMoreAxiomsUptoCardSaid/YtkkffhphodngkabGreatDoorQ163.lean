import Derived.Test.YtkkffhphodngkabGreatDoorAT
import Derived.Test.YtkkffhphodngkabGreatDoorY20
import Derived.Test.YtkkffhphodngkabGreatDoorY22
set_option linter.unusedSimpArgs false
namespace Go.Proofs.YtkkffhphodngkabGreatDoor
open Go Go.Abs Go.Proofs
theorem zRs {G:Nat→List FD}{N:Nat}{l:List (Nat×D)}{H:zav}{n:Nat}{id:Abs.Id}{t:Nat}{ys:List FD}{b:Bool}(ho:H id=some ⟨ys.map .fz,b,false⟩)(hs:frL l t= .ptr id 0):
  zfa G N ⟨frL l,H,n⟩ ⟨frL ((t,.rp ys)::l),zaI H id none,n⟩:=ztQ (st:=⟨frL l,H,n⟩) ho hs
def zRt:Tv:=(.q 0 (.q 1 (.r 3 (.q 4 (.r 6 (.br [(2,(.br [(5,(.q 7 (.q 8 (.q 9 (.q 10 (.br [(11,(.br [(12,(.br [(13,(.br [(14,.leaf)]))]))])),(12,(.br [(11,(.br [(13,(.br [(14,.leaf)]))]))]))])))))),(11,(.br [(5,(.q 7 (.q 8 (.q 9 (.q 10 (.br [(12,(.br [(13,(.br [(14,.leaf)]))]))])))))),(12,(.br [(5,(.q 7 (.q 8 (.q 9 (.q 10 (.br [(13,(.br [(14,.leaf)]))]))))))]))])),(12,(.br [(5,(.q 7 (.q 8 (.q 9 (.q 10 (.br [(11,(.br [(13,(.br [(14,.leaf)]))]))])))))),(11,(.br [(5,(.q 7 (.q 8 (.q 9 (.q 10 (.br [(13,(.br [(14,.leaf)]))]))))))]))]))])),(11,(.br [(2,(.br [(5,(.q 7 (.q 8 (.q 9 (.q 10 (.br [(12,(.br [(13,(.br [(14,.leaf)]))]))])))))),(12,(.br [(5,(.q 7 (.q 8 (.q 9 (.q 10 (.br [(13,(.br [(14,.leaf)]))]))))))]))])),(12,(.br [(2,(.br [(5,(.q 7 (.q 8 (.q 9 (.q 10 (.br [(13,(.br [(14,.leaf)]))]))))))]))]))])),(12,(.br [(2,(.br [(5,(.q 7 (.q 8 (.q 9 (.q 10 (.br [(11,(.br [(13,(.br [(14,.leaf)]))]))])))))),(11,(.br [(5,(.q 7 (.q 8 (.q 9 (.q 10 (.br [(13,(.br [(14,.leaf)]))]))))))]))])),(11,(.br [(2,(.br [(5,(.q 7 (.q 8 (.q 9 (.q 10 (.br [(13,(.br [(14,.leaf)]))]))))))]))]))]))]))))))
set_option maxRecDepth 100000 in
set_option maxHeartbeats 1000000 in
set_option maxHeartbeats 8000000 in
theorem zRB (hT:zaq Tryz.prog GA Fo1)(ax:List Abs.zac)(hsl:ax.length≤1048576)(f g:Abs.zac)(_:(enc ax).Wf)(_:(enc f).Wf)(_:(enc g).Wf):zaw Tryz.prog GA 4 [.fz (enc ax),.fz (enc f),.fz (enc g)] (hpL []) 0 (fun d _ _=>d= .fz (.b true)):=by
 have e1:zsZ zlK [exS]=prF zlK exS:=rfl
 have e2:zsZ zwZ [exS]=prF zwZ exS:=rfl
 have e3:zsZ zlK [zjS]=prF zlK zjS:=rfl
 have e4:zJz 7 (prF zlK exS) (prF zwZ exS)= .mk 7 ⟨[]⟩ [] [prF zlK exS,prF zwZ exS]:=rfl
 have e5:zt9 8 exS (.mk 7 ⟨[]⟩ [] [prF zlK exS,prF zwZ exS])=zxm exS:=rfl
 have dM:Str.mk [109,97,110]=zlK:=rfl
 have dX:Str.mk [120]=exS:=rfl
 have dO:Str.mk [109,111,114,116,97,108]=zwZ:=rfl
 have dK:Str.mk [107,105,109]=zjS:=rfl
 have dD:Str.mk [100,111,103]=zzK:=rfl
 have dL:Str.mk [108,101,101]=zCO:=rfl
 have eL:zsZ zzK [zCO]=zz2:=rfl
 have eG:zsZ zwZ [zjS]=zj3:=rfl
 obtain⟨p0,hx0⟩:=zGV
 unfold zfx at hx0
 rw[List.cons_append,List.cons_append,List.nil_append]at hx0
 obtain⟨r,hA⟩:∃r,zhc ax g=r:=⟨_,rfl⟩
 obtain⟨v,e⟩:=r
 obtain⟨r,hB⟩:∃r,zhc (ax++[f]) g=r:=⟨_,rfl⟩
 obtain⟨w,d⟩:=r
 have hno:v.kind=1→w.kind=2→False:=zI2 hA hB
 have hcase:((e.code=0)=False)∨((e.code=0)=True∧(((e.index=0)=False)∨((e.index=0)=True∧(((d.code=0)=False)∨((d.code=0)=True∧(((d.index=0)=False)∨((d.index=0)=True∧(((v.kind=1)=False)∨((v.kind=1)=True∧(w.kind=2)=False))))))))):=by
  by_cases a1:e.code=0
  ·refine .inr ⟨eq_true a1,?_⟩
   by_cases a2:e.index=0
   ·refine .inr ⟨eq_true a2,?_⟩
    by_cases a3:d.code=0
    ·refine .inr ⟨eq_true a3,?_⟩
     by_cases a4:d.index=0
     ·refine .inr ⟨eq_true a4,?_⟩
      by_cases a5:v.kind=1
      ·exact .inr ⟨eq_true a5,eq_false (hno a5)⟩
      ·exact .inl (eq_false a5)
     ·exact .inl (eq_false a4)
    ·exact .inl (eq_false a3)
   ·exact .inl (eq_false a2)
  ·exact .inl (eq_false a1)
 clear hno
 refine zae (N:=65) Go.Proofs.YtkkffhphodngkabGreatDoor.hm hT 4000 (lsw [41,44] [1000005]) ok4 Tryz.func4 rfl rfl (by simp) (by kernel_rfl) ?_
 rcases hcase with a1|⟨a1,a2|⟨a2,a3|⟨a3,a4|⟨a4,a5|⟨a5,a6⟩⟩⟩⟩⟩
 ·repeat'(first|(refine zak.i ?_;refine zae (N:=10) Go.Proofs.YtkkffhphodngkabGreatDoor.hm hZ6 9000 (lst []) ok9 Tryz.func9 rfl rfl (by simp) (by kernel_rfl) ?_)|(refine zkT (zRs (id:=(4004,0)) (t:=4) (b:=true) (ys:=[.i .i64 f.kind,.s f.name.l,.sl (f.words.map enc),.sl (f.subs.map enc)]) (by simp only[go_sem]) (by simp only[go_sem])) ?_;refine zkT (zRs (id:=(4005,1)) (t:=5) (b:=true) (ys:=[.i .i64 g.kind,.s g.name.l,.sl (g.words.map enc),.sl (g.subs.map enc)]) (by simp only[go_sem]) (by simp only[go_sem])) ?_;refine zar (id:=5) Go.Proofs.YtkkffhphodngkabGreatDoor.hm hT 4000 (lsw [41,44] [1000005]) zRt (by kernel_rfl) (by kernel_rfl) ?_)|refine And.intro ?_ ?_|exact True.intro|refine rq fun _=>?_|refine rf fun _=>?_|simp only[go_sem,hA,a1,e1,e2,e3,e4,e5,dM,dX,zal,zbH,zco,GA,zab,zad,zag,zaa,hx0,eL,eG,dK,dO,dD,dL,zRt,Tryz.f4,Tryz.f9,Fo1,Fo0])
  all_goals first|done|rfl|omega
 ·repeat'(first|(refine zak.i ?_;refine zae (N:=10) Go.Proofs.YtkkffhphodngkabGreatDoor.hm hZ6 9000 (lst []) ok9 Tryz.func9 rfl rfl (by simp) (by kernel_rfl) ?_)|(refine zkT (zRs (id:=(4004,0)) (t:=4) (b:=true) (ys:=[.i .i64 f.kind,.s f.name.l,.sl (f.words.map enc),.sl (f.subs.map enc)]) (by simp only[go_sem]) (by simp only[go_sem])) ?_;refine zkT (zRs (id:=(4005,1)) (t:=5) (b:=true) (ys:=[.i .i64 g.kind,.s g.name.l,.sl (g.words.map enc),.sl (g.subs.map enc)]) (by simp only[go_sem]) (by simp only[go_sem])) ?_;refine zar (id:=5) Go.Proofs.YtkkffhphodngkabGreatDoor.hm hT 4000 (lsw [41,44] [1000005]) zRt (by kernel_rfl) (by kernel_rfl) ?_)|refine And.intro ?_ ?_|exact True.intro|refine rq fun _=>?_|refine rf fun _=>?_|simp only[go_sem,hA,a1,a2,e1,e2,e3,e4,e5,dM,dX,zal,zbH,zco,GA,zab,zad,zag,zaa,hx0,eL,eG,dK,dO,dD,dL,zRt,Tryz.f4,Tryz.f9,Fo1,Fo0])
  all_goals first|done|rfl|omega
 ·repeat'(first|(refine zak.i ?_;refine zae (N:=10) Go.Proofs.YtkkffhphodngkabGreatDoor.hm hZ6 9000 (lst []) ok9 Tryz.func9 rfl rfl (by simp) (by kernel_rfl) ?_)|(refine zkT (zRs (id:=(4004,0)) (t:=4) (b:=true) (ys:=[.i .i64 f.kind,.s f.name.l,.sl (f.words.map enc),.sl (f.subs.map enc)]) (by simp only[go_sem]) (by simp only[go_sem])) ?_;refine zkT (zRs (id:=(4005,1)) (t:=5) (b:=true) (ys:=[.i .i64 g.kind,.s g.name.l,.sl (g.words.map enc),.sl (g.subs.map enc)]) (by simp only[go_sem]) (by simp only[go_sem])) ?_;refine zar (id:=5) Go.Proofs.YtkkffhphodngkabGreatDoor.hm hT 4000 (lsw [41,44] [1000005]) zRt (by kernel_rfl) (by kernel_rfl) ?_)|refine And.intro ?_ ?_|exact True.intro|refine rq fun _=>?_|refine rf fun _=>?_|simp only[go_sem,hA,hB,a1,a2,a3,e1,e2,e3,e4,e5,dM,dX,zal,zbH,zco,GA,zab,zad,zag,zaa,hx0,eL,eG,dK,dO,dD,dL,zRt,Tryz.f4,Tryz.f9,Fo1,Fo0])
  all_goals first|done|rfl|omega
 ·repeat'(first|(refine zak.i ?_;refine zae (N:=10) Go.Proofs.YtkkffhphodngkabGreatDoor.hm hZ6 9000 (lst []) ok9 Tryz.func9 rfl rfl (by simp) (by kernel_rfl) ?_)|(refine zkT (zRs (id:=(4004,0)) (t:=4) (b:=true) (ys:=[.i .i64 f.kind,.s f.name.l,.sl (f.words.map enc),.sl (f.subs.map enc)]) (by simp only[go_sem]) (by simp only[go_sem])) ?_;refine zkT (zRs (id:=(4005,1)) (t:=5) (b:=true) (ys:=[.i .i64 g.kind,.s g.name.l,.sl (g.words.map enc),.sl (g.subs.map enc)]) (by simp only[go_sem]) (by simp only[go_sem])) ?_;refine zar (id:=5) Go.Proofs.YtkkffhphodngkabGreatDoor.hm hT 4000 (lsw [41,44] [1000005]) zRt (by kernel_rfl) (by kernel_rfl) ?_)|refine And.intro ?_ ?_|exact True.intro|refine rq fun _=>?_|refine rf fun _=>?_|simp only[go_sem,hA,hB,a1,a2,a3,a4,e1,e2,e3,e4,e5,dM,dX,zal,zbH,zco,GA,zab,zad,zag,zaa,hx0,eL,eG,dK,dO,dD,dL,zRt,Tryz.f4,Tryz.f9,Fo1,Fo0])
  all_goals first|done|rfl|omega
 ·repeat'(first|(refine zak.i ?_;refine zae (N:=10) Go.Proofs.YtkkffhphodngkabGreatDoor.hm hZ6 9000 (lst []) ok9 Tryz.func9 rfl rfl (by simp) (by kernel_rfl) ?_)|(refine zkT (zRs (id:=(4004,0)) (t:=4) (b:=true) (ys:=[.i .i64 f.kind,.s f.name.l,.sl (f.words.map enc),.sl (f.subs.map enc)]) (by simp only[go_sem]) (by simp only[go_sem])) ?_;refine zkT (zRs (id:=(4005,1)) (t:=5) (b:=true) (ys:=[.i .i64 g.kind,.s g.name.l,.sl (g.words.map enc),.sl (g.subs.map enc)]) (by simp only[go_sem]) (by simp only[go_sem])) ?_;refine zar (id:=5) Go.Proofs.YtkkffhphodngkabGreatDoor.hm hT 4000 (lsw [41,44] [1000005]) zRt (by kernel_rfl) (by kernel_rfl) ?_)|refine And.intro ?_ ?_|exact True.intro|refine rq fun _=>?_|refine rf fun _=>?_|simp only[go_sem,hA,hB,a1,a2,a3,a4,a5,e1,e2,e3,e4,e5,dM,dX,zal,zbH,zco,GA,zab,zad,zag,zaa,hx0,eL,eG,dK,dO,dD,dL,zRt,Tryz.f4,Tryz.f9,Fo1,Fo0])
  all_goals first|done|rfl|omega
 ·repeat'(first|(refine zak.i ?_;refine zae (N:=10) Go.Proofs.YtkkffhphodngkabGreatDoor.hm hZ6 9000 (lst []) ok9 Tryz.func9 rfl rfl (by simp) (by kernel_rfl) ?_)|(refine zkT (zRs (id:=(4004,0)) (t:=4) (b:=true) (ys:=[.i .i64 f.kind,.s f.name.l,.sl (f.words.map enc),.sl (f.subs.map enc)]) (by simp only[go_sem]) (by simp only[go_sem])) ?_;refine zkT (zRs (id:=(4005,1)) (t:=5) (b:=true) (ys:=[.i .i64 g.kind,.s g.name.l,.sl (g.words.map enc),.sl (g.subs.map enc)]) (by simp only[go_sem]) (by simp only[go_sem])) ?_;refine zar (id:=5) Go.Proofs.YtkkffhphodngkabGreatDoor.hm hT 4000 (lsw [41,44] [1000005]) zRt (by kernel_rfl) (by kernel_rfl) ?_)|refine And.intro ?_ ?_|exact True.intro|refine rq fun _=>?_|refine rf fun _=>?_|simp only[go_sem,hA,hB,a1,a2,a3,a4,a5,a6,e1,e2,e3,e4,e5,dM,dX,zal,zbH,zco,GA,zab,zad,zag,zaa,hx0,eL,eG,dK,dO,dD,dL,zRt,Tryz.f4,Tryz.f9,Fo1,Fo0])
  all_goals first|done|rfl|omega
end Go.Proofs.YtkkffhphodngkabGreatDoor
