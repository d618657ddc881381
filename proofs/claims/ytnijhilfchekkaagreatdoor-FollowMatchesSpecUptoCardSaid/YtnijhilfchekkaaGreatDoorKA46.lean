/- Ask returns what the document says, for inputs within the bound of the second form; no conditions. -/
import Derived.Test.YtnijhilfchekkaaGreatDoorCards
import Derived.Test.YtnijhilfchekkaaGreatDoorTie
import Derived.WalkKit
import Derived.ProofKit
import Derived.OpenShut
import Derived.Deep.DeepHandedRow
import Derived.Below
import Derived.Carry
import Derived.ChangeSame
import Derived.Test.YtnijhilfchekkaaGreatDoorZA
set_option linter.unusedSimpArgs false
set_option maxRecDepth 100000
set_option maxHeartbeats 1000000
namespace Go.Proofs.YtnijhilfchekkaaGreatDoor
open Go Go.Abs Go.Proofs
theorem qy {G:Nat→List FD}{N:Nat}{l:List (Nat×D)}{H:bR}{n:Nat}{id:Abs.Id}{t:Nat}{ys:List FD}{b:Bool}(ho:H id=some ⟨ys.map .fz,b,false⟩)(hs:frL l t= .ptr id 0):
  gH G N ⟨frL l,H,n⟩ ⟨frL ((t,.rp ys)::l),cp H id none,n⟩:=zF (st:=⟨frL l,H,n⟩) ho hs
def qX (ax:List Abs.aH)(g:Abs.aH):sb:=
 if(qU ax g 3).1=true∧(qU ax g 3).2.code=0 then⟨1,.mk 0 0 0 ⟨[]⟩ [],gi⟩
 else if(kP (ax++[eJ g]) 4).2.1=true then⟨2,.mk 0 0 0 ⟨[]⟩ [],(kP (ax++[eJ g]) 4).1⟩else⟨3,.mk 0 0 0 ⟨[]⟩ [],gi⟩
def lV:Tv:=(.q 0 (.q 1 (.r 3 (.q 4 (.q 5 (.q 6 (.br [(2,(.br [(7,(.q 8 .leaf))]))])))))))
def Fq0:Tbl:=Tbl.or W3 (Tbl.or I19 (Tbl.or Fo1 Em3))
theorem lO:b9 Tryz.prog GA Fq0:=sw hW3 (sw Vc (sw U7 U6))
def Fq1:Tbl:=Fq0.add 8 (sp2 qX fun ax g=>(∀f∈ax,(dB false f).code=0)∧(dB false g).code=0∧ax.length≤40)
set_option maxHeartbeats 4000000 in
theorem U8:b9 Tryz.prog GA Fq1:=by
 refine gN ok8 lO fun ax g hp _ _=>?_;obtain⟨hva,hvg,hl⟩:=hp;have hpre:(∀f∈ax,(dB false f).code=0)∧(dB false g).code=0∧ax.length≤40:=⟨hva,hvg,hl⟩;obtain⟨V,hV⟩:∃V,qX ax g=V:=⟨_,rfl⟩;rw[hV];obtain⟨Q,hQ⟩:∃Q:D→bR→Nat→Prop,Q=(fun d _ _=>D.val d=some (.fz (enc V))):=⟨_,rfl⟩;rw[←hQ];have kq:=Kp.mk hQ;clear hQ hva hvg;unfold qX at hV;obtain⟨r,hP⟩:∃r,qU ax g 3=r:=⟨_,rfl⟩;rw[hP]at hV;obtain⟨b,e⟩:=r;simp only at hV;have hEq:Abs.aH.mk 4 ⟨[]⟩ [] [g]=eJ g:=rfl;have nk1:(eJ g).kind=4:=rfl;have nk2:(eJ g).name=⟨[]⟩:=rfl;have nk3:(eJ g).words=[]:=rfl;have nk4:(eJ g).subs=[g]:=rfl;obtain⟨V2,hV2⟩:∃V2,gU (ax++[eJ g]) 4=V2:=⟨_,rfl⟩;by_cases he:e.code=0
 ·have he':(e.code=0)=True:=aU he;cases b with
  |true=>
   rw[aF ⟨rfl,he⟩]at hV;subst hV;refine rv (N:=48) qqh lO 8000 qWp ok8 Tryz.func8 rfl ?_
   repeat'(first|(refine fa (qy (id:=(8003,0)) (t:=3) (b:=true) (ys:=[.i .i64 g.kind,.s g.name.l,.sl (g.words.map enc),.sl (g.subs.map enc)]) aj aj) ?_;refine ru (id:=4) qqh lO 8000 qWp lV ?_)|apply rx hpre|apply au|refine rq ?_|simp only[go_sem,hP,he',cT,lM,jA,gi,bt,bn,bZ,bh,lV,Tryz.f8,Fq0,Z7,Z6,Z5,Z4,Z3,Z2,Z1,Y9,Y8,Y7,Y6,Y5,Y4,Y3,Y2,Y1,N5,N4,N3,N2,N1,R4,R3,R2,R1,Fo1,Fo0,Em3,Em2,Em1])
   all_goals first|rfl|(rw[kq.out];done)|(rw[kq.out];rfl)|(rw[kq.out];simp only[go_sem,cT,bZ,bn];done)|(rw[kq.out];simp only[go_sem,cT,bZ,bn];rfl)|(rw[kq.out];trace_state)
  |false=>
   rw[az ak]at hV;by_cases hz:V2.code=0;rotate_left
   ·have hz':(V2.code=0)=False:=aP hz;have hF:kP (ax++[eJ g]) 4=(gi,false,V2):=by unfold kP;rw[hV2,aF hz]
    rw[hF,az ak]at hV;subst hV;refine rv (N:=48) qqh lO 8000 qWp ok8 Tryz.func8 rfl ?_
    repeat'(first|(refine fa (qy (id:=(8003,0)) (t:=3) (b:=true) (ys:=[.i .i64 g.kind,.s g.name.l,.sl (g.words.map enc),.sl (g.subs.map enc)]) aj aj) ?_;refine ru (id:=4) qqh lO 8000 qWp lV ?_)|apply rx hpre|apply au|refine rq ?_|simp only[go_sem,hP,he',hV2,hz',hEq,nk1,nk2,nk3,nk4,cT,lM,jA,gi,bt,bn,bZ,bh,lV,Tryz.f8,Fq0,Z7,Z6,Z5,Z4,Z3,Z2,Z1,Y9,Y8,Y7,Y6,Y5,Y4,Y3,Y2,Y1,N5,N4,N3,N2,N1,R4,R3,R2,R1,Fo1,Fo0,Em3,Em2,Em1])
    all_goals first|rfl|(rw[kq.out];done)|(rw[kq.out];rfl)|(rw[kq.out];simp only[go_sem,cT,bZ,bn];done)|(rw[kq.out];simp only[go_sem,cT,bZ,bn];rfl)|(rw[kq.out];trace_state)
   have hz':(V2.code=0)=True:=aU hz;have hfz:(gU (ax++[eJ g]) 4).code=0:=by rw[hV2];exact hz
   obtain⟨r,hF⟩:∃r,kP (ax++[eJ g]) 4=r:=⟨_,rfl⟩;have hFr:rV (ax++[eJ g]) 4=r:=by rw[←hF];unfold kP rV;rw[az (by simp[hfz])]
   rw[hF]at hV;obtain⟨m,ok2,e2⟩:=r;simp only at hV;cases ok2 with
   |true=>
    rw[aF rfl]at hV;subst hV;refine rv (N:=48) qqh lO 8000 qWp ok8 Tryz.func8 rfl ?_
    repeat'(first|(refine fa (qy (id:=(8003,0)) (t:=3) (b:=true) (ys:=[.i .i64 g.kind,.s g.name.l,.sl (g.words.map enc),.sl (g.subs.map enc)]) aj aj) ?_;refine ru (id:=4) qqh lO 8000 qWp lV ?_)|apply rx hpre|apply rx hfz|apply au|refine rq ?_|simp only[go_sem,hP,he',hV2,hz',hFr,hEq,nk1,nk2,nk3,nk4,cT,lM,jA,gi,bt,bn,bZ,bh,lV,Tryz.f8,Fq0,Z7,Z6,Z5,Z4,Z3,Z2,Z1,Y9,Y8,Y7,Y6,Y5,Y4,Y3,Y2,Y1,N5,N4,N3,N2,N1,R4,R3,R2,R1,Fo1,Fo0,Em3,Em2,Em1])
    all_goals first|rfl|(rw[kq.out];done)|(rw[kq.out];rfl)|(rw[kq.out];simp only[go_sem,cT,bZ,bn];done)|(rw[kq.out];simp only[go_sem,cT,bZ,bn];rfl)|(rw[kq.out];trace_state)
   |false=>
    rw[az ak]at hV;subst hV;refine rv (N:=48) qqh lO 8000 qWp ok8 Tryz.func8 rfl ?_
    repeat'(first|(refine fa (qy (id:=(8003,0)) (t:=3) (b:=true) (ys:=[.i .i64 g.kind,.s g.name.l,.sl (g.words.map enc),.sl (g.subs.map enc)]) aj aj) ?_;refine ru (id:=4) qqh lO 8000 qWp lV ?_)|apply rx hpre|apply rx hfz|apply au|refine rq ?_|simp only[go_sem,hP,he',hV2,hz',hFr,hEq,nk1,nk2,nk3,nk4,cT,lM,jA,gi,bt,bn,bZ,bh,lV,Tryz.f8,Fq0,Z7,Z6,Z5,Z4,Z3,Z2,Z1,Y9,Y8,Y7,Y6,Y5,Y4,Y3,Y2,Y1,N5,N4,N3,N2,N1,R4,R3,R2,R1,Fo1,Fo0,Em3,Em2,Em1])
    all_goals first|rfl|(rw[kq.out];done)|(rw[kq.out];rfl)|(rw[kq.out];simp only[go_sem,cT,bZ,bn];done)|(rw[kq.out];simp only[go_sem,cT,bZ,bn];rfl)|(rw[kq.out];trace_state)
 ·have he':(e.code=0)=False:=aP he;rw[az (by simp[he])]at hV;cases b with
  |true=>
   by_cases hz:V2.code=0;rotate_left
   ·have hz':(V2.code=0)=False:=aP hz;have hF:kP (ax++[eJ g]) 4=(gi,false,V2):=by unfold kP;rw[hV2,aF hz]
    rw[hF,az ak]at hV;subst hV;refine rv (N:=48) qqh lO 8000 qWp ok8 Tryz.func8 rfl ?_
    repeat'(first|(refine fa (qy (id:=(8003,0)) (t:=3) (b:=true) (ys:=[.i .i64 g.kind,.s g.name.l,.sl (g.words.map enc),.sl (g.subs.map enc)]) aj aj) ?_;refine ru (id:=4) qqh lO 8000 qWp lV ?_)|apply rx hpre|apply au|refine rq ?_|simp only[go_sem,hP,he',hV2,hz',hEq,nk1,nk2,nk3,nk4,cT,lM,jA,gi,bt,bn,bZ,bh,lV,Tryz.f8,Fq0,Z7,Z6,Z5,Z4,Z3,Z2,Z1,Y9,Y8,Y7,Y6,Y5,Y4,Y3,Y2,Y1,N5,N4,N3,N2,N1,R4,R3,R2,R1,Fo1,Fo0,Em3,Em2,Em1])
    all_goals first|rfl|(rw[kq.out];done)|(rw[kq.out];rfl)|(rw[kq.out];simp only[go_sem,cT,bZ,bn];done)|(rw[kq.out];simp only[go_sem,cT,bZ,bn];rfl)|(rw[kq.out];trace_state)
   have hz':(V2.code=0)=True:=aU hz;have hfz:(gU (ax++[eJ g]) 4).code=0:=by rw[hV2];exact hz
   obtain⟨r,hF⟩:∃r,kP (ax++[eJ g]) 4=r:=⟨_,rfl⟩;have hFr:rV (ax++[eJ g]) 4=r:=by rw[←hF];unfold kP rV;rw[az (by simp[hfz])]
   rw[hF]at hV;obtain⟨m,ok2,e2⟩:=r;simp only at hV;cases ok2 with
   |true=>
    rw[aF rfl]at hV;subst hV;refine rv (N:=48) qqh lO 8000 qWp ok8 Tryz.func8 rfl ?_
    repeat'(first|(refine fa (qy (id:=(8003,0)) (t:=3) (b:=true) (ys:=[.i .i64 g.kind,.s g.name.l,.sl (g.words.map enc),.sl (g.subs.map enc)]) aj aj) ?_;refine ru (id:=4) qqh lO 8000 qWp lV ?_)|apply rx hpre|apply rx hfz|apply au|refine rq ?_|simp only[go_sem,hP,he',hV2,hz',hFr,hEq,nk1,nk2,nk3,nk4,cT,lM,jA,gi,bt,bn,bZ,bh,lV,Tryz.f8,Fq0,Z7,Z6,Z5,Z4,Z3,Z2,Z1,Y9,Y8,Y7,Y6,Y5,Y4,Y3,Y2,Y1,N5,N4,N3,N2,N1,R4,R3,R2,R1,Fo1,Fo0,Em3,Em2,Em1])
    all_goals first|rfl|(rw[kq.out];done)|(rw[kq.out];rfl)|(rw[kq.out];simp only[go_sem,cT,bZ,bn];done)|(rw[kq.out];simp only[go_sem,cT,bZ,bn];rfl)|(rw[kq.out];trace_state)
   |false=>
    rw[az ak]at hV;subst hV;refine rv (N:=48) qqh lO 8000 qWp ok8 Tryz.func8 rfl ?_
    repeat'(first|(refine fa (qy (id:=(8003,0)) (t:=3) (b:=true) (ys:=[.i .i64 g.kind,.s g.name.l,.sl (g.words.map enc),.sl (g.subs.map enc)]) aj aj) ?_;refine ru (id:=4) qqh lO 8000 qWp lV ?_)|apply rx hpre|apply rx hfz|apply au|refine rq ?_|simp only[go_sem,hP,he',hV2,hz',hFr,hEq,nk1,nk2,nk3,nk4,cT,lM,jA,gi,bt,bn,bZ,bh,lV,Tryz.f8,Fq0,Z7,Z6,Z5,Z4,Z3,Z2,Z1,Y9,Y8,Y7,Y6,Y5,Y4,Y3,Y2,Y1,N5,N4,N3,N2,N1,R4,R3,R2,R1,Fo1,Fo0,Em3,Em2,Em1])
    all_goals first|rfl|(rw[kq.out];done)|(rw[kq.out];rfl)|(rw[kq.out];simp only[go_sem,cT,bZ,bn];done)|(rw[kq.out];simp only[go_sem,cT,bZ,bn];rfl)|(rw[kq.out];trace_state)
  |false=>
   by_cases hz:V2.code=0;rotate_left
   ·have hz':(V2.code=0)=False:=aP hz;have hF:kP (ax++[eJ g]) 4=(gi,false,V2):=by unfold kP;rw[hV2,aF hz]
    rw[hF,az ak]at hV;subst hV;refine rv (N:=48) qqh lO 8000 qWp ok8 Tryz.func8 rfl ?_
    repeat'(first|(refine fa (qy (id:=(8003,0)) (t:=3) (b:=true) (ys:=[.i .i64 g.kind,.s g.name.l,.sl (g.words.map enc),.sl (g.subs.map enc)]) aj aj) ?_;refine ru (id:=4) qqh lO 8000 qWp lV ?_)|apply rx hpre|apply au|refine rq ?_|simp only[go_sem,hP,he',hV2,hz',hEq,nk1,nk2,nk3,nk4,cT,lM,jA,gi,bt,bn,bZ,bh,lV,Tryz.f8,Fq0,Z7,Z6,Z5,Z4,Z3,Z2,Z1,Y9,Y8,Y7,Y6,Y5,Y4,Y3,Y2,Y1,N5,N4,N3,N2,N1,R4,R3,R2,R1,Fo1,Fo0,Em3,Em2,Em1])
    all_goals first|rfl|(rw[kq.out];done)|(rw[kq.out];rfl)|(rw[kq.out];simp only[go_sem,cT,bZ,bn];done)|(rw[kq.out];simp only[go_sem,cT,bZ,bn];rfl)|(rw[kq.out];trace_state)
   have hz':(V2.code=0)=True:=aU hz;have hfz:(gU (ax++[eJ g]) 4).code=0:=by rw[hV2];exact hz
   obtain⟨r,hF⟩:∃r,kP (ax++[eJ g]) 4=r:=⟨_,rfl⟩;have hFr:rV (ax++[eJ g]) 4=r:=by rw[←hF];unfold kP rV;rw[az (by simp[hfz])]
   rw[hF]at hV;obtain⟨m,ok2,e2⟩:=r;simp only at hV;cases ok2 with
   |true=>
    rw[aF rfl]at hV;subst hV;refine rv (N:=48) qqh lO 8000 qWp ok8 Tryz.func8 rfl ?_
    repeat'(first|(refine fa (qy (id:=(8003,0)) (t:=3) (b:=true) (ys:=[.i .i64 g.kind,.s g.name.l,.sl (g.words.map enc),.sl (g.subs.map enc)]) aj aj) ?_;refine ru (id:=4) qqh lO 8000 qWp lV ?_)|apply rx hpre|apply rx hfz|apply au|refine rq ?_|simp only[go_sem,hP,he',hV2,hz',hFr,hEq,nk1,nk2,nk3,nk4,cT,lM,jA,gi,bt,bn,bZ,bh,lV,Tryz.f8,Fq0,Z7,Z6,Z5,Z4,Z3,Z2,Z1,Y9,Y8,Y7,Y6,Y5,Y4,Y3,Y2,Y1,N5,N4,N3,N2,N1,R4,R3,R2,R1,Fo1,Fo0,Em3,Em2,Em1])
    all_goals first|rfl|(rw[kq.out];done)|(rw[kq.out];rfl)|(rw[kq.out];simp only[go_sem,cT,bZ,bn];done)|(rw[kq.out];simp only[go_sem,cT,bZ,bn];rfl)|(rw[kq.out];trace_state)
   |false=>
    rw[az ak]at hV;subst hV;refine rv (N:=48) qqh lO 8000 qWp ok8 Tryz.func8 rfl ?_
    repeat'(first|(refine fa (qy (id:=(8003,0)) (t:=3) (b:=true) (ys:=[.i .i64 g.kind,.s g.name.l,.sl (g.words.map enc),.sl (g.subs.map enc)]) aj aj) ?_;refine ru (id:=4) qqh lO 8000 qWp lV ?_)|apply rx hpre|apply rx hfz|apply au|refine rq ?_|simp only[go_sem,hP,he',hV2,hz',hFr,hEq,nk1,nk2,nk3,nk4,cT,lM,jA,gi,bt,bn,bZ,bh,lV,Tryz.f8,Fq0,Z7,Z6,Z5,Z4,Z3,Z2,Z1,Y9,Y8,Y7,Y6,Y5,Y4,Y3,Y2,Y1,N5,N4,N3,N2,N1,R4,R3,R2,R1,Fo1,Fo0,Em3,Em2,Em1])
    all_goals first|rfl|(rw[kq.out];done)|(rw[kq.out];rfl)|(rw[kq.out];simp only[go_sem,cT,bZ,bn];done)|(rw[kq.out];simp only[go_sem,cT,bZ,bn];rfl)|(rw[kq.out];trace_state)
set_option maxHeartbeats 8000000 in
theorem SE (hT:b9 Tryz.prog GA Fq1)(ax:List Abs.aH)(g:Abs.aH)(_:(enc ax).Wf)(_:(enc g).Wf):cS Tryz.prog GA 3 [.fz (enc ax),.fz (enc g)] (hpL []) 0 (fun d _ _=>d= .fz (.b true)):=by
 have dO:Str.mk [109,111,114,116,97,108]=qg:=rfl;have dK:Str.mk [107,105,109]=jQ:=rfl;have eG:tT qg [jQ]=nU:=rfl;obtain⟨p0,hx0⟩:=Qu;obtain⟨q,hQ⟩:∃q,qfS ax g=q:=⟨_,rfl⟩;have hbq:(iC ax g).2=q:=by rw[ZL,hQ]
 by_cases hq:q.code=0;rotate_left
 ·have hP:=IX (ax:=ax) (g:=g) (uses:=3) (by rw[hbq];exact hq);have hA:o6 ax g=(⟨0,.mk 0 0 0 ⟨[]⟩ [],gi⟩,q):=by unfold o6 uo;rw[hP,hbq,aF ⟨hq,by have:=OA ax g;rw[hbq]at this;exact this⟩]
  have hq':(q.code=0)=False:=aP hq;have hpre:True:=trivial;refine rv (N:=87) qqh hT 3000 qWi ok3 Tryz.func3 rfl ?_
  repeat'(first|apply rx hpre|apply au|refine rq ?_|simp only[go_sem,hA,hq',cT,lM,jA,GA,bt,bn,bZ,bh,hx0,hQ,dO,dK,eG,Fq1,Tryz.f3,Fq0,Z7,Z6,Z5,Z4,Z3,Z2,Z1,Y9,Y8,Y7,Y6,Y5,Y4,Y3,Y2,Y1,N5,N4,N3,N2,N1,R4,R3,R2,R1,Fo1,Fo0,Em3,Em2,Em1])
  all_goals first|rfl|omega
 have hbz:(iC ax g).2.code=0:=by rw[hbq];exact hq
 obtain⟨hbg,hlen,hva,hvg⟩:=CQ hbz;have hq2:q=⟨0,0⟩:=by rw[←hbq,hbg]
 subst hq2;clear hq;have hpre:(∀f∈ax,(dB false f).code=0)∧(dB false g).code=0∧ax.length≤40:=⟨hva,hvg,hlen⟩;have hpr:=Yi (ax:=ax) (g:=g) (uses:=3) hbz ai;obtain⟨r,hP⟩:∃r,jK ax g 3=r:=⟨_,rfl⟩;obtain⟨p,ok,e⟩:=r;have hcode:=Yk (ax:=ax) (g:=g) (uses:=3) hbz ai;rw[hP]at hpr hcode;simp only at hpr hcode;cases ok with
 |true=>
  obtain⟨c1,c2,c3,c4⟩:=Yj hP;obtain⟨_,_,_,_,_,he⟩:=zm hP;subst he;have hA:o6 ax g=(⟨1,p,gi⟩,⟨0,0⟩):=Nt hP;have hS:qX ax g=⟨1,.mk 0 0 0 ⟨[]⟩ [],gi⟩:=by unfold qX;rw[hpr,aF ⟨rfl,rfl⟩]
  have hfp:(∀f∈ax,clB f)∧clB g∧ax.length≤1000:=⟨fun f hf=>⟨(qp (hva f hf)).b,(qp (hva f hf)).clean⟩,⟨(qp hvg).b,(qp hvg).clean⟩,ae⟩;obtain⟨B,hB⟩:∃B,xr ax g=B:=⟨_,rfl⟩;have hB2:jz ax g=B:=hB;rw[hB2]at c1 c3 c4;have hcl:clP B p:=⟨c3,ae⟩;refine rv (N:=87) qqh hT 3000 qWi ok3 Tryz.func3 rfl ?_
  repeat'(first|apply rx hpre|apply rx hfp|apply rx hcl|apply au|refine rq ?_|simp only[go_sem,hA,hS,hB,c1,j0,gi,cT,lM,jA,GA,bt,bn,bZ,bh,hx0,hQ,dO,dK,eG,Fq1,Tryz.f3,Fq0,Z7,Z6,Z5,Z4,Z3,Z2,Z1,Y9,Y8,Y7,Y6,Y5,Y4,Y3,Y2,Y1,N5,N4,N3,N2,N1,R4,R3,R2,R1,Fo1,Fo0,Em3,Em2,Em1])
  all_goals first|rfl|omega
 |false=>
  have hnp:¬((qU ax g 3).1=true∧(qU ax g 3).2.code=0):=by rw[hpr];simp
  have hnf:¬(e.code≠0∧e.code≠17):=ae
  obtain⟨r,hF⟩:∃r,kP (ax++[eJ g]) 4=r:=⟨_,rfl⟩;obtain⟨m,ok2,e2⟩:=r;cases ok2 with
  |true=>
   have hA:o6 ax g=(⟨2,.mk 0 0 0 ⟨[]⟩ [],m⟩,⟨0,0⟩):=by unfold o6 uo;rw[hP,hF,az hnf,az ak,aF rfl]
   have hS:qX ax g=⟨2,.mk 0 0 0 ⟨[]⟩ [],m⟩:=by unfold qX;rw[az hnp,hF,aF rfl]
   refine rv (N:=87) qqh hT 3000 qWi ok3 Tryz.func3 rfl ?_
   repeat'(first|apply rx hpre|apply au|refine rq ?_|simp only[go_sem,hA,hS,j0,cT,lM,jA,GA,bt,bn,bZ,bh,hx0,hQ,dO,dK,eG,Fq1,Tryz.f3,Fq0,Z7,Z6,Z5,Z4,Z3,Z2,Z1,Y9,Y8,Y7,Y6,Y5,Y4,Y3,Y2,Y1,N5,N4,N3,N2,N1,R4,R3,R2,R1,Fo1,Fo0,Em3,Em2,Em1])
   all_goals first|rfl|omega
  |false=>
   have hA:o6 ax g=(⟨3,.mk 0 0 0 ⟨[]⟩ [],gi⟩,⟨0,0⟩):=by unfold o6 uo;rw[hP,hF,az hnf,az ak,az ak]
   have hS:qX ax g=⟨3,.mk 0 0 0 ⟨[]⟩ [],gi⟩:=by unfold qX;rw[az hnp,hF,az ak]
   refine rv (N:=87) qqh hT 3000 qWi ok3 Tryz.func3 rfl ?_
   repeat'(first|apply rx hpre|apply au|refine rq ?_|simp only[go_sem,hA,hS,j0,gi,cT,lM,jA,GA,bt,bn,bZ,bh,hx0,hQ,dO,dK,eG,Fq1,Tryz.f3,Fq0,Z7,Z6,Z5,Z4,Z3,Z2,Z1,Y9,Y8,Y7,Y6,Y5,Y4,Y3,Y2,Y1,N5,N4,N3,N2,N1,R4,R3,R2,R1,Fo1,Fo0,Em3,Em2,Em1])
   all_goals first|rfl|omega
open Go Go.Abs Go.RowKit Go.WideShapes Go.ChangeShapes
theorem Mo {H:Type}:∀(es:List (DataW H)),(∀d∈es,1≤Rows.uptoBulk d)→es.length≤Rows.uptoBulkAll es
 |[],_=>gL _
 |d::es,h=>by have h1:=h d ak;have h2:=Mo es fun d hd=>h d (by simp[hd]);simp only[aN,Rows.uptoBulkAll];omega
theorem CC {H:Type}:∀(es:List (DataW H)) (d:DataW H),d∈es→Rows.uptoBulk d≤Rows.uptoBulkAll es
 |[],_,h=>by simp at h
 |e::es,d,h=>by
  simp only[Rows.uptoBulkAll];rcases aV.1 h with rfl|h
  ·omega
  ·have:=CC es d h;omega
theorem Pz {H:Type}(d:DataW H):1≤Rows.uptoBulk d:=by
 cases d with
 |lit l=>cases l<;>simp[Rows.uptoBulk]
 |_=>simp[Rows.uptoBulk]
theorem rO:xq (fun _ d=>Rows.uptoBulk d):=by
 refine⟨fun H b=>by simp[Rows.uptoBulk],fun H es sp=>?_,fun H es sp d hd=>?_,fun H ps d hd=>?_⟩
 ·have:=Mo es fun d _=>Pz d;simp only[Rows.uptoBulk];omega
 ·have:=CC es d hd;simp only[Rows.uptoBulk];omega
 ·have:=CC ps d hd;simp only[Rows.uptoBulk];omega
section
variable {H:Type} {en:TypeId×Value→H} {P:Program}
theorem Wg {f:Func}{s:ChangeSpec}{apart fresh handsOn again:Bool}{W W':World}{args:Array Value}{v:Value}{ds gs:List (DataW H)}{before pa pv:List MemPlace}
  (hW:DataW.Whole en P f.params.toList s.vars apart W args.toList ds gs before)
  (hres:∀(b:Nat) (sp:Nat→Bool) (hd:Bool),DataW.TrodAll en P W' b sp hd f.resultTypes.toList (v.resultList f.resultTypes.size) (s.fn H (ds++gs)).results [])
  (hargs:∀sp:Nat→Bool,(∀p∈before,sp p.block=true)→DataW.TrodAll en P W' 0 sp true f.params.toList args.toList (s.fn H (ds++gs)).args pa)
  (hvars:∀sp:Nat→Bool,(∀p∈before,sp p.block=true)→DataW.TrodVars en P W' sp s.vars (s.fn H (ds++gs)).vars pv)
  (hps:before=pa++pv)(hb:Below W.heap.size W W')
  (hok:∀(j:Nat) (t:TypeId) (r:Value),f.resultTypes[j]?=some t→(v.resultList f.resultTypes.size)[j]?=some r→Value.okWide P W' .any 0 t r):
  s.post en P f apart fresh handsOn again W args v W':=by
 have hlt:∀p∈before,p.block<W.heap.size:=fun p hp=>hW.lt p hp;have hold:∀p∈before,(fun b=>decide (b<W.heap.size)) p.block=true:=fun p hp=>by simpa using hlt p hp
 refine⟨ds,gs,before,[],pa,pv,hW,hres _ _ _,hargs _ hold,hvars _ hold,World.keptBut_mono (fun p hp=>⟨hp,?_⟩) (hb.frame (· ∈before)),fun _=>?_⟩
 ·rw[hps,aO]at hp;exact Or.inr hp
 ·obtain⟨_,_,_,_,_,hz,hn⟩:=hW;refine⟨hok,_,_,([]++pa)++pv,⟨[]++pa,pv,trodAll_append (hargs _ (fun _ _=>rfl)) (hres _ _ _),hvars _ (fun _ _=>rfl),rfl,?_,?_⟩,?_⟩
  ·intro b off hp;have hin:MemPlace.cell b off∈before:=by rw[hps];simpa using hp
   rw[hb.frozen (hlt _ hin)];exact hz b off hin
  ·intro ha;have:=hn ha;rw[hps]at this;simpa using this
  ·intro p hp _;rw[hps];simpa using hp
end
theorem NH:laidOutB Tryz.prog=true:=ah
theorem Fh:Tryz.prog.globalNamed "glosswright/glosswrightlaw2.none" =some 0:=ah
theorem Zt:(Tryz.prog.globals[0]?).map (·.type)=some 36:=ah
theorem Ps:(Tryz.prog.globals[1]?).map (·.type)=some 208:=ah
theorem VD:Tryz.prog.underlying 208=some (.array 20 188):=ah
theorem VE:Tryz.prog.underlying 188=some (.int .u64):=ah
theorem Ux:Tryz.prog.cellsOf 208=20:=ah
theorem Uy:Tryz.prog.cellsOf 188=1:=ah
theorem Db {P:Program}{W:World}{n:String}{d:DataW Unit}:∀{l:List (String×DataW Unit)} {ps:List MemPlace},DataW.LaidVars P W l ps→(n,d)∈l→
  ∃g t cs fuel p,P.globalNamed n=some g∧(P.globals[g]?).map (·.type)=some t∧W.var? P n=some cs∧DataW.trod (fun _=>()) P W 0 (fun _=>true) false fuel t cs.toList=some (d,p)
 |(n',d')::r,ps,h,hm=>by
  obtain⟨g,t,cs,fuel,p,q,h1,h2,h3,h4,h5,_⟩:=h;rcases aV.1 hm with e|hm
  ·obtain⟨rfl,rfl⟩:=Prod.mk.inj e;exact⟨g,t,cs,fuel,p,h1,h2,h3,h4⟩
  ·exact Db h5 hm
theorem Mx {P:Program}{W:World}{n:String}{g:Nat}{cs:Array Value}(hg:P.globalNamed n=some g)(h:W.var? P n=some cs):g<W.heap.size∧∃T fr,W.heap[g]?=some (.cells cs T fr):=by
 simp only[World.var?,hg,nJ]at h;split at h
 ·rename_i c t fr hb;cases h;refine⟨?_,t,fr,hb⟩;rcases aA g W.heap.size with h|h
  ·exact h
  ·rw[fX h]at hb;cases hb
 ·cases h
theorem ZK:∀z∈Lib.pow10Tab,IntKind.min .u64≤z∧z≤IntKind.max .u64:=ai
theorem V4 {l:List (String×DataW Unit)}{W:World}(h:laidMet Tryz.prog l W)(m0:("glosswright/glosswrightlaw2.none",Rows.laid_glosswright_glosswrightlaw2_none)∈l)(m1:("internal/strconv.uint64pow10",Rows.laid_internal_strconv_uint64pow10)∈l):
  ∀g,GA g≠[]→g<W.heap.size∧∃cs T fr,W.heap[g]?=some (.cells cs T fr)∧cs.size=(GA g).length∧∀j,j<(GA g).length→∃v,cs[j]?=some v∧dD W (l5 W) v ((GA g).getD j .nilf):=by
 intro g hg;obtain⟨ps,hl,_⟩:=h;have hcase:g=0∨g=1:=by
  by_cases e:g=0
  ·exact .inl e
  ·by_cases e1:g=1
   ·exact .inr e1
   ·exact absurd (by simp[GA,e,e1]) hg
 rcases hcase with rfl|rfl
 ·obtain⟨g',t',cs,fuel,p,hg',ht',hvar,hd⟩:=Db hl m0;obtain rfl:=bq (Fh.symm.trans hg');obtain rfl:=bq (Zt.symm.trans ht');obtain⟨hsz,T,fr,hb⟩:=Mx Fh hvar;cases fuel with
  |zero=>simp[DataW.trod]at hd
  |succ fuel=>
   simp only[DataW.trod,Tryz.underlying36]at hd;have c25:Tryz.prog.cellsOf 36=2:=ah
   have c3:Tryz.prog.cellsOf 3=1:=ah
   split at hd
   case isFalse=>cases hd
   rename_i hlen;rw[c25]at hlen;obtain⟨u0,u1,hcs⟩:∃u0 u1,cs.toList=[u0,u1]:=by
    match hc:cs.toList,hlen with
    |[a,b],_=>exact⟨a,b,rfl⟩
   rw[hcs]at hd;simp only[List.mapM_cons,List.mapM_nil,c3,bC,bm,bv,bH,bN,Option.bind_eq_bind,fP,Option.pure_def,aL,aY]at hd;obtain⟨xs,⟨x0,h0,ys,⟨x1,h1,zs,hz,rfl⟩,rfl⟩,e1,_⟩:=hd;subst hz;obtain⟨n0,k0,rfl,_⟩:=DataW.trod_int Tryz.underlying3 h0;obtain⟨n1,k1,rfl,_⟩:=DataW.trod_int Tryz.underlying3 h1;simp only[db,and_true]at k0 k1;subst k0;subst k1;simp only[aM,aQ,Rows.laid_glosswright_glosswrightlaw2_none,DataW.agg.injEq,db,DataW.lit.injEq,Lit.int.injEq,io,and_true]at e1;obtain⟨rfl,rfl⟩:=e1;have hca:cs= #[.int .i64 0,.int .i64 0]:=by rw[←gJ (xs:=cs),hcs]
   subst hca;refine⟨hsz,_,T,fr,hb,rfl,fun j hj=>⟨.int .i64 0,?_,?_⟩⟩
   ·have:j=0∨j=1:=by simp[GA]at hj;omega
    rcases this with rfl|rfl<;>rfl
   ·have:j=0∨j=1:=by simp[GA]at hj;omega
    rcases this with rfl|rfl
    ·exact .i .i64 0 ai ai
    ·exact .i .i64 0 ai ai
 ·obtain⟨g',t',cs,fuel,p,hg',ht',hvar,hd⟩:=Db hl m1;obtain rfl:=bq (C3.symm.trans hg');obtain rfl:=bq (Ps.symm.trans ht');obtain⟨hsz,T,fr,hb⟩:=Mx C3 hvar;have hcs:cs.toList=Lib.pow10Tab.map fun z=>Value.int .u64 z:=Lib.cells_of_tab (zs:=Lib.pow10Tab) VD VE Uy Ux hd;have hca:cs=(Lib.pow10Tab.map fun z=>Value.int .u64 z).toArray:=by rw[←gJ (xs:=cs),hcs]
  subst hca;have hga:GA 1=Lib.pow10Tab.map (.i .u64):=rfl;refine⟨hsz,_,T,fr,hb,by rw[hga,List.size_toArray,aG,aG],fun j hj=>?_⟩;rw[hga,aG]at hj;refine⟨.int .u64 Lib.pow10Tab[j],?_,?_⟩
  ·rw[List.getElem?_toArray,bp,ay hj];rfl
  ·rw[hga,av,bp,ay hj];have:=ZK _ (aT hj);exact .i .u64 _ this.1 this.2
open Go.ChangeAt in
theorem Mn {H:Type}:∀(ds gs:List (DataW H)),Rows.uptoBulkAll ds≤Rows.uptoBulkAll (ds++gs)
 |[],_=>gL _
 |d::ds,gs=>by have:=Mn ds gs;simp only[a6,Rows.uptoBulkAll];omega
theorem own:ownKnob Tryz.prog.godebug=none:=ah
def zp (vs:List Value):Obj→Obj
 | .cells _ t frozen=> .cells vs.toArray t frozen
 |o=>o
def Px:List Int:=[0,1,28,2,29,14,24,3,30,22,20,15,25,17,4,8,31,27,13,23,21,19,16,7,26,12,18,6,11,5,10,9]
def Py:List Int:=[0,1,56,2,57,49,28,3,61,58,42,50,38,29,17,4,62,47,59,36,45,43,51,22,53,39,33,30,24,18,12,5,63,55,48,27,60,41,37,16,46,35,44,21,52,32,23,11,54,26,40,15,34,20,31,10,25,14,19,9,13,8,7,6]
noncomputable def Cq (os:Os):World:=
 {World.holding Tryz.prog os ⟨#[], #[],[]⟩with heap:=((((World.holding Tryz.prog os ⟨#[], #[],[]⟩).heap.modify 0 (zp [.int .i64 0,.int .i64 0])).modify 1 (zp (Lib.pow10Tab.map fun z=> .int .u64 z))).modify 2 (zp (Px.map fun z=> .int .u8 z))).modify 3 (zp (Py.map fun z=> .int .u8 z))}
open Go Go.Abs
theorem c9:Tryz.prog.cellsOf 9=1:=ah
theorem c57:Tryz.prog.cellsOf 25=4:=ah
theorem Qa {n:Nat}:RdN n (fun _ d=>Rows.uptoBulk d) Tryz.prog 23 (List Str):=
 Ch (α:=Str) rO Tryz.underlying23 (by rw[c9];decide) (RdN.of (Ex rO Tryz.underlying9))
theorem M4:∀{n:Nat},RdN n (fun _ d=>Rows.uptoBulk d) Tryz.prog 25 Abs.aH:=by
 intro n;induction n with
 |zero=>intro H en w base spare held fuel cs x hd hsz hbk;omega
 |succ n ih=>intro H en w base spare held fuel cs x hd hsz hbk;obtain⟨hlen,ps,k,hx,hf⟩:=WV Tryz.underlying25 hd;obtain⟨x1,x2⟩:=x;obtain rfl:x1= .agg ps:=hx;rw[c57]at hlen;obtain⟨a0,r0⟩:=zU (n:=n) (α:=Int) (o:=0) (s:=1) rO hf 0 rfl rfl rfl ah (RC rfl Tryz.underlying3) hsz hbk;obtain⟨a1,r1⟩:=zU (n:=n) (α:=Str) (o:=1) (s:=1) rO hf 1 rfl rfl rfl ah (RdN.of (Ex rO Tryz.underlying9)) hsz hbk;obtain⟨a2,r2⟩:=zU (n:=n) (α:=List Str) (o:=2) (s:=1) rO hf 2 rfl rfl rfl ah Qa hsz hbk;obtain⟨a3,r3⟩:=zU (n:=n) (α:=List Abs.aH) (o:=3) (s:=1) rO hf 3 rfl rfl rfl ah (Ch (α:=Abs.aH) rO Tryz.underlying22 (by rw[c57];decide) ih) hsz hbk;refine⟨.mk a0 a1 a2 a3,?_⟩;rw[jf];exact CR.part (o:=0) r0 (CR.part r1 (CR.part r2 (CR.part r3 (CR.fin hlen))))
open Go Go.Abs Go.RowKit Go.WideShapes Go.ChangeShapes Go.ChangeAt
theorem am {a b:Bool}(h1:a=true)(h2:b=true):(a&&b)=true:=by rw[h1,h2];rfl
theorem O':laidOutB Tryz.pinned.checked.prog=true:=ah
theorem TG:mapsRowed Tryz.pinned.checked.prog=true:=ah
theorem SM:(Tryz.pinned.checked.prog.stops==[])=true:=ah
theorem SJ:(Tryz.pinned.checked.prog.stopKnobs==[])=true:=ah
theorem SI:Tryz.pinned.checked.prog.stopsHeard=true:=ah
theorem SG:Tryz.pinned.checked.prog.mayEnter=true:=ah
theorem TE:(Rows.followMatchesSpecUptoRow.plainKeys==Tryz.pinned.checked.prog.plainKeys)=true:=ah
theorem SK:(Rows.followMatchesSpecUptoRow.lifted==Tryz.pinned.checked.prog.liftsFinal)=true:=ah
theorem TF:(Tryz.pinned.checked.prog.make==some Rows.followMatchesSpecUptoRow.make)=true:=ah
theorem SL:false=Tryz.pinned.checked.prog.looks []:=ah
theorem Uh {W:World}(h:laidMet Tryz.prog Rows.followMatchesSpecUptoRow.laid W):∀g,GA g≠[]→g<W.heap.size∧∃cs T fr,W.heap[g]?=some (.cells cs T fr)∧cs.size=(GA g).length∧∀j,j<(GA g).length→∃v,cs[j]?=some v∧dD W (l5 W) v ((GA g).getD j .nilf):=
 V4 h (.tail _ (.tail _ (.tail _ (.head _)))) (.tail _ (.tail _ (.head _)))
theorem Yy (hT:b9 Tryz.prog GA Fq1)(H:Type)(en:TypeId×Value→H)(W:World)(base:Nat)(args:Array Value)(ds gs:List (DataW H))(before:List MemPlace)
  (hval:∀(j:Nat) t v,Tryz.f3.params[j]?=some t→args[j]?=some v→Value.okWide Tryz.prog W .any base t v)
  (hW:DataW.Whole en Tryz.prog Tryz.f3.params.toList Rows.followMatchesSpecSpec.vars false W args.toList ds gs before)
  (hglob:vC GA W (l5 W))(hbk:Rows.uptoBulkAll ds≤1048576):
  Calls Tryz.prog 3 args W fun e W'=>∃v,e= .returned v∧Rows.followMatchesSpecSpec.post en Tryz.prog Tryz.f3 false true false false W args v W':=by
 have hW':=hW;obtain⟨p,q,hA0,hV,rfl,hfz,hnd⟩:=hW;have hA:DataW.TrodAll en Tryz.prog W 0 (fun _=>true) true Tryz.f3.params.toList args.toList ds p:=hA0;rw[Tryz.params3]at hA hval;obtain⟨v0,vs0,d0,ds0,p0,q0,hargs,rfl,rfl,h0,r0⟩:=trodAll_cons hA;obtain⟨v1,vs1,d1,ds1,p1,q1,rfl,rfl,rfl,h1,r1⟩:=trodAll_cons r0;obtain⟨rfl,rfl,rfl⟩:=trodAll_nil r1;obtain rfl:args= #[v0,v1]:=by cases args;simp_all
 obtain⟨rfl,rfl⟩:=trodVars_none hV;obtain⟨a0,len0,cap0,rfl⟩:=okWide_slice Tryz.underlying22 (hval 0 22 v0 rfl rfl);obtain⟨n1,rfl,_⟩:=okWide_struct Tryz.underlying25 (hval 1 25 v1 rfl rfl);have h0k:=h0;have h1k:=h1;obtain⟨fuel0,hf0⟩:=h0;obtain⟨fuel1,hf1⟩:=h1;clear hA0;simp only[bP]at hW';have hlt:∀x∈p0++p1,x.block<W.heap.size:=fun x hx=>by simpa using hW'.lt x (by simpa using hx)
 obtain⟨x0,l0⟩:=((Ch (α:=Abs.aH) rO Tryz.underlying22 (by rw[show Tryz.prog.cellsOf 25=4 by kernel_rfl];decide) (M4)):RdN (SizeOf.sizeOf d0+1) (fun _ d=>Rows.uptoBulk d) Tryz.prog 22 (List Abs.aH)) hf0 (gq _) (by simp only[Rows.uptoBulkAll]at hbk;show Rows.uptoBulk d0≤1048576;omega);have hrep0:dD W (l5 W) (.slice a0 len0 cap0) (enc x0):=l0.one_inv;obtain⟨x1,l1⟩:=((M4):RdN (SizeOf.sizeOf d1+1) (fun _ d=>Rows.uptoBulk d) Tryz.prog 25 Abs.aH) hf1 (gq _) (by simp only[Rows.uptoBulkAll]at hbk;show Rows.uptoBulk d1≤1048576;omega);have hrep1:dD W (l5 W) (.agg n1) (enc x1):=by have h:=l1.agg;rw[jf]at h ⊢;exact h
 have hcall:=VS (vs:=[(.slice a0 len0 cap0),(.agg n1)]) (xs:=[enc x0,enc x1]) (W:=W) (SE hT x0 x1 hrep0.wf hrep1.wf) hglob rfl (fun j hj=>by
  have:j=0∨j=1:=by simp at hj;omega
  rcases this with rfl|rfl
  ·exact hrep0
  ·exact hrep1)
 refine hcall.mono fun e W' ⟨he,hs⟩=>?_;subst he;have hb:Below W.heap.size W W':=⟨hs.os,hs.tape,hs.output,hs.size,hs.heap⟩;refine⟨_,rfl,Wg (pa:=p0++p1) (pv:=[]) hW' (fun _ _ _=>trodAll_cons_mk (shut_bool Tryz.underlying4 _) trodAll_mk0) (fun sp hsp=>?_) (fun _ _=>rfl) ak hb (ok_one ah rfl (okWide_bool_mk Tryz.underlying4 _))⟩;have hst0:DataW.Trod en Tryz.prog W' 0 sp true 22 (.slice a0 len0 cap0) d0 p0:=WideElems.Trod_stays NH ah (bO ah) h0k (fun x hx=>hb.same (hlt x (by simp[hx]))) (fun x hx=>hsp x (by simp[hx]));have hst1:DataW.Trod en Tryz.prog W' 0 sp true 25 (.agg n1) d1 p1:=WideElems.Trod_stays NH ah (bO ah) h1k (fun x hx=>hb.same (hlt x (by simp[hx]))) (fun x hx=>hsp x (by simp[hx]));have:=trodAll_cons_mk hst0 (trodAll_cons_mk hst1 (trodAll_mk0 (enc:=en) (P:=Tryz.prog) (w:=W') (base:=0) (spare:=sp) (held:=true)));rw[bP]at this;rw[Tryz.params3];exact this
theorem Y' (os:Os):laidMet Tryz.prog Rows.followMatchesSpecUptoRow.laid ((Cq os).forCall (fun _ _=>0) ⟨#[], #[.slice none 0 0,.agg #[.int .i64 0,.string ⟨#[]⟩,.slice none 0 0,.slice none 0 0]],[]⟩).memory:=
 laidMet_of_run' 8 ah ah
theorem SZ (os:Os){H:Type}(en:TypeId×Value→H):∃places,DataW.whole en Tryz.prog ((Cq os).forCall (fun _ _=>0) ⟨#[], #[.slice none 0 0,.agg #[.int .i64 0,.string ⟨#[]⟩,.slice none 0 0,.slice none 0 0]],[]⟩).memory Tryz.f3.params.toList Rows.followMatchesSpecSpec.vars false #[Value.slice none 0 0,Value.agg #[.int .i64 0,.string ⟨#[]⟩,.slice none 0 0,.slice none 0 0]].toList 8=some ([.nil,.agg [.lit (.int .i64 0),.lit (.string []),.nil,.nil]],[],places):=
 ⟨[],ah⟩
theorem Xg (hT:Abs.b9 Tryz.prog GA Fq1)(os:Os)(started:os.Started)(H:Type)(en:TypeId×Value→H)(F:Stop.Interp):
  ReturnsInHanded {} Tryz.checked os 3 .any ((Rows.OpenSpec.upto Rows.followMatchesSpecSpec).preRow en Tryz.prog Tryz.f3 Rows.followMatchesSpecUptoRow.domain false Rows.followMatchesSpecUptoRow.laid) (((Rows.OpenSpec.upto Rows.followMatchesSpecSpec).at F).post en Tryz.prog Tryz.f3 false true false false):=by
 obtain⟨places,hx⟩:=SZ os en
 refine returnsInHanded_of_row (C:=Tryz.checked) (s:=Rows.OpenSpec.upto Rows.followMatchesSpecSpec) own started ah Tryz.func3
  (witness_row_at (enc:=en) (C:=Tryz.checked) false (Cq os) #[.slice none 0 0,.agg #[.int .i64 0,.string ⟨#[]⟩,.slice none 0 0,.slice none 0 0]] rfl ah ah ah
   (OpenSpec.preRow_of_cond 8 hx ah (fun k hk=>by cases hk;kernel_rfl) ah (Y' os))) ?_
 intro W base args ds gs before hval hW _ hc _ hL _ _;have hL':laidMet Tryz.prog Rows.followMatchesSpecUptoRow.laid W:=hL;have hb:Rows.uptoBulkAll (ds++gs)≤1048576:=bO (hc _ rfl);exact Yy hT H en W base args ds gs before hval hW (Xm (Uh hL')) (bz (Mn ds gs) hb)
theorem RR:(Rows.followMatchesSpecUptoRow.inPlace==Tryz.pinned.checked.prog.inPlace 3)=true:=ah
theorem TJ:(Rows.followMatchesSpecUptoRow.unfollowed==Tryz.pinned.checked.prog.unfollowed 3)=true:=ah
theorem TH:(Rows.followMatchesSpecUptoRow.recurses==Tryz.pinned.checked.prog.recurses 3)=true:=ah
theorem RQ:(Rows.followMatchesSpecUptoRow.named==Tryz.pinned.checked.prog.varsNamed 3)=true:=ah
theorem SH:false=Rows.followMatchesSpecUptoRow.goesBy Tryz.pinned.checked.prog:=ah
theorem Vj:Rows.followMatchesSpecUptoRow.wfByText (Rows.OpenSpec.upto Rows.followMatchesSpecSpec)=true:=ah
theorem Gq:Tryz.pinned.checked.prog.funcNamed "glosswright/glosswrightlaw2.FollowMatchesSpec" =some 3:=ah
theorem RT:joinedFacts Tryz.pinned.checked.prog 3 Tryz.f3 (Rows.OpenSpec.upto Rows.followMatchesSpecSpec).bare Rows.followMatchesSpecUptoRow=true:=by unfold joinedFacts;exact(am (am (am (am (am (am (am (am (am (am (am (am (am (am (am (am (am (am (am (am (am (am (am (am (am (am (am (am (am (am (am ah O') TG) ah) ah) ah) SM) ah) SJ) RR) TJ) TH) RQ) ah) ah) ah) ah) ah) ah) ah) ah) ah) TE) ah) SI) SG) SK) TF) ah) ah) ah) ah)
theorem ZR (hT:Abs.b9 Tryz.prog GA Fq1):Rows.FollowMatchesSpecUptoSaid:=
 OpenClaim.holds_of_cond 3 Tryz.f3 rfl rfl rfl rfl rfl rfl rfl ⟨rfl,rfl,rfl,rfl,rfl⟩ rfl rfl rfl rfl rfl Gq Tryz.func3 RT
  (bO ah) (by unfold Func.isWrapper;first|(rw[aF (by decide+kernel)];kernel_rfl)|(rw[az (by decide+kernel)];exact⟨rfl,rfl⟩))
  (fun os started H en _ F=>by rw[OpenClaim.pre_eq_preRow];exact Xg hT os started H en F)
theorem Ta (f:FuncId)(fn:Func)(hf:Tryz.pinned.checked.prog.funcNamed "glosswright/glosswrightlaw2.FollowMatchesSpec" =some f)(hfn:Tryz.pinned.checked.prog.funcs[f]?=some fn):
  false=Tryz.pinned.checked.prog.looks []∧∀(j:Nat) t,fn.params[j]?=some t→Tryz.pinned.checked.prog.wantsStandIn t=false:=by
 obtain rfl:f=3:=bq ((show Tryz.prog.funcNamed "glosswright/glosswrightlaw2.FollowMatchesSpec" =some 3 from Gq).symm.trans hf)|>.symm;obtain rfl:fn=Tryz.f3:=(bq (Tryz.func3.symm.trans hfn)).symm;refine⟨SL,fun j t ht=>?_⟩;rw[Tryz.params3]at ht;have hm:t=22∨t=25:=by simpa using Array.mem_of_getElem? ht
 rcases hm with rfl|rfl
 ·exact(show Tryz.prog.wantsStandIn 22=false by kernel_rfl)
 ·exact(show Tryz.prog.wantsStandIn 25=false by kernel_rfl)
theorem Yz (hT:Abs.b9 Tryz.prog GA Fq1):Rows.FollowMatchesSpecUptoCardSaid:=
 Claim7.holds_tied_plain_at .later [] _ _ _ _ (ZR hT) (fun _ h=>by cases h) Vj (fun _ h=>by cases h) followMatchesSpecUpto_row_tie rfl ⟨rfl,rfl⟩ ah rfl Ta SH
theorem askCard:Rows.FollowMatchesSpecUptoCardSaid:=Yz (U8)
#print axioms askCard
end Go.Proofs.YtnijhilfchekkaaGreatDoor
