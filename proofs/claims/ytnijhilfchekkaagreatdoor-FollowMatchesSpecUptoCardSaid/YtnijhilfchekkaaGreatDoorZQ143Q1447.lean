import Derived.Test.YtnijhilfchekkaaGreatDoorQ142
set_option linter.unusedSimpArgs false
set_option maxRecDepth 100000
set_option maxHeartbeats 1000000
namespace Go.Proofs.YtnijhilfchekkaaGreatDoor
open Go Go.Abs Go.Proofs
theorem NN (uses:Int):∀n:Nat,AF uses (gQ uses n) n
 |0=>fun l used made r a h _ _ _ hn=>by have:=h.a1;omega
 |n+1=>by
  have h:=OU (NN uses n) (by simp_all[wJ]);have e:gQ uses (n+1)=oD (gQ uses n) uses:=by funext b a;rw[gQ]
  grind
theorem Fj {l2:List Abs.aH}{u2:List Bool}{made:List jW}{r uses a2:Int}{res:Res}{H:bR}{n len:Nat}{sid oid:Abs.Id}{v:Bool}{cells:List D}{R:D→bR→Nat→Prop}
  (hrun:cS Tryz.prog GA 41 [.fz (enc l2),.fz (enc u2),.fz (enc made),.fz (.i .i64 r),.fz (.i .i64 uses),.ptr (7,0) 0] (hpL [((7,0),some ⟨[eI a2],true,false⟩)]) 1 (fun d H' _=>D.val d=some (.fz (.i .i64 (ji res)))∧H' (7,0)=some ⟨[FD.i .i64 res.added].map .fz,true,false⟩))
  (hn:sid≠oid)(ho:H oid=some ⟨cells,false,v⟩)(hc:cells=bA (u2.map enc))(hv:v=true→u2=[])(hl:len=u2.length)(hs:H sid=some ⟨[.fz (.i .i64 a2)],true,false⟩)
  (hR:R (.fz (.i .i64 (ji res))) (cp (cp H oid none) sid (some ⟨[.fz (.i .i64 res.added)],true,false⟩)) n):
  cS Tryz.prog GA 41 [.fz (.sl (l2.map enc)),.arr oid 1 0 len,.full (made.map enc),.fz (.i .i64 r),.fz (.i .i64 uses),.ptr sid 0] H n R:=by
 subst hl hc;rw[ia]at ho;refine wW oid (u2.map enc) ho ap qQ8 (fun x hx=>by obtain⟨y,_,rfl⟩:=be.1 hx;rfl) (args':=[.fz (.sl (l2.map enc)),.fz (.sl (u2.map enc)),.full (made.map enc),.fz (.i .i64 r),.fz (.i .i64 uses),.ptr sid 0]) ?_ ?_
 ·simp_all[oF,fzD]
 ·refine wB (T:=7) (ds:=[.fz (.sl (l2.map enc)),.fz (.sl (u2.map enc)),.full (made.map enc),.fz (.i .i64 r),.fz (.i .i64 uses)]) (xs:=[.sl (l2.map enc),.sl (u2.map enc),.sl (made.map enc),.i .i64 r,.i .i64 uses]) (cs:=[.i .i64 a2]) (cs':=[.i .i64 res.added]) rfl hrun ?_ hR;simp_all[cp]
theorem qp {f:Abs.aH}(h:(dB false f).code=0):BF0 f:=⟨CB h,HL h,VR h⟩
theorem It {ax:List Abs.aH}{g:Abs.aH}(h1:∀f∈ax,(dB false f).code=0)(h2:(dB false g).code=0):∀f∈jz ax g,BF f:=fun f hf=>by
 unfold jz jO at hf;rcases aO.1 hf with hf|hf
 ·obtain⟨a,ha,rfl⟩:=be.1 hf;exact(qp (h1 a ha)).cn
 ·rw[a7.1 hf];exact(qp h2).ng (by have:=nq h2;omega)
theorem ES {ax:List Abs.aH}{g:Abs.aH}{uses:Int}(hva:∀f∈ax,(dB false f).code=0)(hvg:(dB false g).code=0)(hlen:ax.length≤40)(hu:¬(uses<0∨5<uses)):ix uses (eo gw (jz ax g)) 0∧oZ (eo gw (jz ax g)).list:=by
 have hbl:(jz ax g).length=ax.length+1:=by unfold jz jO;simp
 have hbb:=It hva hvg;obtain⟨B,hB⟩:∃B,jz ax g=B:=⟨_,rfl⟩;rw[hB]at hbl hbb ⊢;have hl:(eo gw B).list=B:=by unfold eo gw;simp
 refine⟨⟨fun f hf=>?_,?_,?_,?_,fun s hs=>?_,?_,?_,ae,ae,ae⟩,fun f hf=>?_⟩
 ·rw[hl]at hf;exact(hbb f hf).o.b
 ·grind
 ·rw[hl];show(gw.used++List.replicate B.length false).length=_;unfold gw;simp
 ·rw[hl];show(gw.seen++List.replicate B.length []).length=_;unfold gw;simp
 ·have h2:s∈gw.seen++List.replicate B.length []:=hs;simp_all[gw]
 ·show(0:Int)≤gw.rounds;exact fN _
 ·show gw.rounds≤uses;simp_all[gw]
 grind
theorem Ky (B:List Abs.aH):brD B (List.replicate B.length false) [] 0=eo gw B:=by simp_all[brD,eo,gw,X6]
def qU (ax:List Abs.aH)(g:Abs.aH)(uses:Int):Bool×iY:=if ji (lh ax g uses)=2 then(false,⟨17, -3⟩)else(decide (ji (lh ax g uses)=1),⟨0,0⟩)
def W2:Tbl:=W1.add 18 (uv qU fun ax g uses=>(∀f∈ax,(dB false f).code=0)∧(dB false g).code=0∧ax.length≤40∧¬(uses<0∨5<uses))
attribute [go_sem] W2
set_option maxHeartbeats 4000000 in
theorem hW2:b9 Tryz.prog GA W2:=by
 refine DI Bg hW1 fun ax g uses hp _ _ _=>?_;obtain⟨hva,hvg,hlen,hu⟩:=hp;obtain⟨V,hV⟩:∃V,qU ax g uses=V:=⟨_,rfl⟩;rw[hV];unfold qU at hV;obtain⟨Q,hQ⟩:∃Q:D→bR→Nat→Prop,Q=(fun d _ _=>D.val d=some (.tup [.fz (enc V.1),.fz (enc V.2)])):=⟨_,rfl⟩;rw[←hQ];have kq:=Kp.mk hQ;clear hQ;have hfp:(∀f∈ax,clB f)∧clB g∧ax.length≤1000:=⟨fun f hf=>⟨(qp (hva f hf)).b,(qp (hva f hf)).clean⟩,⟨(qp hvg).b,(qp hvg).clean⟩,ae⟩;obtain⟨B,hB⟩:∃B,xr ax g=B:=⟨_,rfl⟩;have hB2:jz ax g=B:=hB;obtain⟨h1,h2⟩:=ES hva hvg hlen hu;rw[hB2,←Ky]at h1 h2;have hBl:B.length≤1000:=by rw[←hB];unfold xr jO;simp;omega
 have hrun:=NN uses 301 B (List.replicate B.length false) [] 0 0 h1 h2 (fun d hd=>by cases hd) ak ae;rw[Ky]at hrun;obtain⟨rs,hrs⟩:∃rs,lh ax g uses=rs:=⟨_,rfl⟩;have hrs2:gQ uses 301 (eo gw B) 0=rs:=by rw[←hrs,←hB2];rfl
 rw[hrs2]at hrun;rw[hrs]at hV;clear h1 h2 hva hvg;have hcl:(List.range B.length).map (fun j=>[D.fz (.b false)].getD (j % 1) .junk)=bA ((List.replicate B.length false).map enc):=by rw[ia];apply cC ak;intro j h1 h2;simp only[cm,eQ,Nat.mod_one,dr];rfl
 by_cases hc:ji rs=2
 ·rw[aF hc]at hV;have hc':(ji rs=2)=True:=aU hc;refine rv (N:=26) hm hW1 18000 qWi Bg Tryz.func18 rfl ?_
  repeat'(first|refine dJ.i (Fj (made:=[]) (u2:=List.replicate B.length false) (a2:=0) hrun ak qQp hcl (fun h=>by cases h) ak qQi ?_)|apply rx hfp|refine rx qQa ?_|apply au|refine rq ?_|simp only[go_sem,hB,hc',bt,bn,bh,Tryz.f18])
  all_goals(
   rw[kq.out,←hV];simp only[go_sem])
 ·rw[az hc]at hV;have hc':(ji rs=2)=False:=aP hc;refine rv (N:=26) hm hW1 18000 qWi Bg Tryz.func18 rfl ?_
  repeat'(first|refine dJ.i (Fj (made:=[]) (u2:=List.replicate B.length false) (a2:=0) hrun ak qQp hcl (fun h=>by cases h) ak qQi ?_)|apply rx hfp|refine rx qQa ?_|apply au|refine rq ?_|simp only[go_sem,hB,hc',bt,bn,bh,Tryz.f18])
  all_goals(
   rw[kq.out,←hV];simp only[go_sem])
theorem QW {n:Nat}(hT:b9 Tryz.prog GA (eP n)){l:List Abs.aH}{p:Prf}(hpre:clP l p)(hfi:inL l p.form=false):cS Tryz.prog GA 10 [.fz (enc l),.fz (enc p)] (hpL []) 0 (fun d _ _=>D.val d=some (.fz (enc (dC p l)))):=by
 have hfo:=C8 hfi;have hlen:l.length≤1000000:=by have:=hpre.2;omega
 have e:dC p l=false:=by rw[ov];unfold lf;rw[aF hfi]
 have kT:=Kp.mk hT;rw[e];by_cases h1:p.form<0
 ·have h1':(p.form<0)=True:=aU h1;refine rv (N:=313) hm kT.out 10000 qWj gI Tryz.func10 rfl ?_
  repeat'(first|apply au|refine rq ?_|simp only[go_sem,h1',Tryz.f10,cT,bt,bn,bh,aK,eP])
 ·have h1':(p.form<0)=False:=aP h1;have h2':((l.length:Int)≤p.form)=True:=ap
  refine rv (N:=313) hm kT.out 10000 qWj gI Tryz.func10 rfl ?_
  repeat'(first|apply au|refine rq ?_|simp only[go_sem,h1',h2',Tryz.f10,cT,bt,bn,bh,aK,eP])
set_option maxHeartbeats 16000000 in
theorem PB {n:Nat}(hT:b9 Tryz.prog GA (eP n)){l:List Abs.aH}{p:Prf}(hpn:p.size=n)(hpre:clP l p)(hfi:inL l p.form=true)(hk:p.kind<1∨6<p.kind):cS Tryz.prog GA 10 [.fz (enc l),.fz (enc p)] (hpL []) 0 (fun d _ _=>D.val d=some (.fz (enc (dC p l)))):=by
 obtain⟨hbr,hsz⟩:=hpre;have hlen:l.length≤1000000:=ae
 have kT:=Kp.mk hT;have kb:=Kp.mk hbr;clear hT hbr;have ec:dC p l=lf p.kind p.form p.other p.name (p.subs.map dC) l:=ov p l;unfold lf at ec;have hfo:=rL hfi;rw[az ap]at ec;obtain⟨fi,hfn⟩:∃n:Nat,p.form=(n:Int):=⟨p.form.toNat,ae⟩;have hfl:fi<l.length:=ae
 obtain⟨f,hf⟩:∃f,l[fi]=f:=⟨_,rfl⟩;have hfB:BF f:=kb.out f ap;have hfb:brF f:=hfB.o.b;have haf:atL l p.form=f:=by unfold atL;rw[hfn,bo,av,ay hfl,hf];rfl
 rw[haf]at ec;have h00:((fi:Int)<0)=False:=ap
 have hge1:((l.length:Int)≤fi)=False:=ap
 have hge2:(l.length≤fi)=False:=ap
 rw[az ae,az ae,az ae,az ae,az ae,az ae]at ec;rw[ec];by_cases h1:p.kind<1
 ·have h1':(p.kind<1)=True:=aU h1;refine rv (N:=313) hm kT.out 10000 qWj gI Tryz.func10 rfl ?_
  repeat'(first|apply au|refine rq ?_|simp only[go_sem,h1',hfn,h00,hge1,hge2,hfl,hf,ep,Tryz.f10,cT,bt,bn,bh,aK,eP])
 ·have h1':(p.kind<1)=False:=aP h1;have h2':(6<p.kind)=True:=ap
  refine rv (N:=313) hm kT.out 10000 qWj gI Tryz.func10 rfl ?_
  repeat'(first|apply au|refine rq ?_|simp only[go_sem,h1',h2',hfn,h00,hge1,hge2,hfl,hf,ep,Tryz.f10,cT,bt,bn,bh,aK,eP])
set_option maxHeartbeats 16000000 in
theorem Tf {n:Nat}(hT:b9 Tryz.prog GA (eP n)){l:List Abs.aH}{p:Prf}(hpn:p.size=n)(hpre:clP l p)(hfi:inL l p.form=true)(kk:p.kind=1):cS Tryz.prog GA 10 [.fz (enc l),.fz (enc p)] (hpL []) 0 (fun d _ _=>D.val d=some (.fz (enc (dC p l)))):=by
 obtain⟨hbr,hsz⟩:=hpre;have hlen:l.length≤1000000:=ae
 have kT:=Kp.mk hT;have kb:=Kp.mk hbr;clear hT hbr;have ec:dC p l=lf p.kind p.form p.other p.name (p.subs.map dC) l:=ov p l;unfold lf at ec;have hfo:=rL hfi;rw[az ap]at ec;obtain⟨fi,hfn⟩:∃n:Nat,p.form=(n:Int):=⟨p.form.toNat,ae⟩;have hfl:fi<l.length:=ae
 obtain⟨f,hf⟩:∃f,l[fi]=f:=⟨_,rfl⟩;have hfB:BF f:=kb.out f ap;have hfb:brF f:=hfB.o.b;have haf:atL l p.form=f:=by unfold atL;rw[hfn,bo,av,ay hfl,hf];rfl
 rw[haf]at ec;have h00:((fi:Int)<0)=False:=ap
 have hge1:((l.length:Int)≤fi)=False:=ap
 have hge2:(l.length≤fi)=False:=ap
 rw[aF kk]at ec;by_cases hn:p.subs.length=0;rotate_left
 ·have e:dC p l=false:=by rw[ec,aG,aW hn];rfl
  have hn':((p.subs.length:Int)=0)=False:=ap
  rw[e];refine rv (N:=313) hm kT.out 10000 qWj gI Tryz.func10 rfl ?_
  repeat'(first|refine ru (id:=4) hm kT.out 10000 qWj ep ?_|apply au|refine rq ?_|simp only[go_sem,kk,hn',hfn,h00,hge1,hge2,hfl,hf,ep,Tryz.f10,cT,bt,bn,bh,aK,eP])
 have hs0:p.subs=[]:=ap
 cases hoi:inL l p.other with
 |false=>
  have hoo:=C8 hoi;have e:dC p l=false:=by rw[ec,hoi];simp
  rw[e];by_cases h1:p.other<0
  ·have h1':(p.other<0)=True:=aU h1;refine rv (N:=313) hm kT.out 10000 qWj gI Tryz.func10 rfl ?_
   repeat'(first|refine ru (id:=4) hm kT.out 10000 qWj ep ?_|apply au|refine rq ?_|simp only[go_sem,kk,hs0,h1',hfn,h00,hge1,hge2,hfl,hf,ep,Tryz.f10,cT,bt,bn,bh,aK,eP])
  ·have h1':(p.other<0)=False:=aP h1;have h2':((l.length:Int)≤p.other)=True:=ap
   refine rv (N:=313) hm kT.out 10000 qWj gI Tryz.func10 rfl ?_
   repeat'(first|refine ru (id:=4) hm kT.out 10000 qWj ep ?_|apply au|refine rq ?_|simp only[go_sem,kk,hs0,h1',h2',hfn,h00,hge1,hge2,hfl,hf,ep,Tryz.f10,cT,bt,bn,bh,aK,eP])
 |true=>
  have hoo:=rL hoi;obtain⟨oi,hon⟩:∃n:Nat,p.other=(n:Int):=⟨p.other.toNat,ae⟩;have hol:oi<l.length:=ae
  obtain⟨g,hg⟩:∃g,l[oi]=g:=⟨_,rfl⟩;have hgB:BF g:=kb.out g ap;have hag:atL l p.other=g:=by unfold atL;rw[hon,bo,av,ay hol,hg];rfl
  have o00:((oi:Int)<0)=False:=ap
  have oge1:((l.length:Int)≤oi)=False:=ap
  have oge2:(l.length≤oi)=False:=ap
  rw[hag,hoi]at ec;have hlp:(∀f∈l,brF f)∧l.length≤100000:=⟨fun f hf=>(kb.out f hf).o.b,ae⟩;have hcd:=Dn l l.length (aI _);rw[aJ]at hcd;have hclp:(clD l).1.length=(clD l).2.length∧(clD l).1.length≤1000000:=ae
  have heq:=Ma l;have ec:dC p l=if p.other=p.form then jP (ii l) f else sK l f g:=by rw[ec,hs0];rfl
  obtain⟨C,hC⟩:∃C,clD l=C:=⟨_,rfl⟩;rw[hC]at hclp heq;have ke:=Kp.mk heq;clear heq hcd;by_cases hof:oi=fi
  ·have hofT:((fi:Int)=oi)=True:=ap
   have hofT2:(fi=oi)=True:=aU hof.symm;have e:dC p l=jP (ii l) f:=by rw[ec,aF ae]
   by_cases h4:f.kind=4;rotate_left
   ·have e:dC p l=false:=by rw[e];unfold jP;rw[aW h4];rfl
    rw[e];refine rv (N:=313) hm kT.out 10000 qWj gI Tryz.func10 rfl ?_
    repeat'(first|refine ru (id:=4) hm kT.out 10000 qWj ep ?_|apply rx hlp|apply rx hclp|apply au|refine rq ?_|simp only[go_sem,kk,hs0,hofT,hofT2,h4,hC,hfn,h00,hge1,hge2,hfl,hf,ep,hon,o00,oge1,oge2,hol,hg,Tryz.f10,cT,bt,bn,bh,aK,eP])
   obtain⟨h,hh,s0,hhb⟩:=nz hfb (.inl h4);have e:dC p l=(decide (h.kind=1)||decide (h.kind=3)&&decide (dp (ii l) (h.words.getD 0 ⟨[]⟩)=dp (ii l) (h.words.getD 1 ⟨[]⟩))):=by rw[e];unfold jP;rw[ba h4,s0];rfl
   by_cases j1:h.kind=1
   ·have e:dC p l=true:=by rw[e,ba j1];rfl
    rw[e];refine rv (N:=313) hm kT.out 10000 qWj gI Tryz.func10 rfl ?_
    repeat'(first|refine ru (id:=4) hm kT.out 10000 qWj ep ?_|apply rx hlp|apply rx hclp|refine ru (id:=28) hm kT.out 10000 qWj vr ?_|apply au|refine rq ?_|simp only[go_sem,kk,hs0,hofT,hofT2,h4,hh,j1,hC,vr,hfn,h00,hge1,hge2,hfl,hf,ep,hon,o00,oge1,oge2,hol,hg,Tryz.f10,cT,bt,bn,bh,aK,eP])
   by_cases j3:h.kind=3;rotate_left
   ·have e:dC p l=false:=by rw[e,aW j1,aW j3];rfl
    rw[e];refine rv (N:=313) hm kT.out 10000 qWj gI Tryz.func10 rfl ?_
    repeat'(first|refine ru (id:=4) hm kT.out 10000 qWj ep ?_|apply rx hlp|apply rx hclp|refine ru (id:=28) hm kT.out 10000 qWj vr ?_|apply au|refine rq ?_|simp only[go_sem,kk,hs0,hofT,hofT2,h4,hh,j1,j3,hC,vr,hfn,h00,hge1,hge2,hfl,hf,ep,hon,o00,oge1,oge2,hol,hg,Tryz.f10,cT,bt,bn,bh,aK,eP])
   obtain⟨a,b,hab⟩:∃a b,h.words=[a,b]:=by
    have h2:=(fU.1 hhb.v).2.2.2.1 j3
    match h:h.words,h2 with
    |[a,b],_=>simp
   have e:dC p l=eqR C.1 C.2 a b:=by rw[e,aW j1,ba j3,hab,ke.out];rfl
   obtain⟨B,hB⟩:∃B,eqR C.1 C.2 a b=B:=⟨_,rfl⟩;rw[e,hB];clear e ec;refine rv (N:=313) hm kT.out 10000 qWj gI Tryz.func10 rfl ?_
   repeat'(first|refine ru (id:=4) hm kT.out 10000 qWj ep ?_|apply rx hlp|apply rx hclp|refine ru (id:=28) hm kT.out 10000 qWj vr ?_|apply au|refine rq ?_|simp only[go_sem,kk,hs0,hofT,hofT2,h4,hh,j1,j3,hab,hC,hB,vr,hfn,h00,hge1,hge2,hfl,hf,ep,hon,o00,oge1,oge2,hol,hg,Tryz.f10,cT,bt,bn,bh,aK,eP])
  ·have hofF:((fi:Int)=oi)=False:=ap
   have hofF2:(fi=oi)=False:=ap
   have e:dC p l=sK l f g:=by rw[ec,az ae]
   by_cases h4:g.kind=4;rotate_left
   ·have e:dC p l=false:=by rw[e,XZ h4]
    rw[e];refine rv (N:=313) hm kT.out 10000 qWj gI Tryz.func10 rfl ?_
    repeat'(first|refine ru (id:=4) hm kT.out 10000 qWj ep ?_|apply rx hlp|apply rx hclp|apply au|refine rq ?_|simp only[go_sem,kk,hs0,hofF,hofF2,h4,hC,hfn,h00,hge1,hge2,hfl,hf,ep,hon,o00,oge1,oge2,hol,hg,Tryz.f10,cT,bt,bn,bh,aK,eP])
   obtain⟨h,hh,s0,hhb⟩:=nz hgB.o.b (.inl h4);have hh0:BF0 h:=hgB.o.sub ap;have hcn:h.fit=true∧h.size≤1000:=⟨hh0.b.ft,by have:=hh0.b.s;omega⟩;have ewt:li h []=cnn h:=oO hh0.clean;have e:dC p l=(tU (cnn h) f||iF (ii l) f h):=by rw[e,YC hfB hgB h4 hh]
   have hsm:txP (cnn h)∧txP f:=⟨hh0.cn.o.tx,hfB.o.tx⟩;obtain⟨N,hN⟩:∃N,cnn h=N:=⟨_,rfl⟩;rw[hN]at e ewt hsm;cases hS:tU N f with
   |true=>
    have e:dC p l=true:=by rw[e,hS];rfl
    rw[e];refine rv (N:=313) hm kT.out 10000 qWj gI Tryz.func10 rfl ?_
    repeat'(first|refine ru (id:=4) hm kT.out 10000 qWj ep ?_|apply rx hlp|apply rx hclp|apply rx hcn|apply rx hsm|refine ru (id:=17) hm kT.out 10000 qWj py ?_|apply au|refine rq ?_|simp only[go_sem,kk,hs0,hofF,hofF2,h4,hh,hC,ewt,hS,py,hfn,h00,hge1,hge2,hfl,hf,ep,hon,o00,oge1,oge2,hol,hg,Tryz.f10,cT,bt,bn,bh,aK,eP])
   |false=>
    have e:dC p l=iF (ii l) f h:=by rw[e,hS];rfl
    rw[Ox]at e;clear ec;obtain⟨R,hR⟩:∃R:Nat→Bool,R=fun j=>eqR C.1 C.2 (f.words.getD j ⟨[]⟩) (h.words.getD j ⟨[]⟩):=⟨_,rfl⟩;have hRj:∀j (h1:j<f.words.length) (h2:j<h.words.length),eqR C.1 C.2 f.words[j] h.words[j]=R j:=ap
    have hRt:∀j (h1:j<f.words.length) (h2:j<h.words.length),R j=decide (dp (ii l) f.words[j]=dp (ii l) h.words[j]):=fun j h1 h2=>by rw[←hRj j h1 h2,ke.out]
    obtain⟨okF,hok⟩:∃okF:Bool→Nat→Bool,okF=fun b i=>if i=0 then b else R (i-1):=⟨_,rfl⟩
    have hok0:∀b,okF b 0=b:=ap
    have hoks:∀b i,okF b (i+1)=R i:=ap
    have kr:=Kp.mk hRj;have krt:=Kp.mk hRt;have kok:=Kp.mk hoks;have hfw:f.words.length≤1000:=by
     have hf:=hfb.ft;cases f with
     |mk a b c d=>rw[aH.fit]at hf;simp only[aS,bi]at hf;exact hf.1.1
    clear hR hRj hRt hok hoks;by_cases h2k:f.kind=2;rotate_left
    ·have e:dC p l=false:=by rw[e,aW h2k];rfl
     rw[e];refine rv (N:=313) hm kT.out 10000 qWj gI Tryz.func10 rfl ?_
     repeat'(first|(refine fa (gr (id:=(10003,0)) (t:=3) (b:=true) (ys:=[.i .i64 p.kind,.i .i64 p.form,.i .i64 p.other,.s p.name.l,.sl (p.subs.map enc)]) ?_ ?_) ?_;(focus (simp only[go_sem,kk,hs0,hfn,hon,h4,h2k];done));(focus (simp only[go_sem];done)))|(refine fa (gr (id:=(10005,1)) (t:=5) (b:=true) (ys:=[.i .i64 f.kind,.s f.name.l,.sl (f.words.map enc),.sl (f.subs.map enc)]) ?_ ?_) ?_;(focus (simp only[go_sem,kk,hs0,hfn,hon,h4,h2k];done));(focus (simp only[go_sem];done)))|refine ru (id:=4) hm kT.out 10000 qWj ep ?_|apply rx hlp|apply rx hclp|apply rx hcn|apply rx hsm|refine ru (id:=17) hm kT.out 10000 qWj py ?_|apply au|refine rq ?_|simp only[go_sem,h2k,kk,hs0,hofF,hofF2,h4,hh,hC,ewt,hS,py,hfn,h00,hge1,hge2,hfl,hf,ep,hon,o00,oge1,oge2,hol,hg,Tryz.f10,cT,bt,bn,bh,aK,eP])
     refine cI hm kT.out 10000 qWj (ι:=eO 0 fun i=>∀j,j+1<i→R j=true)
      ⟨fun q=>⟨frL [(3,.rp [.i .i64 p.kind,.i .i64 p.form,.i .i64 p.other,.s p.name.l,.sl (p.subs.map enc)]),(5,.rp (qcF f)),(6,eS C.1),(7,eS C.2),(8,.ptr (10008,2) 0),(9,.fz (.b (okF false q.i))),(10,eI q.i)],
       hpL [((10008,2),some ⟨(qcD h),true,false⟩)],3⟩,fun q=>0-q.i⟩
      ⟨0,ae,fun j h=>ae⟩ ah ?_ ?_
     ·refine bF ?_ ?_ ?_<;>simp only[go_sem,hok0,kk,hs0,hfn,hon,h2k]
      all_goals first|rfl|omega
     rintro⟨i,hi,hP⟩
     try simp only at hi hP
     obtain rfl:i=0:=ae
     repeat'(first|apply au|refine rq ?_|simp only[go_sem,hok0,Tryz.f10,cT,bt,bn,bh,aK,eP])
    have eF:Abs.aH.mk 2 f.name f.words f.subs=f:=by rw[←h2k];exact bt
    by_cases h2h:h.kind=2;rotate_left
    ·have e:dC p l=false:=by rw[e,aW h2h];simp
     rw[e];refine rv (N:=313) hm kT.out 10000 qWj gI Tryz.func10 rfl ?_
     repeat'(first|(refine fa (gr (id:=(10003,0)) (t:=3) (b:=true) (ys:=[.i .i64 p.kind,.i .i64 p.form,.i .i64 p.other,.s p.name.l,.sl (p.subs.map enc)]) ?_ ?_) ?_;(focus (simp only[go_sem,kk,hs0,hfn,hon,h4,h2k,eF,h2h];done));(focus (simp only[go_sem];done)))|(refine fa (gr (id:=(10005,1)) (t:=5) (b:=true) (ys:=[.i .i64 f.kind,.s f.name.l,.sl (f.words.map enc),.sl (f.subs.map enc)]) ?_ ?_) ?_;(focus (simp only[go_sem,kk,hs0,hfn,hon,h4,h2k,eF,h2h];done));(focus (simp only[go_sem];done)))|refine ru (id:=4) hm kT.out 10000 qWj ep ?_|apply rx hlp|apply rx hclp|apply rx hcn|apply rx hsm|refine ru (id:=17) hm kT.out 10000 qWj py ?_|apply au|refine rq ?_|simp only[go_sem,h2k,eF,h2h,kk,hs0,hofF,hofF2,h4,hh,hC,ewt,hS,py,hfn,h00,hge1,hge2,hfl,hf,ep,hon,o00,oge1,oge2,hol,hg,Tryz.f10,cT,bt,bn,bh,aK,eP])
     refine cI hm kT.out 10000 qWj (ι:=eO 0 fun i=>∀j,j+1<i→R j=true)
      ⟨fun q=>⟨frL [(3,.rp [.i .i64 p.kind,.i .i64 p.form,.i .i64 p.other,.s p.name.l,.sl (p.subs.map enc)]),(5,.rp (qcF f)),(6,eS C.1),(7,eS C.2),(8,.ptr (10008,2) 0),(9,.fz (.b (okF false q.i))),(10,eI q.i)],
       hpL [((10008,2),some ⟨(qcD h),true,false⟩)],3⟩,fun q=>0-q.i⟩
      ⟨0,ae,fun j h=>ae⟩ ah ?_ ?_
     ·refine bF ?_ ?_ ?_<;>simp only[go_sem,hok0,kk,hs0,hfn,hon,h2k,eF,h2h]
      all_goals first|rfl|omega
     rintro⟨i,hi,hP⟩
     try simp only at hi hP
     obtain rfl:i=0:=ae
     repeat'(first|apply au|refine rq ?_|simp only[go_sem,hok0,Tryz.f10,cT,bt,bn,bh,aK,eP])
    have eH:Abs.aH.mk 2 h.name h.words h.subs=h:=by rw[←h2h];exact bt
    by_cases hnm:f.name=h.name;rotate_left
    ·have e:dC p l=false:=by rw[e,aW hnm];simp
     have hnl:(f.name.l=h.name.l)=False:=aP (by grind[qF]);rw[e];refine rv (N:=313) hm kT.out 10000 qWj gI Tryz.func10 rfl ?_
     repeat'(first|(refine fa (gr (id:=(10003,0)) (t:=3) (b:=true) (ys:=[.i .i64 p.kind,.i .i64 p.form,.i .i64 p.other,.s p.name.l,.sl (p.subs.map enc)]) ?_ ?_) ?_;(focus (simp only[go_sem,kk,hs0,hfn,hon,h4,h2k,eF,h2h,eH,hnl];done));(focus (simp only[go_sem];done)))|(refine fa (gr (id:=(10005,1)) (t:=5) (b:=true) (ys:=[.i .i64 f.kind,.s f.name.l,.sl (f.words.map enc),.sl (f.subs.map enc)]) ?_ ?_) ?_;(focus (simp only[go_sem,kk,hs0,hfn,hon,h4,h2k,eF,h2h,eH,hnl];done));(focus (simp only[go_sem];done)))|refine ru (id:=4) hm kT.out 10000 qWj ep ?_|apply rx hlp|apply rx hclp|apply rx hcn|apply rx hsm|refine ru (id:=17) hm kT.out 10000 qWj py ?_|apply au|refine rq ?_|simp only[go_sem,h2k,eF,h2h,eH,hnl,kk,hs0,hofF,hofF2,h4,hh,hC,ewt,hS,py,hfn,h00,hge1,hge2,hfl,hf,ep,hon,o00,oge1,oge2,hol,hg,Tryz.f10,cT,bt,bn,bh,aK,eP])
     refine cI hm kT.out 10000 qWj (ι:=eO 0 fun i=>∀j,j+1<i→R j=true)
      ⟨fun q=>⟨frL [(3,.rp [.i .i64 p.kind,.i .i64 p.form,.i .i64 p.other,.s p.name.l,.sl (p.subs.map enc)]),(5,.rp (qcF f)),(6,eS C.1),(7,eS C.2),(8,.ptr (10008,2) 0),(9,.fz (.b (okF false q.i))),(10,eI q.i)],
       hpL [((10008,2),some ⟨(qcD h),true,false⟩)],3⟩,fun q=>0-q.i⟩
      ⟨0,ae,fun j h=>ae⟩ ah ?_ ?_
     ·refine bF ?_ ?_ ?_<;>simp only[go_sem,hok0,kk,hs0,hfn,hon,h2k,eF,h2h,eH,hnl]
      all_goals first|rfl|omega
     rintro⟨i,hi,hP⟩
     try simp only at hi hP
     obtain rfl:i=0:=ae
     repeat'(first|apply au|refine rq ?_|simp only[go_sem,hok0,Tryz.f10,cT,bt,bn,bh,aK,eP])
    have hnl:(f.name.l=h.name.l)=True:=ap
    by_cases hwl:f.words.length=h.words.length;rotate_left
    ·have e:dC p l=false:=by rw[e,aW (show¬(f.words.map (dp (ii l))=h.words.map (dp (ii l)))from fun h0=>hwl (by have:=a8 List.length h0;grind))];simp
     have hwl':((f.words.length:Int)=h.words.length)=False:=ap
     rw[e];refine rv (N:=313) hm kT.out 10000 qWj gI Tryz.func10 rfl ?_
     repeat'(first|(refine fa (gr (id:=(10003,0)) (t:=3) (b:=true) (ys:=[.i .i64 p.kind,.i .i64 p.form,.i .i64 p.other,.s p.name.l,.sl (p.subs.map enc)]) ?_ ?_) ?_;(focus (simp only[go_sem,kk,hs0,hfn,hon,h4,h2k,eF,h2h,eH,hnl,hwl'];done));(focus (simp only[go_sem];done)))|(refine fa (gr (id:=(10005,1)) (t:=5) (b:=true) (ys:=[.i .i64 f.kind,.s f.name.l,.sl (f.words.map enc),.sl (f.subs.map enc)]) ?_ ?_) ?_;(focus (simp only[go_sem,kk,hs0,hfn,hon,h4,h2k,eF,h2h,eH,hnl,hwl'];done));(focus (simp only[go_sem];done)))|refine ru (id:=4) hm kT.out 10000 qWj ep ?_|apply rx hlp|apply rx hclp|apply rx hcn|apply rx hsm|refine ru (id:=17) hm kT.out 10000 qWj py ?_|apply au|refine rq ?_|simp only[go_sem,h2k,eF,h2h,eH,hnl,hwl',kk,hs0,hofF,hofF2,h4,hh,hC,ewt,hS,py,hfn,h00,hge1,hge2,hfl,hf,ep,hon,o00,oge1,oge2,hol,hg,Tryz.f10,cT,bt,bn,bh,aK,eP])
     refine cI hm kT.out 10000 qWj (ι:=eO 0 fun i=>∀j,j+1<i→R j=true)
      ⟨fun q=>⟨frL [(3,.rp [.i .i64 p.kind,.i .i64 p.form,.i .i64 p.other,.s p.name.l,.sl (p.subs.map enc)]),(5,.rp (qcF f)),(6,eS C.1),(7,eS C.2),(8,.ptr (10008,2) 0),(9,.fz (.b (okF false q.i))),(10,eI q.i)],
       hpL [((10008,2),some ⟨(qcD h),true,false⟩)],3⟩,fun q=>0-q.i⟩
      ⟨0,ae,fun j h=>ae⟩ ah ?_ ?_
     ·refine bF ?_ ?_ ?_<;>simp only[go_sem,hok0,kk,hs0,hfn,hon,h2k,eF,h2h,eH,hnl,hwl']
      all_goals first|rfl|omega
     rintro⟨i,hi,hP⟩
     try simp only at hi hP
     obtain rfl:i=0:=ae
     repeat'(first|apply au|refine rq ?_|simp only[go_sem,hok0,Tryz.f10,cT,bt,bn,bh,aK,eP])
    have hwl':((f.words.length:Int)=h.words.length)=True:=ap
    have eal:(∀j,j<f.words.length→R j=true)→dC p l=true:=fun h0=>by rw[e,ba h2k,ba h2h,ba hnm];refine ba (cC ap fun j h1 h2=>?_);rw[aG]at h1 h2;rw[cm,cm];have:=h0 j h1;rw[krt.out j h1 h2]at this;grind
    have eno:∀j,j<f.words.length→R j=false→dC p l=false:=fun j h1 h0=>by
     have h2:j<h.words.length:=ae
     have hne:¬(f.words.map (dp (ii l))=h.words.map (dp (ii l))):=fun h3=>by have h4:=a8 (fun l:List Str=>l[j]?) h3;simp only[bp,ay h1,ay h2,bL,aL]at h4;rw[krt.out j h1 h2,ba h4]at h0;cases h0
     grind
    have keal:=Kp.mk eal;have keno:=Kp.mk eno;clear eal eno e;obtain⟨B,hB⟩:∃B,dC p l=B:=⟨_,rfl⟩;rw[hB];refine rv (N:=313) hm kT.out 10000 qWj gI Tryz.func10 rfl ?_
    repeat'(first|(refine fa (gr (id:=(10003,0)) (t:=3) (b:=true) (ys:=[.i .i64 p.kind,.i .i64 p.form,.i .i64 p.other,.s p.name.l,.sl (p.subs.map enc)]) ?_ ?_) ?_;(focus (simp only[go_sem,kk,hs0,hfn,hon,h4,h2k,eF,h2h,eH,hnl,hwl'];done));(focus (simp only[go_sem];done)))|(refine fa (gr (id:=(10005,1)) (t:=5) (b:=true) (ys:=[.i .i64 f.kind,.s f.name.l,.sl (f.words.map enc),.sl (f.subs.map enc)]) ?_ ?_) ?_;(focus (simp only[go_sem,kk,hs0,hfn,hon,h4,h2k,eF,h2h,eH,hnl,hwl'];done));(focus (simp only[go_sem];done)))|refine ru (id:=4) hm kT.out 10000 qWj ep ?_|apply rx hlp|apply rx hclp|apply rx hcn|apply rx hsm|refine ru (id:=17) hm kT.out 10000 qWj py ?_|apply au|refine rq ?_|simp only[go_sem,h2k,eF,h2h,eH,hnl,hwl',kk,hs0,hofF,hofF2,h4,hh,hC,ewt,hS,py,hfn,h00,hge1,hge2,hfl,hf,ep,hon,o00,oge1,oge2,hol,hg,Tryz.f10,cT,bt,bn,bh,aK,eP])
    refine cI hm kT.out 10000 qWj (ι:=eO f.words.length fun i=>∀j,j+1<i→R j=true)
     ⟨fun q=>⟨frL [(3,.rp [.i .i64 p.kind,.i .i64 p.form,.i .i64 p.other,.s p.name.l,.sl (p.subs.map enc)]),(5,.rp (qcF f)),(6,eS C.1),(7,eS C.2),(8,.ptr (10008,2) 0),(9,.fz (.b (okF true q.i))),(10,eI q.i)],
      hpL [((10008,2),some ⟨(qcD h),true,false⟩)],3⟩,fun q=>f.words.length-q.i⟩
     ⟨0,ae,fun j h=>ae⟩ ah ?_ ?_
    ·refine bF ?_ ?_ ?_<;>simp only[go_sem,hok0,kk,hs0,hfn,hon,h2k,eF,h2h,eH,hnl,hwl']
     all_goals first|rfl|omega
    rintro⟨i,hi,hP⟩
    try simp only at hi hP
    cases hoi2:okF true i with
    |false=>
     have hi0:i≠0:=ap
     obtain⟨i',rfl⟩:∃i',i=i'+1:=⟨i-1,ae⟩;rw[kok.out]at hoi2;have hBf:B=false:=by rw[←hB];exact keno.out i' ae hoi2
     rw[hBf]
     repeat'(first|apply au|refine rq ?_|simp only[go_sem,kok.out,hoi2,Tryz.f10,cT,bt,bn,bh,aK,eP])
    |true=>
     have hall:∀j,j<i→R j=true:=fun j hj=>by
      rcases aA (j+1) i with h1|h1
      ·grind
      ·obtain rfl:i=j+1:=ae
       rw[kok.out]at hoi2;omega
     rcases aA i f.words.length with h1|h1
     ·have h2:i<h.words.length:=ae
      have hrj:=kr.out i h1 h2;obtain⟨u,hu⟩:∃u,f.words[i]=u:=⟨_,rfl⟩;obtain⟨v,hv⟩:∃u,h.words[i]=u:=⟨_,rfl⟩;rw[hu,hv]at hrj
      repeat'(first|apply rx hlp|apply rx hclp|refine ru (id:=23) hm kT.out 10000 qWj NT ?_|apply au|refine rq ?_|simp only[go_sem,hoi2,h1,h2,hu,hv,hrj,NT,Tryz.f10,cT,bt,bn,bh,aK,eP])
      all_goals refine⟨⟨i+1,ae,ap⟩,af,?_⟩
      all_goals refine bF ?_ ?_ ?_<;>simp only[go_sem,kok.out]
      all_goals first|rfl|omega
     ·obtain rfl:i=f.words.length:=ae
      have hBt:B=true:=by rw[←hB];exact keal.out hall
      rw[hBt]
      repeat'(first|apply au|refine rq ?_|simp only[go_sem,hoi2,aC,Tryz.f10,cT,bt,bn,bh,aK,eP])
set_option maxHeartbeats 16000000 in
theorem Tg {n:Nat}(hT:b9 Tryz.prog GA (eP n)){l:List Abs.aH}{p:Prf}(hpn:p.size=n)(hpre:clP l p)(hfi:inL l p.form=true)(kk:p.kind=2):cS Tryz.prog GA 10 [.fz (enc l),.fz (enc p)] (hpL []) 0 (fun d _ _=>D.val d=some (.fz (enc (dC p l)))):=by
 obtain⟨hbr,hsz⟩:=hpre;have hlen:l.length≤1000000:=ae
 have kT:=Kp.mk hT;have kb:=Kp.mk hbr;clear hT hbr;have ec:dC p l=lf p.kind p.form p.other p.name (p.subs.map dC) l:=ov p l;unfold lf at ec;have hfo:=rL hfi;rw[az ap]at ec;obtain⟨fi,hfn⟩:∃n:Nat,p.form=(n:Int):=⟨p.form.toNat,ae⟩;have hfl:fi<l.length:=ae
 obtain⟨f,hf⟩:∃f,l[fi]=f:=⟨_,rfl⟩;have hfB:BF f:=kb.out f ap;have hfb:brF f:=hfB.o.b;have haf:atL l p.form=f:=by unfold atL;rw[hfn,bo,av,ay hfl,hf];rfl
 rw[haf]at ec;have h00:((fi:Int)<0)=False:=ap
 have hge1:((l.length:Int)≤fi)=False:=ap
 have hge2:(l.length≤fi)=False:=ap
 rw[az ae,aF kk]at ec;by_cases hn:p.subs.length=1;rotate_left
 ·have e:dC p l=false:=by rw[ec,aG,aW hn];simp
  have hn':((p.subs.length:Int)=1)=False:=ap
  rw[e];refine rv (N:=313) hm kT.out 10000 qWj gI Tryz.func10 rfl ?_
  repeat'(first|refine ru (id:=4) hm kT.out 10000 qWj ep ?_|apply au|refine rq ?_|simp only[go_sem,kk,hn',hfn,h00,hge1,hge2,hfl,hf,ep,Tryz.f10,cT,bt,bn,bh,aK,eP])
 obtain⟨s0,hs0⟩:∃s,p.subs=[s]:=by
  match h:p.subs,hn with
  |[s],_=>simp
 have hs0s:=Prf.size_sub (f:=p) (g:=s0) ap;have hst:eT f=(bY f).1:=rfl;obtain⟨pk,hpk⟩:∃k,eT f=k:=⟨_,rfl⟩;rw[hpk]at hst;rw[←hst]at ec;by_cases h1:pk=1;rotate_left
 ·have e:dC p l=false:=by rw[ec,aW h1];rfl
  rw[e];refine rv (N:=313) hm kT.out 10000 qWj gI Tryz.func10 rfl ?_
  repeat'(first|(refine fa (gr (id:=(10003,0)) (t:=3) (b:=true) (ys:=[.i .i64 p.kind,.i .i64 p.form,.i .i64 p.other,.s p.name.l,.sl (p.subs.map enc)]) ?_ ?_) ?_;(focus (simp only[go_sem,kk,hs0,hfn];done));(focus (simp only[go_sem];done)))|(refine fa (gr (id:=(10005,1)) (t:=5) (b:=true) (ys:=[.i .i64 f.kind,.s f.name.l,.sl (f.words.map enc),.sl (f.subs.map enc)]) ?_ ?_) ?_;(focus (simp only[go_sem,kk,hs0,hfn];done));(focus (simp only[go_sem];done)))|refine ru (id:=4) hm kT.out 10000 qWj ep ?_|apply rx hfb|refine ru (id:=30) hm kT.out 10000 qWj MN ?_|apply au|refine rq ?_|simp only[go_sem,kk,hs0,hpk,h1,MN,hfn,h00,hge1,hge2,hfl,hf,ep,aE,Tryz.f10,cT,bt,bn,bh,aK,eP])
 have e:dC p l=dC s0 (l++iV f):=by rw[ec,hs0];simp[h1,iV]
 have hpc:clB f∧(eT f=1∨eT f=2):=by simp_all[qN]
 have hrec:s0.size<n∧clP (l++iV f) s0:=⟨ae,fun x hx=>by
   rcases aO.1 hx with hx|hx
   ·exact kb.out x hx
   ·exact Df hfB x hx,by
   grind[pV,iV]⟩
 have hpl:(iV f).length≤2:=(pV hfb).2.2.1;obtain⟨P,hP⟩:∃P,iV f=P:=⟨_,rfl⟩;rw[hP]at e hrec hpl;obtain⟨B,hB⟩:∃B,dC s0 (l++P)=B:=⟨_,rfl⟩;rw[e,hB];clear e ec;refine rv (N:=313) hm kT.out 10000 qWj gI Tryz.func10 rfl ?_
 repeat'(first|(refine fa (gr (id:=(10003,0)) (t:=3) (b:=true) (ys:=[.i .i64 p.kind,.i .i64 p.form,.i .i64 p.other,.s p.name.l,.sl (p.subs.map enc)]) ?_ ?_) ?_;(focus (simp only[go_sem,kk,hs0,hfn];done));(focus (simp only[go_sem];done)))|(refine fa (gr (id:=(10005,1)) (t:=5) (b:=true) (ys:=[.i .i64 f.kind,.s f.name.l,.sl (f.words.map enc),.sl (f.subs.map enc)]) ?_ ?_) ?_;(focus (simp only[go_sem,kk,hs0,hfn];done));(focus (simp only[go_sem];done)))|refine ru (id:=4) hm kT.out 10000 qWj ep ?_|apply rx hfb|apply rx hpc|refine rx (qN hfB) ?_|apply rx hrec|refine ru (id:=30) hm kT.out 10000 qWj NU ?_|refine rx qQa ?_|apply au|refine rq ?_|simp only[go_sem,kk,hs0,hpk,h1,hP,hB,NU,hfn,h00,hge1,hge2,hfl,hf,ep,aE,eP,Tryz.f10,cT,bt,bn,bh,aK,eP])
 all_goals first|rfl|omega
set_option maxHeartbeats 16000000 in
theorem Th {n:Nat}(hT:b9 Tryz.prog GA (eP n)){l:List Abs.aH}{p:Prf}(hpn:p.size=n)(hpre:clP l p)(hfi:inL l p.form=true)(kk:p.kind=3):cS Tryz.prog GA 10 [.fz (enc l),.fz (enc p)] (hpL []) 0 (fun d _ _=>D.val d=some (.fz (enc (dC p l)))):=by
 obtain⟨hbr,hsz⟩:=hpre;have hlen:l.length≤1000000:=ae
 have kT:=Kp.mk hT;have kb:=Kp.mk hbr;clear hT hbr;have ec:dC p l=lf p.kind p.form p.other p.name (p.subs.map dC) l:=ov p l;unfold lf at ec;have hfo:=rL hfi;rw[az ap]at ec;obtain⟨fi,hfn⟩:∃n:Nat,p.form=(n:Int):=⟨p.form.toNat,ae⟩;have hfl:fi<l.length:=ae
 obtain⟨f,hf⟩:∃f,l[fi]=f:=⟨_,rfl⟩;have hfB:BF f:=kb.out f ap;have hfb:brF f:=hfB.o.b;have haf:atL l p.form=f:=by unfold atL;rw[hfn,bo,av,ay hfl,hf];rfl
 rw[haf]at ec;have h00:((fi:Int)<0)=False:=ap
 have hge1:((l.length:Int)≤fi)=False:=ap
 have hge2:(l.length≤fi)=False:=ap
 rw[az ae,az ae,aF kk]at ec;by_cases hn:p.subs.length=2;rotate_left
 ·have e:dC p l=false:=by rw[ec,aG,aW hn];simp
  have hn':((p.subs.length:Int)=2)=False:=ap
  rw[e];refine rv (N:=313) hm kT.out 10000 qWj gI Tryz.func10 rfl ?_
  repeat'(first|refine ru (id:=4) hm kT.out 10000 qWj ep ?_|apply au|refine rq ?_|simp only[go_sem,kk,hn',hfn,h00,hge1,hge2,hfl,hf,ep,Tryz.f10,cT,bt,bn,bh,aK,eP])
 obtain⟨s0,s1,hs0⟩:∃s t,p.subs=[s,t]:=by
  match h:p.subs,hn with
  |[s,t],_=>simp
 have hs0s:=Prf.size_sub (f:=p) (g:=s0) ap;have hs1s:=Prf.size_sub (f:=p) (g:=s1) ap;have hst:eT f=(bY f).1:=rfl;obtain⟨pk,hpk⟩:∃k,eT f=k:=⟨_,rfl⟩;rw[hpk]at hst;rw[←hst]at ec;by_cases h1:pk=2;rotate_left
 ·have e:dC p l=false:=by rw[ec,aW h1];rfl
  rw[e];refine rv (N:=313) hm kT.out 10000 qWj gI Tryz.func10 rfl ?_
  repeat'(first|refine ru (id:=4) hm kT.out 10000 qWj ep ?_|apply rx hfb|apply au|refine rq ?_|simp only[go_sem,kk,hs0,hpk,h1,hfn,h00,hge1,hge2,hfl,hf,ep,Tryz.f10,cT,bt,bn,bh,aK,eP])
 have hpc:clB f∧(eT f=1∨eT f=2):=by simp_all[qN]
 obtain⟨A,B,hP⟩:∃A B,iV f=[A,B]:=by
  have h2:=(pV hfb).2.1 ae;unfold iV
  match h:(bY f).2.1,h2 with
  |[A,B],_=>simp
 have hA:BF A:=by grind[Df,iV]
 have hB:BF B:=by grind[Df,iV]
 have e:dC p l=(dC s0 (l++[A])&&dC s1 (l++[B])):=by rw[ec,hs0];have hP2:(bY f).2.1=[A,B]:=hP;rw[hP2];simp[h1]
 have hrec0:s0.size<n∧clP (l++[A]) s0:=⟨ae,fun x hx=>by
   rcases aO.1 hx with hx|hx
   ·exact kb.out x hx
   grind,ap⟩
 have hrec1:s1.size<n∧clP (l++[B]) s1:=⟨ae,fun x hx=>by
   rcases aO.1 hx with hx|hx
   ·exact kb.out x hx
   grind,ap⟩
 obtain⟨B0,hB0⟩:∃b,dC s0 (l++[A])=b:=⟨_,rfl⟩;obtain⟨B1,hB1⟩:∃b,dC s1 (l++[B])=b:=⟨_,rfl⟩;rw[e,hB0,hB1];clear e ec hA hB;obtain⟨R,hR⟩:∃b,(B0&&B1)=b:=⟨_,rfl⟩;rw[hR];refine rv (N:=313) hm kT.out 10000 qWj gI Tryz.func10 rfl ?_
 repeat'(first|(refine fa (gr (id:=(10003,0)) (t:=3) (b:=true) (ys:=[.i .i64 p.kind,.i .i64 p.form,.i .i64 p.other,.s p.name.l,.sl (p.subs.map enc)]) ?_ ?_) ?_;(focus (simp only[go_sem,kk,hs0,hfn];done));(focus (simp only[go_sem];done)))|(refine fa (gr (id:=(10005,1)) (t:=5) (b:=true) (ys:=[.i .i64 f.kind,.s f.name.l,.sl (f.words.map enc),.sl (f.subs.map enc)]) ?_ ?_) ?_;(focus (simp only[go_sem,kk,hs0,hfn];done));(focus (simp only[go_sem];done)))|refine ru (id:=4) hm kT.out 10000 qWj ep ?_|apply rx hfb|apply rx hpc|refine rx (qN hfB) ?_|apply au|refine rq ?_|simp only[go_sem,kk,hs0,hpk,h1,hP,hfn,h00,hge1,hge2,hfl,hf,ep,aM,aQ,Tryz.f10,cT,bt,bn,bh,aK,eP])
 refine cI hm kT.out 10000 qWj (ι:=fW 2 2 fun i=>(0<i→B0=true)∧(1<i→B1=true))
  ⟨fun q=>⟨frL [(0,eS l),(3,.rp [.i .i64 p.kind,.i .i64 p.form,.i .i64 p.other,.s p.name.l,.sl (p.subs.map enc)]),(197,.fz (.sl ([A,B].map enc))),(198,eI 2),(199,eI q.i)],hpL [],q.m⟩,fun q=>2-q.i⟩
  ⟨0,2,ae,ae,fun h=>ae,fun h=>ae⟩ ah ?_ ?_
 ·refine bF ?_ ?_ ?_<;>simp only[go_sem,kk,hs0,hfn,aM,aQ]
  all_goals first|rfl|omega
 rintro⟨i,m,hi,hm1,hq1,hq2⟩
 try simp only at hi hm1 hq1 hq2
 by_cases i0:i=0
 ·subst i0;by_cases hv:B0=true;rotate_left
  ·have hv:B0=false:=by simpa using hv
   have hRf:R=false:=by rw[←hR,hv];rfl
   rw[hRf]
   repeat'(first|(refine fa (gr (id:=(10013,m)) (t:=13) (b:=true) (ys:=[.i .i64 A.kind,.s A.name.l,.sl (A.words.map enc),.sl (A.subs.map enc)]) ?_ ?_) ?_;(focus (simp only[go_sem,kk];done));(focus (simp only[go_sem];done)))|apply rx hrec0|refine ru (id:=37) hm kT.out 10000 qWj sF ?_|refine rx qQa ?_|apply au|refine rq ?_|simp only[go_sem,kk,hs0,hfn,hB0,hB1,hv,sF,aM,aQ,aE,Tryz.f10,cT,bt,bn,bh,aK,eP])
   all_goals first|rfl|omega
  ·repeat'(first|(refine fa (gr (id:=(10013,m)) (t:=13) (b:=true) (ys:=[.i .i64 A.kind,.s A.name.l,.sl (A.words.map enc),.sl (A.subs.map enc)]) ?_ ?_) ?_;(focus (simp only[go_sem,kk];done));(focus (simp only[go_sem];done)))|apply rx hrec0|refine ru (id:=37) hm kT.out 10000 qWj sF ?_|refine rx qQa ?_|apply au|refine rq ?_|simp only[go_sem,kk,hs0,hfn,hB0,hB1,hv,sF,aM,aQ,aE,Tryz.f10,cT,bt,bn,bh,aK,eP])
   all_goals refine⟨⟨1,m+3,ae,ae,fun _=>hv,fun h=>ae⟩,af,?_⟩
   all_goals refine bF ?_ ?_ ?_<;>simp only[go_sem,kk,hs0,hfn]
   all_goals first|rfl|omega
 by_cases i1:i=1
 ·subst i1;by_cases hv:B1=true;rotate_left
  ·have hv:B1=false:=by simpa using hv
   have hRf:R=false:=by rw[←hR,hv];simp
   rw[hRf]
   repeat'(first|(refine fa (gr (id:=(10013,m)) (t:=13) (b:=true) (ys:=[.i .i64 B.kind,.s B.name.l,.sl (B.words.map enc),.sl (B.subs.map enc)]) ?_ ?_) ?_;(focus (simp only[go_sem,kk];done));(focus (simp only[go_sem];done)))|apply rx hrec1|refine ru (id:=37) hm kT.out 10000 qWj sF ?_|refine rx qQa ?_|apply au|refine rq ?_|simp only[go_sem,kk,hs0,hfn,hB0,hB1,hv,sF,aM,aQ,aE,Tryz.f10,cT,bt,bn,bh,aK,eP])
   all_goals first|rfl|omega
  ·repeat'(first|(refine fa (gr (id:=(10013,m)) (t:=13) (b:=true) (ys:=[.i .i64 B.kind,.s B.name.l,.sl (B.words.map enc),.sl (B.subs.map enc)]) ?_ ?_) ?_;(focus (simp only[go_sem,kk];done));(focus (simp only[go_sem];done)))|apply rx hrec1|refine ru (id:=37) hm kT.out 10000 qWj sF ?_|refine rx qQa ?_|apply au|refine rq ?_|simp only[go_sem,kk,hs0,hfn,hB0,hB1,hv,sF,aM,aQ,aE,Tryz.f10,cT,bt,bn,bh,aK,eP])
   all_goals refine⟨⟨2,m+3,ae,ae,ap,fun h=>hv⟩,af,?_⟩
   all_goals refine bF ?_ ?_ ?_<;>simp only[go_sem,kk,hs0,hfn]
   all_goals first|rfl|omega
 obtain rfl:i=2:=ae
 have hRt:R=true:=by rw[←hR,hq1 ae,hq2 ae];rfl
 rw[hRt]
 repeat'(first|apply au|refine rq ?_|simp only[go_sem,aC,Tryz.f10,cT,bt,bn,bh,aK,eP])
set_option maxHeartbeats 16000000 in
theorem Ti {n:Nat}(hT:b9 Tryz.prog GA (eP n)){l:List Abs.aH}{p:Prf}(hpn:p.size=n)(hpre:clP l p)(hfi:inL l p.form=true)(kk:p.kind=4):cS Tryz.prog GA 10 [.fz (enc l),.fz (enc p)] (hpL []) 0 (fun d _ _=>D.val d=some (.fz (enc (dC p l)))):=by
 obtain⟨hbr,hsz⟩:=hpre;have hlen:l.length≤1000000:=ae
 have kT:=Kp.mk hT;have kb:=Kp.mk hbr;clear hT hbr;have ec:dC p l=lf p.kind p.form p.other p.name (p.subs.map dC) l:=ov p l;unfold lf at ec;have hfo:=rL hfi;rw[az ap]at ec;obtain⟨fi,hfn⟩:∃n:Nat,p.form=(n:Int):=⟨p.form.toNat,ae⟩;have hfl:fi<l.length:=ae
 obtain⟨f,hf⟩:∃f,l[fi]=f:=⟨_,rfl⟩;have hfB:BF f:=kb.out f ap;have hfb:brF f:=hfB.o.b;have haf:atL l p.form=f:=by unfold atL;rw[hfn,bo,av,ay hfl,hf];rfl
 rw[haf]at ec;have h00:((fi:Int)<0)=False:=ap
 have hge1:((l.length:Int)≤fi)=False:=ap
 have hge2:(l.length≤fi)=False:=ap
 rw[az ae,az ae,az ae,aF kk]at ec;by_cases hn:p.subs.length=1;rotate_left
 ·have e:dC p l=false:=by rw[ec,aG,aW hn];simp
  have hn':((p.subs.length:Int)=1)=False:=ap
  rw[e];refine rv (N:=313) hm kT.out 10000 qWj gI Tryz.func10 rfl ?_
  repeat'(first|refine ru (id:=4) hm kT.out 10000 qWj ep ?_|apply au|refine rq ?_|simp only[go_sem,kk,hn',hfn,h00,hge1,hge2,hfl,hf,ep,Tryz.f10,cT,bt,bn,bh,aK,eP])
 obtain⟨s0,hs0⟩:∃s,p.subs=[s]:=by
  match h:p.subs,hn with
  |[s],_=>simp
 have hs0s:=Prf.size_sub (f:=p) (g:=s0) ap;have hst:eT f=(bY f).1:=rfl;obtain⟨pk,hpk⟩:∃k,eT f=k:=⟨_,rfl⟩;rw[hpk]at hst;rw[←hst]at ec;have hac:(∀f∈l,acP f)∧l.length≤100000:=⟨fun f hf=>Au (kb.out f hf).o,ae⟩;have hk1:((pk:Int)=4-1)=(pk=3):=rfl;cases h3:dI p.name with
 |false=>
  have e:dC p l=false:=by rw[ec,h3];simp
  rw[e];refine rv (N:=313) hm kT.out 10000 qWj gI Tryz.func10 rfl ?_
  repeat'(first|refine ru (id:=4) hm kT.out 10000 qWj ep ?_|apply rx hfb|apply rx hac|refine ru (id:=43) hm kT.out 10000 qWj ou ?_|apply au|refine rq ?_|simp only[go_sem,kk,hs0,hpk,h3,ou,hfn,h00,hge1,hge2,hfl,hf,ep,Tryz.f10,cT,bt,bn,bh,aK,eP])
 |true=>
  by_cases h1:pk=3;rotate_left
  ·have e:dC p l=false:=by rw[ec,aW h1];rfl
   have h1':((pk:Int)=4-1)=False:=aP h1;rw[e];refine rv (N:=313) hm kT.out 10000 qWj gI Tryz.func10 rfl ?_
   repeat'(first|refine ru (id:=4) hm kT.out 10000 qWj ep ?_|apply rx hfb|apply rx hac|refine ru (id:=43) hm kT.out 10000 qWj ou ?_|apply au|refine rq ?_|simp only[go_sem,kk,hs0,hpk,h3,h1',ou,hfn,h00,hge1,hge2,hfl,hf,ep,Tryz.f10,cT,bt,bn,bh,aK,eP])
  have h1':((pk:Int)=4-1)=True:=aU h1;have hfp:xw f p.name:=⟨qN hfB,ae,h3⟩;have hib:=NQ hfB (nm:=p.name) ae h3;have e:dC p l=dC s0 (l++[lZ f p.name]):=by rw[ec,hs0,h3];simp[h1,lZ]
  obtain⟨I,hI⟩:∃I,lZ f p.name=I:=⟨_,rfl⟩;rw[hI]at hib e;have hrec:s0.size<n∧clP (l++[I]) s0:=⟨ae,fun x hx=>by
     rcases aO.1 hx with hx|hx
     ·exact kb.out x hx
     grind,ap⟩
  obtain⟨B,hB⟩:∃B,dC s0 (l++[I])=B:=⟨_,rfl⟩;rw[e,hB];clear e ec hib;refine rv (N:=313) hm kT.out 10000 qWj gI Tryz.func10 rfl ?_
  repeat'(first|(refine fa (gr (id:=(10003,0)) (t:=3) (b:=true) (ys:=[.i .i64 p.kind,.i .i64 p.form,.i .i64 p.other,.s p.name.l,.sl (p.subs.map enc)]) ?_ ?_) ?_;(focus (simp only[go_sem,kk,hs0,hfn];done));(focus (simp only[go_sem];done)))|(refine fa (gr (id:=(10005,1)) (t:=5) (b:=true) (ys:=[.i .i64 f.kind,.s f.name.l,.sl (f.words.map enc),.sl (f.subs.map enc)]) ?_ ?_) ?_;(focus (simp only[go_sem,kk,hs0,hfn];done));(focus (simp only[go_sem];done)))|refine ru (id:=4) hm kT.out 10000 qWj ep ?_|apply rx hfb|apply rx hac|apply rx hfp|apply rx hrec|refine ru (id:=43) hm kT.out 10000 qWj ou ?_|refine ru (id:=45) hm kT.out 10000 qWj zK ?_|refine rx qQa ?_|apply au|refine rq ?_|simp only[go_sem,kk,hs0,hpk,h3,h1',hI,hB,ou,zK,hfn,h00,hge1,hge2,hfl,hf,ep,aE,aM,aQ,eP,Tryz.f10,cT,bt,bn,bh,aK,eP])
  all_goals first|rfl|omega
set_option maxHeartbeats 16000000 in
theorem Tj {n:Nat}(hT:b9 Tryz.prog GA (eP n)){l:List Abs.aH}{p:Prf}(hpn:p.size=n)(hpre:clP l p)(hfi:inL l p.form=true)(kk:p.kind=5):cS Tryz.prog GA 10 [.fz (enc l),.fz (enc p)] (hpL []) 0 (fun d _ _=>D.val d=some (.fz (enc (dC p l)))):=by
 obtain⟨hbr,hsz⟩:=hpre;have hlen:l.length≤1000000:=ae
 have kT:=Kp.mk hT;have kb:=Kp.mk hbr;clear hT hbr;have ec:dC p l=lf p.kind p.form p.other p.name (p.subs.map dC) l:=ov p l;unfold lf at ec;have hfo:=rL hfi;rw[az ap]at ec;obtain⟨fi,hfn⟩:∃n:Nat,p.form=(n:Int):=⟨p.form.toNat,ae⟩;have hfl:fi<l.length:=ae
 obtain⟨f,hf⟩:∃f,l[fi]=f:=⟨_,rfl⟩;have hfB:BF f:=kb.out f ap;have hfb:brF f:=hfB.o.b;have haf:atL l p.form=f:=by unfold atL;rw[hfn,bo,av,ay hfl,hf];rfl
 rw[haf]at ec;have h00:((fi:Int)<0)=False:=ap
 have hge1:((l.length:Int)≤fi)=False:=ap
 have hge2:(l.length≤fi)=False:=ap
 rw[az ae,az ae,az ae,az ae,aF kk]at ec;by_cases hn:p.subs.length=1;rotate_left
 ·have e:dC p l=false:=by rw[ec,aG,aW hn];simp
  have hn':((p.subs.length:Int)=1)=False:=ap
  rw[e];refine rv (N:=313) hm kT.out 10000 qWj gI Tryz.func10 rfl ?_
  repeat'(first|refine ru (id:=4) hm kT.out 10000 qWj ep ?_|apply au|refine rq ?_|simp only[go_sem,kk,hn',hfn,h00,hge1,hge2,hfl,hf,ep,Tryz.f10,cT,bt,bn,bh,aK,eP])
 obtain⟨s0,hs0⟩:∃s,p.subs=[s]:=by
  match h:p.subs,hn with
  |[s],_=>simp
 have hs0s:=Prf.size_sub (f:=p) (g:=s0) ap;have hst:eT f=(bY f).1:=rfl;obtain⟨pk,hpk⟩:∃k,eT f=k:=⟨_,rfl⟩;rw[hpk]at hst;rw[←hst]at ec;have hac:(∀f∈l,acP f)∧l.length≤100000:=⟨fun f hf=>Au (kb.out f hf).o,ae⟩;have hk1:((pk:Int)=5-1)=(pk=4):=rfl;cases h3:dI p.name with
 |false=>
  have e:dC p l=false:=by rw[ec,h3];simp
  rw[e];refine rv (N:=313) hm kT.out 10000 qWj gI Tryz.func10 rfl ?_
  repeat'(first|refine ru (id:=4) hm kT.out 10000 qWj ep ?_|apply rx hfb|apply rx hac|refine ru (id:=43) hm kT.out 10000 qWj ou ?_|apply au|refine rq ?_|simp only[go_sem,kk,hs0,hpk,h3,ou,hfn,h00,hge1,hge2,hfl,hf,ep,Tryz.f10,cT,bt,bn,bh,aK,eP])
 |true=>
  by_cases h1:pk=4;rotate_left
  ·have e:dC p l=false:=by rw[ec,aW h1];rfl
   have h1':((pk:Int)=5-1)=False:=aP h1;rw[e];refine rv (N:=313) hm kT.out 10000 qWj gI Tryz.func10 rfl ?_
   repeat'(first|refine ru (id:=4) hm kT.out 10000 qWj ep ?_|apply rx hfb|apply rx hac|refine ru (id:=43) hm kT.out 10000 qWj ou ?_|apply au|refine rq ?_|simp only[go_sem,kk,hs0,hpk,h3,h1',ou,hfn,h00,hge1,hge2,hfl,hf,ep,Tryz.f10,cT,bt,bn,bh,aK,eP])
  have h1':((pk:Int)=5-1)=True:=aU h1;cases h4:r8 l p.name with
  |true=>
   have e:dC p l=false:=by rw[ec,h4];simp
   have h4':(p.name∈acM l)=True:=aU (bO (by rw[←NC];exact h4));rw[e];refine rv (N:=313) hm kT.out 10000 qWj gI Tryz.func10 rfl ?_
   repeat'(first|refine ru (id:=4) hm kT.out 10000 qWj ep ?_|apply rx hfb|apply rx hac|refine ru (id:=43) hm kT.out 10000 qWj ou ?_|apply au|refine rq ?_|simp only[go_sem,kk,hs0,hpk,h3,h1',h4',ou,hfn,h00,hge1,hge2,hfl,hf,ep,Tryz.f10,cT,bt,bn,bh,aK,eP])
  |false=>
   have h4':(p.name∈acM l)=False:=aP (by grind[NC]);have hfp:xw f p.name:=⟨qN hfB,ae,h3⟩;have hib:=NQ hfB (nm:=p.name) ae h3;have e:dC p l=dC s0 (l++[lZ f p.name]):=by rw[ec,hs0,h3,h4];simp[h1,lZ]
   obtain⟨I,hI⟩:∃I,lZ f p.name=I:=⟨_,rfl⟩;rw[hI]at hib e;have hrec:s0.size<n∧clP (l++[I]) s0:=⟨ae,fun x hx=>by
      rcases aO.1 hx with hx|hx
      ·exact kb.out x hx
      grind,ap⟩
   obtain⟨B,hB⟩:∃B,dC s0 (l++[I])=B:=⟨_,rfl⟩;rw[e,hB];clear e ec hib;refine rv (N:=313) hm kT.out 10000 qWj gI Tryz.func10 rfl ?_
   repeat'(first|(refine fa (gr (id:=(10003,0)) (t:=3) (b:=true) (ys:=[.i .i64 p.kind,.i .i64 p.form,.i .i64 p.other,.s p.name.l,.sl (p.subs.map enc)]) ?_ ?_) ?_;(focus (simp only[go_sem,kk,hs0,hfn];done));(focus (simp only[go_sem];done)))|(refine fa (gr (id:=(10005,1)) (t:=5) (b:=true) (ys:=[.i .i64 f.kind,.s f.name.l,.sl (f.words.map enc),.sl (f.subs.map enc)]) ?_ ?_) ?_;(focus (simp only[go_sem,kk,hs0,hfn];done));(focus (simp only[go_sem];done)))|refine ru (id:=4) hm kT.out 10000 qWj ep ?_|apply rx hfb|apply rx hac|apply rx hfp|apply rx hrec|refine ru (id:=43) hm kT.out 10000 qWj ou ?_|refine ru (id:=45) hm kT.out 10000 qWj zK ?_|refine rx qQa ?_|apply au|refine rq ?_|simp only[go_sem,kk,hs0,hpk,h3,h1',h4',hI,hB,ou,zK,hfn,h00,hge1,hge2,hfl,hf,ep,aE,aM,aQ,eP,Tryz.f10,cT,bt,bn,bh,aK,eP])
   all_goals first|rfl|omega
set_option maxHeartbeats 16000000 in
theorem Tk {n:Nat}(hT:b9 Tryz.prog GA (eP n)){l:List Abs.aH}{p:Prf}(hpn:p.size=n)(hpre:clP l p)(hfi:inL l p.form=true)(kk:p.kind=6):cS Tryz.prog GA 10 [.fz (enc l),.fz (enc p)] (hpL []) 0 (fun d _ _=>D.val d=some (.fz (enc (dC p l)))):=by
 obtain⟨hbr,hsz⟩:=hpre;have hlen:l.length≤1000000:=ae
 have kT:=Kp.mk hT;have kb:=Kp.mk hbr;clear hT hbr;have ec:dC p l=lf p.kind p.form p.other p.name (p.subs.map dC) l:=ov p l;unfold lf at ec;have hfo:=rL hfi;rw[az ap]at ec;obtain⟨fi,hfn⟩:∃n:Nat,p.form=(n:Int):=⟨p.form.toNat,ae⟩;have hfl:fi<l.length:=ae
 obtain⟨f,hf⟩:∃f,l[fi]=f:=⟨_,rfl⟩;have hfB:BF f:=kb.out f ap;have hfb:brF f:=hfB.o.b;have haf:atL l p.form=f:=by unfold atL;rw[hfn,bo,av,ay hfl,hf];rfl
 rw[haf]at ec;have h00:((fi:Int)<0)=False:=ap
 have hge1:((l.length:Int)≤fi)=False:=ap
 have hge2:(l.length≤fi)=False:=ap
 rw[az ae,az ae,az ae,az ae,az ae,aF kk]at ec;by_cases hn:p.subs.length=1;rotate_left
 ·have e:dC p l=false:=by rw[ec,aG,aW hn];simp
  have hn':((p.subs.length:Int)=1)=False:=ap
  rw[e];refine rv (N:=313) hm kT.out 10000 qWj gI Tryz.func10 rfl ?_
  repeat'(first|refine ru (id:=4) hm kT.out 10000 qWj ep ?_|apply au|refine rq ?_|simp only[go_sem,kk,hn',hfn,h00,hge1,hge2,hfl,hf,ep,Tryz.f10,cT,bt,bn,bh,aK,eP])
 obtain⟨s0,hs0⟩:∃s,p.subs=[s]:=by
  match h:p.subs,hn with
  |[s],_=>simp
 have hs0s:=Prf.size_sub (f:=p) (g:=s0) ap;cases hoi:inL l p.other with
 |false=>
  have hoo:=C8 hoi;have e:dC p l=false:=by rw[ec,hoi];simp
  rw[e];by_cases h1:p.other<0
  ·have h1':(p.other<0)=True:=aU h1;refine rv (N:=313) hm kT.out 10000 qWj gI Tryz.func10 rfl ?_
   repeat'(first|refine ru (id:=4) hm kT.out 10000 qWj ep ?_|apply au|refine rq ?_|simp only[go_sem,kk,hs0,h1',hfn,h00,hge1,hge2,hfl,hf,ep,Tryz.f10,cT,bt,bn,bh,aK,eP])
  ·have h1':(p.other<0)=False:=aP h1;have h2':((l.length:Int)≤p.other)=True:=ap
   refine rv (N:=313) hm kT.out 10000 qWj gI Tryz.func10 rfl ?_
   repeat'(first|refine ru (id:=4) hm kT.out 10000 qWj ep ?_|apply au|refine rq ?_|simp only[go_sem,kk,hs0,h1',h2',hfn,h00,hge1,hge2,hfl,hf,ep,Tryz.f10,cT,bt,bn,bh,aK,eP])
 |true=>
  have hoo:=rL hoi;obtain⟨oi,hon⟩:∃n:Nat,p.other=(n:Int):=⟨p.other.toNat,ae⟩;have hol:oi<l.length:=ae
  obtain⟨g,hg⟩:∃g,l[oi]=g:=⟨_,rfl⟩;have hgB:BF g:=kb.out g ap;have hag:atL l p.other=g:=by unfold atL;rw[hon,bo,av,ay hol,hg];rfl
  have o00:((oi:Int)<0)=False:=ap
  have oge1:((l.length:Int)≤oi)=False:=ap
  have oge2:(l.length≤oi)=False:=ap
  rw[hag,hoi]at ec;by_cases h1:f.kind=3;rotate_left
  ·have e:dC p l=false:=by rw[ec,aW h1];rfl
   rw[e];refine rv (N:=313) hm kT.out 10000 qWj gI Tryz.func10 rfl ?_
   repeat'(first|refine ru (id:=4) hm kT.out 10000 qWj ep ?_|refine ru (id:=46) hm kT.out 10000 qWj qD ?_|apply au|refine rq ?_|simp only[go_sem,kk,hs0,h1,qD,hfn,h00,hge1,hge2,hfl,hf,ep,hon,o00,oge1,oge2,hol,hg,Tryz.f10,cT,bt,bn,bh,aK,eP])
  obtain⟨a,b,hab⟩:∃a b,f.words=[a,b]:=by
   have h2:=(fU.1 hfb.v).2.2.2.1 h1
   match h:f.words,h2 with
   |[a,b],_=>simp
  have hnm:dI a=true∧dI b=true:=by
   have hw:=hfB.o.aw;cases f with
   |mk k nm ws s=>simp_all[eu,pT]
  by_cases h3:p.name∈f.words;rotate_left
  ·have e:dC p l=false:=by rw[ec,aW h3];simp
   rw[hab]at h3;simp only[aV,aZ,ct,not_or]at h3;have hna:(p.name.l=a.l)=False:=aP fun h=>h3.1 (qF h);have hnb:(p.name.l=b.l)=False:=aP fun h=>h3.2 (qF h);rw[e];refine rv (N:=313) hm kT.out 10000 qWj gI Tryz.func10 rfl ?_
   repeat'(first|refine ru (id:=4) hm kT.out 10000 qWj ep ?_|refine ru (id:=46) hm kT.out 10000 qWj qD ?_|apply au|refine rq ?_|simp only[go_sem,kk,hs0,h1,hab,hna,hnb,qD,hfn,h00,hge1,hge2,hfl,hf,ep,hon,o00,oge1,oge2,hol,hg,Tryz.f10,cT,bt,bn,bh,aK,eP])
  obtain⟨T,hT0⟩:∃T,D8 f p.name=T:=⟨_,rfl⟩;have e:dC p l=dC s0 (l++[eC g [⟨p.name,T⟩]]):=by rw[ec,hs0,hT0];simp[h1,h3]
  rw[hab]at h3;unfold D8 at hT0;rw[hab]at hT0;simp only[dr,di]at hT0;have hTn:dI T=true:=by
   rw[←hT0];split
   ·grind
   ·grind
  have hgB':BF (eC g [⟨p.name,T⟩]):=hgB.o.can ak ap;have e2:li g [⟨p.name,T⟩]=eC g [⟨p.name,T⟩]:=(BM hgB.o.clean ak (by simp_all[y7])).symm;have zW:List.zipWith Abs.cX.mk [p.name] [T]=[⟨p.name,T⟩]:=rfl;have hw:Aa g [p.name] [T]:=⟨hgB.o.b.ft,by have:=hgB.o.b.s;omega,rfl,ak⟩;obtain⟨I,hI⟩:∃I,eC g [⟨p.name,T⟩]=I:=⟨_,rfl⟩;rw[hI]at hgB' e e2;have hrec:s0.size<n∧clP (l++[I]) s0:=⟨ae,fun x hx=>by
   rcases aO.1 hx with hx|hx
   ·exact kb.out x hx
   grind,ap⟩
  obtain⟨B,hB⟩:∃B,dC s0 (l++[I])=B:=⟨_,rfl⟩;rw[e,hB];clear e ec hgB' hI;by_cases hna:a=p.name
  ·have hn1:(p.name.l=a.l)=True:=ap
   rw[aF hna]at hT0;subst hT0;by_cases hbn:b=p.name
   ·have hn2:(p.name.l=b.l)=True:=ap
    have hbaE:b=a:=ap
    subst hbaE;refine rv (N:=313) hm kT.out 10000 qWj gI Tryz.func10 rfl ?_
    repeat'(first|(refine fa (gr (id:=(10003,0)) (t:=3) (b:=true) (ys:=[.i .i64 p.kind,.i .i64 p.form,.i .i64 p.other,.s p.name.l,.sl (p.subs.map enc)]) ?_ ?_) ?_;(focus (simp only[go_sem,kk,hs0,hfn,hon,h1,hab];done));(focus (simp only[go_sem];done)))|(refine fa (gr (id:=(10005,1)) (t:=5) (b:=true) (ys:=[.i .i64 f.kind,.s f.name.l,.sl (f.words.map enc),.sl (f.subs.map enc)]) ?_ ?_) ?_;(focus (simp only[go_sem,kk,hs0,hfn,hon,h1,hab];done));(focus (simp only[go_sem];done)))|refine ru (id:=4) hm kT.out 10000 qWj ep ?_|refine ru (id:=46) hm kT.out 10000 qWj qD ?_|refine ru (id:=51) hm kT.out 10000 qWj vu ?_|apply rx hw|refine rx ⟨rfl,rfl,hw⟩ ?_|refine rx ⟨rfl,hw⟩ ?_|apply rx hrec|refine rx qQa ?_|apply au|refine rq ?_|simp only[go_sem,kk,hs0,h1,hab,hn1,hn2,zW,e2,hB,sd,sv,qD,vu,hfn,h00,hge1,hge2,hfl,hf,ep,hon,o00,oge1,oge2,hol,hg,aE,aM,aQ,eP,Tryz.f10,cT,bt,bn,bh,aK,eP])
    all_goals first|rfl|omega
   ·have hn2:(p.name.l=b.l)=False:=aP (by grind[qF]);refine rv (N:=313) hm kT.out 10000 qWj gI Tryz.func10 rfl ?_
    repeat'(first|(refine fa (gr (id:=(10003,0)) (t:=3) (b:=true) (ys:=[.i .i64 p.kind,.i .i64 p.form,.i .i64 p.other,.s p.name.l,.sl (p.subs.map enc)]) ?_ ?_) ?_;(focus (simp only[go_sem,kk,hs0,hfn,hon,h1,hab];done));(focus (simp only[go_sem];done)))|(refine fa (gr (id:=(10005,1)) (t:=5) (b:=true) (ys:=[.i .i64 f.kind,.s f.name.l,.sl (f.words.map enc),.sl (f.subs.map enc)]) ?_ ?_) ?_;(focus (simp only[go_sem,kk,hs0,hfn,hon,h1,hab];done));(focus (simp only[go_sem];done)))|refine ru (id:=4) hm kT.out 10000 qWj ep ?_|refine ru (id:=46) hm kT.out 10000 qWj qD ?_|refine ru (id:=51) hm kT.out 10000 qWj vu ?_|apply rx hw|refine rx ⟨rfl,rfl,hw⟩ ?_|refine rx ⟨rfl,hw⟩ ?_|apply rx hrec|refine rx qQa ?_|apply au|refine rq ?_|simp only[go_sem,kk,hs0,h1,hab,hn1,hn2,zW,e2,hB,sd,sv,qD,vu,hfn,h00,hge1,hge2,hfl,hf,ep,hon,o00,oge1,oge2,hol,hg,aE,aM,aQ,eP,Tryz.f10,cT,bt,bn,bh,aK,eP])
    all_goals first|rfl|omega
  ·have hn1:(p.name.l=a.l)=False:=aP (by grind[qF]);rw[az hna]at hT0;subst hT0;have hbn:b=p.name:=by
    simp only[aV,aZ,ct]at h3;rcases h3 with h3|h3
    ·grind
    ·grind
   have hn2:(p.name.l=b.l)=True:=ap
   refine rv (N:=313) hm kT.out 10000 qWj gI Tryz.func10 rfl ?_
   repeat'(first|(refine fa (gr (id:=(10003,0)) (t:=3) (b:=true) (ys:=[.i .i64 p.kind,.i .i64 p.form,.i .i64 p.other,.s p.name.l,.sl (p.subs.map enc)]) ?_ ?_) ?_;(focus (simp only[go_sem,kk,hs0,hfn,hon,h1,hab];done));(focus (simp only[go_sem];done)))|(refine fa (gr (id:=(10005,1)) (t:=5) (b:=true) (ys:=[.i .i64 f.kind,.s f.name.l,.sl (f.words.map enc),.sl (f.subs.map enc)]) ?_ ?_) ?_;(focus (simp only[go_sem,kk,hs0,hfn,hon,h1,hab];done));(focus (simp only[go_sem];done)))|refine ru (id:=4) hm kT.out 10000 qWj ep ?_|refine ru (id:=46) hm kT.out 10000 qWj qD ?_|refine ru (id:=51) hm kT.out 10000 qWj vu ?_|apply rx hw|refine rx ⟨rfl,rfl,hw⟩ ?_|refine rx ⟨rfl,hw⟩ ?_|apply rx hrec|refine rx qQa ?_|apply au|refine rq ?_|simp only[go_sem,kk,hs0,h1,hab,hn1,hn2,zW,e2,hB,sd,sv,qD,vu,hfn,h00,hge1,hge2,hfl,hf,ep,hon,o00,oge1,oge2,hol,hg,aE,aM,aQ,eP,Tryz.f10,cT,bt,bn,bh,aK,eP])
   all_goals first|rfl|omega
def O14:Tbl:=O13.add 10 (sp2 (fun l p=>dC p l) clP)
attribute [go_sem] O14
theorem Vd:b9 Tryz.prog GA O14:=by
 refine Ql Prf.size gI fK fun n hT l p hpn hpre _ _=>?_;have hT:b9 Tryz.prog GA (eP n):=hT;cases hfi:inL l p.form with
 |false=>exact QW hT hpre hfi
 |true=>grind[Tf,Tg,Th,Ti,Tj,Tk,PB]
def O15:Tbl:=O14
attribute [go_sem] O15
def exR (r:Res):Prop:=r.ok=true→r.lim=false
theorem Nx {rec:Brn→Int→Res}{b1:Brn}{i:Nat}:∀(l:List Abs.aH) (subs:List Prf) (a:Int),exR (kH rec b1 i l subs a)
 |[],_,_=>fun _=>rfl
 |x::xs,subs,a=>by
  rw[kH];split
  ·intro h;cases h
  ·split
   ·intro h;cases h
   ·exact Nx xs _ _
theorem Pr {rec:Brn→Int→Res}(h:∀b a,exR (rec b a))(b:Brn)(a:Int)(i:Nat)(f:Abs.aH):exR (jr rec b a i f):=by
 unfold jr;split
 ·split
  ·intro h;cases h
  ·exact fun e=>h _ _ e
 ·split
  ·split
   ·intro h;cases h
   ·exact fun e=>h _ _ e
  ·exact Nx _ _ _
theorem Og {rec:Brn→Int→Res}(h:∀b a,exR (rec b a))(b:Brn)(a:Int){k:Res}(hk:exR k):∀ws:List Int,exR (kY rec b a k ws)
 |[]=>hk
 |w::ws=>by grind[kY,Pr,Og h b a hk ws]
theorem RM {rec:Brn→Int→Res}(h:∀b a,exR (rec b a)):∀r:GR,exR (mF rec r)
 | .lim _=>fun e=>by cases e
 | .go s=>by
  unfold exR mF;by_cases hs:s.steps=[]
  ·grind
  ·simp only[hs,cd];exact fun e=>h _ _ e
theorem DE (uses:Int):∀(n:Nat) (b:Brn) (a:Int),exR (gQ uses n b a)
 |0,b,a=>fun e=>by rw[gQ]at e;cases e
 |n+1,b,a=>by
  rw[gQ];unfold oD;split
  ·exact fun _=>rfl
  ·refine Og (fun b a=>DE uses n b a) _ _ ?_ _;unfold nQ;split
   ·intro e;cases e
   ·exact RM (fun b a=>DE uses n b a) _
theorem Yi {ax:List Abs.aH}{g:Abs.aH}{uses:Int}(h:(iC ax g).2.code=0)(h2:¬(uses<0∨5<uses)):qU ax g uses=((jK ax g uses).2.1,(jK ax g uses).2.2):=by
 rw[yD h h2];have hx:exR (lh ax g uses):=DE uses 301 _ 0;obtain⟨r,hr⟩:∃r,lh ax g uses=r:=⟨_,rfl⟩;unfold qU;rw[hr]at hx ⊢;unfold ji;cases ho:r.ok with
 |true=>have hl:=hx ho;simp[hl]
 |false=>cases hl:r.lim<;>simp
theorem Yj {ax:List Abs.aH}{g:Abs.aH}{uses:Int}{p:Prf}{e:iY}(h:jK ax g uses=(p,true,e)):dC p (jz ax g)=true∧p.size≤601∧(∀f∈jz ax g,BF f)∧(jz ax g).length≤41:=by
 obtain⟨h0,hu,hk,hl,hp,he⟩:=zm h;obtain⟨_,hlen,hva,hvg⟩:=CQ h0;obtain⟨h1,h2⟩:=ES hva hvg hlen hu;have hc:=Ot (uses:=uses) 301 _ 0 h1 h2 hk;have had:=(wJ (uses:=uses) 301 (eo gw (jz ax g)) 0 ai).2 hk;have hl2:(eo gw (jz ax g)).list=jz ax g:=by unfold eo gw;simp
 rw[hl2]at hc;have hp2:p=(gQ uses 301 (eo gw (jz ax g)) 0).p:=hp;grind[It,jz,jO]
def W3:Tbl:=Tbl.or Z7 (Tbl.or O14 W2)
attribute [go_sem] W3
theorem hW3:b9 Tryz.prog GA W3:=sw hZ7 (sw Vd hW2)
end Go.Proofs.YtnijhilfchekkaaGreatDoor
