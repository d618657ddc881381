import Derived.Test.YtnijhilfchekkaaGreatDoorW1
import Derived.Test.YtnijhilfchekkaaGreatDoorC2
set_option linter.unusedSimpArgs false
set_option maxRecDepth 100000
set_option maxHeartbeats 1000000
namespace Go.Proofs.YtnijhilfchekkaaGreatDoor
open Go Go.Abs Go.Proofs
section
variable {P:Program} {G:Nat→List FD} {T:Tbl}
end
section
variable {P:Program} {G:Nat→List FD} {T:Tbl}
end
def N1:Tbl:=R4
attribute [go_sem] N1
theorem hN1:b9 Tryz.prog GA N1:=hR4
def N2:Tbl:=N1
attribute [go_sem] N2
theorem hN2:b9 Tryz.prog GA N2:=hN1
def nc (f:Abs.aH):Abs.aH:=eC (eJ f) []
def N3:Tbl:=N2.add 54 (sp1 nc fun f=>f.fit=true∧f.size≤900)
attribute [go_sem] N3
theorem hN3:b9 Tryz.prog GA N3:=by
 refine iD Gz hN2 fun f hp _=>?_;have hp2:(eJ f).fit=true∧(eJ f).size≤1000:=⟨by simp[eJ,aH.fit,aH.fits,hp.1],by simp only[eJ,aH.size,aH.sizes];omega⟩;have dN:Abs.aH.mk 4 ⟨[]⟩ [] [f]=eJ f:=rfl;have nk:(eJ f).kind=4:=rfl;have nn:(eJ f).name.l=[]:=rfl;have nw:(eJ f).words=[]:=rfl;have ns:(eJ f).subs=[f]:=rfl;unfold nc;obtain⟨R,hR⟩:∃R,eC (eJ f) []=R:=⟨_,rfl⟩;rw[hR];refine rv (N:=7) hm hN2 54000 qWi Gz Tryz.func54 rfl ?_
 repeat'(first|refine rx ⟨rfl,hp2⟩ ?_|apply rx hp2|apply au|refine rq ?_|simp only[go_sem,dN,hR,nk,nn,nw,ns,bt,Tryz.f54])
def N4:Tbl:=N3
attribute [go_sem] N4
theorem hN4:b9 Tryz.prog GA N4:=hN3
def nZ:List Abs.aH→Nat→iY
 |[],_=>⟨0,0⟩
 |f::l,i=>if(dB false f).code≠0 then⟨(dB false f).code,i⟩else nZ l (i+1)
def jO (l:List Abs.aH):List Abs.aH:=l.map fun f=>eC f []
theorem y' (l:List Abs.aH):(jO l).length=l.length:=aG _
def iC (ax:List Abs.aH)(g:Abs.aH):List Abs.aH×iY:=
 if 40<ax.length then([],⟨2, -1⟩)else if(nZ ax 0).code≠0 then([],nZ ax 0)
 else if(dB false g).code≠0 then([],⟨(dB false g).code, -2⟩)else(jO ax++[nc g],⟨0,0⟩)
theorem Cb:∀(l:List Abs.aH) (k i:Nat) (h:i<l.length),(∀f∈l.take i,(dB false f).code=0)→(dB false l[i]).code≠0→nZ l k=⟨(dB false l[i]).code,((k+i:Nat):Int)⟩
 |f::l,k,0,_,_,h2=>by have h3:(dB false f).code≠0:=h2;rw[nZ,aF h3];rfl
 |f::l,k,i+1,h,h1,h2=>by rw[nZ,az (by simp[h1 f ak]),Cb l (k+1) i qQh (fun g hg=>h1 g (by rw[bm];exact cg _ hg)) h2];simp only[jm,iY.mk.injEq,io];omega
theorem yH:∀(l:List Abs.aH) (k:Nat),(∀f∈l,(dB false f).code=0)→nZ l k=⟨0,0⟩
 |[],_,_=>rfl
 |f::l,k,h=>by rw[nZ,az (by simp[h f ak]),yH l _ fun g hg=>h g (by simp[hg])]
def NR:Tv:=(.q 0 (.q 1 (.q 2 (.q 3 (.q 4 (.br [(5,.leaf)]))))))
def MM:Tv:=(.q 0 (.q 1 (.q 2 (.q 3 (.br [(4,.leaf)])))))
def N5:Tbl:=N4.add 34 (sZ iC fun _ _=>True)
attribute [go_sem] N5
set_option maxHeartbeats 4000000 in
theorem hN5:b9 Tryz.prog GA N5:=by
 refine zH Bl hN4 fun ax g _ hwa _=>?_;have hsl:ax.length≤dt:=by have:=iN hwa;simpa using this
 unfold dt at hsl;clear hwa;by_cases h40:40<ax.length
 ·have e:iC ax g=([],⟨2, -1⟩):=by unfold iC;rw[aF h40]
  have h40':((40:Int)<ax.length)=True:=aU ae;rw[e];refine rv (N:=51) hm hN4 34000 qW9 Bl Tryz.func34 rfl ?_
  repeat'(first|apply au|refine rq ?_|simp only[go_sem,h40',bt,Tryz.f34])
 have h40':((40:Int)<ax.length)=False:=aP ae;refine rv (N:=51) hm hN4 34000 qW9 Bl Tryz.func34 rfl ?_
 repeat'(first|apply au|refine rq ?_|simp only[go_sem,h40',bt,Tryz.f34])
 refine cI hm hN4 34000 qW9 (ι:=jL ax.length 3 fun i=>∀f∈ax.take i,(dB false f).code=0)
  ⟨fun q=>⟨frL [(3,.ptr (34003,0) 0),(5,.ptr (34005,1) 0),(6,.ow (34035,q.g) 4 ((jO (ax.take q.i)).map enc)),(15,eS ax),(16,eI ax.length),(17,eI q.i)],
   hpL [((34003,0),some ⟨(qcD g),true,false⟩),((34005,1),some ⟨[eI 0,eI 0],true,false⟩),((34035,q.g),some tok)],q.m⟩,fun q=>ax.length-q.i⟩
  ⟨0,2,3,ae,ae,ae,ak⟩ ah ?_ ?_
 ·refine eX [] [(34035,2)] [] ?_ ?_ ?_ ?_ ?_<;>simp only[go_sem]
  all_goals first|rfl|omega
 rintro⟨i,gg,m,hi,hg,hm1,hp⟩
 try simp only at hi hg hm1 hp
 rcases aA i ax.length with h1|h1
 ·obtain⟨x,hx⟩:∃x,ax[i]=x:=⟨_,rfl⟩;by_cases hc:(dB false x).code=0;rotate_left
  ·have eb:=Cb ax 0 i h1 hp (by rw[hx];exact hc);rw[hx,bE]at eb;have e:iC ax g=([],⟨(dB false x).code,(i:Int)⟩):=by unfold iC;rw[az h40,eb,aF hc]
   rw[e];obtain⟨X,hX⟩:∃X,dB false x=X:=⟨_,rfl⟩;rw[hX]at hc;rw[hX]
   repeat'(first|refine ru (id:=9) hm hN4 34000 qW9 NR ?_|apply au|refine rq ?_|simp only[go_sem,h1,hx,hX,hc,bh,bt,NR,Tryz.f34])
  ·have hcz:=uz hc;have hcp:x.fit=true∧x.size≤1000:=⟨rB hc,by have:=nq hc;omega⟩;have et:jO (ax.take (i+1))=jO (ax.take i)++[eC x []]:=by unfold jO;rw[aB h1,aE,hx];rfl
   have hlt:(jO (ax.take i)).length=i:=by rw[y',aX];omega
   repeat'(first|apply rx hcp|apply au|refine rq ?_|simp only[go_sem,h1,hx,hcz,bh,bt,Tryz.f34])
   refine⟨⟨i+1,m+2,m+3,ae,ae,ae,?_⟩,af,?_⟩
   ·rw[aB h1,hx];intro f hf;rcases aO.1 hf with hf|hf
    ·exact hp f hf
    ·rw[a7.1 hf];exact hc
   refine bF ?_ ?_ ?_<;>simp only[go_sem,et,aE]
   all_goals first|rfl|omega
 ·obtain rfl:i=ax.length:=ae
  rw[aJ]at hp;have eb:=yH ax 0 hp;by_cases hc:(dB false g).code=0;rotate_left
  ·have e:iC ax g=([],⟨(dB false g).code, -2⟩):=by unfold iC;rw[az h40,eb,az ai,aF hc]
   rw[e];obtain⟨X,hX⟩:∃X,dB false g=X:=⟨_,rfl⟩;rw[hX]at hc;rw[hX]
   repeat'(first|refine ru (id:=14) hm hN4 34000 qW9 MM ?_|apply au|refine rq ?_|simp only[go_sem,aC,hX,hc,bt,MM,Tryz.f34])
  ·have hcz:=uz hc;have hgp:g.fit=true∧g.size≤900:=⟨rB hc,by have:=nq hc;omega⟩;have e:iC ax g=(jO ax++[nc g],⟨0,0⟩):=by unfold iC;rw[az h40,eb,az ai,az qWh]
   rw[e];obtain⟨R,hR⟩:∃R,nc g=R:=⟨_,rfl⟩;rw[hR];have hlt:(jO ax).length=ax.length:=y' ax
   repeat'(first|apply rx hgp|apply au|refine rq ?_|simp only[go_sem,aC,aJ,hcz,hR,bt,aE,Tryz.f34])
section
variable {P:Program} {G:Nat→List FD} {T:Tbl}
def wr {α ρ σ τ υ:Type}[Enc α][Enc ρ][Enc σ][Enc τ][Enc υ](f:α→ρ×σ×τ×υ)(pre:α→Prop):List FD→Option (D×Prop)
 |[x]=>some (.tup [.fz (enc (f (dec x)).1),.fz (enc (f (dec x)).2.1),.fz (enc (f (dec x)).2.2.1),.fz (enc (f (dec x)).2.2.2)],x=enc (dec (α:=α) x)∧pre (dec x))
 |_=>none
@[go_sem] theorem zPl {α ρ σ τ υ:Type}[Enc α][Enc ρ][Enc σ][Enc τ][Enc υ]{f:α→ρ×σ×τ×υ}{pre:α→Prop}{x:FD}:wr f pre [x]=some (.tup [.fz (enc (f (dec x)).1),.fz (enc (f (dec x)).2.1),.fz (enc (f (dec x)).2.2.1),.fz (enc (f (dec x)).2.2.2)],x=enc (dec (α:=α) x)∧pre (dec x)):=rfl
theorem RU {α ρ σ τ υ:Type}[Enc α][Enc ρ][Enc σ][Enc τ][Enc υ]{f:FuncId}{g:α→ρ×σ×τ×υ}{pre:α→Prop}(hc:cW P f)(hT:b9 P G T)
  (h:∀a,pre a→(enc a).Wf→cS P G f [.fz (enc a)] (hpL []) 0 (fun d _ _=>D.val d=some (.tup [.fz (enc (g a).1),.fz (enc (g a).2.1),.fz (enc (g a).2.2.1),.fz (enc (g a).2.2.2)]))):b9 P G (T.add f (wr g pre)):=by
 refine pS hT fun xs r c hx hcc=>?_;unfold wr at hx;split at hx
 ·rename_i x;simp only[aL,aY]at hx;obtain⟨rfl,rfl⟩:=hx;obtain⟨e,hp⟩:=hcc;refine qx hc fun hw=>?_;rw[ky];have:=h (dec x) hp (by rw[←e];exact hw x ak);rw[←e]at this;exact this
 ·cases hx
end
def TY (_:Abs.aH):Int×List Abs.aH×Abs.aH×Bool:=(0,[],fQ,false)
def N6:Tbl:=N5.add 57 (wr TY fun f=>f.kind=2)
attribute [go_sem] N6
def N7:Tbl:=N6
attribute [go_sem] N7
structure clB (f:Abs.aH):Prop where
 b:brF f
 c:clean f
theorem clB.sub {f g:Abs.aH}(h:clB f)(hg:g∈f.subs):clB g:=⟨h.b.sub hg,by have hc:=h.c;obtain⟨k,nm,ws,s⟩:=f;rw[clean]at hc;exact(Jf s).1 hc.2 g hg⟩
theorem xu {f:Abs.aH}(h:clB f)(hk:f.kind=4∨f.kind=8∨f.kind=9):∃a,f.subs=[a]∧dv f=a∧clB a:=by obtain⟨a,ha,s0,_⟩:=nz h.b hk;exact⟨a,ha,s0,h.sub (by rw[ha];simp)⟩
theorem vF {f:Abs.aH}(h:clB f)(hk:f.kind=5∨f.kind=6∨f.kind=7):∃a b,f.subs=[a,b]∧dv f=a∧qc f=b∧clB a∧clB b:=by obtain⟨a,b,ha,s0,s1,_⟩:=oV h.b hk;exact⟨a,b,ha,s0,s1,h.sub (by rw[ha];simp),h.sub (by rw[ha];simp)⟩
theorem YB {f:Abs.aH}(h:clean f):clean (eJ f):=by unfold eJ;rw[clean,lU,lU];exact⟨ak,h,trivial⟩
theorem oO {f:Abs.aH}(h:clean f):li f []=cnn f:=(BM h ak ak).symm
def O1:Tbl:=R11.add 33 (sp1 ngg fun f=>clB f)
attribute [go_sem] O1
theorem hO1:b9 Tryz.prog GA O1:=by
 refine iD G1 Gp fun f hp _=>?_;have hs:=hp.b.s;have hp2:(eJ f).fit=true∧(eJ f).size≤1000:=⟨by simp[eJ,aH.fit,aH.fits,hp.b.ft],by simp only[eJ,aH.size,aH.sizes];omega⟩;have dN:Abs.aH.mk 4 ⟨[]⟩ [] [f]=eJ f:=rfl;have nk:(eJ f).kind=4:=rfl;have nn:(eJ f).name.l=[]:=rfl;have nw:(eJ f).words=[]:=rfl;have ns:(eJ f).subs=[f]:=rfl;have e:li (eJ f) []=ngg f:=oO (YB hp.c);obtain⟨R,hR⟩:∃R,ngg f=R:=⟨_,rfl⟩;rw[hR]at e;rw[hR];refine rv (N:=7) hm Gp 33000 qWi G1 Tryz.func33 rfl ?_
 repeat'(first|refine rx ⟨rfl,hp2⟩ ?_|apply rx hp2|apply au|refine rq ?_|simp only[go_sem,dN,e,nk,nn,nw,ns,bt,Tryz.f33])
def qfS (ax:List Abs.aH)(g:Abs.aH):iY:=if 40<ax.length then⟨2, -1⟩else if(nZ ax 0).code≠0 then nZ ax 0 else if(dB false g).code≠0 then⟨(dB false g).code, -2⟩else⟨0,0⟩
theorem ZL (ax:List Abs.aH)(g:Abs.aH):(iC ax g).2=qfS ax g:=by
 unfold iC qfS;split
 ·rfl
 split
 ·rfl
 split
 ·rfl
 ·rfl
def O2:Tbl:=O1.add 7 (sp2 qfS fun _ _=>True)
attribute [go_sem] O2
set_option maxHeartbeats 4000000 in
theorem hO2:b9 Tryz.prog GA O2:=by
 refine gN ok7 hO1 fun ax g _ hwa _=>?_;have hsl:ax.length≤dt:=by have:=iN hwa;simpa using this
 unfold dt at hsl;clear hwa;by_cases h40:40<ax.length
 ·have e:qfS ax g=⟨2, -1⟩:=by unfold qfS;rw[aF h40]
  have h40':((40:Int)<ax.length)=True:=aU ae;rw[e];refine rv (N:=39) hm hO1 7000 qWi ok7 Tryz.func7 rfl ?_
  repeat'(first|apply au|refine rq ?_|simp only[go_sem,h40',bt,Tryz.f7])
 have h40':((40:Int)<ax.length)=False:=aP ae;refine rv (N:=39) hm hO1 7000 qWi ok7 Tryz.func7 rfl ?_
 repeat'(first|apply au|refine rq ?_|simp only[go_sem,h40',bt,Tryz.f7])
 refine cI hm hO1 7000 qWi (ι:=fW ax.length 2 fun i=>∀f∈ax.take i,(dB false f).code=0)
  ⟨fun q=>⟨frL [(0,eS ax),(3,.ptr (7003,0) 0),(4,.ptr (7004,1) 0),(13,eI ax.length),(14,eI q.i)],
   hpL [((7003,0),some ⟨(qcD g),true,false⟩),((7004,1),some ⟨[eI 0,eI 0],true,false⟩)],q.m⟩,fun q=>ax.length-q.i⟩
  ⟨0,2,ae,ae,ak⟩ ah ?_ ?_
 ·refine bF ?_ ?_ ?_<;>simp only[go_sem]
  all_goals first|rfl|omega
 rintro⟨i,m,hi,hm1,hp⟩
 try simp only at hi hm1 hp
 rcases aA i ax.length with h1|h1
 ·obtain⟨x,hx⟩:∃x,ax[i]=x:=⟨_,rfl⟩;by_cases hc:(dB false x).code=0;rotate_left
  ·have eb:=Cb ax 0 i h1 hp (by rw[hx];exact hc);rw[hx,bE]at eb;have e:qfS ax g=⟨(dB false x).code,(i:Int)⟩:=by unfold qfS;rw[az h40,eb,aF hc]
   rw[e];obtain⟨X,hX⟩:∃X,dB false x=X:=⟨_,rfl⟩;rw[hX]at hc;rw[hX]
   repeat'(first|apply au|refine rq ?_|simp only[go_sem,h1,hx,hX,hc,bh,bt,Tryz.f7])
  ·have hcz:=uz hc
   repeat'(first|apply au|refine rq ?_|simp only[go_sem,h1,hx,hcz,bh,bt,Tryz.f7])
   refine⟨⟨i+1,m+1,ae,ae,?_⟩,af,?_⟩
   ·rw[aB h1,hx];intro f hf;rcases aO.1 hf with hf|hf
    ·exact hp f hf
    ·rw[a7.1 hf];exact hc
   refine bF ?_ ?_ ?_<;>simp only[go_sem]
   all_goals first|rfl|omega
 ·obtain rfl:i=ax.length:=ae
  rw[aJ]at hp;have eb:=yH ax 0 hp;by_cases hc:(dB false g).code=0;rotate_left
  ·have e:qfS ax g=⟨(dB false g).code, -2⟩:=by unfold qfS;rw[az h40,eb,az ai,aF hc]
   rw[e];obtain⟨X,hX⟩:∃X,dB false g=X:=⟨_,rfl⟩;rw[hX]at hc;rw[hX]
   repeat'(first|apply au|refine rq ?_|simp only[go_sem,aC,hX,hc,bt,Tryz.f7])
  ·have hcz:=uz hc;have e:qfS ax g=⟨0,0⟩:=by unfold qfS;rw[az h40,eb,az ai,az qWh]
   rw[e]
   repeat'(first|apply au|refine rq ?_|simp only[go_sem,aC,hcz,bt,Tryz.f7])
def xr (ax:List Abs.aH)(g:Abs.aH):List Abs.aH:=jO ax++[ngg g]
def O3:Tbl:=O2.add 11 (sp2 xr fun ax g=>(∀f∈ax,clB f)∧clB g∧ax.length≤1000)
attribute [go_sem] O3
theorem hO3:b9 Tryz.prog GA O3:=by
 refine gN GM hO2 fun ax g hp _ _=>?_;obtain⟨hax,hg,hsl⟩:=hp;have kb:=Kp.mk hax;clear hax;refine rv (N:=26) hm hO2 11000 (lsw [19,25] []) GM Tryz.func11 rfl ?_
 repeat'(first|apply au|refine rq ?_|simp only[go_sem,bt,Tryz.f11])
 refine cI hm hO2 11000 (lsw [19,25] []) (ι:=jL ax.length 2 fun _=>True)
  ⟨fun q=>⟨frL [(0,eS ax),(3,.ptr (11003,0) 0),(5,.ow (11019,q.g) 4 ((jO (ax.take q.i)).map enc)),(8,eI ax.length),(9,eI q.i)],
   hpL [((11003,0),some ⟨(qcD g),true,false⟩),((11019,q.g),some tok)],q.m⟩,fun q=>ax.length-q.i⟩
  ⟨0,1,2,ae,ae,ae,trivial⟩ ah ?_ ?_
 ·refine eX [] [(11019,1)] [] ?_ ?_ ?_ ?_ ?_<;>simp only[go_sem]
  all_goals first|rfl|omega
 rintro⟨i,gg,m,hi,hgm,hm1,_⟩
 try simp only at hi hgm hm1
 rcases aA i ax.length with h1|h1
 ·obtain⟨x,hx⟩:∃x,ax[i]=x:=⟨_,rfl⟩;have hxb:clB x:=kb.out x qQe;have hcp:x.fit=true∧x.size≤1000:=⟨hxb.b.ft,by have:=hxb.b.s;omega⟩;have ex:li x []=eC x []:=oO hxb.c;have et:jO (ax.take (i+1))=jO (ax.take i)++[eC x []]:=by unfold jO;rw[aB h1,aE,hx];rfl
  have hlt:(jO (ax.take i)).length=i:=by rw[y',aX];omega
  repeat'(first|apply rx hcp|apply au|refine rq ?_|simp only[go_sem,h1,hx,ex,bh,bt,Tryz.f11])
  refine⟨⟨i+1,m,m+1,ae,ae,ae,trivial⟩,af,?_⟩;refine bF ?_ ?_ ?_<;>simp only[go_sem,et,aE]
  all_goals first|rfl|omega
 ·obtain rfl:i=ax.length:=ae
  obtain⟨R,hR⟩:∃R,ngg g=R:=⟨_,rfl⟩;have hlt:(jO ax).length=ax.length:=y' ax;unfold xr;rw[hR]
  repeat'(first|apply rx hg|apply au|refine rq ?_|simp only[go_sem,aC,aJ,hR,bt,aE,Tryz.f11])
def eT (f:Abs.aH):Int:=(bY f).1
def O4:Tbl:=O3.add 26 (sp1 eT brF)
attribute [go_sem] O4
set_option maxHeartbeats 4000000 in
theorem hO4:b9 Tryz.prog GA O4:=by
 refine iD mG hO3 fun f hbr _=>?_;have hkb:=fU.1 hbr.v;have hk1:=hkb.1;have hk2:=hkb.2.1;clear hkb;by_cases k4:f.kind=4
 ·obtain⟨g,hg,s0,hbg⟩:=nz hbr (.inl k4);have hgk:=fU.1 hbg.v;have hg1:=hgk.1;have hg2:=hgk.2.1;clear hgk;have hcase:g.kind=1∨g.kind=2∨g.kind=3∨g.kind=4∨g.kind=5∨g.kind=6∨g.kind=7∨g.kind=8∨g.kind=9:=ae
  rcases hcase with j|j|j|j|j|j|j|j|j
  ·have e:eT f=0:=by unfold eT bY;rw[s0,k4,j];rfl
   rw[e];refine rv (N:=19) hm hO3 26000 qWi mG Tryz.func26 rfl ?_
   repeat'(first|apply au|refine rq ?_|simp only[go_sem,k4,hg,j,bh,bt,Tryz.f26])
  ·have e:eT f=0:=by unfold eT bY;rw[s0,k4,j];rfl
   rw[e];refine rv (N:=19) hm hO3 26000 qWi mG Tryz.func26 rfl ?_
   repeat'(first|apply au|refine rq ?_|simp only[go_sem,k4,hg,j,bh,bt,Tryz.f26])
  ·have e:eT f=0:=by unfold eT bY;rw[s0,k4,j];rfl
   rw[e];refine rv (N:=19) hm hO3 26000 qWi mG Tryz.func26 rfl ?_
   repeat'(first|apply au|refine rq ?_|simp only[go_sem,k4,hg,j,bh,bt,Tryz.f26])
  ·have e:eT f=1:=by unfold eT bY;rw[s0,k4,j];rfl
   rw[e];refine rv (N:=19) hm hO3 26000 qWi mG Tryz.func26 rfl ?_
   repeat'(first|apply au|refine rq ?_|simp only[go_sem,k4,hg,j,bh,bt,Tryz.f26])
  ·have e:eT f=2:=by unfold eT bY;rw[s0,k4,j];rfl
   rw[e];refine rv (N:=19) hm hO3 26000 qWi mG Tryz.func26 rfl ?_
   repeat'(first|apply au|refine rq ?_|simp only[go_sem,k4,hg,j,bh,bt,Tryz.f26])
  ·have e:eT f=1:=by unfold eT bY;rw[s0,k4,j];rfl
   rw[e];refine rv (N:=19) hm hO3 26000 qWi mG Tryz.func26 rfl ?_
   repeat'(first|apply au|refine rq ?_|simp only[go_sem,k4,hg,j,bh,bt,Tryz.f26])
  ·have e:eT f=1:=by unfold eT bY;rw[s0,k4,j];rfl
   rw[e];refine rv (N:=19) hm hO3 26000 qWi mG Tryz.func26 rfl ?_
   repeat'(first|apply au|refine rq ?_|simp only[go_sem,k4,hg,j,bh,bt,Tryz.f26])
  ·have e:eT f=4:=by unfold eT bY;rw[s0,k4,j];rfl
   rw[e];refine rv (N:=19) hm hO3 26000 qWi mG Tryz.func26 rfl ?_
   repeat'(first|apply au|refine rq ?_|simp only[go_sem,k4,hg,j,bh,bt,Tryz.f26])
  ·have e:eT f=3:=by unfold eT bY;rw[s0,k4,j];rfl
   rw[e];refine rv (N:=19) hm hO3 26000 qWi mG Tryz.func26 rfl ?_
   repeat'(first|apply au|refine rq ?_|simp only[go_sem,k4,hg,j,bh,bt,Tryz.f26])
 have hcase:f.kind=1∨f.kind=2∨f.kind=3∨f.kind=5∨f.kind=6∨f.kind=7∨f.kind=8∨f.kind=9:=ae
 rcases hcase with j|j|j|j|j|j|j|j
 ·have e:eT f=0:=by unfold eT bY;rw[j];rfl
  rw[e];refine rv (N:=19) hm hO3 26000 qWi mG Tryz.func26 rfl ?_
  repeat'(first|apply au|refine rq ?_|simp only[go_sem,j,bh,bt,Tryz.f26])
 ·have e:eT f=0:=by unfold eT bY;rw[j];rfl
  rw[e];refine rv (N:=19) hm hO3 26000 qWi mG Tryz.func26 rfl ?_
  repeat'(first|apply au|refine rq ?_|simp only[go_sem,j,bh,bt,Tryz.f26])
 ·have e:eT f=0:=by unfold eT bY;rw[j];rfl
  rw[e];refine rv (N:=19) hm hO3 26000 qWi mG Tryz.func26 rfl ?_
  repeat'(first|apply au|refine rq ?_|simp only[go_sem,j,bh,bt,Tryz.f26])
 ·have e:eT f=1:=by unfold eT bY;rw[j];rfl
  rw[e];refine rv (N:=19) hm hO3 26000 qWi mG Tryz.func26 rfl ?_
  repeat'(first|apply au|refine rq ?_|simp only[go_sem,j,bh,bt,Tryz.f26])
 ·have e:eT f=2:=by unfold eT bY;rw[j];rfl
  rw[e];refine rv (N:=19) hm hO3 26000 qWi mG Tryz.func26 rfl ?_
  repeat'(first|apply au|refine rq ?_|simp only[go_sem,j,bh,bt,Tryz.f26])
 ·have e:eT f=2:=by unfold eT bY;rw[j];rfl
  rw[e];refine rv (N:=19) hm hO3 26000 qWi mG Tryz.func26 rfl ?_
  repeat'(first|apply au|refine rq ?_|simp only[go_sem,j,bh,bt,Tryz.f26])
 ·have e:eT f=3:=by unfold eT bY;rw[j];rfl
  rw[e];refine rv (N:=19) hm hO3 26000 qWi mG Tryz.func26 rfl ?_
  repeat'(first|apply au|refine rq ?_|simp only[go_sem,j,bh,bt,Tryz.f26])
 ·have e:eT f=4:=by unfold eT bY;rw[j];rfl
  rw[e];refine rv (N:=19) hm hO3 26000 qWi mG Tryz.func26 rfl ?_
  repeat'(first|apply au|refine rq ?_|simp only[go_sem,j,bh,bt,Tryz.f26])
def D7 (f:Abs.aH)(name:Str):Prop:=(∃a,f.subs=[a]∧clB a)∧¬iP name
def E0:Tv:=(.q 0 (.q 1 (.q 2 (.q 3 (.q 4 (.q 5 (.q 6 (.q 7 (.q 8 (.q 9 (.br [(10,.leaf)])))))))))))
def O5:Tbl:=O4.add 48 (sp2 lx D7)
attribute [go_sem] O5
theorem hO5:b9 Tryz.prog GA O5:=by
 refine gN G6 hO4 fun f name hp _ _=>?_;obtain⟨⟨a,ha,hca⟩,hnb⟩:=hp;have e:lx f name=eC a [⟨f.name,name⟩]:=by unfold lx dv;rw[ha];rfl
 have e2:li a [⟨f.name,name⟩]=eC a [⟨f.name,name⟩]:=(BM hca.c ak (fun b hb=>by rw[a7.1 hb];exact hnb)).symm;have zW:List.zipWith Abs.cX.mk [f.name] [name]=[⟨f.name,name⟩]:=rfl;have hw:Aa a [f.name] [name]:=⟨hca.b.ft,by have:=hca.b.s;omega,rfl,ak⟩;rw[e];obtain⟨R,hR⟩:∃R,eC a [⟨f.name,name⟩]=R:=⟨_,rfl⟩;rw[hR]at e2;rw[hR];refine rv (N:=15) hm hO4 48000 qW5 G6 Tryz.func48 rfl ?_
 repeat'(first|apply rx hw|refine rx ⟨rfl,rfl,hw⟩ ?_|refine rx ⟨rfl,hw⟩ ?_|refine ru (id:=1) hm hO4 48000 qW5 E0 ?_|apply au|refine rq ?_|simp only[go_sem,ha,zW,e2,bn,bt,sd,sv,E0,Tryz.f48])
 all_goals trace_state
def lZ (f:Abs.aH)(name:Str):Abs.aH:=gP (bY f).2.2.1 (bY f).2.2.2 name
def xw (f:Abs.aH)(name:Str):Prop:=clB f∧(eT f=3∨eT f=4)∧dI name=true
theorem clB.inst {a:Abs.aH}{x nm:Str}(h:clB a)(hn:¬iP nm):clB (eC a [⟨x,nm⟩]):=⟨h.b.cn,Wo h.c fun b hb=>by rw[a7.1 hb];exact hn⟩
theorem N9 {f:Abs.aH}(h:brF f)(hs:eT f=3∨eT f=4):f.kind=8∨f.kind=9∨(f.kind=4∧((dv f).kind=8∨(dv f).kind=9)):=by
 unfold eT bY at hs;have hkb:=fU.1 h.v;by_cases k8:f.kind=8
 ·exact .inl k8
 by_cases k9:f.kind=9
 ·exact .inr (.inl k9)
 refine .inr (.inr ?_);by_cases k4:f.kind=4
 ·refine⟨k4,?_⟩;by_cases j8:(dv f).kind=8
  ·exact .inl j8
  by_cases j9:(dv f).kind=9
  ·exact .inr j9
  exfalso;simp only[k4,j8,j9,cd,cJ,show¬((4:Int)=5) by decide,show¬((4:Int)=6) by decide,show¬((4:Int)=7) by decide,show¬((4:Int)=8) by decide,show¬((4:Int)=9) by decide]at hs;split at hs<;>(try split at hs)<;>(try split at hs)<;>(try split at hs)<;>simp at hs
 ·exfalso;simp only[k4,k8,k9,cd]at hs;split at hs<;>(try split at hs)<;>(try split at hs)<;>simp at hs
def O6:Tbl:=O5.add 31 (sp2 lZ xw)
attribute [go_sem] O6
theorem hO6:b9 Tryz.prog GA O6:=by
 refine gN Bk hO5 fun f name hp _ _=>?_;obtain⟨hcb,hso,hnm⟩:=hp;have hnb:¬iP name:=y7 hnm;have hq:=N9 hcb.b hso;by_cases k4:f.kind=4
 ·obtain⟨q,hq0,s0,hcq⟩:=xu hcb (.inl k4);have hqk:q.kind=8∨q.kind=9:=by rw[s0]at hq;omega
  obtain⟨a,ha,t0,hca⟩:=xu hcq ae;have hz:=qz hq0;have hz2:=qz ha;have hfs:=hcb.b.s;have e:lZ f name=ngg (lx q name):=by unfold lZ bY;rw[s0];rcases hqk with j|j<;>(rw[k4,j];rfl)
  have hip:D7 q name:=⟨⟨a,ha,hca⟩,hnb⟩;have eb:lx q name=eC a [⟨q.name,name⟩]:=by unfold lx dv;rw[ha];rfl
  have hcb2:clB (lx q name):=by rw[eb];exact hca.inst hnb
  obtain⟨B,hB⟩:∃B,lx q name=B:=⟨_,rfl⟩;rw[hB]at e hcb2;obtain⟨R,hR⟩:∃R,ngg B=R:=⟨_,rfl⟩;rw[e,hR];refine rv (N:=18) hm hO5 31000 qWi Bk Tryz.func31 rfl ?_
  repeat'(first|apply rx hip|apply rx hcb2|apply au|refine rq ?_|simp only[go_sem,k4,hq0,hB,hR,bn,bt,Tryz.f31])
 ·have hqk:f.kind=8∨f.kind=9:=ae
  obtain⟨a,ha,t0,hca⟩:=xu hcb ae;have e:lZ f name=lx f name:=by unfold lZ bY;rcases hqk with j|j<;>(rw[j];rfl)
  have hip:D7 f name:=⟨⟨a,ha,hca⟩,hnb⟩;obtain⟨B,hB⟩:∃B,lx f name=B:=⟨_,rfl⟩;rw[e,hB];refine rv (N:=18) hm hO5 31000 qWi Bk Tryz.func31 rfl ?_
  repeat'(first|apply rx hip|apply au|refine rq ?_|simp only[go_sem,k4,hB,bn,bt,Tryz.f31])
def iV (f:Abs.aH):List Abs.aH:=(bY f).2.1
def Ag:Tv:=(.q 0 (.q 1 (.q 2 (.q 3 (.q 4 (.q 5 (.q 6 (.q 7 (.q 8 (.q 9 (.q 10 (.q 11 .leaf))))))))))))
def Fb:Tv:=(.q 0 (.q 1 (.q 2 (.q 3 (.q 4 (.q 5 (.q 6 (.q 7 (.q 8 (.q 9 (.q 10 (.q 11 .leaf))))))))))))
def Fc:Tv:=(.q 0 (.q 1 (.q 2 (.q 3 (.q 4 (.q 5 (.q 6 (.q 7 (.q 8 (.q 9 (.q 10 (.q 11 .leaf))))))))))))
def zP:Tv:=(.q 0 (.q 1 (.q 2 (.q 3 (.q 4 (.q 5 (.q 6 (.q 7 (.q 8 (.q 9 (.q 10 (.q 11 .leaf))))))))))))
theorem cnS {a:Abs.aH}(h:clB a):a.fit=true∧a.size≤1000:=⟨h.b.ft,by have:=h.b.s;omega⟩
def O7:Tbl:=O6.add 27 (sp1 iV fun f=>clB f∧(eT f=1∨eT f=2))
attribute [go_sem] O7
set_option maxHeartbeats 8000000 in
theorem hO7:b9 Tryz.prog GA O7:=by
 refine iD r9 hO6 fun f hp _=>?_;obtain⟨hcb,hso⟩:=hp;have hkb:=fU.1 hcb.b.v;have hk1:=hkb.1;have hk2:=hkb.2.1;clear hkb;by_cases k5:f.kind=5
 ·obtain⟨a,b,hab,s0,s1,ha,hb⟩:=vF hcb ae;have pa:=cnS ha;have pb:=cnS hb;have ea:li a []=eC a []:=oO ha.c;have eb:li b []=eC b []:=oO hb.c;obtain⟨A,hA⟩:∃A,eC a []=A:=⟨_,rfl⟩;obtain⟨B,hB⟩:∃B,eC b []=B:=⟨_,rfl⟩;have e:iV f=[A,B]:=by unfold iV bY;rw[s0,s1,k5,←hA,←hB];rfl
  rw[e];clear e s0 s1;refine rv (N:=75) hm hO6 27000 qWw r9 Tryz.func27 rfl ?_
  repeat'(first|apply rx pa|apply rx pb|apply rx ha|refine ru (id:=2) hm hO6 27000 qWw Ag ?_|apply au|refine rq ?_|simp only[go_sem,k5,hab,ea,eb,hA,hB,Ag,bh,bt,Tryz.f27])
 by_cases k6:f.kind=6
 ·obtain⟨a,b,hab,s0,s1,ha,hb⟩:=vF hcb ae;have pa:=cnS ha;have pb:=cnS hb;have ea:li a []=eC a []:=oO ha.c;have eb:li b []=eC b []:=oO hb.c;obtain⟨A,hA⟩:∃A,eC a []=A:=⟨_,rfl⟩;obtain⟨B,hB⟩:∃B,eC b []=B:=⟨_,rfl⟩;have e:iV f=[A,B]:=by unfold iV bY;rw[s0,s1,k6,←hA,←hB];rfl
  rw[e];clear e s0 s1;refine rv (N:=75) hm hO6 27000 qWw r9 Tryz.func27 rfl ?_
  repeat'(first|apply rx pa|apply rx pb|apply rx ha|refine ru (id:=2) hm hO6 27000 qWw Ag ?_|apply au|refine rq ?_|simp only[go_sem,k6,hab,ea,eb,hA,hB,Ag,bh,bt,Tryz.f27])
 by_cases k7:f.kind=7
 ·obtain⟨a,b,hab,s0,s1,ha,hb⟩:=vF hcb ae;have pa:=cnS ha;have pb:=cnS hb;have ea:li a []=eC a []:=oO ha.c;have eb:li b []=eC b []:=oO hb.c;obtain⟨A,hA⟩:∃A,ngg a=A:=⟨_,rfl⟩;obtain⟨B,hB⟩:∃B,eC b []=B:=⟨_,rfl⟩;have e:iV f=[A,B]:=by unfold iV bY;rw[s0,s1,k7,←hA,←hB];rfl
  rw[e];clear e s0 s1;refine rv (N:=75) hm hO6 27000 qWw r9 Tryz.func27 rfl ?_
  repeat'(first|apply rx pa|apply rx pb|apply rx ha|refine ru (id:=4) hm hO6 27000 qWw Fb ?_|apply au|refine rq ?_|simp only[go_sem,k7,hab,ea,eb,hA,hB,Fb,bh,bt,Tryz.f27])
 by_cases k4:f.kind=4;rotate_left
 ·exfalso;unfold eT bY at hso;simp only[k4,k5,k6,k7,cd]at hso;split at hso<;>(try split at hso)<;>simp at hso
 obtain⟨g,hg,s0,hcg⟩:=xu hcb (.inl k4);have hgk:=fU.1 hcg.b.v;have hg1:=hgk.1;have hg2:=hgk.2.1;clear hgk;by_cases j4:g.kind=4
 ·obtain⟨a,ha0,t0,ha⟩:=xu hcg (.inl j4);have pa:=cnS ha;have ea:li a []=eC a []:=oO ha.c;obtain⟨A,hA⟩:∃A,eC a []=A:=⟨_,rfl⟩;have e:iV f=[A]:=by unfold iV bY;rw[s0,t0,k4,j4,←hA];rfl
  rw[e];clear e s0 t0;refine rv (N:=75) hm hO6 27000 qWw r9 Tryz.func27 rfl ?_
  repeat'(first|apply rx pa|apply au|refine rq ?_|simp only[go_sem,k4,hg,j4,ha0,ea,hA,bh,bt,Tryz.f27])
 by_cases j7:g.kind=7
 ·obtain⟨a,b,hab,t0,t1,ha,hb⟩:=vF hcg ae;have pa:=cnS ha;have ea:li a []=eC a []:=oO ha.c;obtain⟨A,hA⟩:∃A,eC a []=A:=⟨_,rfl⟩;obtain⟨B,hB⟩:∃B,ngg b=B:=⟨_,rfl⟩;have e:iV f=[A,B]:=by unfold iV bY;rw[s0,t0,t1,k4,j7,←hA,←hB];rfl
  rw[e];clear e s0 t0 t1;refine rv (N:=75) hm hO6 27000 qWw r9 Tryz.func27 rfl ?_
  repeat'(first|apply rx pa|apply rx ha|apply rx hb|refine ru (id:=9) hm hO6 27000 qWw Fc ?_|apply au|refine rq ?_|simp only[go_sem,k4,hg,j7,hab,ea,hA,hB,Fc,bh,bt,Tryz.f27])
 by_cases j5:g.kind=5
 ·obtain⟨a,b,hab,t0,t1,ha,hb⟩:=vF hcg ae;have pa:=cnS ha;have ea:li a []=eC a []:=oO ha.c;obtain⟨A,hA⟩:∃A,ngg a=A:=⟨_,rfl⟩;obtain⟨B,hB⟩:∃B,ngg b=B:=⟨_,rfl⟩;have e:iV f=[A,B]:=by unfold iV bY;rw[s0,t0,t1,k4,j5,←hA,←hB];rfl
  rw[e];clear e s0 t0 t1;refine rv (N:=75) hm hO6 27000 qWw r9 Tryz.func27 rfl ?_
  repeat'(first|apply rx pa|apply rx ha|apply rx hb|refine ru (id:=10) hm hO6 27000 qWw zP ?_|apply au|refine rq ?_|simp only[go_sem,k4,hg,j5,hab,ea,hA,hB,zP,bh,bt,Tryz.f27])
 by_cases j6:g.kind=6
 ·obtain⟨a,b,hab,t0,t1,ha,hb⟩:=vF hcg ae;have pa:=cnS ha;have ea:li a []=eC a []:=oO ha.c;obtain⟨A,hA⟩:∃A,ngg a=A:=⟨_,rfl⟩;obtain⟨B,hB⟩:∃B,ngg b=B:=⟨_,rfl⟩;have e:iV f=[A,B]:=by unfold iV bY;rw[s0,t0,t1,k4,j6,←hA,←hB];rfl
  rw[e];clear e s0 t0 t1;refine rv (N:=75) hm hO6 27000 qWw r9 Tryz.func27 rfl ?_
  repeat'(first|apply rx pa|apply rx ha|apply rx hb|refine ru (id:=10) hm hO6 27000 qWw zP ?_|apply au|refine rq ?_|simp only[go_sem,k4,hg,j6,hab,ea,hA,hB,zP,bh,bt,Tryz.f27])
 exfalso;unfold eT bY at hso;rw[s0,k4]at hso;simp only[j4,j5,j6,j7,cd,show¬((4:Int)=5) by decide,show¬((4:Int)=6) by decide,show¬((4:Int)=7) by decide,show¬((4:Int)=8) by decide,show¬((4:Int)=9) by decide,cJ]at hso;split at hso<;>(try split at hso)<;>simp at hso
def od (ns:List Str)(cs:List Int)(w:Str)(d:Int):Int:=(List.zip ns cs).foldl (fun acc p=>if p.1=w then p.2 else acc) d
def eqR (ns:List Str)(cs:List Int)(a b:Str):Bool:=if a=b then true else decide (od ns cs a (-1)=od ns cs b (-2))
theorem Co {ns:List Str}{cs:List Int}{w:Str}{d:Int}{i:Nat}(h:i<ns.length)(h2:i<cs.length):od (ns.take (i+1)) (cs.take (i+1)) w d=if ns[i]=w then cs[i]else od (ns.take i) (cs.take i) w d:=by unfold od;rw[aB h,aB h2,List.zip_append (by rw[aX,aX];omega),dq];rfl
def O8:Tbl:=O7.add 25 (sp4 eqR fun ns cs _ _=>ns.length=cs.length∧ns.length≤1000000)
attribute [go_sem] O8
set_option maxHeartbeats 8000000 in
theorem hO8:b9 Tryz.prog GA O8:=by
 refine S7 Bj hO7 fun ns cs a b hp _ _ _ _=>?_;obtain⟨hl,hn⟩:=hp;by_cases hab:a=b
 ·have e:eqR ns cs a b=true:=by unfold eqR;rw[aF hab]
  have hl2:(a.l=b.l)=True:=aU (by rw[hab]);rw[e];refine rv (N:=44) hm hO7 25000 qWi Bj Tryz.func25 rfl ?_
  repeat'(first|apply au|refine rq ?_|simp only[go_sem,hl2,Tryz.f25])
 have e:eqR ns cs a b=decide (od ns cs a (-1)=od ns cs b (-2)):=by unfold eqR;rw[az hab]
 have hl2:(a.l=b.l)=False:=aP fun h=>hab (show(⟨a.l⟩:Str)=⟨b.l⟩ by rw[h]);rw[e];refine rv (N:=44) hm hO7 25000 qWi Bj Tryz.func25 rfl ?_
 repeat'(first|apply au|refine rq ?_|simp only[go_sem,hl2,Tryz.f25])
 refine cI hm hO7 25000 qWi (ι:=eO ns.length fun _=>True)
  ⟨fun q=>⟨frL [(0,eS ns),(1,eS cs),(2,.fz (.s a.l)),(3,.fz (.s b.l)),(9,eI (od (ns.take q.i) (cs.take q.i) a (-1))),(10,eI (od (ns.take q.i) (cs.take q.i) b (-2))),(16,eI ns.length),(17,eI q.i)],hpL [],0⟩,fun q=>ns.length-q.i⟩
  ⟨0,ae,trivial⟩ ah ?_ ?_
 ·refine bF ?_ ?_ ?_<;>simp only[go_sem,od]
  all_goals first|rfl|exact⟨rfl,rfl⟩|omega
 rintro⟨i,hi,_⟩
 try simp only at hi
 rcases aA i ns.length with h1|h1
 ·have h2:i<cs.length:=ae
  have va:=Co (w:=a) (d:= -1) h1 h2;have vb:=Co (w:=b) (d:= -2) h1 h2;obtain⟨x,hx⟩:∃x,ns[i]=x:=⟨_,rfl⟩;obtain⟨v,hv⟩:∃v,cs[i]=v:=⟨_,rfl⟩;rw[hx,hv]at va vb;obtain⟨X,hX⟩:∃X,od (ns.take i) (cs.take i) a (-1)=X:=⟨_,rfl⟩;obtain⟨Z,hZ⟩:∃X,od (ns.take i) (cs.take i) b (-2)=X:=⟨_,rfl⟩;rw[hX]at va;rw[hZ]at vb;by_cases ca:x=a
  ·have cal:(x.l=a.l)=True:=aU (by rw[ca]);rw[aF ca]at va;have cb:¬x=b:=fun h=>hab (ca.symm.trans h);have cbl:(x.l=b.l)=False:=aP fun h=>cb (show(⟨x.l⟩:Str)=⟨b.l⟩ by rw[h]);rw[az cb]at vb
   repeat'(first|apply au|refine rq ?_|simp only[go_sem,h1,h2,hx,hv,hX,hZ,cal,cbl,bh,Tryz.f25])
   refine⟨⟨i+1,ae,trivial⟩,af,?_⟩;refine bF ?_ ?_ ?_<;>simp only[go_sem,va,vb]
   all_goals first|rfl|omega
  ·have cal:(x.l=a.l)=False:=aP fun h=>ca (show(⟨x.l⟩:Str)=⟨a.l⟩ by rw[h]);rw[az ca]at va;by_cases cb:x=b
   ·have cbl:(x.l=b.l)=True:=aU (by rw[cb]);rw[aF cb]at vb
    repeat'(first|apply au|refine rq ?_|simp only[go_sem,h1,h2,hx,hv,hX,hZ,cal,cbl,bh,Tryz.f25])
    refine⟨⟨i+1,ae,trivial⟩,af,?_⟩;refine bF ?_ ?_ ?_<;>simp only[go_sem,va,vb]
    all_goals first|rfl|omega
   ·have cbl:(x.l=b.l)=False:=aP fun h=>cb (show(⟨x.l⟩:Str)=⟨b.l⟩ by rw[h]);rw[az cb]at vb
    repeat'(first|apply au|refine rq ?_|simp only[go_sem,h1,h2,hx,hv,hX,hZ,cal,cbl,bh,Tryz.f25])
    refine⟨⟨i+1,ae,trivial⟩,af,?_⟩;refine bF ?_ ?_ ?_<;>simp only[go_sem,va,vb]
    all_goals first|rfl|omega
 obtain rfl:i=ns.length:=ae
 have ec:cs.take ns.length=cs:=by rw[hl,aJ]
 repeat'(first|apply au|refine rq ?_|simp only[go_sem,aC,aJ,ec,Tryz.f25])
 all_goals trace_state
def e8 (ns:List Str)(w:Str):Int:=ns.zipIdx.foldl (fun acc p=>if p.1=w then(p.2:Int)else acc) (-1)
theorem y3 {ns:List Str}{w:Str}{i:Nat}(h:i<ns.length):e8 (ns.take (i+1)) w=if ns[i]=w then(i:Int)else e8 (ns.take i) w:=by unfold e8;rw[aB h,List.zipIdx_append,dq,aX,eU ae];simp
theorem vi (ns:List Str)(w:Str): -1≤e8 ns w∧e8 ns w<ns.length:=by
 have key:∀i,i≤ns.length→ -1≤e8 (ns.take i) w∧e8 (ns.take i) w<i:=by
  intro i;induction i with
  |zero=>intro _;simp[e8]
  |succ i ih=>intro h;rw[y3 ae];have:=ih ae;split<;>omega
 have:=key ns.length (aI _);rwa [aJ]at this
def pwD (p:List Str×List Int)(w:Str):List Str×List Int:=if e8 p.1 w<0 then(p.1++[w],p.2++[(p.1.length:Int)])else p
def pxD (ns:List Str)(w:Str):Int:=if e8 ns w<0 then(ns.length:Int)else e8 ns w
def oI (old now:Int)(c:Int):Int:=if c=old then now else c
def mrg (p:List Str×List Int)(x y:Int):List Str×List Int:=(p.1,p.2.map (oI (p.2.getD x.toNat 0) (p.2.getD y.toNat 0)))
def cl2 (p:List Str×List Int)(a b:Str):List Str×List Int:=mrg (pwD (pwD p a) b) (pxD p.1 a) (pxD (pwD p a).1 b)
def cl1 (p:List Str×List Int)(f:Abs.aH):List Str×List Int:=if f.kind=3 then cl2 p (f.words.getD 0 ⟨[]⟩) (f.words.getD 1 ⟨[]⟩)else p
def clD (l:List Abs.aH):List Str×List Int:=l.foldl cl1 ([],[])
theorem zT {p:List Str×List Int}{w:Str}(h:p.1.length=p.2.length):(pwD p w).1.length=(pwD p w).2.length∧(pwD p w).1.length≤p.1.length+1:=by unfold pwD;split<;>simp[h]
theorem Ev {p:List Str×List Int}{w:Str}:0≤pxD p.1 w∧pxD p.1 w<(pwD p w).1.length:=by
 unfold pxD pwD;have:=vi p.1 w;split
 ·simp;omega
 ·omega
theorem P8 {p:List Str×List Int}{w:Str}:p.1.length≤(pwD p w).1.length:=by unfold pwD;split<;>simp
theorem QV {p:List Str×List Int}{f:Abs.aH}(h:p.1.length=p.2.length):(cl1 p f).1.length=(cl1 p f).2.length∧(cl1 p f).1.length≤p.1.length+2:=by
 unfold cl1;split
 ·unfold cl2 mrg;have h1:=zT (w:=f.words.getD 0 ⟨[]⟩) h;have h2:=zT (w:=f.words.getD 1 ⟨[]⟩) h1.1;simp only[aG];omega
 ·omega
theorem LO {l:List Abs.aH}{i:Nat}(h:i<l.length):clD (l.take (i+1))=cl1 (clD (l.take i)) l[i]:=by unfold clD;rw[aB h,dq];rfl
theorem Dn (l:List Abs.aH):∀i,i≤l.length→(clD (l.take i)).1.length=(clD (l.take i)).2.length∧(clD (l.take i)).1.length≤2*i:=by
 intro i;induction i with
 |zero=>intro _;simp[clD]
 |succ i ih=>intro h;rw[LO ae];have h1:=ih ae;have:=QV (f:=l[i]) h1.1;omega
def na (p:List Str×List Int)(a b:Str):Nat→(List Str×List Int)×Int×Int
 |0=>(p,0,0)
 |1=>(pwD p a,pxD p.1 a,0)
 |_=>(pwD (pwD p a) b,pxD p.1 a,pxD (pwD p a).1 b)
def reD (cs:List Int)(old now:Int)(j:Nat):List Int:=(cs.take j).map (oI old now)++cs.drop j
theorem DC {cs:List Int}{old now:Int}{j:Nat}:(reD cs old now j).length=cs.length:=by unfold reD;simp;omega
theorem RD {cs:List Int}{old now:Int}{j:Nat}(h:j<cs.length):(reD cs old now j).getD j 0=cs.getD j 0:=by unfold reD;rw[av,ce ao];simp[eU (mM h)]
theorem Qc {cs:List Int}{old now:Int}{j:Nat}(h:j<cs.length):reD cs old now (j+1)=(reD cs old now j).set j (oI old now cs[j]):=by
 unfold reD
 rw[aB h,aE,gl _ _ ao,aG,aX,eU (mM h),cM,
  aR h,bS,bu]
 rfl
theorem Qb {cs:List Int}{old now:Int}{j:Nat}(h:j<cs.length)(he:cs[j]≠old):reD cs old now (j+1)=reD cs old now j:=by unfold reD;rw[aB h,aE,bu,aR h];simp[oI,he]
theorem Qd {cs:List Int}{old now:Int}:reD cs old now 0=cs:=by simp[reD]
theorem Oo {cs:List Int}{old now:Int}:reD cs old now cs.length=cs.map (oI old now):=by simp[reD]
structure EJ (n n0:Nat) where
 i:Nat
 g:Nat
 h:Nat
 m:Nat
 hi:i≤n
 hg:g<m
 hh:h<m
 hm:n0≤m
theorem pW:Tryz.prog.underlying 98=some (.array 2 3):=ah
@[go_sem] theorem zQv:cN Tryz.prog 98=some ⟨2,16,[.fz (.i .i64 0),.fz (.i .i64 0)],.other,true,false,[]⟩:=ah
def O9:Tbl:=O8.add 22 (wq clD fun l=>(∀f∈l,brF f)∧l.length≤100000)
attribute [go_sem] O9
def En:Tv:=(.q 0 (.q 1 (.q 2 (.q 3 (.q 4 (.q 5 (.q 6 (.q 7 (.q 8 (.q 9 (.q 10 (.q 11 .leaf))))))))))))
theorem PC {fn:FuncId}{args:List D}{ns:List Str}{cs:List Int}(h:cS Tryz.prog GA fn args (hpL []) 0 (fun d H n'=>∃i1 i2:Abs.Id,i1.2<n'∧i2.2<n'∧d= .tup [.ow i1 1 (ns.map enc),.arr i2 1 0 cs.length]∧H i2=some ⟨bA (cs.map enc),false,cs.isEmpty⟩)):
  cS Tryz.prog GA fn args (hpL []) 0 (fun d _ _=>D.val d=some (.tup [.fz (enc ns),.fz (enc cs)])):=by
 refine lj h ?_;rintro d H n' ⟨i1,i2,hid1,hid2,rfl,hH⟩;refine⟨.tup [.fz (.sl (ns.map enc)),.fz (.sl (cs.map enc))],hpL [],n',?_,rfl⟩;refine eX [] [] [(i2,cs.map enc)] ?_ ?_ ?_ ?_ ?_<;>(try simp only[go_sem,hH])
 all_goals first|omega|(intro h;rw[cK]at h;rw[h];rfl)|(refine⟨rfl,?_⟩;intro h;rw[cK]at h;rw[h];rfl)
set_option maxRecDepth 100000 in
set_option maxHeartbeats 1000000 in
set_option maxHeartbeats 8000000 in
theorem hO9:b9 Tryz.prog GA O9:=by
 refine N' GU hO8 fun l hp _=>?_;obtain⟨hbr,hsl⟩:=hp;have kb:=Kp.mk hbr;clear hbr;refine PC ?_;refine rv (N:=105) hm hO8 22000 qWq GU Tryz.func22 rfl ?_
 repeat'(first|apply au|refine rq ?_|simp only[go_sem,bm,bv,bH,bC,cq,cH,bE,bJ,bS,bM,Tryz.f22])
 refine uV hm hO8 22000 qWq (ι:=EJ l.length 1)
  ⟨fun q=>⟨frL [(0,eS l),(4,.ow (22070,q.g) 1 ((clD (l.take q.i)).1.map enc)),(5,.arr (22075,q.h) 1 0 (clD (l.take q.i)).2.length),(13,eS l),(14,eI l.length),(15,eI q.i)],
   hpL [((22070,q.g),some tok),((22075,q.h),some ⟨bA ((clD (l.take q.i)).2.map enc),false,(clD (l.take q.i)).2.isEmpty⟩)],q.m⟩,fun q=>l.length-q.i⟩
  ⟨0,0,0,1,ae,ae,ae,ae⟩ ah ?_ ?_
 ·refine eX [] [(22070,0),(22075,0)] [] ?_ ?_ ?_ ?_ ?_<;>simp only[go_sem,clD,bv,dV,bj,aQ,List.isEmpty_nil,Pq]
  all_goals first|rfl|omega
 rintro⟨i,g,h,m,hi,hg,hh,hm1⟩
 try simp only at hi hg hh hm1
 obtain⟨hcl,hcb⟩:=Dn l i hi;rcases aA i l.length with h1|h1;rotate_left
 ·obtain rfl:i=l.length:=ae
  repeat'(first|apply au|refine rq ?_|simp only[go_sem,aC,aJ,bm,bv,bH,bC,cq,cH,bE,bJ,bS,bM,Tryz.f22])
  all_goals first|exact⟨(22070,g),(22075,h),hg,hh,rfl,aj⟩
 obtain⟨x,hx⟩:∃x,l[i]=x:=⟨_,rfl⟩;have hxb:brF x:=kb.out x qQe;have et:clD (l.take (i+1))=cl1 (clD (l.take i)) x:=by rw[LO h1,hx]
 obtain⟨p,hp⟩:∃p,clD (l.take i)=p:=⟨_,rfl⟩;rw[hp]at et hcl hcb;by_cases hk:x.kind=3;rotate_left
 ·have el:cl1 p x=p:=by unfold cl1;rw[az hk]
  rw[el]at et
  repeat'(first|apply au|refine rq ?_|simp only[go_sem,h1,hx,hp,hk,bh,bn,bt,bm,bv,bH,bC,cq,cH,bE,bJ,bS,bM,Tryz.f22])
  all_goals refine⟨⟨i+1,g,h,m,ae,ae,ae,ae⟩,af,?_⟩
  all_goals refine bF ?_ ?_ ?_<;>simp only[go_sem,et]
  all_goals first|rfl|omega
 obtain⟨a,b,hab⟩:∃a b,x.words=[a,b]:=by
  have h2:=(fU.1 hxb.v).2.2.2.1 hk
  match h:x.words,h2 with
  |[a,b],_=>exact⟨a,b,rfl⟩
 have el:cl1 p x=cl2 p a b:=by unfold cl1;rw[aF hk,hab];rfl
 rw[el]at et;clear el hxb
 repeat'(first|apply au|refine rq ?_|simp only[go_sem,h1,hx,hp,hk,bh,bn,bt,bm,bv,bH,bC,cq,cH,bE,bJ,bS,bM,Tryz.f22])
 refine uV hm hO8 22000 qWq (ι:=EJ 2 (m+1))
  ⟨fun q=>⟨frL [(0,eS l),(4,.ow (22070,q.g) 1 ((na p a b q.i).1.1.map enc)),(5,.arr (22075,q.h) 1 0 (na p a b q.i).1.2.length),(6,eI i),(7,.ptr (22007,m) 0),(8,eI q.i),(13,eS l),(14,eI l.length),(15,eI i)],
   hpL [((22070,q.g),some tok),((22075,q.h),some ⟨bA ((na p a b q.i).1.2.map enc),false,(na p a b q.i).1.2.isEmpty⟩),((22007,m),some ⟨[.fz (.i .i64 (na p a b q.i).2.1),.fz (.i .i64 (na p a b q.i).2.2)],true,false⟩)],q.m⟩,fun q=>2-q.i⟩
  ⟨0,g,h,m+1,ae,ae,ae,ae⟩ ah ?_ ?_
 ·refine bF ?_ ?_ ?_<;>simp only[go_sem,na,hp]
  all_goals first|rfl|omega
 rintro⟨k,g1,g2,m1,hk2,hg1,hg2,hm2⟩
 try simp only at hk2 hg1 hg2 hm2
 have hpl:=zT (w:=a) hcl;have hpl2:=zT (w:=b) hpl.1;have hpx:=Ev (p:=p) (w:=a);have hpx2:=Ev (p:=pwD p a) (w:=b);have hpm:=P8 (p:=pwD p a) (w:=b);by_cases hk0:k=0
 ·subst hk0;obtain⟨ns,hns⟩:∃n,p.1=n:=⟨_,rfl⟩;obtain⟨cs,hcs⟩:∃n,p.2=n:=⟨_,rfl⟩;have hlen:ns.length=cs.length:=by rw[←hns,←hcs];exact hcl
  have hlb:ns.length≤300000:=by rw[←hns];omega
  have hix:=vi ns a
  repeat'(first|refine oP.i (n:=0) (kk:= .i64) pW ti3 rfl ai rfl rfl ai ?_|refine pc (rid:=11) hO8 22000 qWq 1 rfl rfl rfl rfl ?_|apply au|refine rq ?_|simp only[go_sem,h1,hx,hk,hab,na,hns,hcs,bh,bn,bt,bm,bv,bH,bC,cq,cH,bE,bJ,bS,bM,Tryz.f22])
  refine uV hm hO8 22000 qWq (ι:=eO ns.length fun _=>True)
   ⟨fun q=>⟨frL [(0,eS l),(4,.ow (22070,g1) 1 (ns.map enc)),(5,.arr (22075,g2) 1 0 cs.length),(6,eI i),(7,.ptr (22007,m) 0),(8,eI 0),(13,eS l),(14,eI l.length),(15,eI i),(31,eI ns.length),(32,eI q.i)],
    hpL [((22070,g1),some tok),((22075,g2),some ⟨bA (cs.map enc),false,cs.isEmpty⟩),((22007,m),some ⟨[eI (e8 (ns.take q.i) a),eI 0],true,false⟩)],m1⟩,fun q=>ns.length-q.i⟩
   ⟨0,ae,trivial⟩ ah ?_ ?_
  ·refine bF ?_ ?_ ?_<;>simp only[go_sem,na,hns,hcs,e8,bv,List.zipIdx_nil,dV]
   all_goals first|rfl|omega
  rintro⟨j,hj,_⟩
  try simp only at hj
  rcases aA j ns.length with h2|h2
  ·have vt:=y3 (w:=a) h2;obtain⟨y,hy⟩:∃y,ns[j]=y:=⟨_,rfl⟩;rw[hy]at vt;by_cases cy:y=a
   ·have cyl:(y.l=a.l)=True:=aU (by rw[cy]);rw[aF cy]at vt
    repeat'(first|refine oP.i (n:=0) (kk:= .i64) pW ti3 rfl ai rfl rfl ai ?_|refine pc (rid:=16) hO8 22000 qWq 2 rfl rfl rfl rfl ?_|apply au|refine rq ?_|simp only[go_sem,h1,h2,hx,hy,hk,hab,cyl,bh,bn,bt,bm,bv,bH,bC,cq,cH,bE,bJ,bS,bM,Tryz.f22])
    all_goals refine⟨⟨j+1,ae,trivial⟩,af,?_⟩
    all_goals refine bF ?_ ?_ ?_<;>simp only[go_sem,vt]
    all_goals first|rfl|omega
   ·have cyl:(y.l=a.l)=False:=aP fun h=>cy (show(⟨y.l⟩:Str)=⟨a.l⟩ by rw[h]);rw[az cy]at vt
    repeat'(first|refine oP.i (n:=0) (kk:= .i64) pW ti3 rfl ai rfl rfl ai ?_|refine pc (rid:=16) hO8 22000 qWq 2 rfl rfl rfl rfl ?_|apply au|refine rq ?_|simp only[go_sem,h1,h2,hx,hy,hk,hab,cyl,bh,bn,bt,bm,bv,bH,bC,cq,cH,bE,bJ,bS,bM,Tryz.f22])
    all_goals refine⟨⟨j+1,ae,trivial⟩,af,?_⟩
    all_goals refine bF ?_ ?_ ?_<;>simp only[go_sem,vt]
    all_goals first|rfl|omega
  obtain rfl:j=ns.length:=ae
  obtain⟨v,hv⟩:∃v,e8 ns a=v:=⟨_,rfl⟩;rw[hv]at hix;by_cases hneg:v<0
  ·have e1:pwD p a=(ns++[a],cs++[(ns.length:Int)]):=by unfold pwD;rw[hns,hcs,hv,aF hneg]
   have e2:pxD ns a=ns.length:=by unfold pxD;rw[hv,aF hneg]
   have hfl:bA (cs.map enc)++[D.fz (FD.i IntKind.i64 ns.length)]=bA (cs.map enc++[FD.i IntKind.i64 ns.length]):=by simp[bA,FD.cells]
   repeat'(first|refine oP.i (n:=0) (kk:= .i64) pW ti3 rfl ai rfl rfl ai ?_|refine pc (rid:=18) hO8 22000 qWq 1 rfl rfl rfl rfl ?_|refine pc (rid:=19) hO8 22000 qWq 3 rfl rfl rfl rfl ?_|refine rx qQa ?_|apply au|refine rq ?_|simp only[go_sem,aC,aJ,hv,hneg,h1,hx,hk,hab,bh,bn,bt,J1,bm,bv,bH,bC,cq,cH,bE,bJ,bS,bM,Tryz.f22])
   all_goals refine⟨⟨1,m1,m1+1,m1+2,ae,ae,ae,ae⟩,af,?_⟩
   all_goals refine bF ?_ ?_ ?_<;>simp only[go_sem,na,hns,e1,e2,aE,aD,aN,bj,hfl]
   all_goals first|rfl|omega
  ·have e1:pwD p a=(ns,cs):=by unfold pwD;rw[hns,hv,az hneg];rw[←hns,←hcs]
   have e2:pxD ns a=v:=by unfold pxD;rw[hv,az hneg]
   repeat'(first|refine oP.i (n:=0) (kk:= .i64) pW ti3 rfl ai rfl rfl ai ?_|refine pc (rid:=18) hO8 22000 qWq 1 rfl rfl rfl rfl ?_|apply au|refine rq ?_|simp only[go_sem,aC,aJ,hv,hneg,h1,hx,hk,hab,bh,bn,bt,bm,bv,bH,bC,cq,cH,bE,bJ,bS,bM,Tryz.f22])
   all_goals refine⟨⟨1,g1,g2,m1,ae,ae,ae,ae⟩,af,?_⟩
   all_goals refine bF ?_ ?_ ?_<;>simp only[go_sem,na,hns,e1,e2]
   all_goals first|rfl|omega
 by_cases hk1:k=1
 ·subst hk1;obtain⟨X1,hX1⟩:∃X,pxD p.1 a=X:=⟨_,rfl⟩;obtain⟨P1,hP1⟩:∃P,pwD p a=P:=⟨_,rfl⟩;rw[hP1]at hpl hpl2 hpx2 hpm;obtain⟨ns,hns⟩:∃n,P1.1=n:=⟨_,rfl⟩;obtain⟨cs,hcs⟩:∃n,P1.2=n:=⟨_,rfl⟩;have hlen:ns.length=cs.length:=by rw[←hns,←hcs];exact hpl.1
  have hlb:ns.length≤300000:=by rw[←hns];omega
  have hix:=vi ns b
  repeat'(first|refine oP.i (n:=1) (kk:= .i64) pW ti3 rfl ai rfl rfl ai ?_|refine pc (rid:=11) hO8 22000 qWq 1 rfl rfl rfl rfl ?_|apply au|refine rq ?_|simp only[go_sem,h1,hx,hk,hab,na,hX1,hP1,hns,hcs,bh,bn,bt,bm,bv,bH,bC,cq,cH,bE,bJ,bS,bM,Tryz.f22])
  refine uV hm hO8 22000 qWq (ι:=eO ns.length fun _=>True)
   ⟨fun q=>⟨frL [(0,eS l),(4,.ow (22070,g1) 1 (ns.map enc)),(5,.arr (22075,g2) 1 0 cs.length),(6,eI i),(7,.ptr (22007,m) 0),(8,eI 1),(13,eS l),(14,eI l.length),(15,eI i),(31,eI ns.length),(32,eI q.i)],
    hpL [((22070,g1),some tok),((22075,g2),some ⟨bA (cs.map enc),false,cs.isEmpty⟩),((22007,m),some ⟨[eI X1,eI (e8 (ns.take q.i) b)],true,false⟩)],m1⟩,fun q=>ns.length-q.i⟩
   ⟨0,ae,trivial⟩ ah ?_ ?_
  ·refine bF ?_ ?_ ?_<;>simp only[go_sem,na,hX1,hP1,hns,hcs,e8,bv,List.zipIdx_nil,dV]
   all_goals first|rfl|omega
  rintro⟨j,hj,_⟩
  try simp only at hj
  rcases aA j ns.length with h2|h2
  ·have vt:=y3 (w:=b) h2;obtain⟨y,hy⟩:∃y,ns[j]=y:=⟨_,rfl⟩;rw[hy]at vt;by_cases cy:y=b
   ·have cyl:(y.l=b.l)=True:=aU (by rw[cy]);rw[aF cy]at vt
    repeat'(first|refine oP.i (n:=1) (kk:= .i64) pW ti3 rfl ai rfl rfl ai ?_|refine pc (rid:=16) hO8 22000 qWq 2 rfl rfl rfl rfl ?_|apply au|refine rq ?_|simp only[go_sem,h1,h2,hx,hy,hk,hab,cyl,bh,bn,bt,bm,bv,bH,bC,cq,cH,bE,bJ,bS,bM,Tryz.f22])
    all_goals refine⟨⟨j+1,ae,trivial⟩,af,?_⟩
    all_goals refine bF ?_ ?_ ?_<;>simp only[go_sem,vt]
    all_goals first|rfl|omega
   ·have cyl:(y.l=b.l)=False:=aP fun h=>cy (show(⟨y.l⟩:Str)=⟨b.l⟩ by rw[h]);rw[az cy]at vt
    repeat'(first|refine oP.i (n:=1) (kk:= .i64) pW ti3 rfl ai rfl rfl ai ?_|refine pc (rid:=16) hO8 22000 qWq 2 rfl rfl rfl rfl ?_|apply au|refine rq ?_|simp only[go_sem,h1,h2,hx,hy,hk,hab,cyl,bh,bn,bt,bm,bv,bH,bC,cq,cH,bE,bJ,bS,bM,Tryz.f22])
    all_goals refine⟨⟨j+1,ae,trivial⟩,af,?_⟩
    all_goals refine bF ?_ ?_ ?_<;>simp only[go_sem,vt]
    all_goals first|rfl|omega
  obtain rfl:j=ns.length:=ae
  obtain⟨v,hv⟩:∃v,e8 ns b=v:=⟨_,rfl⟩;rw[hv]at hix;by_cases hneg:v<0
  ·have e1:pwD P1 b=(ns++[b],cs++[(ns.length:Int)]):=by unfold pwD;rw[hns,hcs,hv,aF hneg]
   have e2:pxD ns b=ns.length:=by unfold pxD;rw[hv,aF hneg]
   have hfl:bA (cs.map enc)++[D.fz (FD.i IntKind.i64 ns.length)]=bA (cs.map enc++[FD.i IntKind.i64 ns.length]):=by simp[bA,FD.cells]
   repeat'(first|refine oP.i (n:=1) (kk:= .i64) pW ti3 rfl ai rfl rfl ai ?_|refine pc (rid:=18) hO8 22000 qWq 1 rfl rfl rfl rfl ?_|refine pc (rid:=19) hO8 22000 qWq 3 rfl rfl rfl rfl ?_|refine rx qQa ?_|apply au|refine rq ?_|simp only[go_sem,aC,aJ,hv,hneg,h1,hx,hk,hab,bh,bn,bt,J1,bm,bv,bH,bC,cq,cH,bE,bJ,bS,bM,Tryz.f22])
   all_goals refine⟨⟨2,m1,m1+1,m1+2,ae,ae,ae,ae⟩,af,?_⟩
   all_goals refine bF ?_ ?_ ?_<;>simp only[go_sem,na,hX1,hP1,hns,e1,e2,aE,aD,aN,bj,hfl]
   all_goals first|rfl|omega
  ·have e1:pwD P1 b=(ns,cs):=by unfold pwD;rw[hns,hv,az hneg];rw[←hns,←hcs]
   have e2:pxD ns b=v:=by unfold pxD;rw[hv,az hneg]
   repeat'(first|refine oP.i (n:=1) (kk:= .i64) pW ti3 rfl ai rfl rfl ai ?_|refine pc (rid:=18) hO8 22000 qWq 1 rfl rfl rfl rfl ?_|apply au|refine rq ?_|simp only[go_sem,aC,aJ,hv,hneg,h1,hx,hk,hab,bh,bn,bt,bm,bv,bH,bC,cq,cH,bE,bJ,bS,bM,Tryz.f22])
   all_goals refine⟨⟨2,g1,g2,m1,ae,ae,ae,ae⟩,af,?_⟩
   all_goals refine bF ?_ ?_ ?_<;>simp only[go_sem,na,hX1,hP1,hns,e1,e2]
   all_goals first|rfl|omega
 obtain rfl:k=2:=ae
 obtain⟨P2,hP2⟩:∃P,pwD (pwD p a) b=P:=⟨_,rfl⟩;obtain⟨X,hX⟩:∃X,pxD p.1 a=X:=⟨_,rfl⟩;obtain⟨Y,hY⟩:∃X,pxD (pwD p a).1 b=X:=⟨_,rfl⟩;have ec2:cl2 p a b=mrg P2 X Y:=by unfold cl2;rw[hP2,hX,hY]
 rw[ec2]at et;rw[hP2]at hpl2 hpx2 hpm;rw[hX]at hpx;rw[hY]at hpx2;obtain⟨ns,hns⟩:∃n,P2.1=n:=⟨_,rfl⟩;obtain⟨cs,hcs⟩:∃n,P2.2=n:=⟨_,rfl⟩;rw[hns,hcs]at hpl2;rw[hns]at hpx2 hpm;have hXl:X.toNat<cs.length:=ae
 have hYl:Y.toNat<cs.length:=ae
 obtain⟨old,hold⟩:∃v,cs[X.toNat]=v:=⟨_,rfl⟩;obtain⟨now,hnow⟩:∃v,cs[Y.toNat]=v:=⟨_,rfl⟩;have gx:(bA (cs.map enc)).getD X.toNat .junk= .fz (.i .i64 old):=by rw[nM hXl,hold];rfl
 have gy:(bA (cs.map enc)).getD Y.toNat .junk= .fz (.i .i64 now):=by rw[nM hYl,hnow];rfl
 have em:mrg P2 X Y=(ns,cs.map (oI old now)):=by unfold mrg;rw[hns,hcs,av,av,ay hXl,ay hYl,hold,hnow];rfl
 rw[em]at et;have hne:cs.isEmpty=false:=by cases cs with
  |nil=>simp at hXl
  |cons _ _=>rfl
 have hX0:0≤X:=hpx.1;have hY0:0≤Y:=hpx2.1;have hX2:X<cs.length:=ae
 have hY2:Y<cs.length:=ae
 repeat'(first|refine OG (rid:=21) hm hO8 22000 qWq 7 98 36 rfl pW ti3 rfl VA rfl (fun f hf=>by rcases(show f=0∨f=1 by omega)with rfl|rfl<;>exact⟨_,_,rfl,ti3,ai⟩) ah En ah ah ?_|refine rx ⟨hX0,hX2,rfl⟩ ?_|refine rx ⟨hY0,hY2,rfl⟩ ?_|apply au|refine rq ?_|simp only[go_sem,na,hP2,hX,hY,hns,hcs,gx,gy,hne,h1,hx,hk,hab,bh,bn,bt,qJ,List.map_toArray,aM,aQ,En,aC,bm,bv,bH,bC,cq,cH,bE,bJ,bS,bM,Tryz.f22])
 refine uV hm hO8 22000 qWq (ι:=eO cs.length fun _=>True)
  ⟨fun q=>⟨frL [(0,eS l),(4,.ow (22070,g1) 1 (ns.map enc)),(5,.arr (22075,g2) 1 0 cs.length),(10,eI old),(11,eI now),(13,eS l),(14,eI l.length),(15,eI i),(87,eI cs.length),(88,eI q.i)],
   hpL [((22070,g1),some tok),((22075,g2),some ⟨bA ((reD cs old now q.i).map enc),false,false⟩)],m1⟩,fun q=>cs.length-q.i⟩
  ⟨0,ae,trivial⟩ ah ?_ ?_
 ·refine bF ?_ ?_ ?_<;>simp only[go_sem,na,hP2,hns,hcs,hne,Qd]
  all_goals first|rfl|omega
 rintro⟨j,hj,_⟩
 try simp only at hj
 rcases aA j cs.length with h2|h2
 ·obtain⟨z,hz⟩:∃z,cs[j]=z:=⟨_,rfl⟩;have gz:(bA ((reD cs old now j).map enc)).getD j .junk= .fz (.i .i64 z):=by
   have h3:j<(reD cs old now j).length:=by rw[DC];exact h2
   rw[nM h3];have:=RD (cs:=cs) (old:=old) (now:=now) h2;rw[av,ay h3,av,ay h2,bD,bD,hz]at this;rw[this];rfl
  have hjj:((j:Int)).toNat=j:=ae
  have es:=Qc (old:=old) (now:=now) h2;by_cases hzo:z=old
  ·have hst:(bA ((reD cs old now j).map enc)).set j (.fz (.i .i64 now))=bA ((reD cs old now (j+1)).map enc):=by rw[es,hz,←jI];unfold oI;rw[aF hzo];rfl
   repeat'(first|apply au|refine rq ?_|simp only[go_sem,h1,h2,hjj,hzo,gz,DC,bh,bm,bv,bH,bC,cq,cH,bE,bJ,bS,bM,Tryz.f22])
   all_goals refine⟨⟨j+1,ae,trivial⟩,af,?_⟩
   all_goals refine bF ?_ ?_ ?_<;>simp only[go_sem,hst]
   all_goals first|rfl|omega
  ·have hst:=Qb (now:=now) h2 (by rw[hz];exact hzo)
   repeat'(first|apply au|refine rq ?_|simp only[go_sem,h1,h2,hjj,hzo,gz,DC,bh,bm,bv,bH,bC,cq,cH,bE,bJ,bS,bM,Tryz.f22])
   all_goals refine⟨⟨j+1,ae,trivial⟩,af,?_⟩
   all_goals refine bF ?_ ?_ ?_<;>simp only[go_sem,hst]
   all_goals first|rfl|omega
 obtain rfl:j=cs.length:=ae
 have hme:(cs.map (oI old now)).isEmpty=false:=by rw[List.isEmpty_map];exact hne
 repeat'(first|apply au|refine rq ?_|simp only[go_sem,aC,Oo,bm,bv,bH,bC,cq,cH,bE,bJ,bS,bM,Tryz.f22])
 all_goals refine⟨⟨i+1,g1,g2,m1,ae,ae,ae,ae⟩,af,?_⟩
 all_goals refine bF ?_ ?_ ?_<;>simp only[go_sem,et,hme,Oo,aG]
 all_goals first|rfl|omega
def NV:Tv:=(.q 0 (.q 1 (.q 2 (.q 3 (.q 4 (.q 5 (.q 6 (.q 7 (.q 8 (.q 9 (.q 10 .leaf)))))))))))
def NW:Tv:=(.q 0 (.q 1 (.q 2 (.q 3 (.q 4 (.q 5 (.q 6 (.q 7 (.q 8 (.q 9 (.q 10 .leaf)))))))))))
def vv:Tv:=(.q 0 (.q 1 (.q 2 (.q 3 (.q 4 (.q 5 (.q 6 (.q 7 (.q 8 (.q 9 (.q 10 (.q 11 (.q 12 (.q 13 (.q 14 (.q 15 .leaf))))))))))))))))
def Fa:Tv:=(.q 0 (.q 1 (.q 2 (.q 3 (.q 4 (.q 5 .leaf))))))
def O10:Tbl:=O9.add 45 (sp1 txS txP)
attribute [go_sem] O10
set_option maxHeartbeats 8000000 in
theorem Bc:b9 Tryz.prog GA O10:=by
 refine DG aH.size qh hO9 fun n hT f hn hpre _=>?_;have hkb:=fU.1 hpre.v;have hk1:=hkb.1;have hk2:=hkb.2.1;have hk3:=hkb.2.2.2.1;clear hkb;by_cases k1:f.kind=1
 ·have e:txS f=⟨[116,114,117,101]⟩:=by unfold txS;rw[FG k1]
  rw[e];refine rv (N:=108) hm hT 45000 qWt qh Tryz.func45 rfl ?_
  repeat'(first|apply au|refine rq ?_|refine rx qQd ?_|refine rq ?_|simp only[go_sem,k1,Tryz.f45])
 by_cases k2:f.kind=2
 ·have et:=FH k2;have hl:=hpre.l;have hwl:f.words.length≤1000:=by
   have hf:=hpre.ft;cases f with
   |mk a b c d=>rw[aH.fit]at hf;simp only[aS,bi]at hf;exact hf.1.1
  obtain⟨J,hJ⟩:∃J:Nat→List UInt8,J=fun i=>jn [44] (f.words.take i):=⟨_,rfl⟩;have hJ0:J 0=[]:=by rw[hJ];rfl
  have hJs:∀i (h:i<f.words.length),J (i+1)=if i=0 then f.words[i].l else J i++[44]++f.words[i].l:=fun i h=>by rw[hJ];exact NF h
  have hJl:∀i,(J i).length≤1000000000:=fun i=>by rw[et]at hl;have:=IJ (sep:=[44]) (ws:=f.words) (i:=i);rw[hJ];simp only[aD,aN,bj]at hl ⊢;omega
  have hJe:txS f=⟨f.name.l++[40]++J f.words.length++[41]⟩:=by unfold txS;rw[et,hJ];simp only[aJ]
  have hJn:f.name.l.length+(J f.words.length).length+2≤1000000000:=by rw[et]at hl;rw[hJ];simp only[aD,aN,bj,aJ]at hl ⊢;omega
  rw[hJe];have kT:=Kp.mk hT;have kJ:=Kp.mk hJs;have kL:=Kp.mk hJl;clear hT hJ hJs hJl hJe et hl hpre hn;refine rv (N:=108) hm kT.out 45000 qWt qh Tryz.func45 rfl ?_
  repeat'(first|apply au|refine rq ?_|refine rx qQd ?_|refine rq ?_|simp only[go_sem,k2,Tryz.f45])
  refine cI hm kT.out 45000 qWt (ι:=eO f.words.length fun _=>True)
   ⟨fun q=>⟨frL [(1,.ptr (45001,0) 0),(3,.fz (.s (J q.i))),(15,eS f.words),(16,eI f.words.length),(17,eI q.i)],
    hpL [((45001,0),some ⟨[eI 2,.fz (.s f.name.l),eS f.words,eS f.subs],true,false⟩)],1⟩,fun q=>f.words.length-q.i⟩
   ⟨0,ae,trivial⟩ ah ?_ ?_
  ·refine bF ?_ ?_ ?_<;>simp only[go_sem,hJ0,k2]
   all_goals first|rfl|omega
  rintro⟨i,hi,_⟩
  try simp only at hi
  rcases aA i f.words.length with h1|h1
  ·have es:=kJ.out i h1;have el:=kL.out i;have el2:=kL.out (i+1);obtain⟨w,hw⟩:∃w,f.words[i]=w:=⟨_,rfl⟩;rw[hw]at es;by_cases hi0:i=0
   ·subst hi0;rw[aF rfl]at es;rw[es]at el2;have h1':((0:Int)<f.words.length)=True:=aU ae
    repeat'(first|apply au|refine rq ?_|refine rx qQd ?_|refine rq ?_|simp only[go_sem,k2,h1,h1',hw,hJ0,aK,aC,bh,bn,Tryz.f45])
    all_goals refine⟨⟨0+1,ae,trivial⟩,af,?_⟩
    all_goals refine bF ?_ ?_ ?_<;>simp only[go_sem,es,k2]
    all_goals first|rfl|omega
   ·rw[az hi0]at es;have hpos:((0:Int)<i)=True:=aU ae;rw[es]at el2;simp only[aD,aN,bj]at el2
    repeat'(first|apply au|refine rq ?_|refine rx qQd ?_|refine rq ?_|simp only[go_sem,k2,h1,hw,hpos,bh,bn,Tryz.f45])
    all_goals refine⟨⟨i+1,ae,trivial⟩,af,?_⟩
    all_goals refine bF ?_ ?_ ?_<;>simp only[go_sem,es,k2]
    all_goals first|rfl|omega
  obtain rfl:i=f.words.length:=ae
  repeat'(first|apply au|refine rq ?_|refine rx qQd ?_|refine rq ?_|simp only[go_sem,k2,aC,Tryz.f45])
 by_cases k3:f.kind=3
 ·have et:=FI k3;have hl:=hpre.l;have hwl:f.words.length≤1000:=by
   have hf:=hpre.ft;cases f with
   |mk a b c d=>rw[aH.fit]at hf;simp only[aS,bi]at hf;exact hf.1.1
  obtain⟨J,hJ⟩:∃J:Nat→List UInt8,J=fun i=>jn [32,61,32] (f.words.take i):=⟨_,rfl⟩;have hJ0:J 0=[]:=by rw[hJ];rfl
  have hJs:∀i (h:i<f.words.length),J (i+1)=if i=0 then f.words[i].l else J i++[32,61,32]++f.words[i].l:=fun i h=>by rw[hJ];exact NF h
  have hJl:∀i,(J i).length≤1000000000:=fun i=>by rw[et]at hl;have:=IJ (sep:=[32,61,32]) (ws:=f.words) (i:=i);rw[hJ];simp only[aD,aN,bj]at hl ⊢;omega
  have hJe:txS f=⟨f.name.l++[40]++J f.words.length++[41]⟩:=by unfold txS;rw[et,hJ];simp only[aJ]
  have hJn:f.name.l.length+(J f.words.length).length+2≤1000000000:=by rw[et]at hl;rw[hJ];simp only[aD,aN,bj,aJ]at hl ⊢;omega
  rw[hJe];have kT:=Kp.mk hT;have kJ:=Kp.mk hJs;have kL:=Kp.mk hJl;clear hT hJ hJs hJl hJe et hl hpre hn;refine rv (N:=108) hm kT.out 45000 qWt qh Tryz.func45 rfl ?_
  repeat'(first|apply au|refine rq ?_|refine rx qQd ?_|refine rq ?_|simp only[go_sem,k3,Tryz.f45])
  refine cI hm kT.out 45000 qWt (ι:=eO f.words.length fun _=>True)
   ⟨fun q=>⟨frL [(1,.ptr (45001,0) 0),(3,.fz (.s (J q.i))),(15,eS f.words),(16,eI f.words.length),(17,eI q.i)],
    hpL [((45001,0),some ⟨[eI 3,.fz (.s f.name.l),eS f.words,eS f.subs],true,false⟩)],1⟩,fun q=>f.words.length-q.i⟩
   ⟨0,ae,trivial⟩ ah ?_ ?_
  ·refine bF ?_ ?_ ?_<;>simp only[go_sem,hJ0,k3]
   all_goals first|rfl|omega
  rintro⟨i,hi,_⟩
  try simp only at hi
  rcases aA i f.words.length with h1|h1
  ·have es:=kJ.out i h1;have el:=kL.out i;have el2:=kL.out (i+1);obtain⟨w,hw⟩:∃w,f.words[i]=w:=⟨_,rfl⟩;rw[hw]at es;by_cases hi0:i=0
   ·subst hi0;rw[aF rfl]at es;rw[es]at el2;have h1':((0:Int)<f.words.length)=True:=aU ae
    repeat'(first|apply au|refine rq ?_|refine rx qQd ?_|refine rq ?_|simp only[go_sem,k3,h1,h1',hw,hJ0,aK,aC,bh,bn,Tryz.f45])
    all_goals refine⟨⟨0+1,ae,trivial⟩,af,?_⟩
    all_goals refine bF ?_ ?_ ?_<;>simp only[go_sem,es,k3]
    all_goals first|rfl|omega
   ·rw[az hi0]at es;have hpos:((0:Int)<i)=True:=aU ae;rw[es]at el2;simp only[aD,aN,bj]at el2
    repeat'(first|apply au|refine rq ?_|refine rx qQd ?_|refine rq ?_|simp only[go_sem,k3,h1,hw,hpos,bh,bn,Tryz.f45])
    all_goals refine⟨⟨i+1,ae,trivial⟩,af,?_⟩
    all_goals refine bF ?_ ?_ ?_<;>simp only[go_sem,es,k3]
    all_goals first|rfl|omega
  obtain rfl:i=f.words.length:=ae
  repeat'(first|apply au|refine rq ?_|refine rx qQd ?_|refine rq ?_|simp only[go_sem,k3,aC,Tryz.f45])
 by_cases k4:f.kind=4
 ·obtain⟨a,hab,ha,hsz⟩:=Ap hpre ae;have et:=AH k4 hab;have hl:=hpre.l;have hra:a.size<n∧txP a:=⟨ae,ha⟩;obtain⟨T,hT2⟩:∃T,txt a=T:=⟨_,rfl⟩;rw[hT2]at et;rw[et]at hl;simp only[aD,aN,bj]at hl;have ea:txS a=⟨T⟩:=by unfold txS;rw[hT2]
  have e:txS f=⟨45::T⟩:=by unfold txS;rw[et]
  rw[e];refine rv (N:=108) hm hT 45000 qWt qh Tryz.func45 rfl ?_
  repeat'(first|apply rx hra|apply au|refine rq ?_|refine rx qQd ?_|refine rq ?_|simp only[go_sem,k4,hab,ea,a6,aK,bh,bt,Tryz.f45])
  all_goals first|rfl|omega
 by_cases k8:f.kind=8
 ·obtain⟨a,hab,ha,hsz⟩:=Ap hpre ae;have et:=AK k8 hab;have hl:=hpre.l;have hra:a.size<n∧txP a:=⟨ae,ha⟩;obtain⟨T,hT2⟩:∃T,txt a=T:=⟨_,rfl⟩;rw[hT2]at et;rw[et]at hl;simp only[aD,aN,bj]at hl;have ea:txS a=⟨T⟩:=by unfold txS;rw[hT2]
  have e:txS f=⟨[97,108,108,32]++f.name.l++[32]++T⟩:=by unfold txS;rw[et]
  rw[e];refine rv (N:=108) hm hT 45000 qWt qh Tryz.func45 rfl ?_
  repeat'(first|apply rx hra|refine ru (id:=20) hm hT 45000 qWt NV ?_|apply au|refine rq ?_|refine rx qQd ?_|refine rq ?_|simp only[go_sem,k8,hab,ea,NV,a6,aK,bh,bt,Tryz.f45])
  all_goals first|rfl|omega
 by_cases k9:f.kind=9
 ·obtain⟨a,hab,ha,hsz⟩:=Ap hpre ae;have et:=AL k9 hab;have hl:=hpre.l;have hra:a.size<n∧txP a:=⟨ae,ha⟩;obtain⟨T,hT2⟩:∃T,txt a=T:=⟨_,rfl⟩;rw[hT2]at et;rw[et]at hl;simp only[aD,aN,bj]at hl;have ea:txS a=⟨T⟩:=by unfold txS;rw[hT2]
  have e:txS f=⟨[115,111,109,101,32]++f.name.l++[32]++T⟩:=by unfold txS;rw[et]
  rw[e];refine rv (N:=108) hm hT 45000 qWt qh Tryz.func45 rfl ?_
  repeat'(first|apply rx hra|refine ru (id:=22) hm hT 45000 qWt NW ?_|apply au|refine rq ?_|refine rx qQd ?_|refine rq ?_|simp only[go_sem,k9,hab,ea,NW,a6,aK,bh,bt,Tryz.f45])
  all_goals first|rfl|omega
 have hk567:f.kind=5∨f.kind=6∨f.kind=7:=ae
 obtain⟨a,b,hab,ha,hb,hsa,hsb,hll⟩:=SU hpre hk567;have et:=AJ hk567 hab;have hl:=hpre.l;have hra:a.size<n∧txP a:=⟨ae,ha⟩;have hrb:b.size<n∧txP b:=⟨ae,hb⟩;obtain⟨T,hT2⟩:∃T,txt a=T:=⟨_,rfl⟩;obtain⟨V,hV⟩:∃T,txt b=T:=⟨_,rfl⟩;rw[hT2,hV]at et hll;have ea:txS a=⟨T⟩:=by unfold txS;rw[hT2]
 have eb:txS b=⟨V⟩:=by unfold txS;rw[hV]
 clear hk1 hk2 hk3;by_cases k5:f.kind=5
 ·have e:txS f=⟨[40]++T++[32,38,32]++V++[41]⟩:=by unfold txS;rw[et,k5];rfl
  have hs:(5:Int)-5=0:=rfl;rw[e];refine rv (N:=108) hm hT 45000 qWt qh Tryz.func45 rfl ?_
  repeat'(first|refine rq ?_|apply rx hra|apply rx hrb|refine ru (id:=26) hm hT 45000 qWt vv ?_|apply au|refine rq ?_|refine rx qQd ?_|refine rq ?_|simp only[go_sem,k5,hs,hab,ea,eb,vv,a6,aK,bh,bt,Tryz.f45])
  all_goals first|rfl|omega
 by_cases k6:f.kind=6
 ·have e:txS f=⟨[40]++T++[32,124,32]++V++[41]⟩:=by unfold txS;rw[et,k6];rfl
  have hs:(6:Int)-5=1:=rfl;rw[e];refine rv (N:=108) hm hT 45000 qWt qh Tryz.func45 rfl ?_
  repeat'(first|refine rq ?_|apply rx hra|apply rx hrb|refine ru (id:=26) hm hT 45000 qWt vv ?_|apply au|refine rq ?_|refine rx qQd ?_|refine rq ?_|simp only[go_sem,k6,hs,hab,ea,eb,vv,a6,aK,bh,bt,Tryz.f45])
  all_goals first|rfl|omega
 by_cases k7:f.kind=7
 ·have e:txS f=⟨[40]++T++[32,62,32]++V++[41]⟩:=by unfold txS;rw[et,k7];rfl
  have hs:(7:Int)-5=2:=rfl;rw[e];refine rv (N:=108) hm hT 45000 qWt qh Tryz.func45 rfl ?_
  repeat'(first|refine rq ?_|apply rx hra|apply rx hrb|refine ru (id:=26) hm hT 45000 qWt vv ?_|apply au|refine rq ?_|refine rx qQd ?_|refine rq ?_|simp only[go_sem,k7,hs,hab,ea,eb,vv,a6,aK,bh,bt,Tryz.f45])
  all_goals first|rfl|omega
 exfalso;omega
def tU (a b:Abs.aH):Bool:=decide (txt a=txt b)
def O11:Tbl:=O10.add 23 (sp2 tU fun a b=>txP a∧txP b)
attribute [go_sem] O11
set_option maxHeartbeats 8000000 in
theorem yb:b9 Tryz.prog GA O11:=by
 refine gN GV Bc fun a b hp _ _=>?_;obtain⟨ha,hb⟩:=hp;obtain⟨T,hT2⟩:∃T,txt a=T:=⟨_,rfl⟩;obtain⟨V,hV⟩:∃T,txt b=T:=⟨_,rfl⟩;have ea:txS a=⟨T⟩:=by unfold txS;rw[hT2]
 have eb:txS b=⟨V⟩:=by unfold txS;rw[hV]
 have e:tU a b=decide (T=V):=by unfold tU;rw[hT2,hV]
 rw[e];refine rv (N:=10) hm Bc 23000 qW5 GV Tryz.func23 rfl ?_
 repeat'(first|apply rx ha|apply rx hb|refine ru (id:=1) hm Bc 23000 qW5 Fa ?_|apply au|refine rq ?_|refine rx qQd ?_|refine rq ?_|simp only[go_sem,ea,eb,Fa,bt,Tryz.f23])
 all_goals first|rfl|(by_cases h:T=V<;>simp[h])
def O12:Tbl:=O11.add 47 (sp2 fM fun l _=>l.length≤900000000)
attribute [go_sem] O12
set_option maxHeartbeats 4000000 in
theorem yd:b9 Tryz.prog GA O12:=by
 refine gN rh yb fun l s hl _ _=>?_;by_cases hin:s∈l
 ·have e:fM l s=l:=by unfold fM;rw[aF hin]
  rw[e];refine rv (N:=39) hm yb 47000 qWy rh Tryz.func47 rfl ?_
  repeat'(first|refine rq ?_|simp only[go_sem,hin,Tryz.f47])
 ·have e:fM l s=l.take (twN l s)++[s]++l.drop (twN l s):=by unfold fM;rw[az hin];rfl
  rw[e];clear e;have hlt:∀i (h:i<l.length),i<twN l s→Op.bytesLess l[i].l s.l=true:=fun i h h2=>by rw[s7];exact ba (Aj h h2)
  have hat:∀i (h:i<l.length),i=twN l s→Op.bytesLess l[i].l s.l=false:=fun i h h2=>by rw[s7];exact aW (Ah h h2)
  have htl:=Ai s l;obtain⟨T,hT⟩:∃T,twN l s=T:=⟨_,rfl⟩;rw[hT]at hlt hat htl ⊢;clear hT;have kl:=Kp.mk hlt;have ka:=Kp.mk hat;clear hlt hat;refine rv (N:=39) hm yb 47000 qWy rh Tryz.func47 rfl ?_
  repeat'(first|refine rq ?_|simp only[go_sem,hin,Tryz.f47])
  refine cI hm yb 47000 qWy (ι:=eO T fun _=>True)
   ⟨fun q=>⟨frL [(0,eS l),(1,.fz (.s s.l)),(5,.full []),(6,eI q.i)],hpL [],0⟩,fun q=>T-q.i⟩
   ⟨0,ae,trivial⟩ ah ?_ ?_
  ·refine bF ?_ ?_ ?_<;>simp only[go_sem]
  rintro⟨i,hi,_⟩
  try simp only at hi
  rcases aA i T with h1|h1
  ·have h2:i<l.length:=ae
   have h3:=kl.out i h2 h1
   repeat'(first|refine rq ?_|simp only[go_sem,h2,h3,bh,Tryz.f47])
   refine⟨⟨i+1,ae,trivial⟩,af,?_⟩;refine bF ?_ ?_ ?_<;>simp only[go_sem]
  ·obtain rfl:i=T:=ae
   have hlt:(l.take i).length=i:=by rw[aX];omega
   rcases aA i l.length with h2|h2
   case' inl=>have h3:=ka.out i h2 rfl
   case' inr=>have h3:¬i<l.length:=ae
   all_goals
    repeat'(first|refine rq ?_|refine rx (dZ qQc ai) ?_|refine rq ?_|simp only[go_sem,h2,h3,vh,bh,Tryz.f47])
   all_goals first|(simp only[aE,dR,dQ,aM,aQ,DJ])
def O13:Tbl:=O12.add 30 (sp1 acM fun l=>(∀f∈l,acP f)∧l.length≤100000)
attribute [go_sem] O13
set_option maxHeartbeats 4000000 in
theorem fK:b9 Tryz.prog GA O13:=by
 refine iD yg yd fun l hp _=>?_;obtain⟨hac,hsl⟩:=hp;have hal:=zG hac;have kb:=Kp.mk hac;have kl:=Kp.mk hal;clear hac hal;refine rv (N:=28) hm yd 30000 qWi yg Tryz.func30 rfl ?_
 repeat'(first|apply au|refine rq ?_|simp only[go_sem,Tryz.f30])
 refine cI hm yd 30000 qWi (ι:=eO l.length fun _=>True)
  ⟨fun q=>⟨frL [(0,eS l),(3,eS (acM (l.take q.i))),(7,eS l),(8,eI l.length),(9,eI q.i)],hpL [],0⟩,fun q=>l.length-q.i⟩
  ⟨0,ae,trivial⟩ ah ?_ ?_
 ·refine eX [] [] [] ?_ ?_ ?_ ?_ ?_<;>simp only[go_sem,acM,bv,dV,aQ]
  all_goals first|rfl|omega
 rintro⟨i,hi,_⟩
 try simp only at hi
 rcases aA i l.length with h1|h1;rotate_left
 ·obtain rfl:i=l.length:=ae
  repeat'(first|apply au|refine rq ?_|simp only[go_sem,aC,aJ,Tryz.f30])
 obtain⟨x,hx⟩:∃x,l[i]=x:=⟨_,rfl⟩;have hxb:acP x:=kb.out x qQe;have et:acM (l.take (i+1))=(iH x [] []).foldl fM (acM (l.take i)):=by rw[CN h1,hx]
 have hA:=kl.out i hi;obtain⟨A,hAe⟩:∃A,acM (l.take i)=A:=⟨_,rfl⟩;rw[hAe]at et hA;have hcp:x.fit=true∧x.size≤1000:=⟨hxb.ft,hxb.s⟩;have hcn:=hxb.n;obtain⟨cs,hcs⟩:∃c,iH x [] []=c:=⟨_,rfl⟩;rw[hcs]at et hcn;obtain⟨M,hM⟩:∃M:Nat→List Str,M=fun j=>(cs.take j).foldl fM A:=⟨_,rfl⟩;have hM0:M 0=A:=by rw[hM];rfl
 have hMs:∀j (h:j<cs.length),M (j+1)=fM (M j) cs[j]:=fun j h=>by rw[hM];exact K9 h
 have hMl:∀j,j≤cs.length→(M j).length≤800000000:=fun j h=>by rw[hM];have:=zo (cs.take j) A;rw[aX]at this;simp only;omega
 have hMe:acM (l.take (i+1))=M cs.length:=by rw[et,hM];simp only[aJ]
 have kM:=Kp.mk hMs;have kN:=Kp.mk hMl;clear hM hMs hMl et hxb hA
 repeat'(first|apply rx hcp|apply au|refine rq ?_|simp only[go_sem,h1,hx,hcs,hAe,bh,bt,Tryz.f30])
 refine cI hm yd 30000 qWi (ι:=eO cs.length fun _=>True)
  ⟨fun q=>⟨frL [(0,eS l),(3,eS (M q.i)),(7,eS l),(8,eI l.length),(9,eI i),(16,eS cs),(17,eI cs.length),(18,eI q.i)],hpL [],0⟩,fun q=>cs.length-q.i⟩
  ⟨0,ae,trivial⟩ ah ?_ ?_
 ·refine bF ?_ ?_ ?_<;>simp only[go_sem,hM0,hAe]
  all_goals first|rfl|omega
 rintro⟨j,hj,_⟩
 try simp only at hj
 rcases aA j cs.length with h2|h2
 ·have es:=kM.out j h2;have hml:(M j).length≤900000000:=bz (kN.out j hj) ai;obtain⟨y,hy⟩:∃y,cs[j]=y:=⟨_,rfl⟩;rw[hy]at es
  repeat'(first|apply rx hml|apply au|refine rq ?_|simp only[go_sem,h2,hy,bh,bn,Tryz.f30])
  all_goals refine⟨⟨j+1,ae,trivial⟩,af,?_⟩
  all_goals refine bF ?_ ?_ ?_<;>simp only[go_sem,es]
  all_goals first|rfl|omega
 obtain rfl:j=cs.length:=ae
 repeat'(first|apply au|refine rq ?_|simp only[go_sem,aC,Tryz.f30])
 all_goals refine⟨⟨i+1,ae,trivial⟩,af,?_⟩
 all_goals refine bF ?_ ?_ ?_<;>simp only[go_sem,hMe]
 all_goals first|rfl|omega
theorem y0 (ns:List Str)(a w:Str):e8 (ns++[a]) w=if a=w then(ns.length:Int)else e8 ns w:=by unfold e8;rw[List.zipIdx_append,dq];simp
def cvD (p:List Str×List Int)(w:Str):Int:=if e8 p.1 w<0 then-1 else p.2.getD (e8 p.1 w).toNat 0
theorem Er {ns:List Str}{cs:List Int}(h:ns.length=cs.length)(w:Str)(d:Int):od ns cs w d=if e8 ns w<0 then d else cs.getD (e8 ns w).toNat 0:=by
 have key:∀i,i≤ns.length→od (ns.take i) (cs.take i) w d=if e8 (ns.take i) w<0 then d else cs.getD (e8 (ns.take i) w).toNat 0:=by
  intro i;induction i with
  |zero=>intro _;simp[od,e8]
  |succ i ih=>
   intro hi;rw[Co ae ae,y3 ae,ih ae];split
   ·rw[az ae,bo,av,ay ae];rfl
   ·rfl
 have:=key ns.length (aI _);rwa [aJ,show cs.take ns.length=cs by rw[h,aJ]]at this
structure RI (p:List Str×List Int):Prop where
 l:p.1.length=p.2.length
 v:∀c∈p.2,0≤c∧c<p.1.length
def eqD (p:List Str×List Int)(u v:Str):Prop:=u=v∨(0≤cvD p u∧cvD p u=cvD p v)
theorem RI.cv {p:List Str×List Int}(h:RI p){w:Str}(hw:¬e8 p.1 w<0):0≤cvD p w∧cvD p w<p.1.length:=by unfold cvD;rw[az hw];have:=(vi p.1 w).2;have hl:=h.l;rw[av,ay ae,bD];exact h.v _ (aT _)
theorem RI.bd {p:List Str×List Int}(h:RI p)(w:Str): -1≤cvD p w∧cvD p w<p.1.length:=by
 by_cases hw:e8 p.1 w<0
 ·unfold cvD;rw[aF hw];omega
 ·have:=h.cv hw;omega
theorem Rf {p:List Str×List Int}(h:RI p)(u v:Str):eqR p.1 p.2 u v=true↔eqD p u v:=by
 unfold eqR eqD;by_cases huv:u=v
 ·simp[huv]
 ·rw[az huv,bi,Er h.l,Er h.l];have hu:=h.bd u;have hv:=h.bd v;by_cases h1:e8 p.1 u<0
  ·rw[aF h1];have e1:cvD p u= -1:=by unfold cvD;rw[aF h1]
   by_cases h2:e8 p.1 v<0
   ·rw[aF h2,e1];simp[huv]
   ·have:=h.cv h2;have e2:cvD p v=p.2.getD (e8 p.1 v).toNat 0:=by unfold cvD;rw[az h2]
    rw[az h2,←e2,e1];constructor
    ·intro h;omega
    ·rintro(h|h)
     ·exact absurd h huv
     ·omega
  ·have e1:cvD p u=p.2.getD (e8 p.1 u).toNat 0:=by unfold cvD;rw[az h1]
   have:=h.cv h1;rw[az h1,←e1];by_cases h2:e8 p.1 v<0
   ·have e2:cvD p v= -1:=by unfold cvD;rw[aF h2]
    rw[aF h2,e2];constructor
    ·intro h;omega
    ·rintro(h|h)
     ·exact absurd h huv
     ·omega
   ·have e2:cvD p v=p.2.getD (e8 p.1 v).toNat 0:=by unfold cvD;rw[az h2]
    rw[az h2,←e2];constructor
    ·intro h;exact .inr ⟨this.1,h⟩
    ·rintro(h|h)
     ·exact absurd h huv
     ·exact h.2
theorem FJ {p:List Str×List Int}(h:RI p)(a:Str):RI (pwD p a):=by
 unfold pwD;split
 ·refine⟨by simp[h.l],fun c hc=>?_⟩;simp only[aD,bU];rcases aO.1 hc with hc|hc
  ·have:=h.v c hc;omega
  ·rw[a7.1 hc];omega
 ·exact h
theorem An {p:List Str×List Int}(a:Str):¬e8 (pwD p a).1 a<0:=by
 unfold pwD;split
 ·simp only;rw[y0,aF rfl];omega
 ·assumption
theorem Ge {p:List Str×List Int}(a:Str):pxD p.1 a=e8 (pwD p a).1 a:=by
 unfold pwD pxD;split
 ·simp only;rw[y0,aF rfl]
 ·rfl
theorem Eu {p:List Str×List Int}{a w:Str}(hw:¬e8 p.1 w<0):e8 (pwD p a).1 w=e8 p.1 w:=by
 unfold pwD;split
 ·rename_i h;simp only;rw[y0,az fun e=>hw (by rw[←e];exact h)]
 ·rfl
theorem Gc {p:List Str×List Int}(h:RI p){a:Str}(ha:e8 p.1 a<0)(w:Str):cvD (pwD p a) w=if a=w then(p.1.length:Int)else cvD p w:=by
 have e:pwD p a=(p.1++[a],p.2++[(p.1.length:Int)]):=by unfold pwD;rw[aF ha]
 rw[e];unfold cvD;simp only;rw[y0];by_cases haw:a=w
 ·rw[aF haw,az ae,aF haw,bo,av,h.l,ce (aI _)];simp
 ·rw[az haw,az haw];split
  ·rfl
  ·have:=(vi p.1 w).2;have hl:=h.l;rw[av,av,dh ae]
theorem Gd {p:List Str×List Int}(h:RI p)(a u v:Str):eqD (pwD p a) u v↔eqD p u v:=by
 by_cases ha:e8 p.1 a<0
 ·unfold eqD;rw[Gc h ha,Gc h ha];have hu:=h.bd u;have hv:=h.bd v;have e1:cvD p a= -1:=by unfold cvD;rw[aF ha]
  by_cases h1:a=u
  ·rw[aF h1];subst h1;by_cases h2:a=v
   ·simp[h2]
   ·rw[az h2,e1];constructor
    ·rintro(h|h)
     ·exact .inl h
     ·omega
    ·rintro(h|h)
     ·exact .inl h
     ·omega
  ·rw[az h1];by_cases h2:a=v
   ·rw[aF h2];subst h2;rw[e1];constructor
    ·rintro(h|h)
     ·exact .inl h
     ·omega
    ·rintro(h|h)
     ·exact .inl h
     ·omega
   ·rw[az h2]
 ·have e:pwD p a=p:=by unfold pwD;rw[az ha]
  rw[e]
theorem SC {p:List Str×List Int}(h:RI p){a b:Str}(ha:¬e8 p.1 a<0)(hb:¬e8 p.1 b<0)(u v:Str):
  RI (mrg p (e8 p.1 a) (e8 p.1 b))∧(eqD (mrg p (e8 p.1 a) (e8 p.1 b)) u v↔(eqD p u v∨(eqD p u a∧eqD p v b)∨(eqD p u b∧eqD p v a))):=by
 have ea:p.2.getD (e8 p.1 a).toNat 0=cvD p a:=by unfold cvD;rw[az ha]
 have eb:p.2.getD (e8 p.1 b).toNat 0=cvD p b:=by unfold cvD;rw[az hb]
 have em:mrg p (e8 p.1 a) (e8 p.1 b)=(p.1,p.2.map (oI (cvD p a) (cvD p b))):=by unfold mrg;rw[ea,eb]
 have va:=h.cv ha;have vb:=h.cv hb;have hcv:∀w,cvD (mrg p (e8 p.1 a) (e8 p.1 b)) w=oI (cvD p a) (cvD p b) (cvD p w):=fun w=>by
  rw[em];by_cases hw:e8 p.1 w<0
  ·unfold cvD;simp only;rw[aF hw,aF hw];rw[az ha];unfold oI;rw[az (by rw[ea];omega)]
  ·have hl:=h.l;have:=(vi p.1 w).2;have e2:cvD p w=p.2.getD (e8 p.1 w).toNat 0:=by unfold cvD;rw[az hw]
   rw[e2];show(if e8 p.1 w<0 then-1 else(p.2.map (oI (cvD p a) (cvD p b))).getD (e8 p.1 w).toNat 0)=_;rw[az hw,av,bp,av,ay ae];rfl
 refine⟨?_,?_⟩
 ·rw[em];refine⟨by simp[h.l],fun c hc=>?_⟩;obtain⟨d,hd,rfl⟩:=be.1 hc;have:=h.v d hd;simp only;unfold oI;split<;>omega
 ·unfold eqD;rw[hcv u,hcv v];unfold oI;have hu:=h.bd u;have hv:=h.bd v;by_cases h1:cvD p u=cvD p a
  ·rw[aF h1];by_cases h2:cvD p v=cvD p a
   ·rw[aF h2];constructor
    ·intro _;exact .inl (.inr ⟨ae,ae⟩)
    ·intro _;exact .inr ⟨ae,rfl⟩
   ·rw[az h2];constructor
    ·rintro(h|⟨_,h⟩)
     ·exact .inl (.inl h)
     ·exact .inr (.inl ⟨.inr ⟨ae,h1⟩,.inr ⟨ae,h.symm⟩⟩)
    ·rintro(h|⟨_,h⟩|⟨h,h'⟩)
     ·rcases h with h|h
      ·exact .inl h
      ·omega
     ·rcases h with h|h
      ·subst h;exact .inr ⟨ae,rfl⟩
      ·exact .inr ⟨ae,ae⟩
     ·rcases h' with h'|h'
      ·subst h';exact absurd rfl h2
      ·omega
  ·rw[az h1];by_cases h2:cvD p v=cvD p a
   ·rw[aF h2];constructor
    ·rintro(h|⟨_,h⟩)
     ·exact .inl (.inl h)
     ·exact .inr (.inr ⟨.inr ⟨ae,h⟩,.inr ⟨ae,h2⟩⟩)
    ·rintro(h|⟨h,_⟩|⟨h,_⟩)
     ·rcases h with h|h
      ·exact .inl h
      ·omega
     ·rcases h with h|h
      ·subst h;exact absurd rfl h1
      ·omega
     ·rcases h with h|h
      ·subst h;exact .inr ⟨ae,rfl⟩
      ·exact .inr ⟨ae,ae⟩
   ·rw[az h2];constructor
    ·intro h;exact .inl h
    ·rintro(h|⟨h,_⟩|⟨_,h⟩)
     ·exact h
     ·rcases h with h|h
      ·subst h;exact absurd rfl h1
      ·omega
     ·rcases h with h|h
      ·subst h;exact absurd rfl h2
      ·omega
theorem EB {p:List Str×List Int}(h:RI p)(a b u v:Str):RI (cl2 p a b)∧(eqD (cl2 p a b) u v↔(eqD p u v∨(eqD p u a∧eqD p v b)∨(eqD p u b∧eqD p v a))):=by
 have h1:=FJ h a;have h2:=FJ h1 b;have hx:pxD p.1 a=e8 (pwD (pwD p a) b).1 a:=by rw[Ge,Eu (An a)]
 have hy:pxD (pwD p a).1 b=e8 (pwD (pwD p a) b).1 b:=Ge b;have:=SC h2 (a:=a) (b:=b) (by rw[Eu (An a)];exact An a) (An b) u v;unfold cl2;rw[hx,hy];simp only[Gd h1,Gd h]at this;exact this
theorem RK {c:List cX}(f:Abs.aH)(hk:f.kind=3)(u v:Str):dp (l4 c f) u=dp (l4 c f) v↔(dp c u=dp c v∨(dp c u=dp c (f.words.getD 0 ⟨[]⟩)∧dp c v=dp c (f.words.getD 1 ⟨[]⟩))∨(dp c u=dp c (f.words.getD 1 ⟨[]⟩)∧dp c v=dp c (f.words.getD 0 ⟨[]⟩))):=by
 unfold l4;rw[az (by simp[hk])];obtain⟨A,hA⟩:∃x,dp c (f.words.getD 0 ⟨[]⟩)=x:=⟨_,rfl⟩;obtain⟨B,hB⟩:∃x,dp c (f.words.getD 1 ⟨[]⟩)=x:=⟨_,rfl⟩;rw[hA,hB];by_cases h:A=B
 ·rw[aF h];subst h;constructor
  ·intro h;exact .inl h
  ·rintro(h|⟨h1,h2⟩|⟨h1,h2⟩)
   ·exact h
   ·rw[h1,h2]
   ·rw[h1,h2]
 ·rw[az h,BK,BK];simp only;by_cases h1:dp c u=A
  ·rw[aF h1];by_cases h2:dp c v=A
   ·rw[aF h2,h1,h2];simp
   ·rw[az h2];constructor
    ·intro e;exact .inr (.inl ⟨h1,e.symm⟩)
    ·rintro(e|⟨_,e⟩|⟨_,e⟩)
     ·exact absurd (e.symm.trans h1) h2
     ·exact e.symm
     ·exact absurd e h2
  ·rw[az h1];by_cases h2:dp c v=A
   ·rw[aF h2];constructor
    ·intro e;exact .inr (.inr ⟨e,h2⟩)
    ·rintro(e|⟨e,_⟩|⟨e,_⟩)
     ·exact absurd (e.trans h2) h1
     ·exact absurd e h1
     ·exact e
   ·rw[az h2];constructor
    ·intro e;exact .inl e
    ·rintro(e|⟨e,_⟩|⟨_,e⟩)
     ·exact e
     ·exact absurd e h1
     ·exact absurd e h2
theorem PD (l:List Abs.aH):RI (clD l)∧∀u v,eqD (clD l) u v↔dp (ii l) u=dp (ii l) v:=by
 suffices h:∀(l:List Abs.aH) (p:List Str×List Int) (c:List cX),RI p→(∀u v,eqD p u v↔dp c u=dp c v)→RI (l.foldl cl1 p)∧∀u v,eqD (l.foldl cl1 p) u v↔dp (l.foldl l4 c) u=dp (l.foldl l4 c) v from
  h l ([],[]) [] ⟨rfl,fun c hc=>by simp at hc⟩ fun u v=>by unfold eqD cvD e8 dp;simp
 intro l;induction l with
 |nil=>intro p c h1 h2;exact⟨h1,h2⟩
 |cons f l ih=>
  intro p c h1 h2;rw[bQ,bQ];by_cases hk:f.kind=3
  ·have e:cl1 p f=cl2 p (f.words.getD 0 ⟨[]⟩) (f.words.getD 1 ⟨[]⟩):=by unfold cl1;rw[aF hk]
   refine ih _ _ ?_ fun u v=>?_
   ·rw[e];exact(EB h1 _ _ ⟨[]⟩ ⟨[]⟩).1
   ·rw[e,(EB h1 _ _ u v).2,RK f hk,h2,h2,h2,h2,h2]
  ·have e1:cl1 p f=p:=by unfold cl1;rw[az hk]
   have e2:l4 c f=c:=by unfold l4;rw[aF hk]
   rw[e1,e2];exact ih _ _ h1 h2
theorem Ma (l:List Abs.aH)(u v:Str):eqR (clD l).1 (clD l).2 u v=decide (dp (ii l) u=dp (ii l) v):=by have h:=PD l;rw[gR,Rf h.1,h.2,bi]
theorem NC (l:List Abs.aH)(w:Str):r8 l w=decide (w∈acM l):=by
 unfold r8;rw[gR,jb,bi,NK];constructor
 ·rintro⟨f,hf,h⟩;exact⟨f,hf,(og f w).1 (bO h)⟩
 ·rintro⟨f,hf,h⟩;exact⟨f,hf,ba ((og f w).2 h)⟩
theorem Au {f:Abs.aH}(h:BF0 f):acP f:=⟨h.b.ft,by have:=h.b.s;omega,by have h1:=Ce f [] [] h.sh;have:=h.b.s;simp only[bj]at h1;omega⟩
theorem YC {l:List Abs.aH}{f h:Abs.aH}{k:Abs.aH}(hf:BF f)(hk:BF k)(h4:k.kind=4)(hs:k.subs=[h]):sK l f k=(tU (cnn h) f||iF (ii l) f h):=by
 have hv:=hk.o.vw;have hh:BF0 h:=hk.o.sub (by rw[hs];simp);have ek:k=eJ h:=by
  cases hv with
  |t=>simp[dS]at h4
  |p=>simp[dS]at h4
  |e=>simp[dS]at h4
  |n a _=>rw[iS]at hs;rw[(fx hs).1];rfl
  |j k a b hk2=>exfalso;rw[dS]at h4;omega
  |q k nm a hk2=>exfalso;rw[dS]at h4;omega
 have hc:cnn h=h:=BF.not_inv (by rw[←ek];exact hk);have s0:dv k=h:=by unfold dv;rw[hs];rfl
 unfold sK tU;rw[ba h4,s0,cZ,D1,hf.cn,hc];congr 1;rw[nK,txt_eq hh hf.o,ek];constructor
 ·intro e;unfold eJ at e;injection e with _ _ _ e;exact((fx e).1).symm
 ·intro e;rw[e]
theorem XZ {l:List Abs.aH}{f k:Abs.aH}(h4:k.kind≠4):sK l f k=false:=by unfold sK;rw[aW h4,dU,gB];refine aW fun e=>h4 ?_;rw[←e,D1];rfl
theorem Ox (c:List cX)(f g:Abs.aH):iF c f g=(decide (f.kind=2)&&decide (g.kind=2)&&decide (f.name=g.name)&&decide (f.words.map (dp c)=g.words.map (dp c))):=rfl
def gF:Tv:=(.q 0 (.q 1 (.q 2 (.q 3 (.q 4 (.q 5 (.q 6 (.q 7 (.q 8 (.q 9 (.q 10 (.q 11 (.q 12 (.q 13 (.q 14 (.q 15 (.q 16 (.q 17 (.q 18 (.q 19 (.q 20 .leaf)))))))))))))))))))))
def gC:Tv:=(.q 0 (.q 1 (.q 2 (.q 3 (.q 4 (.q 5 (.q 6 (.q 7 (.q 8 (.q 9 (.q 10 (.q 11 (.q 12 (.q 13 .leaf))))))))))))))
def W1:Tbl:=O13.add 71 (sp1 vU fun l=>(∀f∈l,brF f)∧l.length≤100000)
attribute [go_sem] W1
set_option maxRecDepth 100000 in
set_option maxHeartbeats 1000000 in
set_option maxHeartbeats 16000000 in
theorem hW1:b9 Tryz.prog GA W1:=by
 refine iD Hc fK fun l hpre _=>?_;obtain⟨hbr,hlen⟩:=hpre;have hlp:(∀f∈l,brF f)∧l.length≤100000:=⟨hbr,hlen⟩;have hcd:=Dn l l.length (aI _);rw[aJ]at hcd;have hclp:(clD l).1.length=(clD l).2.length∧(clD l).1.length≤1000000:=⟨hcd.1,ae⟩;have heq:=Ma l;obtain⟨C,hC⟩:∃C,clD l=C:=⟨_,rfl⟩;rw[hC]at hclp heq;obtain⟨V,hV⟩:∃V,vU l=V:=⟨_,rfl⟩;rw[hV];unfold vU at hV;obtain⟨c,hc⟩:∃c,ii l=c:=⟨_,rfl⟩;rw[hc]at hV heq;obtain⟨Φ,hΦ⟩:∃Φ:Abs.aH→Bool,Φ=tV c l:=⟨_,rfl⟩;rw[←hΦ]at hV;have ke:=Kp.mk heq;have kb:=Kp.mk hbr;clear heq hcd hbr hc;refine rv (N:=112) hm fK 71000 qWk Hc Tryz.func71 rfl ?_
 repeat'(first|apply rx hlp|apply rx hclp|refine ru (id:=7) hm fK 71000 qWk gF ?_|refine ru (id:=18) hm fK 71000 qWk gC ?_|apply au|refine rq ?_|simp only[go_sem,hC,gF,gC,Tryz.f71,bt,bn,bh])
 refine cI hm fK 71000 qWk (ι:=fW l.length 0 fun i=>(l.drop i).any Φ=V)
  ⟨fun q=>⟨frL [(0,eS l),(2,.fz (.b false)),(3,eS C.1),(4,eS C.2),(17,eI l.length),(18,eI q.i)],hpL [],q.m⟩,fun q=>l.length-q.i⟩
  ⟨0,20,ae,ae,hV⟩ ah ?_ ?_
 ·refine bF ?_ ?_ ?_<;>simp only[go_sem]
  all_goals first|rfl|omega
 rintro⟨i,q0,hi,hq,hP⟩
 try simp only at hi hq hP
 clear hV;rcases aA i l.length with h1|h1;rotate_left
 ·obtain rfl:i=l.length:=ae
  rw[fe]at hP;have hVf:V=false:=hP.symm
  repeat'(first|apply rx hlp|apply rx hclp|refine ru (id:=7) hm fK 71000 qWk gF ?_|refine ru (id:=18) hm fK 71000 qWk gC ?_|apply au|refine rq ?_|simp only[go_sem,aC,gF,gC,Tryz.f71,bt,bn,bh])
  all_goals first|rw[hVf]|(rw[hVf];rfl)
 obtain⟨f,hf⟩:∃f,l[i]=f:=⟨_,rfl⟩;have hfb:brF f:=kb.out f qQj;rw[aR h1,List.any_cons,hf]at hP;by_cases h4:f.kind=4;rotate_left
 ·have hF:Φ f=false:=by rw[hΦ];unfold tV jP;rw[aW h4];simp
  rw[hF,da]at hP
  repeat'(first|apply rx hlp|apply rx hclp|refine ru (id:=7) hm fK 71000 qWk gF ?_|refine ru (id:=18) hm fK 71000 qWk gC ?_|apply au|refine rq ?_|simp only[go_sem,h1,hf,h4,gF,gC,Tryz.f71,bt,bn,bh])
  refine⟨⟨i+1,q0,ae,ae,hP⟩,af,?_⟩;refine bF ?_ ?_ ?_<;>simp only[go_sem]
  all_goals first|rfl|omega
 have eF:Abs.aH.mk 4 f.name f.words f.subs=f:=by rw[←h4];exact bt
 obtain⟨g,hg,s0,hgb⟩:=nz hfb (.inl h4);have hF:Φ f=(jP c f||(decide (g.kind=2)&&l.any fun h=>iF c h g)):=by rw[hΦ];unfold tV;rw[ba h4,s0,cZ]
 have hcon:jP c f=(decide (g.kind=1)||(decide (g.kind=3)&&decide (dp c (g.words.getD 0 ⟨[]⟩)=dp c (g.words.getD 1 ⟨[]⟩)))):=by unfold jP;rw[ba h4,s0,cZ]
 by_cases j1:g.kind=1
 ·have hVt:V=true:=by rw[←hP,hF,hcon,ba j1];rfl
  repeat'(first|apply rx hlp|apply rx hclp|refine ru (id:=7) hm fK 71000 qWk gF ?_|refine ru (id:=18) hm fK 71000 qWk gC ?_|apply au|refine rq ?_|simp only[go_sem,h1,hf,h4,eF,hg,j1,gF,gC,Tryz.f71,bt,bn,bh])
  all_goals first|rw[hVt]|(rw[hVt];rfl)
 by_cases j3:g.kind=3
 ·obtain⟨a,b,hab⟩:∃a b,g.words=[a,b]:=by
   have h2:=(fU.1 hgb.v).2.2.2.1 j3
   match h:g.words,h2 with
   |[a,b],_=>exact⟨a,b,rfl⟩
  have hcon:jP c f=eqR C.1 C.2 a b:=by rw[hcon,aW j1,ba j3,hab,ke.out];rfl
  cases hB:eqR C.1 C.2 a b with
  |true=>
   have hVt:V=true:=by rw[←hP,hF,hcon,hB];rfl
   repeat'(first|apply rx hlp|apply rx hclp|refine ru (id:=7) hm fK 71000 qWk gF ?_|refine ru (id:=18) hm fK 71000 qWk gC ?_|apply au|refine rq ?_|simp only[go_sem,h1,hf,h4,eF,hg,j1,j3,hab,hB,gF,gC,Tryz.f71,bt,bn,bh])
   all_goals first|rw[hVt]|(rw[hVt];rfl)
  |false=>
   have hF2:Φ f=false:=by rw[hF,hcon,hB,j3];rfl
   rw[hF2,da]at hP
   repeat'(first|apply rx hlp|apply rx hclp|refine ru (id:=7) hm fK 71000 qWk gF ?_|refine ru (id:=18) hm fK 71000 qWk gC ?_|apply au|refine rq ?_|simp only[go_sem,h1,hf,h4,eF,hg,j1,j3,hab,hB,gF,gC,Tryz.f71,bt,bn,bh])
   refine⟨⟨i+1,q0+1,ae,ae,hP⟩,af,?_⟩;refine bF ?_ ?_ ?_<;>simp only[go_sem]
   all_goals first|rfl|omega
 have hcon:jP c f=false:=by rw[hcon,aW j1,aW j3];rfl
 by_cases j2:g.kind=2;rotate_left
 ·have hF2:Φ f=false:=by rw[hF,hcon,aW j2];rfl
  rw[hF2,da]at hP
  repeat'(first|apply rx hlp|apply rx hclp|refine ru (id:=7) hm fK 71000 qWk gF ?_|refine ru (id:=18) hm fK 71000 qWk gC ?_|apply au|refine rq ?_|simp only[go_sem,h1,hf,h4,eF,hg,j1,j2,j3,gF,gC,Tryz.f71,bt,bn,bh])
  refine⟨⟨i+1,q0+1,ae,ae,hP⟩,af,?_⟩;refine bF ?_ ?_ ?_<;>simp only[go_sem]
  all_goals first|rfl|omega
 have eG:Abs.aH.mk 2 g.name g.words g.subs=g:=by rw[←j2];exact bt
 obtain⟨U,hU⟩:∃U,(l.any fun h=>iF c h g)=U:=⟨_,rfl⟩;have hF2:Φ f=U:=by rw[hF,hcon,ba j2,hU];rfl
 rw[hF2]at hP;clear hF hF2 hcon
 repeat'(first|apply rx hlp|apply rx hclp|refine ru (id:=7) hm fK 71000 qWk gF ?_|refine ru (id:=18) hm fK 71000 qWk gC ?_|apply au|refine rq ?_|simp only[go_sem,h1,hf,h4,eF,hg,j2,gF,gC,Tryz.f71,bt,bn,bh])
 refine cI hm fK 71000 qWk (ι:=fW l.length (q0+1) fun k=>((l.drop k).any fun h=>iF c h g)=U)
  ⟨fun q=>⟨frL [(0,eS l),(2,.fz (.b false)),(3,eS C.1),(4,eS C.2),(17,eI l.length),(18,eI i),(6,.ptr (71006,q0) 0),(59,eI l.length),(60,eI q.i)],hpL [((71006,q0),some ⟨(qcD g),true,false⟩)],q.m⟩,fun q=>l.length-q.i⟩
  ⟨0,q0+1,ae,ae,hU⟩ ah ?_ ?_
 ·refine bF ?_ ?_ ?_<;>simp only[go_sem,j2]
  all_goals first|rfl|omega
 rintro⟨k,q1,hk,hq1,hE⟩
 try simp only at hk hq1 hE
 clear hU;rcases aA k l.length with h2|h2;rotate_left
 ·obtain rfl:k=l.length:=ae
  rw[fe]at hE;have hUf:U=false:=hE.symm;rw[hUf,da]at hP
  repeat'(first|apply rx hlp|apply rx hclp|refine ru (id:=7) hm fK 71000 qWk gF ?_|refine ru (id:=18) hm fK 71000 qWk gC ?_|apply au|refine rq ?_|simp only[go_sem,aC,gF,gC,Tryz.f71,bt,bn,bh])
  refine⟨⟨i+1,q1,ae,ae,hP⟩,af,?_⟩;refine bF ?_ ?_ ?_<;>simp only[go_sem]
  all_goals first|rfl|omega
 obtain⟨h,hh⟩:∃h,l[k]=h:=⟨_,rfl⟩;have hhb:brF h:=kb.out h (by rw[←hh];exact aT h2);rw[aR h2,List.any_cons,hh]at hE;have hal:iF c h g=(decide (h.kind=2)&&decide (h.name=g.name)&&decide (h.words.map (dp c)=g.words.map (dp c))):=by unfold iF;rw[ba j2,iR]
 by_cases j2h:h.kind=2;rotate_left
 ·have hN:((l.drop (k+1)).any fun h=>iF c h g)=U:=by rw[hal,aW j2h]at hE;simpa using hE
  repeat'(first|apply rx hlp|apply rx hclp|refine ru (id:=7) hm fK 71000 qWk gF ?_|refine ru (id:=18) hm fK 71000 qWk gC ?_|apply au|refine rq ?_|simp only[go_sem,h2,hh,j2h,gF,gC,Tryz.f71,bt,bn,bh])
  refine cI hm fK 71000 qWk (ι:=eO 0 fun _=>True)
   ⟨fun q=>⟨frL [(0,eS l),(2,.fz (.b false)),(3,eS C.1),(4,eS C.2),(17,eI l.length),(18,eI i),(6,.ptr (71006,q0) 0),(59,eI l.length),(60,eI k),(8,.ptr (71008,q1) 0),(9,.fz (.b false)),(10,eI q.i)],hpL [((71006,q0),some ⟨(qcD g),true,false⟩),((71008,q1),some ⟨(qcD h),true,false⟩)],q1+1⟩,fun q=>0-q.i⟩
   ⟨0,ae,trivial⟩ ah ?_ ?_
  ·refine bF ?_ ?_ ?_<;>simp only[go_sem,h2,hh,j2h]
   all_goals first|rfl|omega
  rintro⟨j,hj,_⟩
  try simp only at hj
  obtain rfl:j=0:=ae
  repeat'(first|apply rx hlp|apply rx hclp|refine ru (id:=7) hm fK 71000 qWk gF ?_|refine ru (id:=18) hm fK 71000 qWk gC ?_|apply au|refine rq ?_|simp only[go_sem,h1,gF,gC,Tryz.f71,bt,bn,bh])
  refine⟨⟨k+1,q1+1,ae,ae,hN⟩,af,?_⟩;refine bF ?_ ?_ ?_<;>simp only[go_sem]
  all_goals first|rfl|omega
 have eH:Abs.aH.mk 2 h.name h.words h.subs=h:=by rw[←j2h];exact bt
 by_cases hnm:h.name=g.name;rotate_left
 ·have hN:((l.drop (k+1)).any fun h=>iF c h g)=U:=by rw[hal,aW hnm]at hE;simpa using hE
  have hnl:(h.name.l=g.name.l)=False:=aP fun e0=>hnm (show h.name=g.name from qF e0)
  repeat'(first|apply rx hlp|apply rx hclp|refine ru (id:=7) hm fK 71000 qWk gF ?_|refine ru (id:=18) hm fK 71000 qWk gC ?_|apply au|refine rq ?_|simp only[go_sem,h2,hh,j2h,eH,hnl,gF,gC,Tryz.f71,bt,bn,bh])
  refine cI hm fK 71000 qWk (ι:=eO 0 fun _=>True)
   ⟨fun q=>⟨frL [(0,eS l),(2,.fz (.b false)),(3,eS C.1),(4,eS C.2),(17,eI l.length),(18,eI i),(6,.ptr (71006,q0) 0),(59,eI l.length),(60,eI k),(8,.ptr (71008,q1) 0),(9,.fz (.b false)),(10,eI q.i)],hpL [((71006,q0),some ⟨(qcD g),true,false⟩),((71008,q1),some ⟨(qcD h),true,false⟩)],q1+1⟩,fun q=>0-q.i⟩
   ⟨0,ae,trivial⟩ ah ?_ ?_
  ·refine bF ?_ ?_ ?_<;>simp only[go_sem,h2,hh,j2h,eH,hnl]
   all_goals first|rfl|omega
  rintro⟨j,hj,_⟩
  try simp only at hj
  obtain rfl:j=0:=ae
  repeat'(first|apply rx hlp|apply rx hclp|refine ru (id:=7) hm fK 71000 qWk gF ?_|refine ru (id:=18) hm fK 71000 qWk gC ?_|apply au|refine rq ?_|simp only[go_sem,h1,gF,gC,Tryz.f71,bt,bn,bh])
  refine⟨⟨k+1,q1+1,ae,ae,hN⟩,af,?_⟩;refine bF ?_ ?_ ?_<;>simp only[go_sem]
  all_goals first|rfl|omega
 have hnl:(h.name.l=g.name.l)=True:=aU (by rw[hnm]);by_cases hwl:h.words.length=g.words.length;rotate_left
 ·have hN:((l.drop (k+1)).any fun h=>iF c h g)=U:=by rw[hal,aW (show¬(h.words.map (dp c)=g.words.map (dp c))from fun h0=>hwl (by have:=a8 List.length h0;simpa using this))]at hE;simpa using hE
  have hwl':((h.words.length:Int)=g.words.length)=False:=aP ae
  repeat'(first|apply rx hlp|apply rx hclp|refine ru (id:=7) hm fK 71000 qWk gF ?_|refine ru (id:=18) hm fK 71000 qWk gC ?_|apply au|refine rq ?_|simp only[go_sem,h2,hh,j2h,eH,hnl,hwl',gF,gC,Tryz.f71,bt,bn,bh])
  refine cI hm fK 71000 qWk (ι:=eO 0 fun _=>True)
   ⟨fun q=>⟨frL [(0,eS l),(2,.fz (.b false)),(3,eS C.1),(4,eS C.2),(17,eI l.length),(18,eI i),(6,.ptr (71006,q0) 0),(59,eI l.length),(60,eI k),(8,.ptr (71008,q1) 0),(9,.fz (.b false)),(10,eI q.i)],hpL [((71006,q0),some ⟨(qcD g),true,false⟩),((71008,q1),some ⟨(qcD h),true,false⟩)],q1+1⟩,fun q=>0-q.i⟩
   ⟨0,ae,trivial⟩ ah ?_ ?_
  ·refine bF ?_ ?_ ?_<;>simp only[go_sem,h2,hh,j2h,eH,hnl,hwl']
   all_goals first|rfl|omega
  rintro⟨j,hj,_⟩
  try simp only at hj
  obtain rfl:j=0:=ae
  repeat'(first|apply rx hlp|apply rx hclp|refine ru (id:=7) hm fK 71000 qWk gF ?_|refine ru (id:=18) hm fK 71000 qWk gC ?_|apply au|refine rq ?_|simp only[go_sem,h1,gF,gC,Tryz.f71,bt,bn,bh])
  refine⟨⟨k+1,q1+1,ae,ae,hN⟩,af,?_⟩;refine bF ?_ ?_ ?_<;>simp only[go_sem]
  all_goals first|rfl|omega
 have hwl':((h.words.length:Int)=g.words.length)=True:=aU ae;obtain⟨R,hR⟩:∃R:Nat→Bool,R=fun j=>eqR C.1 C.2 (h.words.getD j ⟨[]⟩) (g.words.getD j ⟨[]⟩):=⟨_,rfl⟩;have hRj:∀j (h1:j<h.words.length) (h2:j<g.words.length),eqR C.1 C.2 h.words[j] g.words[j]=R j:=fun j h1 h2=>by rw[hR];simp only;rw[av,ay h1,av,ay h2];rfl
 have hRt:∀j (h1:j<h.words.length) (h2:j<g.words.length),R j=decide (dp c h.words[j]=dp c g.words[j]):=fun j h1 h2=>by rw[←hRj j h1 h2,ke.out]
 have eal:(∀j,j<h.words.length→R j=true)→iF c h g=true:=fun h0=>by rw[hal,ba j2h,ba hnm];refine ba (cC (by simpa using hwl) fun j h1 h2=>?_);rw[aG]at h1 h2;rw[cm,cm];have:=h0 j h1;rw[hRt j h1 h2]at this;exact bO this
 have eno:∀j,j<h.words.length→R j=false→iF c h g=false:=fun j h1 h0=>by
  have h2:j<g.words.length:=ae
  have hne:¬(h.words.map (dp c)=g.words.map (dp c)):=fun h3=>by have h4:=a8 (fun l:List Str=>l[j]?) h3;simp only[bp,ay h1,ay h2,bL,aL]at h4;rw[hRt j h1 h2,ba h4]at h0;cases h0
  rw[hal,aW hne];simp
 obtain⟨okF,hok⟩:∃okF:Nat→Bool,okF=fun i=>if i=0 then true else R (i-1):=⟨_,rfl⟩
 have hok0:okF 0=true:=by rw[hok];rfl
 have hoks:∀i,okF (i+1)=R i:=fun i=>by rw[hok];rfl
 have hfw:h.words.length≤1000:=by
  have hf:=hhb.ft;cases h with
  |mk a b c d=>rw[aH.fit]at hf;simp only[aS,bi]at hf;exact hf.1.1
 have kr:=Kp.mk hRj;have kok:=Kp.mk hoks;have keal:=Kp.mk eal;have keno:=Kp.mk eno;clear hR hRj hRt hok hoks eal eno hal
 repeat'(first|apply rx hlp|apply rx hclp|refine ru (id:=7) hm fK 71000 qWk gF ?_|refine ru (id:=18) hm fK 71000 qWk gC ?_|apply au|refine rq ?_|simp only[go_sem,h2,hh,j2h,eH,hnl,hwl',gF,gC,Tryz.f71,bt,bn,bh])
 refine cI hm fK 71000 qWk (ι:=eO h.words.length fun j=>∀t,t+1<j→R t=true)
  ⟨fun q=>⟨frL [(0,eS l),(2,.fz (.b false)),(3,eS C.1),(4,eS C.2),(17,eI l.length),(18,eI i),(6,.ptr (71006,q0) 0),(59,eI l.length),(60,eI k),(8,.ptr (71008,q1) 0),(9,.fz (.b (okF q.i))),(10,eI q.i)],hpL [((71006,q0),some ⟨(qcD g),true,false⟩),((71008,q1),some ⟨(qcD h),true,false⟩)],q1+1⟩,fun q=>h.words.length-q.i⟩
  ⟨0,ae,fun t ht=>ae⟩ ah ?_ ?_
 ·refine bF ?_ ?_ ?_<;>simp only[go_sem,hok0,j2h]
  all_goals first|rfl|omega
 rintro⟨j,hj,hT⟩
 try simp only at hj hT
 have stop:∀j,j<h.words.length→R j=false→((l.drop (k+1)).any fun h=>iF c h g)=U:=fun j h3 h0=>by rw[keno.out j h3 h0,da]at hE;exact hE
 rcases aA j h.words.length with h3|h3
 ·cases j with
  |zero=>
   have h4w:0<g.words.length:=ae
   have hr:=kr.out 0 h3 h4w;have hz0:((0:Int)<h.words.length)=True:=aU ae
   repeat'(first|apply rx hlp|apply rx hclp|refine ru (id:=7) hm fK 71000 qWk gF ?_|refine ru (id:=18) hm fK 71000 qWk gC ?_|apply au|refine rq ?_|simp only[go_sem,hz0,h3,h4w,hok0,hr,gF,gC,Tryz.f71,bt,bn,bh])
   refine⟨⟨1,ae,fun t ht=>ae⟩,af,?_⟩;refine bF ?_ ?_ ?_<;>simp only[go_sem,kok.out]
   all_goals first|rfl|omega
  |succ j=>
   have ho:=kok.out j;have h4w:j+1<g.words.length:=ae
   have hr:=kr.out (j+1) h3 h4w;cases hRv:R j with
   |true=>
    rw[hRv]at ho;have hz0:((j:Int)+1<h.words.length)=True:=aU ae;have hjn:((j:Int)+1).toNat=j+1:=ae
    repeat'(first|apply rx hlp|apply rx hclp|refine ru (id:=7) hm fK 71000 qWk gF ?_|refine ru (id:=18) hm fK 71000 qWk gC ?_|refine rx ⟨ae,rfl⟩ ?_|apply au|refine rq ?_|simp only[go_sem,hz0,hjn,h3,h4w,ho,hr,gF,gC,Tryz.f71,bt,bn,bh])
    refine⟨⟨j+2,ae,fun t ht=>?_⟩,af,?_⟩
    ·rcases aA t j with h5|h5
     ·exact hT t ae
     ·obtain rfl:t=j:=ae
      exact hRv
    refine bF ?_ ?_ ?_<;>simp only[go_sem,kok.out]
    all_goals first|rfl|omega
   |false=>
    rw[hRv]at ho;have hN:=stop j ae hRv
    repeat'(first|apply rx hlp|apply rx hclp|refine ru (id:=7) hm fK 71000 qWk gF ?_|refine ru (id:=18) hm fK 71000 qWk gC ?_|apply au|refine rq ?_|simp only[go_sem,h3,h4w,ho,gF,gC,Tryz.f71,bt,bn,bh])
    refine⟨⟨k+1,q1+1,ae,ae,hN⟩,af,?_⟩;refine bF ?_ ?_ ?_<;>simp only[go_sem]
    all_goals first|rfl|omega
 ·obtain rfl:j=h.words.length:=ae
  have hnl2:(h.words.length<h.words.length)=False:=aP (aC _);have hnl3:((h.words.length:Int)<h.words.length)=False:=aP ae;obtain⟨B,hB⟩:∃B,okF h.words.length=B:=⟨_,rfl⟩;cases B with
  |true=>
   have hall:∀t,t<h.words.length→R t=true:=fun t ht=>by
    rcases aA (t+1) h.words.length with h5|h5
    ·exact hT t h5
    ·have h6:=kok.out t;rw[show t+1=h.words.length by omega,hB]at h6;exact h6.symm
   have hVt:V=true:=by rw[←hP,←hE,keal.out hall];rfl
   repeat'(first|apply rx hlp|apply rx hclp|refine ru (id:=7) hm fK 71000 qWk gF ?_|refine ru (id:=18) hm fK 71000 qWk gC ?_|apply au|refine rq ?_|simp only[go_sem,hnl2,hnl3,hB,gF,gC,Tryz.f71,bt,bn,bh])
   all_goals first|rw[hVt]|(rw[hVt];rfl)
  |false=>
   have hN:((l.drop (k+1)).any fun h=>iF c h g)=U:=by
    cases hw:h.words.length with
    |zero=>rw[hw,hok0]at hB;cases hB
    |succ t=>have h6:=kok.out t;rw[←hw,hB]at h6;exact stop t ae h6.symm
   repeat'(first|apply rx hlp|apply rx hclp|refine ru (id:=7) hm fK 71000 qWk gF ?_|refine ru (id:=18) hm fK 71000 qWk gC ?_|apply au|refine rq ?_|simp only[go_sem,hnl2,hnl3,hB,gF,gC,Tryz.f71,bt,bn,bh])
   refine⟨⟨k+1,q1+1,ae,ae,hN⟩,af,?_⟩;refine bF ?_ ?_ ?_<;>simp only[go_sem]
   all_goals first|rfl|omega
end Go.Proofs.YtnijhilfchekkaaGreatDoor
