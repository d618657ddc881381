import Derived.Test.YtnijhilfchekkaaGreatDoorY3
import Derived.Test.YtnijhilfchekkaaGreatDoorC2
set_option linter.unusedSimpArgs false
set_option maxRecDepth 100000
set_option maxHeartbeats 1000000
namespace Go.Abs
open Go
end Go.Abs
namespace Go.Proofs.YtnijhilfchekkaaGreatDoor
open Go Go.Abs Go.Proofs
section
variable {G:Nat→List FD}
def A20:Tbl:=A19
attribute [go_sem] A20
theorem Uo:b9 Tryz.prog G A20:=Un
end
end Go.Proofs.YtnijhilfchekkaaGreatDoor
namespace Go.Abs
open Go
end Go.Abs
namespace Go.Proofs.YtnijhilfchekkaaGreatDoor
open Go Go.Abs Go.Proofs
section
variable {G:Nat→List FD}
def A21:Tbl:=A20
attribute [go_sem] A21
theorem A':b9 Tryz.prog G A21:=Uo
end
end Go.Proofs.YtnijhilfchekkaaGreatDoor
namespace Go.Abs
open Go
structure zUx (T n0:Nat)(X:iY)(i:Int)(inv:Nat→Prop) where
 k:Nat
 c:Int
 m:Nat
 hm:n0≤m
 h:(c=0∧k≤T∧inv k)∨(c≠0∧X=⟨c,i⟩)
end Go.Abs
namespace Go.Proofs.YtnijhilfchekkaaGreatDoor
open Go Go.Abs Go.Proofs
section
variable {G:Nat→List FD}
def A22:Tbl:=A21
attribute [go_sem] A22
theorem Up:b9 Tryz.prog G A22:=A'
end
end Go.Proofs.YtnijhilfchekkaaGreatDoor
namespace Go.Abs
open Go
structure TQ (m:dd):Prop where
 v:re m
 cv:∀c∈m.consts,0≤c.value∧c.value<m.size
 ar:∀r∈m.rels,0≤r.arity∧r.arity≤3
 tv:∀r∈m.rels,∀t∈r.tuples,(t.length:Int)=r.arity∧∀v∈t,0≤v∧v<m.size
structure vsP (m:dd)(f:aH):Prop where
 m:re m
 v:vok f
 s:szP f
 e:gE f≤800
section
variable {P:Program} {G:Nat→List FD} {T:Tbl}
def Vo {α β γ δ ρ σ:Type}[Enc α][Enc β][Enc γ][Enc δ][Enc ρ][Enc σ](f:α→β→γ→δ→ρ×σ)(pre:α→β→γ→δ→Prop):List FD→Option (D×Prop)
 |[x,y,z,w]=>some (.tup [.fz (enc (f (dec x) (dec y) (dec z) (dec w)).1),.fz (enc (f (dec x) (dec y) (dec z) (dec w)).2)],x=enc (dec (α:=α) x)∧y=enc (dec (α:=β) y)∧z=enc (dec (α:=γ) z)∧w=enc (dec (α:=δ) w)∧pre (dec x) (dec y) (dec z) (dec w))
 |_=>none
@[go_sem] theorem zPq {α β γ δ ρ σ:Type}[Enc α][Enc β][Enc γ][Enc δ][Enc ρ][Enc σ]{f:α→β→γ→δ→ρ×σ}{pre:α→β→γ→δ→Prop}{x y z w:FD}:Vo f pre [x,y,z,w]=some (.tup [.fz (enc (f (dec x) (dec y) (dec z) (dec w)).1),.fz (enc (f (dec x) (dec y) (dec z) (dec w)).2)],x=enc (dec (α:=α) x)∧y=enc (dec (α:=β) y)∧z=enc (dec (α:=γ) z)∧w=enc (dec (α:=δ) w)∧pre (dec x) (dec y) (dec z) (dec w)):=rfl
end
end Go.Abs
namespace Go.Proofs.YtnijhilfchekkaaGreatDoor
open Go Go.Abs Go.Proofs
section
variable {G:Nat→List FD}
def B22:Tbl:=A21
attribute [go_sem] B22
theorem Uq:b9 Tryz.prog G B22:=A'
def B23:Tbl:=B22
attribute [go_sem] B23
theorem UZ:b9 Tryz.prog G B23:=Uq
def B24:Tbl:=B23
attribute [go_sem] B24
theorem U0:b9 Tryz.prog G B24:=UZ
end
section
variable {G:Nat→List FD}
def B25:Tbl:=B24
attribute [go_sem] B25
theorem U1:b9 Tryz.prog G B25:=U0
end
section
variable {G:Nat→List FD}
def B26:Tbl:=B25
attribute [go_sem] B26
theorem U4:b9 Tryz.prog G B26:=U1
def B27:Tbl:=B26
attribute [go_sem] B27
theorem U5:b9 Tryz.prog G B27:=U4
end
section
variable {G:Nat→List FD}
def E1:Tbl:=Tbl.or B27 A22
attribute [go_sem] E1
theorem hE1:b9 Tryz.prog G E1:=sw U5 Up
def E2:Tbl:=E1
attribute [go_sem] E2
theorem hE2:b9 Tryz.prog G E2:=hE1
def E3:Tbl:=E2
attribute [go_sem] E3
theorem hE3:b9 Tryz.prog G E3:=hE2
end
section
variable {G:Nat→List FD}
theorem nT {n:Nat}{d:D}:(List.range n).map (fun j=>[d].getD (j % 1) .junk)=List.replicate n d:=by simp[Nat.mod_one,List.map_const']
theorem qt {n:Nat}:List.replicate n (D.fz (.b false))=bA ((List.replicate n false).map enc):=by rw[ia];simp[PM]
theorem rG {fn:FuncId}{args:List D}{xs:List Bool}(h:cS Tryz.prog G fn args (hpL []) 0 (fun d H n'=>∃id:Abs.Id,id.2<n'∧d= .arr id 1 0 xs.length∧H id=some ⟨bA (xs.map enc),false,false⟩)):
  cS Tryz.prog G fn args (hpL []) 0 (fun d _ _=>D.val d=some (.fz (enc xs))):=by
 refine lj h ?_;rintro d H n' ⟨id,hid,rfl,hH⟩;refine⟨.fz (.sl (xs.map enc)),hpL [],n',?_,rfl⟩;refine eX [] [] [(id,xs.map enc)] ?_ ?_ ?_ ?_ ?_<;>(try simp only[go_sem,hH])
 all_goals first|omega
structure jE (m:dd)(f:Abs.aH)(vars:List Str):Prop where
 gd:TQ m
 vk:vok f
 sz:szP f
 nl:vars.length+gE f≤6
 cs:∀c∈cst f vars,(pE m c).isSome=true
set_option maxHeartbeats 4000000 in
theorem Vp {n:Nat}(hT:b9 Tryz.prog G (E3.add 96 (sp3 fJ fun m f vs=>f.size<n∧jE m f vs))){m:dd}{f:Abs.aH}{vars:List Str}(hn:f.size=n)(hp:jE m f vars)(hk:f.kind=1):cS Tryz.prog G 96 [.fz (enc m),.fz (enc f),.fz (enc vars)] (hpL []) 0 (fun d _ _=>D.val d=some (.fz (enc (fJ m f vars)))):=by
 obtain⟨V,hV⟩:∃V:Nat→Bool,V=fu m f vars:=⟨_,rfl⟩;obtain⟨s,hs⟩:∃s:Nat,m.size=(s:Int):=⟨m.size.toNat,qQm⟩;have me:dd.mk (s:Int) m.consts m.rels=m:=by rw[←hs]
 have hs1:1≤s:=by have:=hp.gd.v.s1;omega
 have hs6:s≤6:=by have:=hp.gd.v.s6;omega
 have hvl:vars.length≤6:=by have:=hp.nl;omega
 obtain⟨W,hW⟩:∃W:Nat→Nat,W=fun i=>s^i:=⟨_,rfl⟩;have hW0:W 0=1:=by rw[hW];rfl
 have hWs:∀i,(W i:Int)*(s:Int)=(W (i+1):Int):=by simp_all[cF]
 have hWl:∀i,i≤6→W i≤46656:=fun i h=>by rw[hW];exact bz (cr hs6 i) (dm ae h)
 obtain⟨N,hN⟩:∃N,W vars.length=N:=⟨_,rfl⟩;have hNl:N≤46656:=by rw[←hN];exact hWl _ hvl
 have hT':fJ m f vars=(List.range N).map V:=by unfold fJ;rw[hV,←hN,hW,hs];rfl
 have hP0:=rn V N;rw[hT',←rE V N];refine rG ?_;have hpl:∀i,(eV V N i).length=N:=fun i=>pU V N i;have kT:=Kp.mk hT;have kW:=Kp.mk hWs;have kl:=Kp.mk hWl;clear hT hT' hW hWs hWl;refine rv (N:=345) hm kT.out 96000 qWi qi Tryz.func96 rfl ?_
 repeat'(first|refine rq ?_|simp only[go_sem,hs,Tryz.f96])
 refine cI hm kT.out 96000 qWi (ι:=eO vars.length fun _=>True)
  ⟨fun q=>⟨frL [(2,eS vars),(3,.ptr (96003,0) 0),(4,.ptr (96004,1) 0),(7,eI (W q.i:Nat)),(34,eI vars.length),(35,eI q.i)],hpL [((96003,0),some ⟨[eI s,eS m.consts,eS m.rels],true,false⟩),((96004,1),some ⟨(qcD f),true,false⟩)],2⟩,fun q=>vars.length-q.i⟩
  ⟨0,ae,trivial⟩ ah ?_ ?_
 ·refine bF ?_ ?_ ?_<;>simp only[go_sem,hW0,hs]
  all_goals first|rfl|omega
 rintro⟨i,hi,_⟩
 try simp only at hi
 rcases aA i vars.length with h1|h1
 ·have hws:=kW.out i;have hwl:=kl.out (i+1) ae
  repeat'(first|refine rq ?_|simp only[go_sem,h1,hws,Tryz.f96])
  refine⟨⟨i+1,ae,trivial⟩,af,?_⟩;refine bF ?_ ?_ ?_<;>simp only[go_sem,hws]
  all_goals first|rfl|omega
 obtain rfl:i=vars.length:=ae
 have hV1:∀i,V i=true:=fun i=>by rw[hV];obtain⟨a,b,c,d⟩:=f;simp_all[dS,Ro]
 have kV:=Kp.mk hV1;clear hV1 hV hp hn
 repeat'(first|refine rq ?_|simp only[go_sem,aC,hN,hk,nT,qt,←hP0,Tryz.f96])
 refine cI hm kT.out 96000 qWi (ι:=eO N fun _=>True)
  ⟨fun q=>⟨frL [(2,eS vars),(3,.ptr (96003,0) 0),(4,.ptr (96004,1) 0),(8,.arr (96043,2) 1 0 N),(131,.arr (96043,2) 1 0 N),(132,eI N),(133,eI q.i)],hpL [((96003,0),some ⟨[eI s,eS m.consts,eS m.rels],true,false⟩),((96004,1),some ⟨(qcD f),true,false⟩),((96043,2),some ⟨bA ((eV V N q.i).map enc),false,false⟩)],3⟩,fun q=>N-q.i⟩
  ⟨0,ae,trivial⟩ ah ?_ ?_
 ·refine bF ?_ ?_ ?_<;>simp only[go_sem,hk]
  all_goals first|rfl|omega
 rintro⟨i,hi,_⟩
 try simp only at hi
 rcases aA i N with h1|h1
 ·have hset:(bA ((eV V N i).map enc)).set i (.fz (.b true))=bA ((eV V N (i+1)).map enc):=by rw[←rF h1,←jI,kV.out];rfl
  repeat'(first|refine rq ?_|simp only[go_sem,h1,hpl,Tryz.f96])
  refine⟨⟨i+1,ae,trivial⟩,af,?_⟩;refine bF ?_ ?_ ?_<;>simp only[go_sem,hset,hk]
  all_goals first|rfl|omega
 obtain rfl:i=N:=ae
 repeat'(first|refine rq ?_|simp only[go_sem,aC,hpl,Tryz.f96])
 exact⟨(96043,2),ae,rfl,qQi⟩
end
section
variable {G:Nat→List FD}
theorem Ak {α:Type}{l:List α}(h:l.length=1):∃a,l=[a]:=by
 match l,h with
 |[a],_=>simp
theorem xA {α:Type}{l:List α}(h:l.length=2):∃a b,l=[a,b]:=by
 match l,h with
 |[a,b],_=>simp
theorem LY {f g:Abs.aH}{vars:List Str}{x:Str}(hg:g∈f.subs)(h:x∈cst g (if isQ f.kind then vars++[f.name]else vars)):x∈cst f vars:=by obtain⟨k,nm,ws,s⟩:=f;rw[cst,aO];exact .inr (L5.2 ⟨g,hg,h⟩)
theorem tB {m:dd}{f g:Abs.aH}{vars:List Str}(h:jE m f vars)(hq:¬isQ f.kind)(hg:g∈f.subs):g.size<f.size∧jE m g vars:=by have h1:=vj (f:=f);rw[az hq]at h1;have h2:=wQ hg;have h3:=h.nl;refine⟨aH.size_sub hg,h.gd,(tC _).1 (fU.1 h.vk).2.2.2.2.2.2 g hg,(vq h.sz hg).2,ae,fun c hc=>h.cs c (by grind[LY])⟩
theorem EX {m:dd}{f g:Abs.aH}{vars:List Str}(h:jE m f vars)(hq:isQ f.kind)(hg:g∈f.subs):g.size<f.size∧jE m g (vars++[f.name]):=by have h1:=vj (f:=f);rw[aF hq]at h1;have h2:=wQ hg;have h3:=h.nl;refine⟨aH.size_sub hg,h.gd,(tC _).1 (fU.1 h.vk).2.2.2.2.2.2 g hg,(vq h.sz hg).2,ap,fun c hc=>h.cs c (by grind[LY])⟩
theorem qq {l:List Bool}{i:Nat}(h:i<l.length):(l.map enc).getD i FD.nilf=FD.b (l.getD i false):=by rw[bh h,av,ay h];rfl
def sQ:Tv:=(.q 0 (.q 1 (.q 2 (.q 3 (.q 4 (.q 5 (.q 6 (.q 7 .leaf))))))))
set_option maxHeartbeats 4000000 in
theorem Vs {n:Nat}(hT:b9 Tryz.prog G (E3.add 96 (sp3 fJ fun m f vs=>f.size<n∧jE m f vs))){m:dd}{f:Abs.aH}{vars:List Str}(hn:f.size=n)(hp:jE m f vars)(hk:f.kind=4):cS Tryz.prog G 96 [.fz (enc m),.fz (enc f),.fz (enc vars)] (hpL []) 0 (fun d _ _=>D.val d=some (.fz (enc (fJ m f vars)))):=by
 have hlen:=(fU.1 hp.vk).2.2.2.2.1 (.inl hk);obtain⟨g,hb⟩:=Ak hlen;have hq:¬isQ f.kind:=by rw[hk];unfold isQ;omega
 have hga:=tB hp hq (g:=g) ap;rw[hn]at hga;have hgb:=hga;obtain⟨V,hV⟩:∃V:Nat→Bool,V=fu m f vars:=⟨_,rfl⟩;obtain⟨s,hs⟩:∃s:Nat,m.size=(s:Int):=⟨m.size.toNat,qQm⟩;have me:dd.mk (s:Int) m.consts m.rels=m:=by rw[←hs]
 have hs1:1≤s:=by have:=hp.gd.v.s1;omega
 have hs6:s≤6:=by have:=hp.gd.v.s6;omega
 have hvl:vars.length≤6:=by have:=hp.nl;omega
 obtain⟨W,hW⟩:∃W:Nat→Nat,W=fun i=>s^i:=⟨_,rfl⟩;have hW':=hW;have hW0:W 0=1:=by rw[hW];rfl
 have hWs:∀i,(W i:Int)*(s:Int)=(W (i+1):Int):=by simp_all[cF]
 have hWl:∀i,i≤6→W i≤46656:=fun i h=>by rw[hW];exact bz (cr hs6 i) ap
 obtain⟨N,hN⟩:∃N,W vars.length=N:=⟨_,rfl⟩;have hNl:N≤46656:=by rw[←hN];exact hWl _ hvl
 have hT':fJ m f vars=(List.range N).map V:=by unfold fJ;rw[hV,←hN,hW,hs];rfl
 have hP0:=rn V N;rw[hT',←rE V N];refine rG ?_;have hpl:∀i,(eV V N i).length=N:=fun i=>pU V N i;have kT:=Kp.mk hT;have kW:=Kp.mk hWs;have kl:=Kp.mk hWl;clear hT hT' hW hWs hWl;refine rv (N:=345) hm kT.out 96000 qWs qi Tryz.func96 rfl ?_
 repeat'(first|refine rq ?_|simp only[go_sem,hs,Tryz.f96])
 refine cI hm kT.out 96000 qWs (ι:=eO vars.length fun _=>True)
  ⟨fun q=>⟨frL [(2,eS vars),(3,.ptr (96003,0) 0),(4,.ptr (96004,1) 0),(7,eI (W q.i:Nat)),(34,eI vars.length),(35,eI q.i)],hpL [((96003,0),some ⟨[eI s,eS m.consts,eS m.rels],true,false⟩),((96004,1),some ⟨(qcD f),true,false⟩)],2⟩,fun q=>vars.length-q.i⟩
  ⟨0,ae,trivial⟩ ah ?_ ?_
 ·refine bF ?_ ?_ ?_<;>simp only[go_sem,hW0,hs]
  all_goals first|rfl|omega
 rintro⟨i,hi,_⟩
 try simp only at hi
 rcases aA i vars.length with h1|h1
 ·have hws:=kW.out i;have hwl:=kl.out (i+1) ae
  repeat'(first|refine rq ?_|simp only[go_sem,h1,hws,Tryz.f96])
  refine⟨⟨i+1,ae,trivial⟩,af,?_⟩;refine bF ?_ ?_ ?_<;>simp only[go_sem,hws]
  all_goals first|rfl|omega
 obtain rfl:i=vars.length:=ae
 have hVi:∀i,V i= !fu m g vars i:=fun i=>by rw[hV];obtain⟨a,b,c,d⟩:=f;simp_all[dS,iS,Rn]
 obtain⟨A,hA⟩:∃A,fJ m g vars=A:=⟨_,rfl⟩;have hAl:A.length=N:=by rw[←hA,rK];rw[←hN,hW',hs];rfl
 have hAg:∀i,i<N→A.getD i false=fu m g vars i:=by grind[rJ]
 have hB:=hA;have hBl:=hAl;have hBg:=hAg;have kV:=Kp.mk hVi;have kA:=Kp.mk hAg;have kB:=Kp.mk hBg;clear hVi hAg hBg hV hp hn hW'
 repeat'(first|refine ru hm kT.out 96000 qWs sQ ?_|apply au|apply rx hga|apply rx hgb|refine rq ?_|simp only[go_sem,hk,hb,hs,me,hA,hB,aC,hN,nT,qt,←hP0,sQ,bt,bn,bZ,bh,Tryz.f96])
 refine cI hm kT.out 96000 qWs (ι:=eO N fun _=>True)
  ⟨fun q=>⟨frL [(2,eS vars),(3,.ptr (96003,0) 0),(4,.ptr (96004,1) 0),(8,.arr (96043,2) 1 0 N),(30,eS A),(31,eS A),(65,.arr (96043,2) 1 0 N),(66,eI N),(67,eI q.i)],hpL [((96003,0),some ⟨[eI s,eS m.consts,eS m.rels],true,false⟩),((96004,1),some ⟨(qcD f),true,false⟩),((96043,2),some ⟨bA ((eV V N q.i).map enc),false,false⟩)],3⟩,fun q=>N-q.i⟩
  ⟨0,ae,trivial⟩ ah ?_ ?_
 ·refine bF ?_ ?_ ?_<;>simp only[go_sem,hk,hb,hs]
  all_goals first|rfl|omega
 rintro⟨i,hi,_⟩
 try simp only at hi
 rcases aA i N with h1|h1
 ·have hset:∀v,V i=v→(bA ((eV V N i).map enc)).set i (.fz (.b v))=bA ((eV V N (i+1)).map enc):=fun v hv=>by rw[←rF h1,←jI,hv];rfl
  have hv:=kV.out i;have ha:=kA.out i h1;have hbb:=kB.out i h1;have ha2:=qq (l:=A) (i:=i) ae;have hb2:=qq (l:=A) (i:=i) ae;rw[ha]at ha2;rw[hbb]at hb2;obtain⟨a,hae⟩:∃a,fu m g vars i=a:=⟨_,rfl⟩;rw[hae]at ha2 hv;rw[hae]at hb2;cases a
  all_goals
   have hset:=hset _ hv;simp only[lQ,jY,cZ,dU,fY,da]at hset
   repeat'(first|refine rx (by rw[ha2];rfl) ?_|refine rx (by rw[hb2];rfl) ?_|refine rq ?_|simp only[go_sem,h1,hpl,hk,hAl,hBl,ha2,hb2,Tryz.f96])
   refine⟨⟨i+1,ae,trivial⟩,af,?_⟩;refine bF ?_ ?_ ?_<;>simp only[go_sem,hset,hk,hb,hs]
   all_goals first|rfl|omega
 obtain rfl:i=N:=ae
 repeat'(first|refine rq ?_|simp only[go_sem,aC,hpl,Tryz.f96])
 exact⟨(96043,2),ae,rfl,qQi⟩
set_option maxHeartbeats 4000000 in
theorem Vt {n:Nat}(hT:b9 Tryz.prog G (E3.add 96 (sp3 fJ fun m f vs=>f.size<n∧jE m f vs))){m:dd}{f:Abs.aH}{vars:List Str}(hn:f.size=n)(hp:jE m f vars)(hk:f.kind=5):cS Tryz.prog G 96 [.fz (enc m),.fz (enc f),.fz (enc vars)] (hpL []) 0 (fun d _ _=>D.val d=some (.fz (enc (fJ m f vars)))):=by
 have hlen:=(fU.1 hp.vk).2.2.2.2.2.1 ae;obtain⟨g,h,hb⟩:=xA hlen;have hq:¬isQ f.kind:=by rw[hk];unfold isQ;omega
 have hga:=tB hp hq (g:=g) ap;rw[hn]at hga;have hgb:=tB hp hq (g:=h) ap;rw[hn]at hgb;obtain⟨V,hV⟩:∃V:Nat→Bool,V=fu m f vars:=⟨_,rfl⟩;obtain⟨s,hs⟩:∃s:Nat,m.size=(s:Int):=⟨m.size.toNat,qQm⟩;have me:dd.mk (s:Int) m.consts m.rels=m:=by rw[←hs]
 have hs1:1≤s:=by have:=hp.gd.v.s1;omega
 have hs6:s≤6:=by have:=hp.gd.v.s6;omega
 have hvl:vars.length≤6:=by have:=hp.nl;omega
 obtain⟨W,hW⟩:∃W:Nat→Nat,W=fun i=>s^i:=⟨_,rfl⟩;have hW':=hW;have hW0:W 0=1:=by rw[hW];rfl
 have hWs:∀i,(W i:Int)*(s:Int)=(W (i+1):Int):=by simp_all[cF]
 have hWl:∀i,i≤6→W i≤46656:=fun i h=>by rw[hW];exact bz (cr hs6 i) ap
 obtain⟨N,hN⟩:∃N,W vars.length=N:=⟨_,rfl⟩;have hNl:N≤46656:=by rw[←hN];exact hWl _ hvl
 have hT':fJ m f vars=(List.range N).map V:=by unfold fJ;rw[hV,←hN,hW,hs];rfl
 have hP0:=rn V N;rw[hT',←rE V N];refine rG ?_;have hpl:∀i,(eV V N i).length=N:=fun i=>pU V N i;have kT:=Kp.mk hT;have kW:=Kp.mk hWs;have kl:=Kp.mk hWl;clear hT hT' hW hWs hWl;refine rv (N:=345) hm kT.out 96000 qWs qi Tryz.func96 rfl ?_
 repeat'(first|refine rq ?_|simp only[go_sem,hs,Tryz.f96])
 refine cI hm kT.out 96000 qWs (ι:=eO vars.length fun _=>True)
  ⟨fun q=>⟨frL [(2,eS vars),(3,.ptr (96003,0) 0),(4,.ptr (96004,1) 0),(7,eI (W q.i:Nat)),(34,eI vars.length),(35,eI q.i)],hpL [((96003,0),some ⟨[eI s,eS m.consts,eS m.rels],true,false⟩),((96004,1),some ⟨(qcD f),true,false⟩)],2⟩,fun q=>vars.length-q.i⟩
  ⟨0,ae,trivial⟩ ah ?_ ?_
 ·refine bF ?_ ?_ ?_<;>simp only[go_sem,hW0,hs]
  all_goals first|rfl|omega
 rintro⟨i,hi,_⟩
 try simp only at hi
 rcases aA i vars.length with h1|h1
 ·have hws:=kW.out i;have hwl:=kl.out (i+1) ae
  repeat'(first|refine rq ?_|simp only[go_sem,h1,hws,Tryz.f96])
  refine⟨⟨i+1,ae,trivial⟩,af,?_⟩;refine bF ?_ ?_ ?_<;>simp only[go_sem,hws]
  all_goals first|rfl|omega
 obtain rfl:i=vars.length:=ae
 have hVi:∀i,V i=(fu m g vars i&&fu m h vars i):=fun i=>by rw[hV];obtain⟨a,b,c,d⟩:=f;simp_all[dS,iS,Rk]
 obtain⟨A,hA⟩:∃A,fJ m g vars=A:=⟨_,rfl⟩;have hAl:A.length=N:=by rw[←hA,rK];rw[←hN,hW',hs];rfl
 have hAg:∀i,i<N→A.getD i false=fu m g vars i:=by grind[rJ]
 obtain⟨B,hB⟩:∃B,fJ m h vars=B:=⟨_,rfl⟩;have hBl:B.length=N:=by rw[←hB,rK];rw[←hN,hW',hs];rfl
 have hBg:∀i,i<N→B.getD i false=fu m h vars i:=by grind[rJ]
 have kV:=Kp.mk hVi;have kA:=Kp.mk hAg;have kB:=Kp.mk hBg;clear hVi hAg hBg hV hp hn hW'
 repeat'(first|refine ru hm kT.out 96000 qWs sQ ?_|apply au|apply rx hga|apply rx hgb|refine rq ?_|simp only[go_sem,hk,hb,hs,me,hA,hB,aC,hN,nT,qt,←hP0,sQ,bt,bn,bZ,bh,Tryz.f96])
 refine cI hm kT.out 96000 qWs (ι:=eO N fun _=>True)
  ⟨fun q=>⟨frL [(2,eS vars),(3,.ptr (96003,0) 0),(4,.ptr (96004,1) 0),(8,.arr (96043,2) 1 0 N),(30,eS A),(31,eS B),(65,.arr (96043,2) 1 0 N),(66,eI N),(67,eI q.i)],hpL [((96003,0),some ⟨[eI s,eS m.consts,eS m.rels],true,false⟩),((96004,1),some ⟨(qcD f),true,false⟩),((96043,2),some ⟨bA ((eV V N q.i).map enc),false,false⟩)],3⟩,fun q=>N-q.i⟩
  ⟨0,ae,trivial⟩ ah ?_ ?_
 ·refine bF ?_ ?_ ?_<;>simp only[go_sem,hk,hb,hs]
  all_goals first|rfl|omega
 rintro⟨i,hi,_⟩
 try simp only at hi
 rcases aA i N with h1|h1
 ·have hset:∀v,V i=v→(bA ((eV V N i).map enc)).set i (.fz (.b v))=bA ((eV V N (i+1)).map enc):=fun v hv=>by rw[←rF h1,←jI,hv];rfl
  have hv:=kV.out i;have ha:=kA.out i h1;have hbb:=kB.out i h1;have ha2:=qq (l:=A) (i:=i) ae;have hb2:=qq (l:=B) (i:=i) ae;rw[ha]at ha2;rw[hbb]at hb2;obtain⟨a,hae⟩:∃a,fu m g vars i=a:=⟨_,rfl⟩;rw[hae]at ha2 hv;obtain⟨b,hbe⟩:∃b,fu m h vars i=b:=⟨_,rfl⟩;rw[hbe]at hb2 hv;cases a<;>cases b
  all_goals
   have hset:=hset _ hv;simp only[lQ,jY,cZ,dU,fY,da]at hset
   repeat'(first|refine rx (by rw[ha2];rfl) ?_|refine rx (by rw[hb2];rfl) ?_|refine rq ?_|simp only[go_sem,h1,hpl,hk,hAl,hBl,ha2,hb2,Tryz.f96])
   refine⟨⟨i+1,ae,trivial⟩,af,?_⟩;refine bF ?_ ?_ ?_<;>simp only[go_sem,hset,hk,hb,hs]
   all_goals first|rfl|omega
 obtain rfl:i=N:=ae
 repeat'(first|refine rq ?_|simp only[go_sem,aC,hpl,Tryz.f96])
 exact⟨(96043,2),ae,rfl,qQi⟩
set_option maxHeartbeats 4000000 in
theorem Vu {n:Nat}(hT:b9 Tryz.prog G (E3.add 96 (sp3 fJ fun m f vs=>f.size<n∧jE m f vs))){m:dd}{f:Abs.aH}{vars:List Str}(hn:f.size=n)(hp:jE m f vars)(hk:f.kind=6):cS Tryz.prog G 96 [.fz (enc m),.fz (enc f),.fz (enc vars)] (hpL []) 0 (fun d _ _=>D.val d=some (.fz (enc (fJ m f vars)))):=by
 have hlen:=(fU.1 hp.vk).2.2.2.2.2.1 ae;obtain⟨g,h,hb⟩:=xA hlen;have hq:¬isQ f.kind:=by rw[hk];unfold isQ;omega
 have hga:=tB hp hq (g:=g) ap;rw[hn]at hga;have hgb:=tB hp hq (g:=h) ap;rw[hn]at hgb;obtain⟨V,hV⟩:∃V:Nat→Bool,V=fu m f vars:=⟨_,rfl⟩;obtain⟨s,hs⟩:∃s:Nat,m.size=(s:Int):=⟨m.size.toNat,qQm⟩;have me:dd.mk (s:Int) m.consts m.rels=m:=by rw[←hs]
 have hs1:1≤s:=by have:=hp.gd.v.s1;omega
 have hs6:s≤6:=by have:=hp.gd.v.s6;omega
 have hvl:vars.length≤6:=by have:=hp.nl;omega
 obtain⟨W,hW⟩:∃W:Nat→Nat,W=fun i=>s^i:=⟨_,rfl⟩;have hW':=hW;have hW0:W 0=1:=by rw[hW];rfl
 have hWs:∀i,(W i:Int)*(s:Int)=(W (i+1):Int):=by simp_all[cF]
 have hWl:∀i,i≤6→W i≤46656:=fun i h=>by rw[hW];exact bz (cr hs6 i) ap
 obtain⟨N,hN⟩:∃N,W vars.length=N:=⟨_,rfl⟩;have hNl:N≤46656:=by rw[←hN];exact hWl _ hvl
 have hT':fJ m f vars=(List.range N).map V:=by unfold fJ;rw[hV,←hN,hW,hs];rfl
 have hP0:=rn V N;rw[hT',←rE V N];refine rG ?_;have hpl:∀i,(eV V N i).length=N:=fun i=>pU V N i;have kT:=Kp.mk hT;have kW:=Kp.mk hWs;have kl:=Kp.mk hWl;clear hT hT' hW hWs hWl;refine rv (N:=345) hm kT.out 96000 qWs qi Tryz.func96 rfl ?_
 repeat'(first|refine rq ?_|simp only[go_sem,hs,Tryz.f96])
 refine cI hm kT.out 96000 qWs (ι:=eO vars.length fun _=>True)
  ⟨fun q=>⟨frL [(2,eS vars),(3,.ptr (96003,0) 0),(4,.ptr (96004,1) 0),(7,eI (W q.i:Nat)),(34,eI vars.length),(35,eI q.i)],hpL [((96003,0),some ⟨[eI s,eS m.consts,eS m.rels],true,false⟩),((96004,1),some ⟨(qcD f),true,false⟩)],2⟩,fun q=>vars.length-q.i⟩
  ⟨0,ae,trivial⟩ ah ?_ ?_
 ·refine bF ?_ ?_ ?_<;>simp only[go_sem,hW0,hs]
  all_goals first|rfl|omega
 rintro⟨i,hi,_⟩
 try simp only at hi
 rcases aA i vars.length with h1|h1
 ·have hws:=kW.out i;have hwl:=kl.out (i+1) ae
  repeat'(first|refine rq ?_|simp only[go_sem,h1,hws,Tryz.f96])
  refine⟨⟨i+1,ae,trivial⟩,af,?_⟩;refine bF ?_ ?_ ?_<;>simp only[go_sem,hws]
  all_goals first|rfl|omega
 obtain rfl:i=vars.length:=ae
 have hVi:∀i,V i=(fu m g vars i||fu m h vars i):=fun i=>by rw[hV];obtain⟨a,b,c,d⟩:=f;simp_all[dS,iS,S2]
 obtain⟨A,hA⟩:∃A,fJ m g vars=A:=⟨_,rfl⟩;have hAl:A.length=N:=by rw[←hA,rK];rw[←hN,hW',hs];rfl
 have hAg:∀i,i<N→A.getD i false=fu m g vars i:=by grind[rJ]
 obtain⟨B,hB⟩:∃B,fJ m h vars=B:=⟨_,rfl⟩;have hBl:B.length=N:=by rw[←hB,rK];rw[←hN,hW',hs];rfl
 have hBg:∀i,i<N→B.getD i false=fu m h vars i:=by grind[rJ]
 have kV:=Kp.mk hVi;have kA:=Kp.mk hAg;have kB:=Kp.mk hBg;clear hVi hAg hBg hV hp hn hW'
 repeat'(first|refine ru hm kT.out 96000 qWs sQ ?_|apply au|apply rx hga|apply rx hgb|refine rq ?_|simp only[go_sem,hk,hb,hs,me,hA,hB,aC,hN,nT,qt,←hP0,sQ,bt,bn,bZ,bh,Tryz.f96])
 refine cI hm kT.out 96000 qWs (ι:=eO N fun _=>True)
  ⟨fun q=>⟨frL [(2,eS vars),(3,.ptr (96003,0) 0),(4,.ptr (96004,1) 0),(8,.arr (96043,2) 1 0 N),(30,eS A),(31,eS B),(65,.arr (96043,2) 1 0 N),(66,eI N),(67,eI q.i)],hpL [((96003,0),some ⟨[eI s,eS m.consts,eS m.rels],true,false⟩),((96004,1),some ⟨(qcD f),true,false⟩),((96043,2),some ⟨bA ((eV V N q.i).map enc),false,false⟩)],3⟩,fun q=>N-q.i⟩
  ⟨0,ae,trivial⟩ ah ?_ ?_
 ·refine bF ?_ ?_ ?_<;>simp only[go_sem,hk,hb,hs]
  all_goals first|rfl|omega
 rintro⟨i,hi,_⟩
 try simp only at hi
 rcases aA i N with h1|h1
 ·have hset:∀v,V i=v→(bA ((eV V N i).map enc)).set i (.fz (.b v))=bA ((eV V N (i+1)).map enc):=fun v hv=>by rw[←rF h1,←jI,hv];rfl
  have hv:=kV.out i;have ha:=kA.out i h1;have hbb:=kB.out i h1;have ha2:=qq (l:=A) (i:=i) ae;have hb2:=qq (l:=B) (i:=i) ae;rw[ha]at ha2;rw[hbb]at hb2;obtain⟨a,hae⟩:∃a,fu m g vars i=a:=⟨_,rfl⟩;rw[hae]at ha2 hv;obtain⟨b,hbe⟩:∃b,fu m h vars i=b:=⟨_,rfl⟩;rw[hbe]at hb2 hv;cases a<;>cases b
  all_goals
   have hset:=hset _ hv;simp only[lQ,jY,cZ,dU,fY,da]at hset
   repeat'(first|refine rx (by rw[ha2];rfl) ?_|refine rx (by rw[hb2];rfl) ?_|refine rq ?_|simp only[go_sem,h1,hpl,hk,hAl,hBl,ha2,hb2,Tryz.f96])
   refine⟨⟨i+1,ae,trivial⟩,af,?_⟩;refine bF ?_ ?_ ?_<;>simp only[go_sem,hset,hk,hb,hs]
   all_goals first|rfl|omega
 obtain rfl:i=N:=ae
 repeat'(first|refine rq ?_|simp only[go_sem,aC,hpl,Tryz.f96])
 exact⟨(96043,2),ae,rfl,qQi⟩
set_option maxHeartbeats 4000000 in
theorem Vx {n:Nat}(hT:b9 Tryz.prog G (E3.add 96 (sp3 fJ fun m f vs=>f.size<n∧jE m f vs))){m:dd}{f:Abs.aH}{vars:List Str}(hn:f.size=n)(hp:jE m f vars)(hk:f.kind=7):cS Tryz.prog G 96 [.fz (enc m),.fz (enc f),.fz (enc vars)] (hpL []) 0 (fun d _ _=>D.val d=some (.fz (enc (fJ m f vars)))):=by
 have hlen:=(fU.1 hp.vk).2.2.2.2.2.1 ae;obtain⟨g,h,hb⟩:=xA hlen;have hq:¬isQ f.kind:=by rw[hk];unfold isQ;omega
 have hga:=tB hp hq (g:=g) ap;rw[hn]at hga;have hgb:=tB hp hq (g:=h) ap;rw[hn]at hgb;obtain⟨V,hV⟩:∃V:Nat→Bool,V=fu m f vars:=⟨_,rfl⟩;obtain⟨s,hs⟩:∃s:Nat,m.size=(s:Int):=⟨m.size.toNat,qQm⟩;have me:dd.mk (s:Int) m.consts m.rels=m:=by rw[←hs]
 have hs1:1≤s:=by have:=hp.gd.v.s1;omega
 have hs6:s≤6:=by have:=hp.gd.v.s6;omega
 have hvl:vars.length≤6:=by have:=hp.nl;omega
 obtain⟨W,hW⟩:∃W:Nat→Nat,W=fun i=>s^i:=⟨_,rfl⟩;have hW':=hW;have hW0:W 0=1:=by rw[hW];rfl
 have hWs:∀i,(W i:Int)*(s:Int)=(W (i+1):Int):=by simp_all[cF]
 have hWl:∀i,i≤6→W i≤46656:=fun i h=>by rw[hW];exact bz (cr hs6 i) ap
 obtain⟨N,hN⟩:∃N,W vars.length=N:=⟨_,rfl⟩;have hNl:N≤46656:=by rw[←hN];exact hWl _ hvl
 have hT':fJ m f vars=(List.range N).map V:=by unfold fJ;rw[hV,←hN,hW,hs];rfl
 have hP0:=rn V N;rw[hT',←rE V N];refine rG ?_;have hpl:∀i,(eV V N i).length=N:=fun i=>pU V N i;have kT:=Kp.mk hT;have kW:=Kp.mk hWs;have kl:=Kp.mk hWl;clear hT hT' hW hWs hWl;refine rv (N:=345) hm kT.out 96000 qWs qi Tryz.func96 rfl ?_
 repeat'(first|refine rq ?_|simp only[go_sem,hs,Tryz.f96])
 refine cI hm kT.out 96000 qWs (ι:=eO vars.length fun _=>True)
  ⟨fun q=>⟨frL [(2,eS vars),(3,.ptr (96003,0) 0),(4,.ptr (96004,1) 0),(7,eI (W q.i:Nat)),(34,eI vars.length),(35,eI q.i)],hpL [((96003,0),some ⟨[eI s,eS m.consts,eS m.rels],true,false⟩),((96004,1),some ⟨(qcD f),true,false⟩)],2⟩,fun q=>vars.length-q.i⟩
  ⟨0,ae,trivial⟩ ah ?_ ?_
 ·refine bF ?_ ?_ ?_<;>simp only[go_sem,hW0,hs]
  all_goals first|rfl|omega
 rintro⟨i,hi,_⟩
 try simp only at hi
 rcases aA i vars.length with h1|h1
 ·have hws:=kW.out i;have hwl:=kl.out (i+1) ae
  repeat'(first|refine rq ?_|simp only[go_sem,h1,hws,Tryz.f96])
  refine⟨⟨i+1,ae,trivial⟩,af,?_⟩;refine bF ?_ ?_ ?_<;>simp only[go_sem,hws]
  all_goals first|rfl|omega
 obtain rfl:i=vars.length:=ae
 have hVi:∀i,V i=(!fu m g vars i||fu m h vars i):=fun i=>by rw[hV];obtain⟨a,b,c,d⟩:=f;simp_all[dS,iS,Rm]
 obtain⟨A,hA⟩:∃A,fJ m g vars=A:=⟨_,rfl⟩;have hAl:A.length=N:=by rw[←hA,rK];rw[←hN,hW',hs];rfl
 have hAg:∀i,i<N→A.getD i false=fu m g vars i:=by grind[rJ]
 obtain⟨B,hB⟩:∃B,fJ m h vars=B:=⟨_,rfl⟩;have hBl:B.length=N:=by rw[←hB,rK];rw[←hN,hW',hs];rfl
 have hBg:∀i,i<N→B.getD i false=fu m h vars i:=by grind[rJ]
 have kV:=Kp.mk hVi;have kA:=Kp.mk hAg;have kB:=Kp.mk hBg;clear hVi hAg hBg hV hp hn hW'
 repeat'(first|refine ru hm kT.out 96000 qWs sQ ?_|apply au|apply rx hga|apply rx hgb|refine rq ?_|simp only[go_sem,hk,hb,hs,me,hA,hB,aC,hN,nT,qt,←hP0,sQ,bt,bn,bZ,bh,Tryz.f96])
 refine cI hm kT.out 96000 qWs (ι:=eO N fun _=>True)
  ⟨fun q=>⟨frL [(2,eS vars),(3,.ptr (96003,0) 0),(4,.ptr (96004,1) 0),(8,.arr (96043,2) 1 0 N),(30,eS A),(31,eS B),(65,.arr (96043,2) 1 0 N),(66,eI N),(67,eI q.i)],hpL [((96003,0),some ⟨[eI s,eS m.consts,eS m.rels],true,false⟩),((96004,1),some ⟨(qcD f),true,false⟩),((96043,2),some ⟨bA ((eV V N q.i).map enc),false,false⟩)],3⟩,fun q=>N-q.i⟩
  ⟨0,ae,trivial⟩ ah ?_ ?_
 ·refine bF ?_ ?_ ?_<;>simp only[go_sem,hk,hb,hs]
  all_goals first|rfl|omega
 rintro⟨i,hi,_⟩
 try simp only at hi
 rcases aA i N with h1|h1
 ·have hset:∀v,V i=v→(bA ((eV V N i).map enc)).set i (.fz (.b v))=bA ((eV V N (i+1)).map enc):=fun v hv=>by rw[←rF h1,←jI,hv];rfl
  have hv:=kV.out i;have ha:=kA.out i h1;have hbb:=kB.out i h1;have ha2:=qq (l:=A) (i:=i) ae;have hb2:=qq (l:=B) (i:=i) ae;rw[ha]at ha2;rw[hbb]at hb2;obtain⟨a,hae⟩:∃a,fu m g vars i=a:=⟨_,rfl⟩;rw[hae]at ha2 hv;obtain⟨b,hbe⟩:∃b,fu m h vars i=b:=⟨_,rfl⟩;rw[hbe]at hb2 hv;cases a<;>cases b
  all_goals
   have hset:=hset _ hv;simp only[lQ,jY,cZ,dU,fY,da]at hset
   repeat'(first|refine rx (by rw[ha2];rfl) ?_|refine rx (by rw[hb2];rfl) ?_|refine rq ?_|simp only[go_sem,h1,hpl,hk,hAl,hBl,ha2,hb2,Tryz.f96])
   refine⟨⟨i+1,ae,trivial⟩,af,?_⟩;refine bF ?_ ?_ ?_<;>simp only[go_sem,hset,hk,hb,hs]
   all_goals first|rfl|omega
 obtain rfl:i=N:=ae
 repeat'(first|refine rq ?_|simp only[go_sem,aC,hpl,Tryz.f96])
 exact⟨(96043,2),ae,rfl,qQi⟩
end
section
variable {G:Nat→List FD}
def Ae:Tv:=(.q 1 (.q 5 (.q 6 (.q 8 (.r 0 (.r 2 (.q 3 (.r 4 (.r 9 (.q 10 (.br [(7,(.br [(11,(.q 12 (.q 13 .leaf)))]))])))))))))))
set_option maxHeartbeats 4000000 in
theorem Vy {n:Nat}(hT:b9 Tryz.prog G (E3.add 96 (sp3 fJ fun m f vs=>f.size<n∧jE m f vs))){m:dd}{f:Abs.aH}{vars:List Str}(hn:f.size=n)(hp:jE m f vars)(hk:f.kind=8):cS Tryz.prog G 96 [.fz (enc m),.fz (enc f),.fz (enc vars)] (hpL []) 0 (fun d _ _=>D.val d=some (.fz (enc (fJ m f vars)))):=by
 have hlen:=(fU.1 hp.vk).2.2.2.2.1 ae;obtain⟨g,hb⟩:=Ak hlen;have hga:=EX hp (by simp_all[isQ]) (g:=g) ap;rw[hn]at hga;obtain⟨V,hV⟩:∃V:Nat→Bool,V=fu m f vars:=⟨_,rfl⟩;obtain⟨s,hs⟩:∃s:Nat,m.size=(s:Int):=⟨m.size.toNat,qQm⟩;have me:dd.mk (s:Int) m.consts m.rels=m:=by rw[←hs]
 have hs1:1≤s:=by have:=hp.gd.v.s1;omega
 have hs6:s≤6:=by have:=hp.gd.v.s6;omega
 have hvl:vars.length≤6:=by have:=hp.nl;omega
 obtain⟨W,hW⟩:∃W:Nat→Nat,W=fun i=>s^i:=⟨_,rfl⟩;have hW':=hW;have hW0:W 0=1:=by rw[hW];rfl
 have hWs:∀i,(W i:Int)*(s:Int)=(W (i+1):Int):=by simp_all[cF]
 have hWl:∀i,i≤6→W i≤46656:=fun i h=>by rw[hW];exact bz (cr hs6 i) ap
 obtain⟨N,hN⟩:∃N,W vars.length=N:=⟨_,rfl⟩;have hNl:N≤46656:=by rw[←hN];exact hWl _ hvl
 have hT':fJ m f vars=(List.range N).map V:=by unfold fJ;rw[hV,←hN,hW,hs];rfl
 have hP0:=rn V N;rw[hT',←rE V N];refine rG ?_;have hpl:∀i,(eV V N i).length=N:=fun i=>pU V N i;have kT:=Kp.mk hT;have kW:=Kp.mk hWs;have kl:=Kp.mk hWl;clear hT hT' hW hWs hWl;refine rv (N:=345) hm kT.out 96000 qWx qi Tryz.func96 rfl ?_
 repeat'(first|refine rq ?_|simp only[go_sem,hs,Tryz.f96])
 refine fa (gr (id:=(96003,0)) (t:=3) (b:=true) (ys:=[.i .i64 s,.sl (m.consts.map enc),.sl (m.rels.map enc)]) qQi qQi) ?_;refine fa (gr (id:=(96004,1)) (t:=4) (b:=true) (ys:=[.i .i64 f.kind,.s f.name.l,.sl (f.words.map enc),.sl (f.subs.map enc)]) qQi aj) ?_
 refine cI hm kT.out 96000 qWx (ι:=eO vars.length fun _=>True)
  ⟨fun q=>⟨frL [(2,eS vars),(3,.rp [.i .i64 s,.sl (m.consts.map enc),.sl (m.rels.map enc)]),(4,.rp (qcF f)),(7,eI (W q.i:Nat)),(34,eI vars.length),(35,eI q.i)],hpL [],2⟩,fun q=>vars.length-q.i⟩
  ⟨0,ae,trivial⟩ ah ?_ ?_
 ·refine bF ?_ ?_ ?_<;>simp only[go_sem,hW0,hs]
  all_goals first|rfl|omega
 rintro⟨i,hi,_⟩
 try simp only at hi
 rcases aA i vars.length with h1|h1
 ·have hws:=kW.out i;have hwl:=kl.out (i+1) ae
  repeat'(first|refine rq ?_|simp only[go_sem,h1,hws,Tryz.f96])
  refine⟨⟨i+1,ae,trivial⟩,af,?_⟩;refine bF ?_ ?_ ?_<;>simp only[go_sem,hws]
  all_goals first|rfl|omega
 obtain rfl:i=vars.length:=ae
 obtain⟨R,hR⟩:∃R:Nat→Bool,R=fu m g (vars++[f.name]):=⟨_,rfl⟩;obtain⟨AA,hAA⟩:∃AA:Nat→Nat→Bool,AA=fun i d=>(List.range d).all fun e=>R (i*s+e):=⟨_,rfl⟩;have hA0:∀i,AA i 0=true:=ap
 have hAs:∀i d,AA i (d+1)=(AA i d&&R (i*s+d)):=ap
 obtain⟨SS,hSS⟩:∃SS:Nat→Nat→Bool,SS=fun i d=>(List.range d).any fun e=>R (i*s+e):=⟨_,rfl⟩;have hS0:∀i,SS i 0=false:=ap
 have hSs:∀i d,SS i (d+1)=(SS i d||R (i*s+d)):=by simp_all[fC]
 have hms:m.size.toNat=s:=by rw[hs];rfl
 have hVi:∀i,V i=AA i s:=fun i=>by rw[hV,hAA,hR];obtain⟨a,b,c,d⟩:=f;simp only[dS,iS]at hk hb;subst hk;subst hb;rw[RL,hms];rfl
 obtain⟨A,hA⟩:∃A,fJ m g (vars++[f.name])=A:=⟨_,rfl⟩;have hAl:A.length=N*s:=by rw[←hA,rK,hms,←hN,hW',aD,aN,bj,cF]
 have hAg:∀x,x<N*s→A.getD x false=R x:=fun x h=>by rw[←hA,hR];refine rJ ?_;simp_all[cF]
 have kV:=Kp.mk hVi;have kA:=Kp.mk hAg;have kA0:=Kp.mk hA0;have kAs:=Kp.mk hAs;have kS0:=Kp.mk hS0;have kSs:=Kp.mk hSs;clear hVi hAg hV hp hn hW' hA0 hAs hS0 hSs hAA hSS hR
 repeat'(first|refine ru hm kT.out 96000 qWx Ae ?_|apply au|refine rx (dZ qQb ai) ?_|apply rx hga|refine rq ?_|simp only[go_sem,hk,hb,hs,me,hA,aC,hN,nT,qt,←hP0,Ae,aK,bt,bn,bZ,bh,Tryz.f96])
 refine cI hm kT.out 96000 qWx (ι:=fW N 3 fun _=>True)
  ⟨fun q=>⟨frL [(2,eS vars),(3,.rp [.i .i64 s,.sl (m.consts.map enc),.sl (m.rels.map enc)]),(4,.rp (qcF f)),(8,.arr (96043,2) 1 0 N),(25,eS A),(291,.arr (96043,2) 1 0 N),(292,eI N),(293,eI q.i)],hpL [((96043,2),some ⟨bA ((eV V N q.i).map enc),false,false⟩)],q.m⟩,fun q=>N-q.i⟩
  ⟨0,12,ae,ae,trivial⟩ ah ?_ ?_
 ·refine bF ?_ ?_ ?_<;>simp only[go_sem,hk,hb,hs]
  all_goals first|rfl|omega
 rintro⟨i,n,hi,hn,_⟩
 try simp only at hi hn
 rcases aA i N with h1|h1;rotate_left
 ·obtain rfl:i=N:=ae
  repeat'(first|refine rq ?_|simp only[go_sem,aC,hpl,Tryz.f96])
  exact⟨(96043,2),ae,rfl,qQi⟩
 have hset:∀v,V i=v→(bA ((eV V N i).map enc)).set i (.fz (.b v))=bA ((eV V N (i+1)).map enc):=fun v hv=>by rw[←rF h1,←jI,hv];rfl
 have hv:=kV.out i;have a0:=kA0.out i;have s0:=kS0.out i
 repeat'(first|refine rq ?_|simp only[go_sem,h1,hs,hk,hb,Tryz.f96])
 refine cI hm kT.out 96000 qWx (ι:=fW s 3 fun _=>True)
  ⟨fun q=>⟨frL [(2,eS vars),(3,.rp [.i .i64 s,.sl (m.consts.map enc),.sl (m.rels.map enc)]),(4,.rp (qcF f)),(8,.arr (96043,2) 1 0 N),(25,eS A),(26,eI i),(27,.fz (.b (AA i q.i))),(28,.fz (.b (SS i q.i))),(29,eI q.i),(291,.arr (96043,2) 1 0 N),(292,eI N),(293,eI i)],hpL [((96043,2),some ⟨bA ((eV V N i).map enc),false,false⟩)],q.m⟩,fun q=>s-q.i⟩
  ⟨0,n,ae,ae,trivial⟩ ah ?_ ?_
 ·refine bF ?_ ?_ ?_<;>simp only[go_sem,hk,hb,hs,a0,s0]
  all_goals first|rfl|omega
 rintro⟨d,n2,hd,hn2,_⟩
 try simp only at hd hn2
 rcases aA d s with h2|h2
 ·have aas:=kAs.out i d;have ss:=kSs.out i d;obtain⟨y,hy⟩:∃y,i*s=y:=⟨_,rfl⟩;have hyl:y+s≤N*s:=by rw[←hy];have:=bW s (show i+1≤N by omega);rw[ci,jZ]at this;exact this
  have hNs:N*s≤279936:=bz (eN hNl hs6) ai;have hiy:(i:Int)*(s:Int)=(y:Int):=by rw[←hy];simp
  rw[hy]at aas ss;obtain⟨x,hx⟩:∃x,y+d=x:=⟨_,rfl⟩;have hix:(y:Int)+(d:Int)=(x:Int):=ae
  have hxl:x<A.length:=ae
  have hxg:=kA.out x ae;have hgd:=qq hxl;rw[hxg]at hgd;rw[hx]at aas ss;obtain⟨r,hr⟩:∃r,R x=r:=⟨_,rfl⟩;rw[hr]at aas ss hgd;obtain⟨P,hP⟩:∃P,AA i d=P:=⟨_,rfl⟩;obtain⟨Q,hQ⟩:∃Q,SS i d=Q:=⟨_,rfl⟩;rw[hP]at aas;rw[hQ]at ss;cases P<;>cases Q<;>cases r
  all_goals
   simp only[iR,eK,cZ,dU,Bool.or_true,gB,fY,da]at aas ss
   repeat'(first|refine rx (by rw[hgd];rfl) ?_|refine rq ?_|simp only[go_sem,h2,hs,hP,hQ,hiy,hix,hgd,hxl,Tryz.f96])
   refine⟨⟨d+1,n2,ae,ae,trivial⟩,af,?_⟩;refine bF ?_ ?_ ?_<;>simp only[go_sem,aas,ss,hk,hb,hs]
   all_goals first|rfl|omega
 obtain rfl:d=s:=ae
 obtain⟨P,hP⟩:∃P,AA i d=P:=⟨_,rfl⟩;obtain⟨Q,hQ⟩:∃Q,SS i d=Q:=⟨_,rfl⟩;rw[hP]at hv;have hset:=hset _ hv;cases P<;>cases Q
 all_goals
  repeat'(first|refine rq ?_|simp only[go_sem,aC,hpl,hs,hk,hP,hQ,h1,Tryz.f96])
  refine⟨⟨i+1,n2,ae,ae,trivial⟩,af,?_⟩;refine bF ?_ ?_ ?_<;>simp only[go_sem,hset,hk,hb,hs]
  all_goals first|rfl|omega
set_option maxHeartbeats 4000000 in
theorem Vz {n:Nat}(hT:b9 Tryz.prog G (E3.add 96 (sp3 fJ fun m f vs=>f.size<n∧jE m f vs))){m:dd}{f:Abs.aH}{vars:List Str}(hn:f.size=n)(hp:jE m f vars)(hk:f.kind=9):cS Tryz.prog G 96 [.fz (enc m),.fz (enc f),.fz (enc vars)] (hpL []) 0 (fun d _ _=>D.val d=some (.fz (enc (fJ m f vars)))):=by
 have hlen:=(fU.1 hp.vk).2.2.2.2.1 ae;obtain⟨g,hb⟩:=Ak hlen;have hga:=EX hp (by simp_all[isQ]) (g:=g) ap;rw[hn]at hga;obtain⟨V,hV⟩:∃V:Nat→Bool,V=fu m f vars:=⟨_,rfl⟩;obtain⟨s,hs⟩:∃s:Nat,m.size=(s:Int):=⟨m.size.toNat,qQm⟩;have me:dd.mk (s:Int) m.consts m.rels=m:=by rw[←hs]
 have hs1:1≤s:=by have:=hp.gd.v.s1;omega
 have hs6:s≤6:=by have:=hp.gd.v.s6;omega
 have hvl:vars.length≤6:=by have:=hp.nl;omega
 obtain⟨W,hW⟩:∃W:Nat→Nat,W=fun i=>s^i:=⟨_,rfl⟩;have hW':=hW;have hW0:W 0=1:=by rw[hW];rfl
 have hWs:∀i,(W i:Int)*(s:Int)=(W (i+1):Int):=by simp_all[cF]
 have hWl:∀i,i≤6→W i≤46656:=fun i h=>by rw[hW];exact bz (cr hs6 i) ap
 obtain⟨N,hN⟩:∃N,W vars.length=N:=⟨_,rfl⟩;have hNl:N≤46656:=by rw[←hN];exact hWl _ hvl
 have hT':fJ m f vars=(List.range N).map V:=by unfold fJ;rw[hV,←hN,hW,hs];rfl
 have hP0:=rn V N;rw[hT',←rE V N];refine rG ?_;have hpl:∀i,(eV V N i).length=N:=fun i=>pU V N i;have kT:=Kp.mk hT;have kW:=Kp.mk hWs;have kl:=Kp.mk hWl;clear hT hT' hW hWs hWl;refine rv (N:=345) hm kT.out 96000 qWx qi Tryz.func96 rfl ?_
 repeat'(first|refine rq ?_|simp only[go_sem,hs,Tryz.f96])
 refine fa (gr (id:=(96003,0)) (t:=3) (b:=true) (ys:=[.i .i64 s,.sl (m.consts.map enc),.sl (m.rels.map enc)]) qQi qQi) ?_;refine fa (gr (id:=(96004,1)) (t:=4) (b:=true) (ys:=[.i .i64 f.kind,.s f.name.l,.sl (f.words.map enc),.sl (f.subs.map enc)]) qQi aj) ?_
 refine cI hm kT.out 96000 qWx (ι:=eO vars.length fun _=>True)
  ⟨fun q=>⟨frL [(2,eS vars),(3,.rp [.i .i64 s,.sl (m.consts.map enc),.sl (m.rels.map enc)]),(4,.rp (qcF f)),(7,eI (W q.i:Nat)),(34,eI vars.length),(35,eI q.i)],hpL [],2⟩,fun q=>vars.length-q.i⟩
  ⟨0,ae,trivial⟩ ah ?_ ?_
 ·refine bF ?_ ?_ ?_<;>simp only[go_sem,hW0,hs]
  all_goals first|rfl|omega
 rintro⟨i,hi,_⟩
 try simp only at hi
 rcases aA i vars.length with h1|h1
 ·have hws:=kW.out i;have hwl:=kl.out (i+1) ae
  repeat'(first|refine rq ?_|simp only[go_sem,h1,hws,Tryz.f96])
  refine⟨⟨i+1,ae,trivial⟩,af,?_⟩;refine bF ?_ ?_ ?_<;>simp only[go_sem,hws]
  all_goals first|rfl|omega
 obtain rfl:i=vars.length:=ae
 obtain⟨R,hR⟩:∃R:Nat→Bool,R=fu m g (vars++[f.name]):=⟨_,rfl⟩;obtain⟨AA,hAA⟩:∃AA:Nat→Nat→Bool,AA=fun i d=>(List.range d).all fun e=>R (i*s+e):=⟨_,rfl⟩;have hA0:∀i,AA i 0=true:=ap
 have hAs:∀i d,AA i (d+1)=(AA i d&&R (i*s+d)):=ap
 obtain⟨SS,hSS⟩:∃SS:Nat→Nat→Bool,SS=fun i d=>(List.range d).any fun e=>R (i*s+e):=⟨_,rfl⟩;have hS0:∀i,SS i 0=false:=ap
 have hSs:∀i d,SS i (d+1)=(SS i d||R (i*s+d)):=by simp_all[fC]
 have hms:m.size.toNat=s:=by rw[hs];rfl
 have hVi:∀i,V i=SS i s:=fun i=>by rw[hV,hSS,hR];obtain⟨a,b,c,d⟩:=f;simp only[dS,iS]at hk hb;subst hk;subst hb;rw[Rl,hms];rfl
 obtain⟨A,hA⟩:∃A,fJ m g (vars++[f.name])=A:=⟨_,rfl⟩;have hAl:A.length=N*s:=by rw[←hA,rK,hms,←hN,hW',aD,aN,bj,cF]
 have hAg:∀x,x<N*s→A.getD x false=R x:=fun x h=>by rw[←hA,hR];refine rJ ?_;simp_all[cF]
 have kV:=Kp.mk hVi;have kA:=Kp.mk hAg;have kA0:=Kp.mk hA0;have kAs:=Kp.mk hAs;have kS0:=Kp.mk hS0;have kSs:=Kp.mk hSs;clear hVi hAg hV hp hn hW' hA0 hAs hS0 hSs hAA hSS hR
 repeat'(first|refine ru hm kT.out 96000 qWx Ae ?_|apply au|refine rx (dZ qQb ai) ?_|apply rx hga|refine rq ?_|simp only[go_sem,hk,hb,hs,me,hA,aC,hN,nT,qt,←hP0,Ae,aK,bt,bn,bZ,bh,Tryz.f96])
 refine cI hm kT.out 96000 qWx (ι:=fW N 3 fun _=>True)
  ⟨fun q=>⟨frL [(2,eS vars),(3,.rp [.i .i64 s,.sl (m.consts.map enc),.sl (m.rels.map enc)]),(4,.rp (qcF f)),(8,.arr (96043,2) 1 0 N),(25,eS A),(291,.arr (96043,2) 1 0 N),(292,eI N),(293,eI q.i)],hpL [((96043,2),some ⟨bA ((eV V N q.i).map enc),false,false⟩)],q.m⟩,fun q=>N-q.i⟩
  ⟨0,12,ae,ae,trivial⟩ ah ?_ ?_
 ·refine bF ?_ ?_ ?_<;>simp only[go_sem,hk,hb,hs]
  all_goals first|rfl|omega
 rintro⟨i,n,hi,hn,_⟩
 try simp only at hi hn
 rcases aA i N with h1|h1;rotate_left
 ·obtain rfl:i=N:=ae
  repeat'(first|refine rq ?_|simp only[go_sem,aC,hpl,Tryz.f96])
  exact⟨(96043,2),ae,rfl,qQi⟩
 have hset:∀v,V i=v→(bA ((eV V N i).map enc)).set i (.fz (.b v))=bA ((eV V N (i+1)).map enc):=fun v hv=>by rw[←rF h1,←jI,hv];rfl
 have hv:=kV.out i;have a0:=kA0.out i;have s0:=kS0.out i
 repeat'(first|refine rq ?_|simp only[go_sem,h1,hs,hk,hb,Tryz.f96])
 refine cI hm kT.out 96000 qWx (ι:=fW s 3 fun _=>True)
  ⟨fun q=>⟨frL [(2,eS vars),(3,.rp [.i .i64 s,.sl (m.consts.map enc),.sl (m.rels.map enc)]),(4,.rp (qcF f)),(8,.arr (96043,2) 1 0 N),(25,eS A),(26,eI i),(27,.fz (.b (AA i q.i))),(28,.fz (.b (SS i q.i))),(29,eI q.i),(291,.arr (96043,2) 1 0 N),(292,eI N),(293,eI i)],hpL [((96043,2),some ⟨bA ((eV V N i).map enc),false,false⟩)],q.m⟩,fun q=>s-q.i⟩
  ⟨0,n,ae,ae,trivial⟩ ah ?_ ?_
 ·refine bF ?_ ?_ ?_<;>simp only[go_sem,hk,hb,hs,a0,s0]
  all_goals first|rfl|omega
 rintro⟨d,n2,hd,hn2,_⟩
 try simp only at hd hn2
 rcases aA d s with h2|h2
 ·have aas:=kAs.out i d;have ss:=kSs.out i d;obtain⟨y,hy⟩:∃y,i*s=y:=⟨_,rfl⟩;have hyl:y+s≤N*s:=by rw[←hy];have:=bW s (show i+1≤N by omega);rw[ci,jZ]at this;exact this
  have hNs:N*s≤279936:=bz (eN hNl hs6) ai;have hiy:(i:Int)*(s:Int)=(y:Int):=by rw[←hy];simp
  rw[hy]at aas ss;obtain⟨x,hx⟩:∃x,y+d=x:=⟨_,rfl⟩;have hix:(y:Int)+(d:Int)=(x:Int):=ae
  have hxl:x<A.length:=ae
  have hxg:=kA.out x ae;have hgd:=qq hxl;rw[hxg]at hgd;rw[hx]at aas ss;obtain⟨r,hr⟩:∃r,R x=r:=⟨_,rfl⟩;rw[hr]at aas ss hgd;obtain⟨P,hP⟩:∃P,AA i d=P:=⟨_,rfl⟩;obtain⟨Q,hQ⟩:∃Q,SS i d=Q:=⟨_,rfl⟩;rw[hP]at aas;rw[hQ]at ss;cases P<;>cases Q<;>cases r
  all_goals
   simp only[iR,eK,cZ,dU,Bool.or_true,gB,fY,da]at aas ss
   repeat'(first|refine rx (by rw[hgd];rfl) ?_|refine rq ?_|simp only[go_sem,h2,hs,hP,hQ,hiy,hix,hgd,hxl,Tryz.f96])
   refine⟨⟨d+1,n2,ae,ae,trivial⟩,af,?_⟩;refine bF ?_ ?_ ?_<;>simp only[go_sem,aas,ss,hk,hb,hs]
   all_goals first|rfl|omega
 obtain rfl:d=s:=ae
 obtain⟨P,hP⟩:∃P,AA i d=P:=⟨_,rfl⟩;obtain⟨Q,hQ⟩:∃Q,SS i d=Q:=⟨_,rfl⟩;rw[hQ]at hv;have hset:=hset _ hv;cases P<;>cases Q
 all_goals
  repeat'(first|refine rq ?_|simp only[go_sem,aC,hpl,hs,hk,hP,hQ,h1,Tryz.f96])
  refine⟨⟨i+1,n2,ae,ae,trivial⟩,af,?_⟩;refine bF ?_ ?_ ?_<;>simp only[go_sem,hset,hk,hb,hs]
  all_goals first|rfl|omega
end
section
variable {G:Nat→List FD}
def Ad:Tv:=(.q 0 (.q 1 (.q 2 (.q 3 (.q 4 (.q 5 (.q 6 (.q 7 (.q 8 .leaf)))))))))
def Ac:Tv:=(.q 0 (.q 1 (.q 2 (.q 3 (.q 4 (.q 5 (.q 6 (.q 7 (.q 8 (.q 9 (.br [(10,.leaf)])))))))))))
set_option maxHeartbeats 4000000 in
theorem Vr {n:Nat}(hT:b9 Tryz.prog G (E3.add 96 (sp3 fJ fun m f vs=>f.size<n∧jE m f vs))){m:dd}{f:Abs.aH}{vars:List Str}(hn:f.size=n)(hp:jE m f vars)(hk:f.kind=3):cS Tryz.prog G 96 [.fz (enc m),.fz (enc f),.fz (enc vars)] (hpL []) 0 (fun d _ _=>D.val d=some (.fz (enc (fJ m f vars)))):=by
 have hwl:f.words.length≤3:=by have h:=fU.1 hp.vk;have:=h.2.2.2.1 hk;omega
 have hwl2:f.words.length=2:=(fU.1 hp.vk).2.2.2.1 hk;have hcs:=hp.cs;have hcv:=hp.gd.cv;have hlc:=hp.gd.v.lc;obtain⟨V,hV⟩:∃V:Nat→Bool,V=fu m f vars:=⟨_,rfl⟩;obtain⟨s,hs⟩:∃s:Nat,m.size=(s:Int):=⟨m.size.toNat,qQm⟩;have me:dd.mk (s:Int) m.consts m.rels=m:=by rw[←hs]
 have hs1:1≤s:=by have:=hp.gd.v.s1;omega
 have hs6:s≤6:=by have:=hp.gd.v.s6;omega
 have hvl:vars.length≤6:=by have:=hp.nl;omega
 obtain⟨W,hW⟩:∃W:Nat→Nat,W=fun i=>s^i:=⟨_,rfl⟩;have hW0:W 0=1:=by rw[hW];rfl
 have hWs:∀i,(W i:Int)*(s:Int)=(W (i+1):Int):=by simp_all[cF]
 have hWl:∀i,i≤6→W i≤46656:=fun i h=>by rw[hW];exact bz (cr hs6 i) (dm ae h)
 obtain⟨N,hN⟩:∃N,W vars.length=N:=⟨_,rfl⟩;have hNl:N≤46656:=by rw[←hN];exact hWl _ hvl
 have hT':fJ m f vars=(List.range N).map V:=by unfold fJ;rw[hV,←hN,hW,hs];rfl
 have hP0:=rn V N;rw[hT',←rE V N];refine rG ?_;have hpl:∀i,(eV V N i).length=N:=fun i=>pU V N i;have kT:=Kp.mk hT;have kW:=Kp.mk hWs;have kl:=Kp.mk hWl;clear hT hT' hW hWs hWl;refine rv (N:=345) hm kT.out 96000 qWo qi Tryz.func96 rfl ?_
 repeat'(first|refine rq ?_|simp only[go_sem,hs,Tryz.f96])
 refine fa (gr (id:=(96003,0)) (t:=3) (b:=true) (ys:=[.i .i64 s,.sl (m.consts.map enc),.sl (m.rels.map enc)]) qQi qQi) ?_;refine fa (gr (id:=(96004,1)) (t:=4) (b:=true) (ys:=[.i .i64 f.kind,.s f.name.l,.sl (f.words.map enc),.sl (f.subs.map enc)]) qQi aj) ?_
 refine cI hm kT.out 96000 qWo (ι:=eO vars.length fun _=>True)
  ⟨fun q=>⟨frL [(2,eS vars),(3,.rp [.i .i64 s,.sl (m.consts.map enc),.sl (m.rels.map enc)]),(4,.rp (qcF f)),(7,eI (W q.i:Nat)),(34,eI vars.length),(35,eI q.i)],hpL [],2⟩,fun q=>vars.length-q.i⟩
  ⟨0,ae,trivial⟩ ah ?_ ?_
 ·refine bF ?_ ?_ ?_<;>simp only[go_sem,hW0,hs]
  all_goals first|rfl|omega
 rintro⟨i,hi,_⟩
 try simp only at hi
 rcases aA i vars.length with h1|h1
 ·have hws:=kW.out i;have hwl:=kl.out (i+1) ae
  repeat'(first|refine rq ?_|simp only[go_sem,h1,hws,Tryz.f96])
  refine⟨⟨i+1,ae,trivial⟩,af,?_⟩;refine bF ?_ ?_ ?_<;>simp only[go_sem,hws]
  all_goals first|rfl|omega
 obtain rfl:i=vars.length:=ae
 have hms:m.size.toNat=s:=by rw[hs];rfl
 obtain⟨Dg,hDg⟩:∃Dg:Nat→List Int,Dg=fun i=>fc s vars.length i:=⟨_,rfl⟩;have hDl:∀i,(Dg i).length=vars.length:=by simp_all[mR]
 have hDv:∀i,∀v∈Dg i,0≤v∧v<(s:Int):=fun i v hv=>by rw[hDg]at hv;exact sA ae _ _ v hv
 have hVL0:∀i,ja s i vars.length 0=List.replicate vars.length 0:=fun i=>wU s i _;have hVLe:∀i,ja s i vars.length vars.length=Dg i:=fun i=>by rw[vc,hDg]
 obtain⟨I,hI⟩:∃I:Nat→Int,I=fun j:Nat=>(vars.length:Int)-1-(j:Int):=⟨_,rfl⟩;have hI0:I 0=(vars.length:Int)-1:=by rw[hI];simp
 have hIs:∀j,I (j+1)=I j-1:=ap
 have hIe:I vars.length= -1:=by rw[hI];simp only;omega
 have hIj:∀j (_:j<vars.length),I j=((vars.length-1-j:Nat):Int):=ap
 have kI:=Kp.mk hIj;have kS:=Kp.mk hIs;have kD:=Kp.mk hDv;have kV0:=Kp.mk hVL0;have kVe:=Kp.mk hVLe;have rep_ints:∀n:Nat,List.replicate n (D.fz (.i .i64 0))=bA ((List.replicate n (0:Int)).map enc):=fun n=>by rw[ia];simp[zD]
 clear hI hIj hIs hDv hVL0 hVLe
 repeat'(first|refine rq ?_|simp only[go_sem,hk,hs,me,aC,hN,nT,qt,←hP0,bt,bn,bZ,bh,Tryz.f96])
 refine cI hm kT.out 96000 qWo (ι:=fW N 3 fun _=>True)
  ⟨fun q=>⟨frL [(2,eS vars),(3,.rp [.i .i64 s,.sl (m.consts.map enc),.sl (m.rels.map enc)]),(4,.rp (qcF f)),(8,.arr (96043,2) 1 0 N),(143,.arr (96043,2) 1 0 N),(144,eI N),(145,eI q.i)],hpL [((96043,2),some ⟨bA ((eV V N q.i).map enc),false,false⟩)],q.m⟩,fun q=>N-q.i⟩
  ⟨0,3,ae,ae,trivial⟩ ah ?_ ?_
 ·refine bF ?_ ?_ ?_<;>simp only[go_sem,hk,hs]
  all_goals first|rfl|omega
 rintro⟨i,n,hi,hn,_⟩
 try simp only at hi hn
 rcases aA i N with h1|h1;rotate_left
 ·obtain rfl:i=N:=ae
  repeat'(first|refine rq ?_|simp only[go_sem,aC,hpl,Tryz.f96])
  exact⟨(96043,2),ae,rfl,qQi⟩
 have v0:=kV0.out i;have ve:=kVe.out i
 repeat'(first|refine rq ?_|simp only[go_sem,h1,hs,hk,nT,rep_ints,←v0,hI0,Tryz.f96])
 refine cI hm kT.out 96000 qWo (ι:=fW vars.length (n+1) fun _=>True)
  ⟨fun q=>⟨frL [(2,eS vars),(3,.rp [.i .i64 s,.sl (m.consts.map enc),.sl (m.rels.map enc)]),(4,.rp (qcF f)),(8,.arr (96043,2) 1 0 N),(10,eI i),(143,.arr (96043,2) 1 0 N),(144,eI N),(145,eI i),(11,.arr (96150,n) 1 0 vars.length),(12,eI (I q.i)),(13,eI (iw s i q.i:Nat))],hpL [((96043,2),some ⟨bA ((eV V N i).map enc),false,false⟩),((96150,n),some ⟨bA ((ja s i vars.length q.i).map enc),false,false⟩)],q.m⟩,fun q=>vars.length-q.i⟩
  ⟨0,n+1,ae,ae,trivial⟩ ah ?_ ?_
 ·refine bF ?_ ?_ ?_<;>simp only[go_sem,hI0,iw,hk,hs]
  all_goals first|rfl|omega
 rintro⟨j,n2,hj,hn2,_⟩
 try simp only at hj hn2
 rcases aA j vars.length with h2|h2
 ·have e1:=kI.out j h2;have e4:=kS.out j;have hset:=xg (s:=s) (i:=i) h2;have hvl:=xf (s:=s) (i:=i) (j:=j) (n:=vars.length) ae;obtain⟨p,hp⟩:∃p,vars.length-1-j=p:=⟨_,rfl⟩;have hpl2:p<vars.length:=ae
  rw[hp]at hset e1;rw[e1]at e4;have e2:((0:Int)≤(p:Int))=True:=ap
  have hq1:iw s i (j+1)=iw s i j / s:=rfl;obtain⟨x,hx⟩:∃x,iw s i j=x:=⟨_,rfl⟩;rw[hx]at hset hq1;have em:(x:Int) % (s:Int)=((x % s:Nat):Int):=ae
  have ed:(x:Int) / (s:Int)=((x / s:Nat):Int):=ae
  obtain⟨r,hr⟩:∃r,x % s=r:=⟨_,rfl⟩;obtain⟨y,hy⟩:∃y,x / s=y:=⟨_,rfl⟩;rw[hr]at em hset;rw[hy]at ed hq1;have hfs:(bA ((ja s i vars.length j).map enc)).set p (.fz (.i .i64 r))=bA ((ja s i vars.length (j+1)).map enc):=by rw[←hset,←jI];rfl
  repeat'(first|refine rx ⟨rfl,ae,ae⟩ ?_|refine rq ?_|simp only[go_sem,hs,hk,e1,e2,hx,em,ed,hvl,hpl2,Tryz.f96])
  all_goals
   refine⟨⟨j+1,n2,ae,ae,trivial⟩,af,?_⟩;refine bF ?_ ?_ ?_<;>simp only[go_sem,hfs,e4,hq1,hk,hs]
   all_goals first|rfl|omega
 obtain rfl:j=vars.length:=ae
 obtain⟨val,hval⟩:∃val:Str→Int,val=iE m (lg vars (Dg i)):=⟨_,rfl⟩;obtain⟨T,hT⟩:∃T:Nat→List Int,T=fun a=>(f.words.take a).map val:=⟨_,rfl⟩;have hT0:T 0=[]:=by rw[hT];rfl
 have hTs:∀a (h:a<f.words.length),T (a+1)=T a++[val f.words[a]]:=by simp_all[aB]
 have hTl:∀a,(T a).length≤3:=ap
 have hTe:T f.words.length=f.words.map val:=by rw[hT];simp only[aJ]
 have hDl':=hDl i;have henv:∀x∈lg vars (Dg i),0≤x.value:=fun x hx=>(kD.out i _ (yW hx)).1;have hcon:∀x∈m.consts,0≤x.value:=ap
 obtain⟨R,hR⟩:∃R,(lg vars (Dg i)).reverse=R:=⟨_,rfl⟩;have hRl:R.length=vars.length:=by rw[←hR,List.length_reverse,JM vars hDl']
 have hRv:∀x∈R,0≤x.value:=ap
 have hRg:∀j (h:j<vars.length) (h':j<R.length),R[j]=⟨vars[vars.length-1-j],(Dg i)[vars.length-1-j]⟩:=fun j h h'=>by grind[L9]
 have hwe:∀w∈f.words,nX (jq R w) m.consts w=val w:=fun w hw=>by
  rw[←hR,hval];refine Eb henv ?_;by_cases hin:w∈vars
  ·simp_all[yy]
  ·refine .inr (hcs w ?_);obtain⟨k,nm,ws,s'⟩:=f;rw[cst,aO];exact .inl (cD.2 ⟨hw,ap⟩)
 have kT2:=Kp.mk hTs;have kTl:=Kp.mk hTl;have kRg:=Kp.mk hRg;have kRv:=Kp.mk hRv;have kwe:=Kp.mk hwe;have kcon:=Kp.mk hcon;clear hT hTs hTl hRg hRv hwe hcon henv hR
 repeat'(first|refine rq ?_|simp only[go_sem,aC,hIe,ve,hs,hk,Tryz.f96])
 refine cI hm kT.out 96000 qWo (ι:=jL f.words.length (n+1) fun _=>True)
  ⟨fun q=>⟨frL [(2,eS vars),(3,.rp [.i .i64 s,.sl (m.consts.map enc),.sl (m.rels.map enc)]),(4,.rp (qcF f)),(8,.arr (96043,2) 1 0 N),(10,eI i),(143,.arr (96043,2) 1 0 N),(144,eI N),(145,eI i),(11,.arr (96150,n) 1 0 vars.length),(14,.ow (96219,q.g) 1 ((T q.i).map enc)),(171,eS f.words),(172,eI f.words.length),(173,eI q.i)],hpL [((96043,2),some ⟨bA ((eV V N i).map enc),false,false⟩),((96150,n),some ⟨bA ((Dg i).map enc),false,false⟩),((96219,q.g),some tok)],q.m⟩,fun q=>f.words.length-q.i⟩
  ⟨0,n2,n2+1,ae,ae,ae,trivial⟩ ah ?_ ?_
 ·refine eX [] [(96219,n2)] [] ?_ ?_ ?_ ?_ ?_<;>(try simp only[go_sem,hT0,hs,hk,ve,aQ])
  all_goals omega
 rintro⟨a,g,n3,ha,hg,hn3,_⟩
 try simp only at ha hg hn3
 rcases aA a f.words.length with h2|h2
 ·obtain⟨w,hw⟩:∃w,f.words[a]=w:=⟨_,rfl⟩;have hwm:w∈f.words:=ap
  have hts:=kT2.out a h2;have htl:=kTl.out a;rw[hw]at hts;obtain⟨fv,hfv⟩:∃fv:Nat→Int,fv=fun j=>jq (R.take j) w:=⟨_,rfl⟩;have hf0:fv 0= -1:=by rw[hfv];rfl
  have hfs:∀j (h:j<vars.length) (h2:vars.length-1-j<vars.length) (h3:vars.length-1-j<(Dg i).length),fv (j+1)=if fv j<0∧vars[vars.length-1-j]=w then(Dg i)[vars.length-1-j]else fv j:=fun j h h2 h3=>by rw[hfv];simp only;rw[aB ae,BC (fun x hx=>kRv.out x (dE hx)),kRg.out j h]
  have hfe:fv vars.length=jq R w:=by rw[hfv];simp only;rw[←hRl,aJ]
  have hft:∀j,0≤fv j→jq R w=fv j:=fun j h=>by rw[hfv]at h ⊢;exact IG kRv.out h
  have kfs:=Kp.mk hfs;have kft:=Kp.mk hft;clear hfs hft hfv;have hgw:((f.words.map enc).getD a FD.nilf)=FD.s w.l:=by rw[bh h2,hw];rfl
  repeat'(first|refine rx (by rw[hgw];rfl) ?_|refine rq ?_|simp only[go_sem,h2,hgw,bn,hs,hk,hI0,Tryz.f96])
  refine cI hm kT.out 96000 qWo (ι:=fW vars.length n3 fun _=>True)
   ⟨fun q=>⟨frL [(2,eS vars),(3,.rp [.i .i64 s,.sl (m.consts.map enc),.sl (m.rels.map enc)]),(4,.rp (qcF f)),(8,.arr (96043,2) 1 0 N),(10,eI i),(143,.arr (96043,2) 1 0 N),(144,eI N),(145,eI i),(11,.arr (96150,n) 1 0 vars.length),(14,.ow (96219,g) 1 ((T a).map enc)),(171,eS f.words),(172,eI f.words.length),(173,eI a),(16,.fz (.s w.l)),(17,eI (fv q.i)),(18,eI (I q.i))],hpL [((96043,2),some ⟨bA ((eV V N i).map enc),false,false⟩),((96150,n),some ⟨bA ((Dg i).map enc),false,false⟩),((96219,g),some tok)],q.m⟩,fun q=>vars.length-q.i⟩
   ⟨0,n3,ae,ae,trivial⟩ ah ?_ ?_
  ·refine bF ?_ ?_ ?_<;>simp only[go_sem,hf0,hI0,hs,hk]
   all_goals first|rfl|omega
  rintro⟨j,n4,hj,hn4,_⟩
  try simp only at hj hn4
  obtain⟨v,hv⟩:∃v,fv j=v:=⟨_,rfl⟩;have hcase:(j<vars.length∧v<0)∨(jq R w=v∧∃z,I j=z∧(((0≤z)=True∧(v<0)=False)∨((0≤z)=False∧(v<0)=True)∨((0≤z)=False∧(v<0)=False))):=by
   rcases aA j vars.length with h|h
   ·by_cases h5:v<0
    ·omega
    ·exact .inr ⟨by rw[kft.out j ae,hv],_,kI.out j h,.inl ⟨aU ae,aP h5⟩⟩
   ·obtain rfl:j=vars.length:=ae
    refine .inr ⟨ae, -1,hIe,?_⟩;by_cases h5:v<0
    ·exact .inr (.inl ⟨aP ai,aU h5⟩)
    ·exact .inr (.inr ⟨aP ai,aP h5⟩)
  rcases hcase with⟨h3,h4⟩|⟨hve,z,hz,hcase⟩
  ·have hs1':=kfs.out j h3 ae ae;rw[hv]at hs1';have e1:=kI.out j h3;have e4:=kS.out j;obtain⟨p,hp⟩:∃p,vars.length-1-j=p:=⟨_,rfl⟩;have hpl2:p<vars.length:=ae
   have hpl3:p<(Dg i).length:=ae
   simp only[hp]at hs1' e1;rw[e1]at e4;have e2:((0:Int)≤(p:Int))=True:=aU ae;have e3:(v<0)=True:=aU h4;obtain⟨x,hx⟩:∃x,vars[p]=x:=⟨_,rfl⟩;obtain⟨d,hd⟩:∃d,(Dg i)[p]=d:=⟨_,rfl⟩;rw[hx,hd]at hs1';have hgx:((vars.map enc).getD p FD.nilf)=FD.s x.l:=by rw[bh hpl2,hx];rfl
   have hgd:(bA ((Dg i).map enc)).getD p .junk= .fz (.i .i64 d):=by rw[ia,av,bp,ay hpl3,hd];rfl
   by_cases h6:x=w
   ·have h6':(x=w)=True:=aU h6;rw[aF ⟨h4,h6⟩]at hs1'
    repeat'(first|refine rx (by rw[hgx];rfl) ?_|refine rq ?_|simp only[go_sem,hs,hk,hv,e1,e2,e3,hgx,hgd,hpl2,hpl3,hDl',h6',bn,Tryz.f96])
    all_goals
     refine⟨⟨j+1,n4,ae,ae,trivial⟩,af,?_⟩;refine bF ?_ ?_ ?_<;>simp only[go_sem,hs1',e4,hk,hs]
     all_goals first|rfl|omega
   ·have h6':(x=w)=False:=aP h6;rw[az (fun h=>h6 h.2)]at hs1'
    repeat'(first|refine rx (by rw[hgx];rfl) ?_|refine rq ?_|simp only[go_sem,hs,hk,hv,e1,e2,e3,hgx,hgd,hpl2,hpl3,hDl',h6',bn,Tryz.f96])
    all_goals
     refine⟨⟨j+1,n4,ae,ae,trivial⟩,af,?_⟩;refine bF ?_ ?_ ?_<;>simp only[go_sem,hs1',e4,hk,hs]
     all_goals first|rfl|omega
  have g0:nX v [] w=v:=JQ (by rw[←hve];exact JW kRv.out);obtain⟨gv,hgv⟩:∃gv:Nat→Int,gv=fun k=>nX v (m.consts.take k) w:=⟨_,rfl⟩;have hg0:gv 0=v:=by rw[hgv];exact g0
  have hgs:∀k (h:k<m.consts.length),gv (k+1)=if gv k<0∧m.consts[k].name=w then m.consts[k].value else gv k:=fun k h=>by rw[hgv];simp only;rw[aB h,JP (fun x hx=>kcon.out x (dE hx))]
  have hge:gv m.consts.length=val w:=by rw[hgv];simp only[aJ];rw[←hve];exact kwe.out w hwm
  have kgs:=Kp.mk hgs;clear hgs hgv g0;rcases hcase with⟨c1,c2⟩|⟨c1,c2⟩|⟨c1,c2⟩
  all_goals
   repeat'(first|refine rq ?_|simp only[go_sem,hs,hk,hv,hz,c1,c2,Tryz.f96])
   refine cI hm kT.out 96000 qWo (ι:=fW m.consts.length n4 fun _=>True)
    ⟨fun q=>⟨frL [(2,eS vars),(3,.rp [.i .i64 s,.sl (m.consts.map enc),.sl (m.rels.map enc)]),(4,.rp (qcF f)),(8,.arr (96043,2) 1 0 N),(10,eI i),(143,.arr (96043,2) 1 0 N),(144,eI N),(145,eI i),(11,.arr (96150,n) 1 0 vars.length),(14,.ow (96219,g) 1 ((T a).map enc)),(171,eS f.words),(172,eI f.words.length),(173,eI a),(16,.fz (.s w.l)),(17,eI (gv q.i)),(199,eS m.consts),(200,eI m.consts.length),(201,eI q.i)],hpL [((96043,2),some ⟨bA ((eV V N i).map enc),false,false⟩),((96150,n),some ⟨bA ((Dg i).map enc),false,false⟩),((96219,g),some tok)],q.m⟩,fun q=>m.consts.length-q.i⟩
    ⟨0,n4,ae,ae,trivial⟩ ah ?_ ?_
   ·refine bF ?_ ?_ ?_<;>simp only[go_sem,hg0,hs,hk]
    all_goals first|rfl|omega
   rintro⟨k,n5,hkk,hn5,_⟩
   try simp only at hkk hn5
   rcases aA k m.consts.length with h3|h3
   ·have hgs:=kgs.out k h3;obtain⟨x,hx⟩:∃x,m.consts[k]=x:=⟨_,rfl⟩;obtain⟨u,hu⟩:∃u,gv k=u:=⟨_,rfl⟩;rw[hx,hu]at hgs;by_cases h7:u<0
    ·have h7':(u<0)=True:=aU h7;by_cases h8:x.name=w
     ·have h8':(x.name=w)=True:=aU h8;rw[aF ⟨h7,h8⟩]at hgs
      repeat'(first|refine rq ?_|simp only[go_sem,h3,hx,hs,hk,hu,h7',h8',jp,bn,bh,Tryz.f96])
      all_goals
       refine⟨⟨k+1,n5+2,ae,ae,trivial⟩,af,?_⟩;refine bF ?_ ?_ ?_<;>simp only[go_sem,hgs,hk,hs];omega
     ·have h8':(x.name=w)=False:=aP h8;rw[az (fun h=>h8 h.2)]at hgs
      repeat'(first|refine rq ?_|simp only[go_sem,h3,hx,hs,hk,hu,h7',h8',jp,bn,bh,Tryz.f96])
      all_goals
       refine⟨⟨k+1,n5+2,ae,ae,trivial⟩,af,?_⟩;refine bF ?_ ?_ ?_<;>simp only[go_sem,hgs,hk,hs];omega
    ·have h7':(u<0)=False:=aP h7;rw[az (fun h=>h7 h.1)]at hgs
     repeat'(first|refine rq ?_|simp only[go_sem,h3,hx,hs,hk,hu,h7',jp,bn,bh,Tryz.f96])
     all_goals
      refine⟨⟨k+1,n5+2,ae,ae,trivial⟩,af,?_⟩;refine bF ?_ ?_ ?_<;>simp only[go_sem,hgs,hk,hs];omega
   obtain rfl:k=m.consts.length:=ae
   repeat'(first|refine rx (dZ qQb ai) ?_|refine rq ?_|simp only[go_sem,aC,hs,hk,hge,Tryz.f96])
   all_goals
    refine⟨⟨a+1,n5,n5+1,ae,ae,ae,trivial⟩,af,?_⟩;refine bF ?_ ?_ ?_<;>(try simp only[go_sem,hts,hs,hk,aE,aM,aQ])
    all_goals first|rfl|omega
 obtain rfl:a=f.words.length:=ae
 obtain⟨w0,w1,hww⟩:=xA hwl2;have hT2:T f.words.length=[val w0,val w1]:=by rw[hTe,hww];rfl
 have hVi:V i=decide (val w0=val w1):=by rw[hV,hval,hDg];obtain⟨k,nm,ws,s'⟩:=f;simp only[dS,pT]at hk hww;subst hk;subst hww;rw[S0,hms];rfl
 obtain⟨x,hx⟩:∃x,val w0=x:=⟨_,rfl⟩;obtain⟨y,hy⟩:∃y,val w1=y:=⟨_,rfl⟩;rw[hx,hy]at hT2 hVi;have hset:∀v,V i=v→(bA ((eV V N i).map enc)).set i (.fz (.b v))=bA ((eV V N (i+1)).map enc):=fun v hv=>by rw[←rF h1,←jI,hv];rfl
 by_cases hxy:x=y
 ·have hxy':(x=y)=True:=aU hxy;have hset:=hset true ap
  repeat'(first|refine ru hm kT.out 96000 qWo Ac ?_|apply au|refine rq ?_|simp only[go_sem,aC,hs,hk,hT2,hpl,h1,hxy',Ac,aM,aQ,dr,di,aN,bj,Tryz.f96])
  all_goals
   refine⟨⟨i+1,n3+9,ae,ae,trivial⟩,af,?_⟩;refine bF ?_ ?_ ?_<;>simp only[go_sem,hset,hs,hk];omega
 ·have hxy':(x=y)=False:=aP hxy;have hset:=hset false ap
  repeat'(first|refine ru hm kT.out 96000 qWo Ac ?_|apply au|refine rq ?_|simp only[go_sem,aC,hs,hk,hT2,hpl,h1,hxy',Ac,aM,aQ,dr,di,aN,bj,Tryz.f96])
  all_goals
   refine⟨⟨i+1,n3+9,ae,ae,trivial⟩,af,?_⟩;refine bF ?_ ?_ ?_<;>simp only[go_sem,hset,hs,hk];omega
set_option maxHeartbeats 4000000 in
theorem Vq {n:Nat}(hT:b9 Tryz.prog G (E3.add 96 (sp3 fJ fun m f vs=>f.size<n∧jE m f vs))){m:dd}{f:Abs.aH}{vars:List Str}(hn:f.size=n)(hp:jE m f vars)(hwm:(enc m).Wf)(hk:f.kind=2):cS Tryz.prog G 96 [.fz (enc m),.fz (enc f),.fz (enc vars)] (hpL []) 0 (fun d _ _=>D.val d=some (.fz (enc (fJ m f vars)))):=by
 have hwl:f.words.length≤3:=by have h:=fU.1 hp.vk;have:=h.2.2.1 hk;omega
 have hmg:=hp.gd;have htlen:∀q∈m.rels,q.tuples.length≤dt:=by grind[oU,jh,tk,Lq,iN,List.length_map]
 have hcs:=hp.cs;have hcv:=hp.gd.cv;have hlc:=hp.gd.v.lc;obtain⟨V,hV⟩:∃V:Nat→Bool,V=fu m f vars:=⟨_,rfl⟩;obtain⟨s,hs⟩:∃s:Nat,m.size=(s:Int):=⟨m.size.toNat,qQm⟩;have me:dd.mk (s:Int) m.consts m.rels=m:=by rw[←hs]
 have hs1:1≤s:=by have:=hp.gd.v.s1;omega
 have hs6:s≤6:=by have:=hp.gd.v.s6;omega
 have hvl:vars.length≤6:=by have:=hp.nl;omega
 obtain⟨W,hW⟩:∃W:Nat→Nat,W=fun i=>s^i:=⟨_,rfl⟩;have hW0:W 0=1:=by rw[hW];rfl
 have hWs:∀i,(W i:Int)*(s:Int)=(W (i+1):Int):=by simp_all[cF]
 have hWl:∀i,i≤6→W i≤46656:=fun i h=>by rw[hW];exact bz (cr hs6 i) (dm ae h)
 obtain⟨N,hN⟩:∃N,W vars.length=N:=⟨_,rfl⟩;have hNl:N≤46656:=by rw[←hN];exact hWl _ hvl
 have hT':fJ m f vars=(List.range N).map V:=by unfold fJ;rw[hV,←hN,hW,hs];rfl
 have hP0:=rn V N;rw[hT',←rE V N];refine rG ?_;have hpl:∀i,(eV V N i).length=N:=fun i=>pU V N i;have kT:=Kp.mk hT;have kW:=Kp.mk hWs;have kl:=Kp.mk hWl;clear hT hT' hW hWs hWl;refine rv (N:=345) hm kT.out 96000 qWo qi Tryz.func96 rfl ?_
 repeat'(first|refine rq ?_|simp only[go_sem,hs,Tryz.f96])
 refine fa (gr (id:=(96003,0)) (t:=3) (b:=true) (ys:=[.i .i64 s,.sl (m.consts.map enc),.sl (m.rels.map enc)]) qQi qQi) ?_;refine fa (gr (id:=(96004,1)) (t:=4) (b:=true) (ys:=[.i .i64 f.kind,.s f.name.l,.sl (f.words.map enc),.sl (f.subs.map enc)]) qQi aj) ?_
 refine cI hm kT.out 96000 qWo (ι:=eO vars.length fun _=>True)
  ⟨fun q=>⟨frL [(2,eS vars),(3,.rp [.i .i64 s,.sl (m.consts.map enc),.sl (m.rels.map enc)]),(4,.rp (qcF f)),(7,eI (W q.i:Nat)),(34,eI vars.length),(35,eI q.i)],hpL [],2⟩,fun q=>vars.length-q.i⟩
  ⟨0,ae,trivial⟩ ah ?_ ?_
 ·refine bF ?_ ?_ ?_<;>simp only[go_sem,hW0,hs]
  all_goals first|rfl|omega
 rintro⟨i,hi,_⟩
 try simp only at hi
 rcases aA i vars.length with h1|h1
 ·have hws:=kW.out i;have hwl:=kl.out (i+1) ae
  repeat'(first|refine rq ?_|simp only[go_sem,h1,hws,Tryz.f96])
  refine⟨⟨i+1,ae,trivial⟩,af,?_⟩;refine bF ?_ ?_ ?_<;>simp only[go_sem,hws]
  all_goals first|rfl|omega
 obtain rfl:i=vars.length:=ae
 have hms:m.size.toNat=s:=by rw[hs];rfl
 obtain⟨Dg,hDg⟩:∃Dg:Nat→List Int,Dg=fun i=>fc s vars.length i:=⟨_,rfl⟩;have hDl:∀i,(Dg i).length=vars.length:=by simp_all[mR]
 have hDv:∀i,∀v∈Dg i,0≤v∧v<(s:Int):=fun i v hv=>by rw[hDg]at hv;exact sA ae _ _ v hv
 have hVL0:∀i,ja s i vars.length 0=List.replicate vars.length 0:=fun i=>wU s i _;have hVLe:∀i,ja s i vars.length vars.length=Dg i:=fun i=>by rw[vc,hDg]
 obtain⟨I,hI⟩:∃I:Nat→Int,I=fun j:Nat=>(vars.length:Int)-1-(j:Int):=⟨_,rfl⟩;have hI0:I 0=(vars.length:Int)-1:=by rw[hI];simp
 have hIs:∀j,I (j+1)=I j-1:=ap
 have hIe:I vars.length= -1:=by rw[hI];simp only;omega
 have hIj:∀j (_:j<vars.length),I j=((vars.length-1-j:Nat):Int):=ap
 have kI:=Kp.mk hIj;have kS:=Kp.mk hIs;have kD:=Kp.mk hDv;have kV0:=Kp.mk hVL0;have kVe:=Kp.mk hVLe;have rep_ints:∀n:Nat,List.replicate n (D.fz (.i .i64 0))=bA ((List.replicate n (0:Int)).map enc):=fun n=>by rw[ia];simp[zD]
 clear hI hIj hIs hDv hVL0 hVLe
 repeat'(first|refine rq ?_|simp only[go_sem,hk,hs,me,aC,hN,nT,qt,←hP0,bt,bn,bZ,bh,Tryz.f96])
 refine cI hm kT.out 96000 qWo (ι:=fW N 3 fun _=>True)
  ⟨fun q=>⟨frL [(2,eS vars),(3,.rp [.i .i64 s,.sl (m.consts.map enc),.sl (m.rels.map enc)]),(4,.rp (qcF f)),(8,.arr (96043,2) 1 0 N),(143,.arr (96043,2) 1 0 N),(144,eI N),(145,eI q.i)],hpL [((96043,2),some ⟨bA ((eV V N q.i).map enc),false,false⟩)],q.m⟩,fun q=>N-q.i⟩
  ⟨0,3,ae,ae,trivial⟩ ah ?_ ?_
 ·refine bF ?_ ?_ ?_<;>simp only[go_sem,hk,hs]
  all_goals first|rfl|omega
 rintro⟨i,n,hi,hn,_⟩
 try simp only at hi hn
 rcases aA i N with h1|h1;rotate_left
 ·obtain rfl:i=N:=ae
  repeat'(first|refine rq ?_|simp only[go_sem,aC,hpl,Tryz.f96])
  exact⟨(96043,2),ae,rfl,qQi⟩
 have v0:=kV0.out i;have ve:=kVe.out i
 repeat'(first|refine rq ?_|simp only[go_sem,h1,hs,hk,nT,rep_ints,←v0,hI0,Tryz.f96])
 refine cI hm kT.out 96000 qWo (ι:=fW vars.length (n+1) fun _=>True)
  ⟨fun q=>⟨frL [(2,eS vars),(3,.rp [.i .i64 s,.sl (m.consts.map enc),.sl (m.rels.map enc)]),(4,.rp (qcF f)),(8,.arr (96043,2) 1 0 N),(10,eI i),(143,.arr (96043,2) 1 0 N),(144,eI N),(145,eI i),(11,.arr (96150,n) 1 0 vars.length),(12,eI (I q.i)),(13,eI (iw s i q.i:Nat))],hpL [((96043,2),some ⟨bA ((eV V N i).map enc),false,false⟩),((96150,n),some ⟨bA ((ja s i vars.length q.i).map enc),false,false⟩)],q.m⟩,fun q=>vars.length-q.i⟩
  ⟨0,n+1,ae,ae,trivial⟩ ah ?_ ?_
 ·refine bF ?_ ?_ ?_<;>simp only[go_sem,hI0,iw,hk,hs]
  all_goals first|rfl|omega
 rintro⟨j,n2,hj,hn2,_⟩
 try simp only at hj hn2
 rcases aA j vars.length with h2|h2
 ·have e1:=kI.out j h2;have e4:=kS.out j;have hset:=xg (s:=s) (i:=i) h2;have hvl:=xf (s:=s) (i:=i) (j:=j) (n:=vars.length) ae;obtain⟨p,hp⟩:∃p,vars.length-1-j=p:=⟨_,rfl⟩;have hpl2:p<vars.length:=ae
  rw[hp]at hset e1;rw[e1]at e4;have e2:((0:Int)≤(p:Int))=True:=ap
  have hq1:iw s i (j+1)=iw s i j / s:=rfl;obtain⟨x,hx⟩:∃x,iw s i j=x:=⟨_,rfl⟩;rw[hx]at hset hq1;have em:(x:Int) % (s:Int)=((x % s:Nat):Int):=ae
  have ed:(x:Int) / (s:Int)=((x / s:Nat):Int):=ae
  obtain⟨r,hr⟩:∃r,x % s=r:=⟨_,rfl⟩;obtain⟨y,hy⟩:∃y,x / s=y:=⟨_,rfl⟩;rw[hr]at em hset;rw[hy]at ed hq1;have hfs:(bA ((ja s i vars.length j).map enc)).set p (.fz (.i .i64 r))=bA ((ja s i vars.length (j+1)).map enc):=by rw[←hset,←jI];rfl
  repeat'(first|refine rx ⟨rfl,ae,ae⟩ ?_|refine rq ?_|simp only[go_sem,hs,hk,e1,e2,hx,em,ed,hvl,hpl2,Tryz.f96])
  all_goals
   refine⟨⟨j+1,n2,ae,ae,trivial⟩,af,?_⟩;refine bF ?_ ?_ ?_<;>simp only[go_sem,hfs,e4,hq1,hk,hs]
   all_goals first|rfl|omega
 obtain rfl:j=vars.length:=ae
 obtain⟨val,hval⟩:∃val:Str→Int,val=iE m (lg vars (Dg i)):=⟨_,rfl⟩;obtain⟨T,hT⟩:∃T:Nat→List Int,T=fun a=>(f.words.take a).map val:=⟨_,rfl⟩;have hT0:T 0=[]:=by rw[hT];rfl
 have hTs:∀a (h:a<f.words.length),T (a+1)=T a++[val f.words[a]]:=by simp_all[aB]
 have hTl:∀a,(T a).length≤3:=ap
 have hTe:T f.words.length=f.words.map val:=by rw[hT];simp only[aJ]
 have hDl':=hDl i;have henv:∀x∈lg vars (Dg i),0≤x.value:=fun x hx=>(kD.out i _ (yW hx)).1;have hcon:∀x∈m.consts,0≤x.value:=ap
 obtain⟨R,hR⟩:∃R,(lg vars (Dg i)).reverse=R:=⟨_,rfl⟩;have hRl:R.length=vars.length:=by rw[←hR,List.length_reverse,JM vars hDl']
 have hRv:∀x∈R,0≤x.value:=ap
 have hRg:∀j (h:j<vars.length) (h':j<R.length),R[j]=⟨vars[vars.length-1-j],(Dg i)[vars.length-1-j]⟩:=fun j h h'=>by grind[L9]
 have hwe:∀w∈f.words,nX (jq R w) m.consts w=val w:=fun w hw=>by
  rw[←hR,hval];refine Eb henv ?_;by_cases hin:w∈vars
  ·simp_all[yy]
  ·refine .inr (hcs w ?_);obtain⟨k,nm,ws,s'⟩:=f;rw[cst,aO];exact .inl (cD.2 ⟨hw,ap⟩)
 have kT2:=Kp.mk hTs;have kTl:=Kp.mk hTl;have kRg:=Kp.mk hRg;have kRv:=Kp.mk hRv;have kwe:=Kp.mk hwe;have kcon:=Kp.mk hcon;clear hT hTs hTl hRg hRv hwe hcon henv hR
 repeat'(first|refine rq ?_|simp only[go_sem,aC,hIe,ve,hs,hk,Tryz.f96])
 refine cI hm kT.out 96000 qWo (ι:=jL f.words.length (n+1) fun _=>True)
  ⟨fun q=>⟨frL [(2,eS vars),(3,.rp [.i .i64 s,.sl (m.consts.map enc),.sl (m.rels.map enc)]),(4,.rp (qcF f)),(8,.arr (96043,2) 1 0 N),(10,eI i),(143,.arr (96043,2) 1 0 N),(144,eI N),(145,eI i),(11,.arr (96150,n) 1 0 vars.length),(14,.ow (96219,q.g) 1 ((T q.i).map enc)),(171,eS f.words),(172,eI f.words.length),(173,eI q.i)],hpL [((96043,2),some ⟨bA ((eV V N i).map enc),false,false⟩),((96150,n),some ⟨bA ((Dg i).map enc),false,false⟩),((96219,q.g),some tok)],q.m⟩,fun q=>f.words.length-q.i⟩
  ⟨0,n2,n2+1,ae,ae,ae,trivial⟩ ah ?_ ?_
 ·refine eX [] [(96219,n2)] [] ?_ ?_ ?_ ?_ ?_<;>(try simp only[go_sem,hT0,hs,hk,ve,aQ])
  all_goals omega
 rintro⟨a,g,n3,ha,hg,hn3,_⟩
 try simp only at ha hg hn3
 rcases aA a f.words.length with h2|h2
 ·obtain⟨w,hw⟩:∃w,f.words[a]=w:=⟨_,rfl⟩;have hwm:w∈f.words:=ap
  have hts:=kT2.out a h2;have htl:=kTl.out a;rw[hw]at hts;obtain⟨fv,hfv⟩:∃fv:Nat→Int,fv=fun j=>jq (R.take j) w:=⟨_,rfl⟩;have hf0:fv 0= -1:=by rw[hfv];rfl
  have hfs:∀j (h:j<vars.length) (h2:vars.length-1-j<vars.length) (h3:vars.length-1-j<(Dg i).length),fv (j+1)=if fv j<0∧vars[vars.length-1-j]=w then(Dg i)[vars.length-1-j]else fv j:=fun j h h2 h3=>by rw[hfv];simp only;rw[aB ae,BC (fun x hx=>kRv.out x (dE hx)),kRg.out j h]
  have hfe:fv vars.length=jq R w:=by rw[hfv];simp only;rw[←hRl,aJ]
  have hft:∀j,0≤fv j→jq R w=fv j:=fun j h=>by rw[hfv]at h ⊢;exact IG kRv.out h
  have kfs:=Kp.mk hfs;have kft:=Kp.mk hft;clear hfs hft hfv;have hgw:((f.words.map enc).getD a FD.nilf)=FD.s w.l:=by rw[bh h2,hw];rfl
  repeat'(first|refine rx (by rw[hgw];rfl) ?_|refine rq ?_|simp only[go_sem,h2,hgw,bn,hs,hk,hI0,Tryz.f96])
  refine cI hm kT.out 96000 qWo (ι:=fW vars.length n3 fun _=>True)
   ⟨fun q=>⟨frL [(2,eS vars),(3,.rp [.i .i64 s,.sl (m.consts.map enc),.sl (m.rels.map enc)]),(4,.rp (qcF f)),(8,.arr (96043,2) 1 0 N),(10,eI i),(143,.arr (96043,2) 1 0 N),(144,eI N),(145,eI i),(11,.arr (96150,n) 1 0 vars.length),(14,.ow (96219,g) 1 ((T a).map enc)),(171,eS f.words),(172,eI f.words.length),(173,eI a),(16,.fz (.s w.l)),(17,eI (fv q.i)),(18,eI (I q.i))],hpL [((96043,2),some ⟨bA ((eV V N i).map enc),false,false⟩),((96150,n),some ⟨bA ((Dg i).map enc),false,false⟩),((96219,g),some tok)],q.m⟩,fun q=>vars.length-q.i⟩
   ⟨0,n3,ae,ae,trivial⟩ ah ?_ ?_
  ·refine bF ?_ ?_ ?_<;>simp only[go_sem,hf0,hI0,hs,hk]
   all_goals first|rfl|omega
  rintro⟨j,n4,hj,hn4,_⟩
  try simp only at hj hn4
  obtain⟨v,hv⟩:∃v,fv j=v:=⟨_,rfl⟩;have hcase:(j<vars.length∧v<0)∨(jq R w=v∧∃z,I j=z∧(((0≤z)=True∧(v<0)=False)∨((0≤z)=False∧(v<0)=True)∨((0≤z)=False∧(v<0)=False))):=by
   rcases aA j vars.length with h|h
   ·by_cases h5:v<0
    ·omega
    ·exact .inr ⟨by rw[kft.out j ae,hv],_,kI.out j h,.inl ⟨aU ae,aP h5⟩⟩
   ·obtain rfl:j=vars.length:=ae
    refine .inr ⟨ae, -1,hIe,?_⟩;by_cases h5:v<0
    ·exact .inr (.inl ⟨aP ai,aU h5⟩)
    ·exact .inr (.inr ⟨aP ai,aP h5⟩)
  rcases hcase with⟨h3,h4⟩|⟨hve,z,hz,hcase⟩
  ·have hs1':=kfs.out j h3 ae ae;rw[hv]at hs1';have e1:=kI.out j h3;have e4:=kS.out j;obtain⟨p,hp⟩:∃p,vars.length-1-j=p:=⟨_,rfl⟩;have hpl2:p<vars.length:=ae
   have hpl3:p<(Dg i).length:=ae
   simp only[hp]at hs1' e1;rw[e1]at e4;have e2:((0:Int)≤(p:Int))=True:=aU ae;have e3:(v<0)=True:=aU h4;obtain⟨x,hx⟩:∃x,vars[p]=x:=⟨_,rfl⟩;obtain⟨d,hd⟩:∃d,(Dg i)[p]=d:=⟨_,rfl⟩;rw[hx,hd]at hs1';have hgx:((vars.map enc).getD p FD.nilf)=FD.s x.l:=by rw[bh hpl2,hx];rfl
   have hgd:(bA ((Dg i).map enc)).getD p .junk= .fz (.i .i64 d):=by rw[ia,av,bp,ay hpl3,hd];rfl
   by_cases h6:x=w
   ·have h6':(x=w)=True:=aU h6;rw[aF ⟨h4,h6⟩]at hs1'
    repeat'(first|refine rx (by rw[hgx];rfl) ?_|refine rq ?_|simp only[go_sem,hs,hk,hv,e1,e2,e3,hgx,hgd,hpl2,hpl3,hDl',h6',bn,Tryz.f96])
    all_goals
     refine⟨⟨j+1,n4,ae,ae,trivial⟩,af,?_⟩;refine bF ?_ ?_ ?_<;>simp only[go_sem,hs1',e4,hk,hs]
     all_goals first|rfl|omega
   ·have h6':(x=w)=False:=aP h6;rw[az (fun h=>h6 h.2)]at hs1'
    repeat'(first|refine rx (by rw[hgx];rfl) ?_|refine rq ?_|simp only[go_sem,hs,hk,hv,e1,e2,e3,hgx,hgd,hpl2,hpl3,hDl',h6',bn,Tryz.f96])
    all_goals
     refine⟨⟨j+1,n4,ae,ae,trivial⟩,af,?_⟩;refine bF ?_ ?_ ?_<;>simp only[go_sem,hs1',e4,hk,hs]
     all_goals first|rfl|omega
  have g0:nX v [] w=v:=JQ (by rw[←hve];exact JW kRv.out);obtain⟨gv,hgv⟩:∃gv:Nat→Int,gv=fun k=>nX v (m.consts.take k) w:=⟨_,rfl⟩;have hg0:gv 0=v:=by rw[hgv];exact g0
  have hgs:∀k (h:k<m.consts.length),gv (k+1)=if gv k<0∧m.consts[k].name=w then m.consts[k].value else gv k:=fun k h=>by rw[hgv];simp only;rw[aB h,JP (fun x hx=>kcon.out x (dE hx))]
  have hge:gv m.consts.length=val w:=by rw[hgv];simp only[aJ];rw[←hve];exact kwe.out w hwm
  have kgs:=Kp.mk hgs;clear hgs hgv g0;rcases hcase with⟨c1,c2⟩|⟨c1,c2⟩|⟨c1,c2⟩
  all_goals
   repeat'(first|refine rq ?_|simp only[go_sem,hs,hk,hv,hz,c1,c2,Tryz.f96])
   refine cI hm kT.out 96000 qWo (ι:=fW m.consts.length n4 fun _=>True)
    ⟨fun q=>⟨frL [(2,eS vars),(3,.rp [.i .i64 s,.sl (m.consts.map enc),.sl (m.rels.map enc)]),(4,.rp (qcF f)),(8,.arr (96043,2) 1 0 N),(10,eI i),(143,.arr (96043,2) 1 0 N),(144,eI N),(145,eI i),(11,.arr (96150,n) 1 0 vars.length),(14,.ow (96219,g) 1 ((T a).map enc)),(171,eS f.words),(172,eI f.words.length),(173,eI a),(16,.fz (.s w.l)),(17,eI (gv q.i)),(199,eS m.consts),(200,eI m.consts.length),(201,eI q.i)],hpL [((96043,2),some ⟨bA ((eV V N i).map enc),false,false⟩),((96150,n),some ⟨bA ((Dg i).map enc),false,false⟩),((96219,g),some tok)],q.m⟩,fun q=>m.consts.length-q.i⟩
    ⟨0,n4,ae,ae,trivial⟩ ah ?_ ?_
   ·refine bF ?_ ?_ ?_<;>simp only[go_sem,hg0,hs,hk]
    all_goals first|rfl|omega
   rintro⟨k,n5,hkk,hn5,_⟩
   try simp only at hkk hn5
   rcases aA k m.consts.length with h3|h3
   ·have hgs:=kgs.out k h3;obtain⟨x,hx⟩:∃x,m.consts[k]=x:=⟨_,rfl⟩;obtain⟨u,hu⟩:∃u,gv k=u:=⟨_,rfl⟩;rw[hx,hu]at hgs;by_cases h7:u<0
    ·have h7':(u<0)=True:=aU h7;by_cases h8:x.name=w
     ·have h8':(x.name=w)=True:=aU h8;rw[aF ⟨h7,h8⟩]at hgs
      repeat'(first|refine rq ?_|simp only[go_sem,h3,hx,hs,hk,hu,h7',h8',jp,bn,bh,Tryz.f96])
      all_goals
       refine⟨⟨k+1,n5+2,ae,ae,trivial⟩,af,?_⟩;refine bF ?_ ?_ ?_<;>simp only[go_sem,hgs,hk,hs];omega
     ·have h8':(x.name=w)=False:=aP h8;rw[az (fun h=>h8 h.2)]at hgs
      repeat'(first|refine rq ?_|simp only[go_sem,h3,hx,hs,hk,hu,h7',h8',jp,bn,bh,Tryz.f96])
      all_goals
       refine⟨⟨k+1,n5+2,ae,ae,trivial⟩,af,?_⟩;refine bF ?_ ?_ ?_<;>simp only[go_sem,hgs,hk,hs];omega
    ·have h7':(u<0)=False:=aP h7;rw[az (fun h=>h7 h.1)]at hgs
     repeat'(first|refine rq ?_|simp only[go_sem,h3,hx,hs,hk,hu,h7',jp,bn,bh,Tryz.f96])
     all_goals
      refine⟨⟨k+1,n5+2,ae,ae,trivial⟩,af,?_⟩;refine bF ?_ ?_ ?_<;>simp only[go_sem,hgs,hk,hs];omega
   obtain rfl:k=m.consts.length:=ae
   repeat'(first|refine rx (dZ qQb ai) ?_|refine rq ?_|simp only[go_sem,aC,hs,hk,hge,Tryz.f96])
   all_goals
    refine⟨⟨a+1,n5,n5+1,ae,ae,ae,trivial⟩,af,?_⟩;refine bF ?_ ?_ ?_<;>(try simp only[go_sem,hts,hs,hk,aE,aM,aQ])
    all_goals first|rfl|omega
 obtain rfl:a=f.words.length:=ae
 obtain⟨ts,hts⟩:∃ts,f.words.map val=ts:=⟨_,rfl⟩;rw[hts]at hTe;have htl:ts.length=f.words.length:=by rw[←hts,aG]
 have hDv:=kD.out i;have hvr:∀v∈ts,0≤v∧v<(s:Int):=fun v hv=>by
  rw[←hts]at hv;obtain⟨w,hw,rfl⟩:=be.1 hv;rw[hval];refine OT (P:=fun v=>0≤v∧v<(s:Int)) (by grind[yW]) ap ?_;by_cases hin:w∈vars
  ·simp_all[yy]
  ·refine .inr (hcs w ?_);obtain⟨k,nm,ws,s'⟩:=f;rw[cst,aO];exact .inl (cD.2 ⟨hw,ba hin⟩)
 have hVi:V i=m.rels.any (oy f.name f.words.length ts):=by rw[Qe hmg.v,hV,←hts,hval,hDg];obtain⟨k,nm,ws,s'⟩:=f;simp only[dS]at hk;subst hk;rw[Rp,hms];rfl
 have hset:∀b,(bA (((eV V N i).set i b).map enc)).set i (.fz (.b true))=bA (((eV V N i).set i true).map enc):=fun b=>by have:=jI (l:=(eV V N i).set i b) (i:=i) (a:=true);rw[mK]at this;exact this
 have hol:∀b,((eV V N i).set i b).length=N:=by simp[pU]
 have hof:=WY (V:=V) h1;have hoe:(eV V N i).set i (m.rels.any (oy f.name f.words.length ts))=eV V N (i+1):=by rw[←hVi,rF h1]
 obtain⟨Fl,hFl⟩:∃Fl:Nat→Bool,Fl=fun r=>(m.rels.take r).any (oy f.name f.words.length ts):=⟨_,rfl⟩;have hF0:Fl 0=false:=by rw[hFl];rfl
 have hFs:∀r (h:r<m.rels.length),Fl (r+1)=(Fl r||oy f.name f.words.length ts m.rels[r]):=fun r h=>by rw[hFl];exact HI h
 have hFe:Fl m.rels.length=m.rels.any (oy f.name f.words.length ts):=by rw[hFl];simp only[aJ]
 have hlr:=hmg.v.lr;have htv:∀q∈m.rels,∀t∈q.tuples,(t.length:Int)=q.arity∧∀v∈t,0≤v∧v<(s:Int):=fun q hq t ht=>by rw[←hs];exact hmg.tv q hq t ht
 have hcp:Do ts s:=⟨ae,ae,ae,fun v hv=>by have:=hvr v hv;omega⟩;have kFs:=Kp.mk hFs;have ktv:=Kp.mk htv;have kvr:=Kp.mk hvr;clear hFs htv hvr hFl hV hVi hDv;rw[←hFe]at hoe
 repeat'(first|refine rq ?_|simp only[go_sem,aC,hs,hk,hTe,Tryz.f96])
 refine cI hm kT.out 96000 qWo (ι:=fW m.rels.length n3 fun _=>True)
  ⟨fun q=>⟨frL [(2,eS vars),(3,.rp [.i .i64 s,.sl (m.consts.map enc),.sl (m.rels.map enc)]),(4,.rp (qcF f)),(8,.arr (96043,2) 1 0 N),(10,eI i),(143,.arr (96043,2) 1 0 N),(144,eI N),(145,eI i),(14,.ow (96219,g) 1 (ts.map enc)),(235,eS m.rels),(236,eI m.rels.length),(237,eI q.i)],hpL [((96043,2),some ⟨bA (((eV V N i).set i (Fl q.i)).map enc),false,false⟩),((96219,g),some tok)],q.m⟩,fun q=>m.rels.length-q.i⟩
  ⟨0,n3,ae,ae,trivial⟩ ah ?_ ?_
 ·refine bF ?_ ?_ ?_<;>simp only[go_sem,hF0,hof,hs,hk,hTe]
  all_goals first|rfl|omega
 rintro⟨r,n4,hr,hn4,_⟩
 try simp only at hr hn4
 rcases aA r m.rels.length with h2|h2;rotate_left
 ·obtain rfl:r=m.rels.length:=ae
  repeat'(first|refine rq ?_|simp only[go_sem,aC,hs,hk,hoe,Tryz.f96])
  all_goals
   refine⟨⟨i+1,n4+9,ae,ae,trivial⟩,af,?_⟩;refine bF ?_ ?_ ?_<;>simp only[go_sem,hoe,hs,hk];omega
 have hfs:=kFs.out r h2;obtain⟨x,hx⟩:∃x,m.rels[r]=x:=⟨_,rfl⟩;have hxm:x∈m.rels:=hx▸aT h2;rw[hx]at hfs;obtain⟨b,hbF⟩:∃b,Fl r=b:=⟨_,rfl⟩;rw[hbF]at hfs;by_cases c1:x.name=f.name;rotate_left
 ·have c1':(x.name=f.name)=False:=aP c1;have hmm:oy f.name f.words.length ts x=false:=by unfold oy;rw[aW c1];rfl
  rw[hmm,gB]at hfs
  repeat'(first|refine rq ?_|simp only[go_sem,h2,hx,hs,hk,hbF,c1',jB,bn,bh,Tryz.f96])
  all_goals
   refine⟨⟨r+1,n4+2,ae,ae,trivial⟩,af,?_⟩;refine bF ?_ ?_ ?_<;>simp only[go_sem,hfs,hbF,hs,hk];omega
 have c1':(x.name=f.name)=True:=aU c1;by_cases c2:x.arity=(ts.length:Int);rotate_left
 ·have c2':(x.arity=(ts.length:Int))=False:=aP c2;have c2n:¬x.arity=(f.words.length:Int):=by rw[←htl];exact c2
  have hmm:oy f.name f.words.length ts x=false:=by unfold oy;rw[aW c2n,dU,eK]
  rw[hmm,gB]at hfs
  repeat'(first|refine rq ?_|simp only[go_sem,h2,hx,hs,hk,hbF,c1',c2',jB,bn,bh,Tryz.f96])
  all_goals
   refine⟨⟨r+1,n4+2,ae,ae,trivial⟩,af,?_⟩;refine bF ?_ ?_ ?_<;>simp only[go_sem,hfs,hbF,hs,hk];omega
 have c2':(x.arity=(ts.length:Int))=True:=aU c2;have hxtl:=htlen x hxm;unfold dt at hxtl;have c2p:x.arity=(f.words.length:Int):=by rw[←htl];exact c2
 have hmm:oy f.name f.words.length ts x=x.tuples.any fun t=>decide (t=ts):=by unfold oy;rw[ba c1,ba c2p,cZ,cZ]
 rw[hmm]at hfs;obtain⟨Gl,hGl⟩:∃Gl:Nat→Bool,Gl=fun k=>b||(x.tuples.take k).any fun t=>decide (t=ts):=⟨_,rfl⟩;have hG0:Gl 0=b:=by rw[hGl];simp
 have hGs:∀k (h:k<x.tuples.length),Gl (k+1)=(Gl k||decide (x.tuples[k]=ts)):=fun k h=>by rw[hGl];simp only;rw[HI h,Bool.or_assoc]
 have hGe:Gl x.tuples.length=Fl (r+1):=by rw[hfs,hGl];simp only[aJ]
 have kGs:=Kp.mk hGs;clear hGs hGl hfs
 repeat'(first|refine rq ?_|simp only[go_sem,h2,hx,hs,hk,hbF,c1',c2',jB,bn,bh,Tryz.f96])
 refine cI hm kT.out 96000 qWo (ι:=fW x.tuples.length (n4+1) fun _=>True)
  ⟨fun q=>⟨frL [(2,eS vars),(3,.rp [.i .i64 s,.sl (m.consts.map enc),.sl (m.rels.map enc)]),(4,.rp (qcF f)),(8,.arr (96043,2) 1 0 N),(10,eI i),(143,.arr (96043,2) 1 0 N),(144,eI N),(145,eI i),(14,.ow (96219,g) 1 (ts.map enc)),(22,.ptr (96022,n4) 0),(235,eS m.rels),(236,eI m.rels.length),(237,eI r),(254,eS x.tuples),(255,eI x.tuples.length),(256,eI q.i)],hpL [((96043,2),some ⟨bA (((eV V N i).set i (Gl q.i)).map enc),false,false⟩),((96219,g),some tok)],q.m⟩,fun q=>x.tuples.length-q.i⟩
  ⟨0,n4+1,ae,ae,trivial⟩ ah ?_ ?_
 ·refine bF ?_ ?_ ?_<;>simp only[go_sem,hG0,hbF,hs,hk]
  all_goals first|rfl|omega
 rintro⟨k,n5,hkk,hn5,_⟩
 try simp only at hkk hn5
 rcases aA k x.tuples.length with h3|h3
 ·have hgs:=kGs.out k h3;obtain⟨t,ht⟩:∃t,x.tuples[k]=t:=⟨_,rfl⟩;have htm:t∈x.tuples:=ht▸aT h3;rw[ht]at hgs;obtain⟨e1,e2⟩:=ktv.out x hxm t htm;have htp:Do t s:=⟨ae,ae,ae,fun v hv=>by have:=e2 v hv;omega⟩;have hgt:((x.tuples.map enc).getD k FD.nilf)=FD.sl (t.map enc):=by rw[bh h3,ht];rfl
  obtain⟨u,hu⟩:∃u,Gl k=u:=⟨_,rfl⟩;rw[hu]at hgs;have hset:=hset u;by_cases h6:t=ts
  ·have h6':(nB (s:Int) t=nB (s:Int) ts)=True:=aU (by rw[h6]);rw[ba h6,Bool.or_true]at hgs
   repeat'(first|refine ru hm kT.out 96000 qWo Ad ?_|apply au|apply rx htp|apply rx hcp|refine rx qQy ?_|refine rq ?_|simp only[go_sem,h3,hgt,hs,hk,hu,h6',hol,h1,Ad,jB,bn,Tryz.f96])
   all_goals
    refine⟨⟨k+1,n5+2,ae,ae,trivial⟩,af,?_⟩;refine bF ?_ ?_ ?_<;>simp only[go_sem,hgs,hset,hu,hs,hk];omega
  ·have h6':(nB (s:Int) t=nB (s:Int) ts)=False:=aP fun h=>h6 (Md ae t ts 0 0 ae e2 kvr.out h).2;rw[aW h6,gB]at hgs
   repeat'(first|refine ru hm kT.out 96000 qWo Ad ?_|apply au|apply rx htp|apply rx hcp|refine rx qQy ?_|refine rq ?_|simp only[go_sem,h3,hgt,hs,hk,hu,h6',hol,h1,Ad,jB,bn,Tryz.f96])
   all_goals
    refine⟨⟨k+1,n5+2,ae,ae,trivial⟩,af,?_⟩;refine bF ?_ ?_ ?_<;>simp only[go_sem,hgs,hset,hu,hs,hk];omega
 obtain rfl:k=x.tuples.length:=ae
 repeat'(first|refine rq ?_|simp only[go_sem,aC,hs,hk,hGe,Tryz.f96])
 all_goals
  refine⟨⟨r+1,n5+2,ae,ae,trivial⟩,af,?_⟩;refine bF ?_ ?_ ?_<;>simp only[go_sem,hGe,hs,hk];omega
end
section
variable {G:Nat→List FD}
def E4:Tbl:=E3.add 96 (sp3 fJ jE)
attribute [go_sem] E4
theorem hE4:b9 Tryz.prog G E4:=by
 refine MC aH.size qi hE3 fun n hT m f vars hn hp hwm _ _=>?_;have h:=fU.1 hp.vk;have hk:f.kind=1∨f.kind=2∨f.kind=3∨f.kind=4∨f.kind=5∨f.kind=6∨f.kind=7∨f.kind=8∨f.kind=9:=ae
 rcases hk with hk|hk|hk|hk|hk|hk|hk|hk|hk
 ·exact Vp hT hn hp hk
 ·exact Vq hT hn hp hwm hk
 ·exact Vr hT hn hp hk
 ·exact Vs hT hn hp hk
 ·exact Vt hT hn hp hk
 ·exact Vu hT hn hp hk
 ·exact Vx hT hn hp hk
 ·exact Vy hT hn hp hk
 ·exact Vz hT hn hp hk
def E5:Tbl:=E4
attribute [go_sem] E5
def E6:Tbl:=E5
attribute [go_sem] E6
end
section
variable {G:Nat→List FD}
theorem Sa (m:dd)(f:Abs.aH):fJ m f []=[fB m f []]:=by rfl
def I1:Tbl:=E4.add 73 (sp2 (fun m f=>fB m f []) fun m f=>jE m f [])
attribute [go_sem] I1
theorem hI1:b9 Tryz.prog G I1:=by
 refine gN Hd hE4 fun m f hp _ _=>?_;have ht:=Sa m f;refine rv (N:=10) hm hE4 73000 qWi Hd Tryz.func73 rfl ?_
 repeat'(first|apply rx hp|apply au|refine rq ?_|simp only[go_sem,bt,bn,bZ,bh,ht,Tryz.f73])
 all_goals first|rfl|omega
def ur (a n:Int):Int:=((a.toNat^n.toNat:Nat):Int)
theorem DB {a n:Int}(h1:1≤a)(h4:a≤4)(h0:0≤n)(h3:n≤3):∀i:Nat,(i:Int)≤n→1≤a.toNat^i∧a.toNat^i≤64:=fun i hi=>by have e:a.toNat^i≤4^3:=bz (cr ae i) (dm ae ae);grind
def I2:Tbl:=I1.add 92 (sp2 ur fun a n=>(1≤a∧a≤4)∧0≤n∧n≤3)
attribute [go_sem] I2
theorem hI2:b9 Tryz.prog G I2:=by
 refine gN Hn hI1 fun a n hp _ _=>?_;obtain⟨⟨ha1,ha4⟩,hn0,hn3⟩:=hp;have hpw:=DB ha1 ha4 hn0 hn3;obtain⟨N,hN⟩:∃N:Nat,n=(N:Int):=⟨n.toNat,ae⟩;subst hN;obtain⟨A,hA⟩:∃A:Nat,a=(A:Int):=ap
 subst hA;simp only[bo]at hpw;obtain⟨P,hP⟩:∃P:Nat→Nat,P=fun i=>A^i:=⟨_,rfl⟩;have hP0:P 0=1:=by rw[hP];rfl
 have hPs:∀i,P i*A=P (i+1):=ap
 have hPl:∀i,i≤N→1≤P i∧P i≤64:=ap
 have hPN:ur A N=(P N:Int):=by rw[hP];unfold ur;rw[bo,bo]
 rw[hPN];clear hP hpw hPN;have kl:=Kp.mk hPl;have ks:=Kp.mk hPs;clear hPl hPs;refine rv (N:=14) hm hI1 92000 qWi Hn Tryz.func92 rfl ?_
 repeat'(first|apply au|refine rq ?_|simp only[go_sem,Tryz.f92])
 refine cI hm hI1 92000 qWi (ι:=eO N fun _=>True)
  ⟨fun q=>⟨frL [(0,eI A),(5,eI (P q.i)),(6,eI N),(7,eI q.i)],hpL [],0⟩,fun q=>N-q.i⟩
  ⟨0,ae,trivial⟩ ah ?_ ?_
 ·refine bF ?_ ?_ ?_<;>simp only[go_sem,hP0]
  all_goals first|rfl|omega
 rintro⟨i,hi,_⟩
 try simp only at hi
 rcases aA i N with h1|h1
 ·have h2:=kl.out i hi;have h3:=kl.out (i+1) ae;have h4:=ks.out i;have h5:((P i:Nat):Int)*(A:Int)=((P (i+1):Nat):Int):=by rw[←h4];simp
  have h6:((i:Int)<(N:Int))=True:=ap
  repeat'(first|apply au|refine rq ?_|simp only[go_sem,h5,h6,Tryz.f92])
  refine⟨⟨i+1,ae,trivial⟩,af,?_⟩;refine bF ?_ ?_ ?_<;>simp only[go_sem]
  all_goals first|rfl|omega
 ·obtain rfl:i=N:=ae
  repeat'(first|apply au|refine rq ?_|simp only[go_sem,ck,Tryz.f92])
  all_goals first|rfl|omega
structure AV (m:dd)(l:List Abs.aH):Prop where
 m:re m
 f:∀f∈l,(dB false f).code=0∧gE f≤5
 l:l.length≤1000
theorem Mi {m:dd}{l:List Abs.aH}(h:AV m l){f:Abs.aH}(hf:f∈l):rj m f []:=⟨h.m,wM (h.f f hf).1,⟨rB (h.f f hf).1,by have:=nq (h.f f hf).1;omega⟩,by have:=(h.f f hf).2;grind⟩
def I3:Tbl:=I2.add 69 (sp2 (fun m l=>okF l m) AV)
attribute [go_sem] I3
theorem hI3:b9 Tryz.prog G I3:=by
 refine gN Ha hI2 fun m l hp _ _=>?_;have hsl:=hp.l;have kp:=Kp.mk hp;clear hp;refine rv (N:=18) hm hI2 69000 qWi Ha Tryz.func69 rfl ?_
 repeat'(first|apply au|refine rq ?_|simp only[go_sem,bt,bn,bZ,bh,Tryz.f69])
 refine cI hm hI2 69000 qWi (ι:=fW l.length 1 fun i=>(l.take i).all (fun f=>fB m f [])=true)
  ⟨fun q=>⟨frL [(2,.ptr (69002,0) 0),(7,eS l),(8,eI l.length),(9,eI q.i)],hpL [((69002,0),some ⟨[eI m.size,eS m.consts,eS m.rels],true,false⟩)],q.m⟩,fun q=>l.length-q.i⟩
  ⟨0,1,ae,ae,ak⟩ ah ?_ ?_
 ·refine bF ?_ ?_ ?_<;>simp only[go_sem]
  all_goals first|rfl|omega
 rintro⟨i,q,hi,hq,ha⟩
 try simp only at hi hq ha
 rcases aA i l.length with h1|h1
 ·obtain⟨x,hx⟩:∃x,l[i]=x:=⟨_,rfl⟩;have hxv:rj m x []:=Mi kp.out ap;obtain⟨v,hv⟩:∃v,fB m x []=v:=⟨_,rfl⟩;cases v with
  |true=>
   repeat'(first|apply rx hxv|apply au|refine rq ?_|simp only[go_sem,h1,hx,hv,bt,bn,bZ,bh,Tryz.f69])
   refine⟨⟨i+1,q+1,ae,ae,qQ2⟩,af,?_⟩;refine bF ?_ ?_ ?_<;>simp only[go_sem]
   all_goals first|rfl|omega
  |false=>
   have e:okF l m=false:=by unfold okF;rw[iJ];exact ap
   repeat'(first|apply rx hxv|apply au|refine rq ?_|simp only[go_sem,h1,hx,hv,e,bt,bn,bZ,bh,Tryz.f69])
   all_goals first|rfl|omega
 ·obtain rfl:i=l.length:=ae
  rw[aJ]at ha;have e:okF l m=true:=ha
  repeat'(first|apply au|refine rq ?_|simp only[go_sem,aC,e,bt,bn,bZ,bh,Tryz.f69])
  all_goals first|rfl|omega
theorem Nw {l:List Abs.aH}:∀(k:Nat) (i:Nat) (_:i<l.length),(∀f∈l.take i,(dB false f).code=0∧gE f≤5)→o4 l k=o4 (l.drop i) (k+i):=by
 intro k i;induction i with
 |zero=>simp
 |succ i ih=>grind[List.drop_eq_getElem_cons,o4]
theorem Mk {l:List Abs.aH}:∀(k:Nat),(∀f∈l,(dB false f).code=0∧gE f≤5)→o4 l k=⟨0,0⟩:=by
 induction l with
 |nil=>intro _ _;rfl
 |cons f l ih=>simp_all[o4]
def I4:Tbl:=I3.add 37 (sp2 gU fun _ _=>True)
attribute [go_sem] I4
set_option maxHeartbeats 4000000 in
theorem hI4:b9 Tryz.prog G I4:=by
 refine gN Bm hI3 fun l size _ hwl _=>?_;have hsl:l.length≤dt:=by have:=iN hwl;simpa using this
 unfold dt at hsl;clear hwl;by_cases h41:41<l.length
 ·have e:gU l size=⟨2, -1⟩:=by unfold gU;rw[aF h41]
  have h41':((41:Int)<l.length)=True:=ap
  rw[e];refine rv (N:=42) hm hI3 37000 qWi Bm Tryz.func37 rfl ?_
  repeat'(first|apply au|refine rq ?_|simp only[go_sem,h41',bt,bn,bZ,bh,Tryz.f37])
  all_goals first|rfl|omega
 have h41':((41:Int)<l.length)=False:=ap
 refine rv (N:=42) hm hI3 37000 qWi Bm Tryz.func37 rfl ?_
 repeat'(first|apply au|refine rq ?_|simp only[go_sem,h41',bt,bn,bZ,bh,Tryz.f37])
 refine cI hm hI3 37000 qWi (ι:=fW l.length 1 fun i=>∀f∈l.take i,(dB false f).code=0∧gE f≤5)
  ⟨fun q=>⟨frL [(0,eS l),(1,eI size),(4,.ptr (37004,0) 0),(12,eS l),(13,eI l.length),(14,eI q.i)],hpL [((37004,0),some ⟨[eI 0,eI 0],true,false⟩)],q.m⟩,fun q=>l.length-q.i⟩
  ⟨0,1,ae,ae,ak⟩ ah ?_ ?_
 ·refine bF ?_ ?_ ?_<;>simp only[go_sem]
  all_goals first|rfl|omega
 rintro⟨i,m,hi,hm1,hp⟩
 try simp only at hi hm1 hp
 rcases aA i l.length with h1|h1
 ·obtain⟨x,hx⟩:∃x,l[i]=x:=⟨_,rfl⟩;have eb:=Nw 0 i h1 hp;rw[aR h1,hx,o4,bE]at eb;have hpx:szP x∨True:= .inr trivial;by_cases hc:(dB false x).code=0;rotate_left
  ·rw[aF hc]at eb;have e:gU l size=⟨(dB false x).code,(i:Int)⟩:=by unfold gU;rw[az h41,eb,aF hc]
   rw[e];obtain⟨X,hX⟩:∃X,dB false x=X:=⟨_,rfl⟩;rw[hX]at hc;rw[hX];have hc':(X.code=0)=False:=aP hc
   repeat'(first|apply au|refine rq ?_|simp only[go_sem,h1,hx,hX,hc',bt,bn,bZ,bh,Tryz.f37])
   all_goals first|rfl|omega
  ·have hcz:=uz hc;rw[az qWh]at eb;have hsz:szP x:=⟨rB hc,by have:=nq hc;omega⟩;by_cases hn:5<gE x
   ·rw[aF hn]at eb;have hn':((5:Int)<(gE x:Int))=True:=ap
    have e:gU l size=⟨17,(i:Int)⟩:=by unfold gU;rw[az h41,eb,aF ak]
    rw[e]
    repeat'(first|apply rx hsz|apply au|refine rq ?_|simp only[go_sem,h1,hx,hcz,hn',bt,bn,bZ,bh,Tryz.f37])
    all_goals first|rfl|omega
   ·have hn':((5:Int)<(gE x:Int))=False:=ap
    repeat'(first|apply rx hsz|apply au|refine rq ?_|simp only[go_sem,h1,hx,hcz,hn',bt,bn,bZ,bh,Tryz.f37])
    refine⟨⟨i+1,m+2,ae,ae,?_⟩,af,?_⟩
    ·grind[List.take_succ_eq_append_getElem]
    refine bF ?_ ?_ ?_<;>simp only[go_sem]
    all_goals first|rfl|omega
 ·obtain rfl:i=l.length:=ae
  rw[aJ]at hp;have eb:=Mk 0 hp;by_cases hs1:size<1
  ·have hs1':(size<1)=True:=aU hs1;have e:gU l size=⟨3, -2⟩:=by unfold gU;rw[az h41,eb,az ak,aF (.inl hs1)]
   rw[e]
   repeat'(first|apply au|refine rq ?_|simp only[go_sem,aC,hs1',bt,bn,bZ,bh,Tryz.f37])
   all_goals first|rfl|omega
  have hs1':(size<1)=False:=aP hs1;by_cases hs4:4<size
  ·have hs4':(4<size)=True:=aU hs4;have e:gU l size=⟨3, -2⟩:=by unfold gU;rw[az h41,eb,az ak,aF (.inr hs4)]
   rw[e]
   repeat'(first|apply au|refine rq ?_|simp only[go_sem,aC,hs1',hs4',bt,bn,bZ,bh,Tryz.f37])
   all_goals first|rfl|omega
  ·have hs4':(4<size)=False:=aP hs4;have e:gU l size=⟨0,0⟩:=by unfold gU;rw[az h41,eb,az ak,az ae]
   rw[e]
   repeat'(first|apply au|refine rq ?_|simp only[go_sem,aC,hs1',hs4',bt,bn,bZ,bh,Tryz.f37])
   all_goals first|rfl|omega
def I5:Tbl:=I4.add 19 (sp2 gU fun _ _=>True)
attribute [go_sem] I5
set_option maxHeartbeats 4000000 in
theorem hI5:b9 Tryz.prog G I5:=by
 refine gN Bh hI4 fun l size _ hwl _=>?_;have hsl:l.length≤dt:=by have:=iN hwl;simpa using this
 unfold dt at hsl;clear hwl;by_cases h41:41<l.length
 ·have e:gU l size=⟨2, -1⟩:=by unfold gU;rw[aF h41]
  have h41':((41:Int)<l.length)=True:=ap
  rw[e];refine rv (N:=45) hm hI4 19000 qWi Bh Tryz.func19 rfl ?_
  repeat'(first|apply au|refine rq ?_|simp only[go_sem,h41',bt,bn,bZ,bh,Tryz.f19])
  all_goals first|rfl|omega
 have h41':((41:Int)<l.length)=False:=ap
 refine rv (N:=45) hm hI4 19000 qWi Bh Tryz.func19 rfl ?_
 repeat'(first|apply au|refine rq ?_|simp only[go_sem,h41',bt,bn,bZ,bh,Tryz.f19])
 refine cI hm hI4 19000 qWi (ι:=fW l.length 1 fun i=>∀f∈l.take i,(dB false f).code=0∧gE f≤5)
  ⟨fun q=>⟨frL [(0,eS l),(1,eI size),(4,.ptr (19004,0) 0),(11,eS l),(12,eI l.length),(13,eI q.i)],hpL [((19004,0),some ⟨[eI 0,eI 0],true,false⟩)],q.m⟩,fun q=>l.length-q.i⟩
  ⟨0,1,ae,ae,ak⟩ ah ?_ ?_
 ·refine bF ?_ ?_ ?_<;>simp only[go_sem]
  all_goals first|rfl|omega
 rintro⟨i,m,hi,hm1,hp⟩
 try simp only at hi hm1 hp
 rcases aA i l.length with h1|h1
 ·obtain⟨x,hx⟩:∃x,l[i]=x:=⟨_,rfl⟩;have eb:=Nw 0 i h1 hp;rw[aR h1,hx,o4,bE]at eb;have hpx:szP x∨True:= .inr trivial;by_cases hc:(dB false x).code=0;rotate_left
  ·rw[aF hc]at eb;have e:gU l size=⟨(dB false x).code,(i:Int)⟩:=by unfold gU;rw[az h41,eb,aF hc]
   rw[e];obtain⟨X,hX⟩:∃X,dB false x=X:=⟨_,rfl⟩;rw[hX]at hc;rw[hX];have hc':(X.code=0)=False:=aP hc
   repeat'(first|apply au|refine rq ?_|simp only[go_sem,h1,hx,hX,hc',bt,bn,bZ,bh,Tryz.f19])
   all_goals first|rfl|omega
  ·have hcz:=uz hc;rw[az qWh]at eb;have hsz:szP x:=⟨rB hc,by have:=nq hc;omega⟩;by_cases hn:5<gE x
   ·rw[aF hn]at eb;have hn':((5:Int)<(gE x:Int))=True:=ap
    have e:gU l size=⟨17,(i:Int)⟩:=by unfold gU;rw[az h41,eb,aF ak]
    rw[e]
    repeat'(first|apply rx hsz|apply au|refine rq ?_|simp only[go_sem,h1,hx,hcz,hn',bt,bn,bZ,bh,Tryz.f19])
    all_goals first|rfl|omega
   ·have hn':((5:Int)<(gE x:Int))=False:=ap
    repeat'(first|apply rx hsz|apply au|refine rq ?_|simp only[go_sem,h1,hx,hcz,hn',bt,bn,bZ,bh,Tryz.f19])
    refine⟨⟨i+1,m+1,ae,ae,?_⟩,af,?_⟩
    ·grind[List.take_succ_eq_append_getElem]
    refine bF ?_ ?_ ?_<;>simp only[go_sem]
    all_goals first|rfl|omega
 ·obtain rfl:i=l.length:=ae
  rw[aJ]at hp;have eb:=Mk 0 hp;by_cases hs1:size<1
  ·have hs1':(size<1)=True:=aU hs1;have e:gU l size=⟨3, -2⟩:=by unfold gU;rw[az h41,eb,az ak,aF (.inl hs1)]
   rw[e]
   repeat'(first|apply au|refine rq ?_|simp only[go_sem,aC,hs1',bt,bn,bZ,bh,Tryz.f19])
   all_goals first|rfl|omega
  have hs1':(size<1)=False:=aP hs1;by_cases hs4:4<size
  ·have hs4':(4<size)=True:=aU hs4;have e:gU l size=⟨3, -2⟩:=by unfold gU;rw[az h41,eb,az ak,aF (.inr hs4)]
   rw[e]
   repeat'(first|apply au|refine rq ?_|simp only[go_sem,aC,hs1',hs4',bt,bn,bZ,bh,Tryz.f19])
   all_goals first|rfl|omega
  ·have hs4':(4<size)=False:=aP hs4;have e:gU l size=⟨0,0⟩:=by unfold gU;rw[az h41,eb,az ak,az ae]
   rw[e]
   repeat'(first|apply au|refine rq ?_|simp only[go_sem,aC,hs1',hs4',bt,bn,bZ,bh,Tryz.f19])
   all_goals first|rfl|omega
end
end Go.Proofs.YtnijhilfchekkaaGreatDoor
