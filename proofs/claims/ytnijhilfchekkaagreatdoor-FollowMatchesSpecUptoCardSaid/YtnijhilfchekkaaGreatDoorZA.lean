import Derived.Test.YtnijhilfchekkaaGreatDoorW6
import Derived.Test.YtnijhilfchekkaaGreatDoorZQ143Q1447
set_option linter.unusedSimpArgs false
set_option maxRecDepth 100000
set_option maxHeartbeats 1000000
namespace Go.Proofs.YtnijhilfchekkaaGreatDoor
open Go Go.Abs Go.Proofs
section
variable {G:Nat→List FD}
def wm:Option (List dd)→List dd×Bool
 |some l=>(l,true)
 |none=>([],false)
def ua (l:List Abs.aH)(size most:Int):List dd×Bool:=wm (Ar l size.toNat most.toNat)
structure GL (l:List Abs.aH)(size most:Int):Prop where
 e:rX l size.toNat
 s:1≤size
 m:0≤most
theorem Zh {l:List Abs.aH}(hv:∀f∈l,(dB false f).code=0)(hl:l.length≤41){i:Nat}(h:i<l.length):(iz (l.take i)).length+(pds l[i]).length≤1000000:=by have h1:=zr (fL (l.take i)) [];grind[wS,zS,nq,List.getElem_mem,iz]
theorem ZA {l:List Abs.aH}{i:Nat}(h:i<l.length):iz (l.take (i+1))=jX (iz (l.take i)) (pds l[i]):=by grind[iz,tp,zq]
theorem Sl {f:Abs.aH}(h:(dB false f).code=0):acP f:=OL h
def iZ (l:List Nat):List Int:=l.map fun n:Nat=>(n:Int)
theorem Ll (a b:List Nat):iZ (a++b)=iZ a++iZ b:=aE
theorem y5 (a:List Nat):(iZ a).length=a.length:=aG _
theorem Mq {S:Nat}(h:S≤4):∀ps:List Pd,(∀p∈ps,0≤p.arity∧p.arity≤3)→gM S ps≤64*ps.length
 |[],_=>by simp[gM]
 |p::ps,hp=>by rw[gM,aN];have h1:=Mq h ps ap;have h2:=hp p ak;have h3:o9 S p≤4^3:=bz (cr h _) (dm ae ae);omega
theorem HC (S:Nat):∀(ps:List Pd) (i:Nat),gM S (ps.take i)≤gM S ps
 |[],i=>ak
 |p::ps,0=>gL _
 |p::ps,i+1=>by grind[gM,HC S ps i]
theorem PY (S A:Nat)(bits:List Bool)(k:Nat):(nj S A bits k).length≤k:=by grind[nj]
theorem Pu (B:List Bool)(c k:Nat):(B.drop c).getD k false=B.getD (c+k) false:=ak
def qd (c S k:Nat):List Int:=iZ (List.replicate c S++List.replicate k 2)
theorem PW (c S k:Nat):(qd c S k).length=c+k:=by simp_all[qd,y5]
theorem ZI (c S k:Nat):qd c S (k+1)=qd c S k++[2]:=by unfold qd;rw[dF,←bu,Ll (List.replicate c S++List.replicate k 2)];rfl
theorem ZJ (c S:Nat):iZ (List.replicate c S)=qd c S 0:=by simp_all[qd]
theorem PJ {S j K n k:Nat}(h1:k<(jH S j K n).length)(h2:k<(fc S j (n / 2^K)).length):(jH S j K n)[k]=(fc S j (n / 2^K))[k]:=by
 have h:∀(l a b:List Int) (_:l=a++b) (k:Nat) (h1:k<l.length) (h2:k<a.length),l[k]=a[k]:=ap
 exact h _ _ _ rfl k h1 h2
theorem PI {S j K n q:Nat}(h1:j+q<(jH S j K n).length):(vP K n).getD q false=decide ((jH S j K n)[j+q]=1):=by
 have h:∀(l a b:List Int) (_:l=a++b) (_:a.length=j) (h1:j+q<l.length) (h2:q<b.length),l[j+q]=b[q]:=ap
 grind[mR,jH,vP]
theorem Qy {l:List Abs.aH}{S k n:Nat}(hp:rX l S)(hn:lG l S=some k){f:Abs.aH}(hf:f∈l):jE (pI l S n) f []:=by
 have hal:=Kf hp hn (i:=n);have hvp:=Mi hal hf;refine⟨⟨hal.m,fun c hc=>Pm qWb hc,fun r hr=>?_,fun r hr t ht=>?_⟩,hvp.v,hvp.s,by have:=(hp.f f hf).2;grind,fun c hc=>XG (GK.2 ⟨f,hf,hc⟩)⟩
 ·obtain⟨p,hp2,b,rfl⟩:=yO hr;exact zc hp p hp2
 ·obtain⟨p,hp2,b,rfl⟩:=yO hr;have h1:=PZ qWb ht;have h2:=zc hp p hp2;exact⟨ap,h1.2⟩
def NZ:Tv:=(.q 0 (.q 1 (.q 2 (.q 3 (.q 4 (.q 5 (.q 6 .leaf)))))))
def pz:Tv:=(.q 0 (.q 1 (.q 2 (.q 3 (.q 4 (.q 5 (.q 6 (.q 7 (.q 8 .leaf)))))))))
theorem Rs (l:List dd):dP (l.map enc) 3:=fun x hx=>by obtain⟨p,_,rfl⟩:=be.1 hx;rfl
def NY:Tv:=(.q 0 (.q 2 (.q 3 (.br [(1,(.br [(4,(.q 5 (.br [(6,(.q 7 (.br [(8,.leaf)])))])))])),(4,(.q 1 (.q 5 (.br [(6,(.q 7 (.br [(8,.leaf)])))]))))]))))
def NX:Tv:=(.q 0 (.q 1 (.q 2 (.q 3 (.q 4 (.q 5 (.q 6 (.q 7 (.q 8 (.br [(9,(.q 10 (.br [(11,.leaf)])))]))))))))))
def I18:Tbl:=I17.add 43 (uv ua GL)
attribute [go_sem] I18
set_option maxHeartbeats 16000000 in
theorem Bb:b9 Tryz.prog G I18:=by
 refine DI G4 ju fun l size most hp hwl _ _=>?_;obtain⟨he,hs,hmo⟩:=hp;obtain⟨S,hS⟩:∃S:Nat,size=(S:Int):=ap
 subst hS;obtain⟨M,hM⟩:∃M:Nat,most=(M:Int):=⟨most.toNat,ae⟩;subst hM;rw[bo]at he;obtain⟨hf,hl,hs1,hs4⟩:=he;have hv:∀f∈l,(dB false f).code=0:=ap
 have hsw:∀f∈l,(enc f).Wf:=fun f h=>oU hwl _ ap;have hpq:∀i (h:i<l.length),Gb l[i] (iz (l.take i)):=fun i h=>⟨ap,Zh hv hl h⟩;have hacp:(∀f∈l,acP f)∧l.length≤41:=by simp_all[Sl]
 have hnm:acM l=e7 l:=yF l;have hnl:=BV hv hl;have hpa:=zc ⟨hf,hl,hs1,hs4⟩;have hpl:(iz l).length≤8200:=by have h1:=zr (fL l) [];have h2:=wS hv;simp only[bj]at h1;unfold iz;omega
 obtain⟨r,hr⟩:∃r,ua l S M=r:=⟨_,rfl⟩;rw[hr];obtain⟨Q,hQ⟩:∃Q:D→bR→Nat→Prop,Q=(fun d _ _=>D.val d=some (.tup [.fz (enc r.1),.fz (enc r.2)])):=⟨_,rfl⟩;rw[←hQ];have kq:=Kp.mk hQ;have kp:=Kp.mk hpq;have kf:=Kp.mk hf;clear hQ hpq hsw hf;refine rv (N:=240) hm ju 43000 qWm G4 Tryz.func43 rfl ?_
 repeat'(first|apply au|refine rq ?_|simp only[go_sem,bt,bn,bZ,bh,eZ,eY,Tryz.f43])
 refine cI hm ju 43000 qWm (ι:=eO l.length fun _=>True)
  ⟨fun q=>⟨frL [(0,eS l),(1,eI S),(2,eI M),(8,eS (iz (l.take q.i))),(35,eS l),(36,eI l.length),(37,eI q.i)],hpL [],0⟩,fun q=>l.length-q.i⟩
  ⟨0,ae,trivial⟩ ah ?_ ?_
 ·refine eX [] [] [] ?_ ?_ ?_ ?_ ?_<;>simp only[go_sem,show iz (l.take 0)=[]from rfl,aQ];rfl
 rintro⟨i,hi,_⟩
 try simp only at hi
 rcases aA i l.length with h1|h1
 ·obtain⟨x,hx⟩:∃x,l[i]=x:=⟨_,rfl⟩;have hpx:=kp.out i h1;have ht:=ZA h1;rw[hx]at hpx ht
  repeat'(first|apply rx hpx|apply au|refine rq ?_|simp only[go_sem,h1,hx,bt,bn,bZ,bh,eZ,eY,Tryz.f43])
  refine⟨⟨i+1,ae,trivial⟩,af,?_⟩;refine bF ?_ ?_ ?_<;>simp only[go_sem,ht]
  all_goals first|rfl|omega
 obtain rfl:i=l.length:=ae
 obtain⟨ps,hps⟩:∃ps,iz l=ps:=⟨_,rfl⟩;obtain⟨ns,hns⟩:∃ns,e7 l=ns:=⟨_,rfl⟩;rw[hns]at hnm hnl;rw[hps]at hpa hpl
 repeat'(first|apply rx hacp|apply au|refine rq ?_|simp only[go_sem,aC,aJ,hps,hnm,bt,bn,bZ,bh,eZ,eY,Tryz.f43])
 obtain⟨c,hc⟩:∃c,ns.length=c:=⟨_,rfl⟩
 refine cI hm ju 43000 qWm (ι:=jL c 1 fun _=>True)
  ⟨fun q=>⟨frL [(0,eS l),(1,eI S),(2,eI M),(8,eS ps),(10,eS ns),(11,.ow (43056,q.g) 1 ((iZ (List.replicate q.i S)).map enc)),(12,eI 1),(50,eI c),(51,eI q.i)],hpL [((43056,q.g),some tok)],q.m⟩,fun q=>c-q.i⟩
  ⟨0,0,1,ae,ae,ae,trivial⟩ ah ?_ ?_
 ·refine eX [] [(43056,0)] [] ?_ ?_ ?_ ?_ ?_<;>(try simp only[go_sem,hc,fq,show iZ []=[]from rfl,aQ])
  all_goals first|rfl|omega
 rintro⟨j,g,m,hj,hg,hm1,_⟩
 try simp only at hj hg hm1
 have hjl:(iZ (List.replicate j S)).length=j:=by rw[y5,cE]
 rcases aA j c with h2|h2
 ·have hrs:iZ (List.replicate (j+1) S)=iZ (List.replicate j S)++[(S:Int)]:=by rw[dF,Ll];rfl
  have h2i:((j:Int)<(c:Int))=True:=ap
  repeat'(first|refine rx (dZ (by first|omega|(simp only[aG,hjl];omega)) ai) ?_|apply au|refine rq ?_|simp only[go_sem,h2i,bt,bn,bZ,bh,eZ,eY,Tryz.f43])
  refine⟨⟨j+1,m,m+1,ae,ae,ae,trivial⟩,af,?_⟩;refine bF ?_ ?_ ?_<;>(try simp only[go_sem,hrs,aE,aM,aQ])
  all_goals first|rfl|omega
 obtain rfl:j=c:=ae
 repeat'(first|apply au|refine rq ?_|simp only[go_sem,ck,bt,bn,bZ,bh,eZ,eY,Tryz.f43])
 obtain⟨C,hC⟩:∃C:Nat→Nat,C=fun i=>gM S (ps.take i):=⟨_,rfl⟩;have hC0:C 0=0:=by rw[hC];rfl
 have hCs:∀i (h:i<ps.length),C (i+1)=C i+o9 S ps[i]:=by simp_all[JI]
 have hCl:∀i,C i≤64*8200:=fun i=>by rw[hC];have h1:=Mq hs4 (ps.take i) ap;grind
 have hCe:C ps.length=gM S ps:=by rw[hC];simp only[aJ]
 have kC:=Kp.mk hCs;have kCl:=Kp.mk hCl;have ka:=Kp.mk hpa;clear hCs hCl hpa;rw[ZJ]at hjl ⊢
 refine cI hm ju 43000 qWm (ι:=jL ps.length (m+1) fun _=>True)
  ⟨fun q=>⟨frL [(0,eS l),(1,eI S),(2,eI M),(8,eS ps),(10,eS ns),(11,.ow (43080,q.g) 1 ((qd j S (C q.i)).map enc)),(12,eI 1),(58,eS ps),(59,eI ps.length),(60,eI q.i)],hpL [((43080,q.g),some tok)],q.m⟩,fun q=>ps.length-q.i⟩
  ⟨0,m,m+1,ae,ae,ae,trivial⟩ ah ?_ ?_
 ·refine eX [((43080,m),(43056,g))] [] [] ?_ ?_ ?_ ?_ ?_<;>(try simp only[go_sem,hC0,xM,nf,vL])
  all_goals omega
 rintro⟨i,g2,m2,hi2,hg2,hm2,_⟩
 try simp only at hi2 hg2 hm2
 rcases aA i ps.length with h3|h3
 ·obtain⟨x,hx⟩:∃x,ps[i]=x:=⟨_,rfl⟩;have hxa:=ka.out x ap;have hcs:=kC.out i h3;have hcl1:=kCl.out i;have hcl2:=kCl.out (i+1);rw[hx]at hcs;obtain⟨A,hA⟩:∃A:Nat,x.arity=(A:Int):=⟨x.arity.toNat,ae⟩;obtain⟨P,hP⟩:∃P:Nat→Nat,P=fun k=>S^k:=⟨_,rfl⟩;have hP0:P 0=1:=by rw[hP];rfl
  have hPs:∀k,P k*S=P (k+1):=ap
  have hPl:∀k,k≤A→P k≤64:=fun k hk=>by rw[hP];exact bz (cr hs4 k) (dm ae ae:4^k≤4^3)
  have hPe:o9 S x=P A:=by rw[hP];show S^x.arity.toNat=_;rw[hA,bo]
  rw[hPe]at hcs;have kPs:=Kp.mk hPs;have kPl:=Kp.mk hPl;clear hP hPs hPl hPe
  repeat'(first|apply au|refine rq ?_|simp only[go_sem,h3,hx,hA,bt,bn,bZ,bh,eZ,eY,Tryz.f43])
  refine cI hm ju 43000 qWm (ι:=eO A fun _=>True)
   ⟨fun q=>⟨frL [(0,eS l),(1,eI S),(2,eI M),(8,eS ps),(10,eS ns),(12,eI 1),(58,eS ps),(59,eI ps.length),(60,eI i),(11,.ow (43080,g2) 1 ((qd j S (C i)).map enc)),(14,.ptr (43014,m2) 0),(15,eI (P q.i:Nat)),(16,eI q.i)],hpL [((43080,g2),some tok),((43014,m2),some ⟨[.fz (.s x.name.l),eI A],true,false⟩)],m2+1⟩,fun q=>A-q.i⟩
   ⟨0,ae,trivial⟩ ah ?_ ?_
  ·refine bF ?_ ?_ ?_<;>simp only[go_sem,hP0,hA]
   all_goals first|rfl|omega
  rintro⟨k,hk,_⟩
  try simp only at hk
  rcases aA k A with h4|h4
  ·have h5:=kPs.out k;have h6:=kPl.out k ae;have h7:=kPl.out (k+1) ae;have h8:((P k:Nat):Int)*(S:Int)=((P (k+1):Nat):Int):=by rw[←h5];simp
   have h9:((k:Int)<(A:Int))=True:=ap
   repeat'(first|apply au|refine rq ?_|simp only[go_sem,h8,h9,bt,bn,bZ,bh,eZ,eY,Tryz.f43])
   refine⟨⟨k+1,ae,trivial⟩,af,?_⟩;refine bF ?_ ?_ ?_<;>simp only[go_sem]
   all_goals first|rfl|omega
  obtain rfl:A=k:=ae
  repeat'(first|apply au|refine rq ?_|simp only[go_sem,ck,bt,bn,bZ,bh,eZ,eY,Tryz.f43])
  obtain⟨R,hR⟩:∃R,P A=R:=⟨_,rfl⟩;rw[hR]at hcs ⊢;have hRl:=kPl.out A (aI _);rw[hR]at hRl
  refine cI hm ju 43000 qWm (ι:=jL R (m2+1) fun _=>True)
   ⟨fun q=>⟨frL [(0,eS l),(1,eI S),(2,eI M),(8,eS ps),(10,eS ns),(12,eI 1),(58,eS ps),(59,eI ps.length),(60,eI i),(11,.ow (43080,q.g) 1 ((qd j S (C i+q.i)).map enc)),(15,eI R),(17,eI q.i)],hpL [((43080,q.g),some tok)],q.m⟩,fun q=>R-q.i⟩
   ⟨0,g2,m2+1,ae,ae,ae,trivial⟩ ah ?_ ?_
  ·refine bF ?_ ?_ ?_<;>simp only[go_sem,bJ]
   all_goals first|rfl|omega
  rintro⟨k,g3,m3,hk2,hg3,hm3,_⟩
  try simp only at hk2 hg3 hm3
  rcases aA k R with h4|h4
  ·have hts:=ZI j S (C i+k);have htl:=PW j S (C i+k);have h9:((k:Int)<(R:Int))=True:=ap
   repeat'(first|refine rx (dZ (by first|omega|(simp only[aG,htl];omega)) ai) ?_|apply au|refine rq ?_|simp only[go_sem,h9,bt,bn,bZ,bh,eZ,eY,Tryz.f43])
   refine⟨⟨k+1,m3,m3+1,ae,ae,ae,trivial⟩,af,?_⟩;refine bF ?_ ?_ ?_<;>(try simp only[go_sem,←cz,hts,aE,aM,aQ])
   all_goals first|rfl|omega
  obtain rfl:R=k:=ae
  repeat'(first|apply au|refine rq ?_|simp only[go_sem,ck,bt,bn,bZ,bh,eZ,eY,Tryz.f43])
  refine⟨⟨i+1,g3,m3,ae,ae,ae,trivial⟩,af,?_⟩;refine bF ?_ ?_ ?_<;>simp only[go_sem,hcs]
  all_goals first|rfl|omega
 obtain rfl:i=ps.length:=ae
 obtain⟨K,hK⟩:∃K,gM S ps=K:=⟨_,rfl⟩;rw[hK]at hCe
 repeat'(first|apply au|refine rq ?_|simp only[go_sem,ck,aC,hCe,bt,bn,bZ,bh,eZ,eY,Tryz.f43])
 obtain⟨TN,hTN⟩:∃TN:List Nat,List.replicate j S++List.replicate K 2=TN:=⟨_,rfl⟩;have hTL:qd j S K=iZ TN:=by rw[←hTN];rfl
 have hTn:TN.length=j+K:=by rw[←hTN,aD,cE,cE]
 have hTm:∀t∈TN,t≤4:=ap
 have hnum:nY 1 TN=lG l S:=by unfold lG vE vW;rw[hns,hps,hc,yQ,hK,hTN]
 obtain⟨rr,hrr⟩:∃rr,lG l S=rr:=⟨_,rfl⟩;rw[hrr]at hnum;have hgt:∀i (h:i<TN.length),((iZ TN).map enc).getD i FD.nilf=FD.i .i64 (TN[i]:Nat):=fun i h=>by rw[bh (by rw[y5];exact h)];unfold iZ;rw[cm];rfl
 have kg:=Kp.mk hgt;have kt:=Kp.mk hTm;have hil:=y5 TN;clear hgt hTm;obtain⟨L,hL⟩:∃L,j+K=L:=⟨_,rfl⟩;rw[hL]at hTn;have hLb:L≤11000000:=by have:=kCl.out ps.length;omega
 refine cI hm ju 43000 qWm (ι:=xQ L m2 fun i v=>v≤8192∧nY v (TN.drop i)=rr)
  ⟨fun q=>⟨frL [(0,eS l),(1,eI S),(2,eI M),(8,eS ps),(10,eS ns),(11,.ow (43080,g2) 1 ((iZ TN).map enc)),(12,eI (q.v:Nat)),(82,.ow (43080,g2) 1 ((iZ TN).map enc)),(83,eI L),(84,eI q.i)],hpL [((43080,g2),some tok)],q.m⟩,fun q=>L-q.i⟩
  ⟨0,1,m2,ae,ae,ae,hnum⟩ ah ?_ ?_
 ·refine bF ?_ ?_ ?_<;>simp only[go_sem,hTL,hil,hTn]
  all_goals first|rfl|omega
 rintro⟨i,v,m3,hi3,hm3,hv8,hcap⟩
 try simp only at hi3 hm3 hv8 hcap
 rcases aA i L with h3|h3
 ·have h4:i<TN.length:=ae
  have h5:=kg.out i h4;obtain⟨t,ht⟩:∃t,TN[i]=t:=⟨_,rfl⟩;have ht4:=kt.out t ap;rw[ht]at h5;rw[aR h4,ht,nY]at hcap;have h6:(v:Int)*(t:Int)=((v*t:Nat):Int):=ak
  have h7:((i:Int)<(L:Int))=True:=ap
  have h8:v*t≤524288:=bz (eN hv8 ae) ai;have h9:i<(iZ TN).length:=ae
  by_cases hb:8192<v*t
  ·rw[aF hb]at hcap;have hb':((8192:Int)<((v*t:Nat):Int))=True:=ap
   have hr0:ua l S M=([],false):=by unfold ua Ar jD;simp only[bo];rw[hrr,←hcap];rfl
   repeat'(first|refine rx (by rw[h5];rfl) ?_|apply au|refine rq ?_|simp only[go_sem,h5,h6,h7,h9,hb',hil,hTn,bt,bn,bZ,bh,eZ,eY,Tryz.f43])
   all_goals
    rw[kq.out,←hr,hr0];rfl
  ·rw[az hb]at hcap;have hb':((8192:Int)<((v*t:Nat):Int))=False:=ap
   repeat'(first|refine rx (by rw[h5];rfl) ?_|apply au|refine rq ?_|simp only[go_sem,h5,h6,h7,h9,hb',hil,hTn,bt,bn,bZ,bh,eZ,eY,Tryz.f43])
   refine⟨⟨i+1,v*t,m3,ae,ae,ae,hcap⟩,af,?_⟩;refine bF ?_ ?_ ?_<;>simp only[go_sem]
   all_goals first|rfl|omega
 obtain rfl:i=L:=ae
 rw[de ae,nY]at hcap;subst hcap;have rep_ints:∀n:Nat,List.replicate n (D.fz (.i .i64 0))=bA ((List.replicate n (0:Int)).map enc):=fun n=>by rw[ia];simp[zD]
 have hd0:List.replicate i (0:Int)=jH S j K 0:=by rw[Wh,hL]
 repeat'(first|apply au|refine rq ?_|simp only[go_sem,ck,hil,hTn,nT,rep_ints,hd0,bt,bn,bZ,bh,eZ,eY,Tryz.f43])
 have hr1:r=((lB l S v).take M,true):=by rw[←hr];unfold ua Ar jD;simp only[bo];rw[hrr];rfl
 have hcl:ns.length=j:=hc
 refine cI hm ju 43000 qWm (ι:=jL v (m3+2) fun n=>(lB l S n).length≤M)
  ⟨fun q=>⟨frL [(0,eS l),(1,eI S),(2,eI M),(8,eS ps),(10,eS ns),(11,.ow (43080,g2) 1 ((iZ TN).map enc)),(12,eI v),(20,.arr (43096,m3) 1 0 i),(21,.ow (43213,q.g) 3 ((lB l S q.i).map enc)),(22,eI q.i)],hpL [((43096,m3),some ⟨bA ((jH S j K q.i).map enc),false,false⟩),((43080,g2),some tok),((43213,q.g),some tok)],q.m⟩,fun q=>v-q.i⟩
  ⟨0,m3+1,m3+2,ae,ae,ae,by simp_all[lB]⟩ ah ?_ ?_
 ·refine eX [] [(43213,m3+1)] [] ?_ ?_ ?_ ?_ ?_<;>(try simp only[go_sem,show lB l S 0=[]from rfl,aQ])
  all_goals omega
 rintro⟨n,g3,m4,hn,hg3,hm4,hlM⟩
 try simp only at hn hg3 hm4 hlM
 obtain⟨O,hO⟩:∃O,lB l S n=O:=⟨_,rfl⟩;rw[hO]at hlM;rcases aA n v with h3|h3;rotate_left
 ·obtain rfl:n=v:=ae
  have h4:r=(O,true):=by rw[hr1,hO,bV hlM]
  repeat'(first|apply au|refine rq ?_|simp only[go_sem,ck,hO,bt,bn,bZ,bh,eZ,eY,Tryz.f43])
  all_goals
   rw[kq.out,h4];rfl
 have h3i:((n:Int)<(v:Int))=True:=ap
 rcases aA O.length M with h4|h4;rotate_left
 ·have h5:r=(O,true):=by obtain⟨w,hw⟩:=KW l S (n:=n) (t:=v) hn;rw[hr1,hw,hO,List.take_append_of_le_length h4,bV hlM]
  have h6:((O.length:Int)<(M:Int))=False:=ap
  repeat'(first|apply au|refine rq ?_|simp only[go_sem,h3i,h6,hO,bt,bn,bZ,bh,eZ,eY,Tryz.f43])
  all_goals
   rw[kq.out,h5];rfl
 have h6:((O.length:Int)<(M:Int))=True:=ap
 have hOn:=KV l S n;rw[hO]at hOn;obtain⟨F,hF⟩:∃F,pI l S n=F:=⟨_,rfl⟩;have hms:=Jv l S n;rw[hF,hO]at hms;have hFc:F.consts=List.zipWith dT.mk ns (fc S j (n / 2^K)):=by rw[←hF];unfold pI mW;rw[hns,hps,hcl,hK]
 obtain⟨D,hD⟩:∃D,jH S j K n=D:=⟨_,rfl⟩;have hDl:D.length=i:=by rw[←hD,VN,hL]
 have hFl:F.consts.length=j:=by rw[hFc,EG (by rw[mR,hcl]),hcl]
 have hFk:∀k (h1:k<ns.length) (h2:k<F.consts.length) (h3:k<D.length),F.consts[k]=⟨ns[k],D[k]⟩:=fun k h1 h2 h3=>by grind[PJ]
 have kF:=Kp.mk hFk;clear hFk hFc
 repeat'(first|apply au|refine rq ?_|simp only[go_sem,h3i,h6,hO,hcl,bt,bn,bZ,bh,eZ,eY,Tryz.f43])
 refine cI hm ju 43000 qWm (ι:=jL j (m4+2) fun _=>True)
  ⟨fun q=>⟨frL [(0,eS l),(1,eI S),(2,eI M),(8,eS ps),(10,eS ns),(11,.ow (43080,g2) 1 ((iZ TN).map enc)),(12,eI v),(20,.arr (43096,m3) 1 0 i),(21,.ow (43213,g3) 3 (O.map enc)),(22,eI n),(23,.ptr (43023,m4) 0),(110,eS ns),(111,eI j),(112,eI q.i)],hpL [((43096,m3),some ⟨bA (D.map enc),false,false⟩),((43080,g2),some tok),((43213,g3),some tok),((43023,m4),some ⟨[eI S,.ow (43126,q.g) 2 ((F.consts.take q.i).map enc),.full []],true,false⟩),((43126,q.g),some tok)],q.m⟩,fun q=>j-q.i⟩
  ⟨0,m4+1,m4+2,ae,ae,ae,trivial⟩ ah ?_ ?_
 ·refine eX [] [(43126,m4+1)] [] ?_ ?_ ?_ ?_ ?_<;>(try simp only[go_sem,hD,hO,bv,aQ])
  all_goals omega
 rintro⟨k,g4,m5,hk,hg4,hm5,_⟩
 try simp only at hk hg4 hm5
 rcases aA k j with h5|h5
 ·have h7:=kF.out k ae ae ae;have ht:F.consts.take (k+1)=F.consts.take k++[⟨ns[k],D[k]⟩]:=by rw[aB ae,h7]
  obtain⟨w,hw⟩:∃w,ns[k]=w:=⟨_,rfl⟩;obtain⟨d,hd⟩:∃d,D[k]=d:=⟨_,rfl⟩;rw[hw,hd]at ht;have htl:(F.consts.take k).length=k:=by rw[aX];omega
  have hgw:((ns.map enc).getD k FD.nilf)=FD.s w.l:=by rw[bh ae,hw];rfl
  have hgd:(bA (D.map enc)).getD k .junk= .fz (.i .i64 d):=by rw[nM ae,hd];rfl
  have hkL:k<i:=ae
  have hkn:k<ns.length:=ae
  have h8:((k:Int)<(j:Int))=True:=aU ae
  repeat'(first|refine ru (id:=43) hm ju 43000 qWm NX ?_|refine rx (by rw[hgw];rfl) ?_|refine rx (dZ (by first|omega|(simp only[aG,htl];omega)) ai) ?_|apply au|refine rq ?_|simp only[go_sem,h8,hgw,hgd,hkL,hkn,hcl,hDl,NX,bt,bn,bZ,bh,eZ,eY,Tryz.f43])
  all_goals
   refine⟨⟨k+1,m5,m5+1,ae,ae,ae,trivial⟩,af,?_⟩;refine bF ?_ ?_ ?_<;>(try simp only[go_sem,ht,aE,aM,aQ])
   all_goals first|rfl|omega
 obtain rfl:j=k:=ae
 have hft:F.consts.take j=F.consts:=ap
 repeat'(first|apply au|refine rq ?_|simp only[go_sem,ck,hcl,hft,bt,bn,bZ,bh,eZ,eY,Tryz.f43])
 obtain⟨B,hB⟩:∃B,vP K n=B:=⟨_,rfl⟩;have hDB:∀q (h1:j+q<D.length),B.getD q false=decide (D[j+q]=1):=by grind[PI]
 obtain⟨RF,hRF⟩:∃RF:Nat→List gV,RF=fun q=>nW S (ps.take q) B:=⟨_,rfl⟩;have hR0:RF 0=[]:=by rw[hRF];rfl
 have hRs:∀q (h:q<ps.length),RF (q+1)=RF q++[⟨ps[q].name,ps[q].arity,nj S ps[q].arity.toNat (B.drop (C q)) (S^ps[q].arity.toNat)⟩]:=fun q h=>by rw[hRF,hC];simp only;rw[Cj B h];rfl
 have hRe:RF ps.length=F.rels:=by rw[hRF];simp only[aJ];rw[←hF];unfold pI mW;rw[hps,hK,hB]
 have kR:=Kp.mk hRs;have kDB:=Kp.mk hDB;have hCm:∀q,C q≤K:=fun q=>by rw[hC,←hK];exact HC S ps q
 have kCm:=Kp.mk hCm;have hRl:∀q,q≤ps.length→(RF q).length=q:=fun q h=>by rw[hRF];simp only;rw[Ci,aX];omega
 have kRl:=Kp.mk hRl;clear hRs hRF hDB hC hCm hRl
 refine cI hm ju 43000 qWm (ι:=jL ps.length (m5+1) fun _=>True)
  ⟨fun q=>⟨frL [(0,eS l),(1,eI S),(2,eI M),(8,eS ps),(10,eS ns),(11,.ow (43080,g2) 1 ((iZ TN).map enc)),(12,eI v),(20,.arr (43096,m3) 1 0 i),(21,.ow (43213,g3) 3 (O.map enc)),(22,eI n),(23,.ptr (43023,m4) 0),(26,eI ((j+C q.i:Nat):Int)),(131,eS ps),(132,eI ps.length),(133,eI q.i)],hpL [((43096,m3),some ⟨bA (D.map enc),false,false⟩),((43080,g2),some tok),((43213,g3),some tok),((43023,m4),some ⟨[eI S,.ow (43126,g4) 2 (F.consts.map enc),.ow (43191,q.g) 3 ((RF q.i).map enc)],true,false⟩),((43126,g4),some tok),((43191,q.g),some tok)],q.m⟩,fun q=>ps.length-q.i⟩
  ⟨0,m5,m5+1,ae,ae,ae,trivial⟩ ah ?_ ?_
 ·refine eX [] [(43191,m5)] [] ?_ ?_ ?_ ?_ ?_<;>(try simp only[go_sem,hC0,hR0,aQ,bJ])
  all_goals omega
 rintro⟨a,g5,m6,ha,hg5,hm6,_⟩
 try simp only at ha hg5 hm6
 rcases aA a ps.length with h5|h5
 ·obtain⟨x,hx⟩:∃x,ps[a]=x:=⟨_,rfl⟩;have hxa:=ka.out x (by rw[←hx];simp);have hR1:=kR.out a h5;have hC1:=kC.out a h5;have hCb:=kCm.out (a+1);have hCc:=kCl.out (a+1);rw[hx]at hR1 hC1;obtain⟨nm,ar⟩:=x;simp only at hxa hR1;obtain⟨A,hA⟩:∃A:Nat,ar=(A:Int):=⟨ar.toNat,ae⟩;subst hA;rw[bo]at hR1;obtain⟨N,hN⟩:∃N,S^A=N:=⟨_,rfl⟩;have hC1:C (a+1)=C a+N:=by rw[hC1,←hN];rfl
  rw[hN]at hR1;have hN64:N≤64:=by rw[←hN];exact bz (cr hs4 A) (dm ae ae:4^A≤4^3)
  have hRal:=kRl.out a ae;have hN0:0<N:=by rw[←hN];exact Nat.pow_pos ae
  obtain⟨B',hB'⟩:∃B',B.drop (C a)=B':=⟨_,rfl⟩;rw[hB']at hR1;have hbit:∀k,k<N→B'.getD k false=decide (D.getD (j+C a+k) 0=1):=fun k hk=>by rw[←hB',Pu,kDB.out (C a+k) ae,av,ay ae];simp only[cz,bD]
  have hU:∀k,nj S A B' (k+1)=nj S A B' k++(if B'.getD k false=true then[fc S A k]else[]):=LB S A B';have hU0:nj S A B' 0=[]:=rfl;have hdA:List.replicate A (0:Int)=fc S A 0:=(Bw S A).symm;have kU:=Kp.mk hU;have kb:=Kp.mk hbit;clear hU hbit hB'
  repeat'(first|apply au|refine rq ?_|simp only[go_sem,h5,hx,nT,rep_ints,hdA,bt,bn,bZ,bh,eZ,eY,Tryz.f43])
  refine cI hm ju 43000 qWm (ι:=jL N (m6+4) fun k=>k<N)
   ⟨fun q=>⟨frL [(0,eS l),(1,eI S),(2,eI M),(8,eS ps),(10,eS ns),(11,.ow (43080,g2) 1 ((iZ TN).map enc)),(12,eI v),(20,.arr (43096,m3) 1 0 i),(21,.ow (43213,g3) 3 (O.map enc)),(22,eI n),(23,.ptr (43023,m4) 0),(26,eI ((j+C a+q.i:Nat):Int)),(28,.ptr (43028,m6) 0),(29,.ptr (43029,m6+1) 0),(30,.arr (43144,m6+2) 1 0 A),(131,eS ps),(132,eI ps.length),(133,eI a)],hpL [((43096,m3),some ⟨bA (D.map enc),false,false⟩),((43080,g2),some tok),((43213,g3),some tok),((43023,m4),some ⟨[eI S,.ow (43126,g4) 2 (F.consts.map enc),.ow (43191,g5) 3 ((RF a).map enc)],true,false⟩),((43126,g4),some tok),((43191,g5),some tok),((43028,m6),some ⟨[.fz (.s nm.l),eI A],true,false⟩),((43029,m6+1),some ⟨[.fz (.s nm.l),eI A,.ow (43156,q.g) 1 ((nj S A B' q.i).map enc)],true,false⟩),((43144,m6+2),some ⟨bA ((fc S A q.i).map enc),false,false⟩),((43156,q.g),some tok)],q.m⟩,fun q=>N-q.i⟩
   ⟨0,m6+3,m6+4,ae,ae,ae,hN0⟩ ah ?_ ?_
  ·refine eX [] [(43156,m6+3)] [] ?_ ?_ ?_ ?_ ?_<;>(try simp only[go_sem,hU0,aQ,bJ])
   all_goals omega
  rintro⟨k,g7,m7,hk,hg7,hm7,hkN0⟩
  try simp only at hk hg7 hm7 hkN0
  obtain⟨T,hTe⟩:∃T,fc S A k=T:=⟨_,rfl⟩;have hTl:T.length=A:=by rw[←hTe,mR]
  have hTb:∀x∈T,0≤x∧x<(S:Int):=fun x hx=>by rw[←hTe]at hx;exact sA ae _ _ _ hx
  have kTv:=Kp.mk (fun q (h:q<T.length)=>hTb _ (aT h));obtain⟨TA,hTA⟩:∃TA,List.replicate A S=TA:=⟨_,rfl⟩;have hTT:TA.length=T.length:=by rw[←hTA,cE,hTl]
  have hincA:=uK (s:=S) ae A k ae;rw[hTe,hTA,hN]at hincA;have hTt:T.take A=T:=bV ae;have hzA:iv (TA.drop (A-0)) (T.drop (A-0))=(List.replicate 0 0,true):=by have:=Lj hTT;rw[hTT,hTl]at this;exact this
  obtain⟨JA,hJA⟩:∃JA:Nat→Int,JA=fun q:Nat=>(A:Int)-1-(q:Int):=⟨_,rfl⟩;have hJA0:JA 0=(A:Int)-1:=by rw[hJA];simp
  have hJAe:JA A= -1:=by rw[hJA];simp only;omega
  have hJAp:∀q p,p+q+1=A→JA q=(p:Int)∧JA (q+1)=(p:Int)-1:=fun q p h=>by rw[hJA];simp only;omega
  have kJA:=Kp.mk hJAp;have hczA:=KG hTl;clear hJA hJAp hTb;have hUl:=PY S A B' k;have hU1:=kU.out k;have hb1:=kb.out k hkN0;rw[hTe]at hU1;have hkk:((j+C a+k:Nat):Int)+1=((j+C a+(k+1):Nat):Int):=ae
  obtain⟨z,hz⟩:∃z,D.getD (j+C a+k) 0=z:=⟨_,rfl⟩;have hat:j+C a+k<i:=ae
  have hgz:(bA (D.map enc)).getD (j+C a+k) .junk= .fz (.i .i64 z):=by rw[nM ae,←hz,av,ay ae];rfl
  rw[hz]at hb1;by_cases hz1:z=1
  ·have hz1':(z=1)=True:=aU hz1;rw[hb1,ba hz1,aF rfl]at hU1
   repeat'(first|refine ru (id:=52) hm ju 43000 qWm NY ?_|refine rx ⟨ae,dZ (by first|omega|(simp only[aX];omega)) ai⟩ ?_|apply au|refine rq ?_|simp only[go_sem,hgz,hat,hDl,hz1',hTe,NY,bt,bn,bZ,bh,eZ,eY,Tryz.f43])
   all_goals
    refine cI hm ju 43000 qWm (ι:=eO A fun q=>iv (TA.drop (A-q)) (T.drop (A-q))=(List.replicate q 0,true))
     ⟨fun q=>⟨frL [(0,eS l),(1,eI S),(2,eI M),(8,eS ps),(10,eS ns),(11,.ow (43080,g2) 1 ((iZ TN).map enc)),(12,eI v),(20,.arr (43096,m3) 1 0 i),(21,.ow (43213,g3) 3 (O.map enc)),(22,eI n),(23,.ptr (43023,m4) 0),(26,.fz (.i .i64 ((j+C a+(k+1):Nat):Int))),(28,.ptr (43028,m6) 0),(29,.ptr (43029,m6+1) 0),(30,.arr (43144,m6+2) 1 0 A),(131,eS ps),(132,eI ps.length),(133,eI a),(31,eI (JA q.i))],hpL [((43096,m3),some ⟨bA (D.map enc),false,false⟩),((43080,g2),some tok),((43213,g3),some tok),((43023,m4),some ⟨[eI S,.ow (43126,g4) 2 (F.consts.map enc),.ow (43191,g5) 3 ((RF a).map enc)],true,false⟩),((43126,g4),some tok),((43191,g5),some tok),((43028,m6),some ⟨[.fz (.s nm.l),eI A],true,false⟩),((43029,m6+1),some ⟨[.fz (.s nm.l),eI A,.ow (43156,m7+1) 1 ((nj S A B' k++[T]).map enc)],true,false⟩),((43144,m6+2),some ⟨bA ((fA T A q.i).map enc),false,false⟩),((43156,m7+1),some tok)],m7+2⟩,fun q=>A-q.i⟩
     ⟨0,ae,hzA⟩ ah ?_ ?_
    ·refine bF ?_ ?_ ?_<;>simp only[go_sem,hTt,hJA0,hczA,hkk,hU1,aE,aM,aQ,bP]
     all_goals first|rfl|omega
    rintro⟨q,hq,hpq⟩
    try simp only at hq hpq
    rcases aA q A with h12|h12;rotate_left
    ·obtain rfl:A=q:=ae
     rw[cM,bC,bC,hincA]at hpq;have hkN:k+1=N:=by have:=a8 Prod.snd hpq;simpa using this
     have hR2:RF a++[⟨nm,(A:Int),nj S A B' k++[T]⟩]=RF (a+1):=by rw[hR1,←hkN,hU1]
     have hjc:j+C a+(k+1)=j+C (a+1):=by rw[hC1,←hkN];omega
     repeat'(first|apply au|refine rq ?_|simp only[go_sem,hJAe,hjc,bt,bn,bZ,bh,eZ,eY,Tryz.f43])
     refine⟨⟨a+1,m7+2,m7+2+1,ae,ae,ae,trivial⟩,af,?_⟩;refine bF ?_ ?_ ?_<;>simp only[go_sem,←hR2,hjc,aE,aM,aQ]
     all_goals first|rfl|omega
    obtain⟨p,hp⟩:∃p,p+q+1=A:=⟨A-1-q,ae⟩;obtain⟨e1,e4⟩:=kJA.out q p hp;have hpD:p<T.length:=ae
    have hpT:p<TA.length:=ae
    have hclen:=w7 hTl hq;have hpC:p<(fA T A q).length:=ae
    have hcg:=w6 hTl hp hpC hpD;obtain⟨d,hd⟩:∃d,T[p]=d:=⟨_,rfl⟩;have hdb:=kTv.out p hpD;rw[hd]at hcg hdb;have hgd:(bA ((fA T A q).map enc)).getD p .junk= .fz (.i .i64 d):=by rw[nM hpC,hcg];rfl
    have hT:=wh hTT (by rw[show p+1=A-q by omega];exact hpq) hpT hpD;have hta:TA[p]=S:=by simp only[←hTA,eQ]
    rw[hd,hta]at hT;have e2:((0:Int)≤(p:Int))=True:=aU ae;have e3:((p:Int)<0)=False:=aP ae;have hpi:p<A:=ae
    by_cases h11:d+1<(S:Int)
    ·have h11':(d=(S:Int)-1)=False:=aP ae;obtain⟨E,hE⟩:∃E,(fA T A q).set p (d+1)=E:=⟨_,rfl⟩;have hst:(bA ((fA T A q).map enc)).set p (.fz (.i .i64 (d+1)))=bA (E.map enc):=by rw[←hE,←jI];rfl
     have h13:=hT.2 h11;rw[hincA]at h13;have hkN:k+1<N:=by
      have h14:=a8 Prod.snd h13;have h15:¬k+1=N:=by simpa using h14
      omega
     have hEn:E=fc S A (k+1):=by have h16:=a8 Prod.fst h13;simp only at h16;rw[←hE,vf hTl hp,←h16,dA hkN]
     repeat'(first|apply au|refine rq ?_|simp only[go_sem,e1,e2,e3,hgd,hst,hpi,hclen,h11',bt,bn,bZ,bh,eZ,eY,Tryz.f43])
     refine⟨⟨k+1,m7+1,m7+2,ae,ae,ae,hkN⟩,af,?_⟩;refine bF ?_ ?_ ?_<;>simp only[go_sem,hEn,hU1,aE,aM,aQ,bP]
     all_goals first|rfl|omega
    ·have h11':(d=(S:Int)-1)=True:=aU ae;have hst2:(bA ((fA T A q).map enc)).set p (.fz (.i .i64 0))=bA ((fA T A (q+1)).map enc):=by rw[←w8 hTl hp,←jI];rfl
     repeat'(first|apply au|refine rq ?_|simp only[go_sem,e1,e2,hgd,hst2,hpi,hclen,h11',bt,bn,bZ,bh,eZ,eY,Tryz.f43])
     refine⟨⟨q+1,ae,by rw[show A-(q+1)=p by omega];exact hT.1 ae⟩,af,?_⟩;refine bF ?_ ?_ ?_<;>simp only[go_sem,e4]
     all_goals first|rfl|omega
  ·have hz1':(z=1)=False:=aP hz1;rw[hb1,aW hz1,az ai,bP]at hU1
   repeat'(first|apply au|refine rq ?_|simp only[go_sem,hgz,hat,hDl,hz1',hTe,bt,bn,bZ,bh,eZ,eY,Tryz.f43])
   refine cI hm ju 43000 qWm (ι:=eO A fun q=>iv (TA.drop (A-q)) (T.drop (A-q))=(List.replicate q 0,true))
    ⟨fun q=>⟨frL [(0,eS l),(1,eI S),(2,eI M),(8,eS ps),(10,eS ns),(11,.ow (43080,g2) 1 ((iZ TN).map enc)),(12,eI v),(20,.arr (43096,m3) 1 0 i),(21,.ow (43213,g3) 3 (O.map enc)),(22,eI n),(23,.ptr (43023,m4) 0),(26,.fz (.i .i64 ((j+C a+(k+1):Nat):Int))),(28,.ptr (43028,m6) 0),(29,.ptr (43029,m6+1) 0),(30,.arr (43144,m6+2) 1 0 A),(131,eS ps),(132,eI ps.length),(133,eI a),(31,eI (JA q.i))],hpL [((43096,m3),some ⟨bA (D.map enc),false,false⟩),((43080,g2),some tok),((43213,g3),some tok),((43023,m4),some ⟨[eI S,.ow (43126,g4) 2 (F.consts.map enc),.ow (43191,g5) 3 ((RF a).map enc)],true,false⟩),((43126,g4),some tok),((43191,g5),some tok),((43028,m6),some ⟨[.fz (.s nm.l),eI A],true,false⟩),((43029,m6+1),some ⟨[.fz (.s nm.l),eI A,.ow (43156,g7) 1 ((nj S A B' k).map enc)],true,false⟩),((43144,m6+2),some ⟨bA ((fA T A q.i).map enc),false,false⟩),((43156,g7),some tok)],m7⟩,fun q=>A-q.i⟩
    ⟨0,ae,hzA⟩ ah ?_ ?_
   ·refine bF ?_ ?_ ?_<;>simp only[go_sem,hTt,hJA0,hczA,hkk,hU1,aE,aM,aQ,bP]
    all_goals first|rfl|omega
   rintro⟨q,hq,hpq⟩
   try simp only at hq hpq
   rcases aA q A with h12|h12;rotate_left
   ·obtain rfl:A=q:=ae
    rw[cM,bC,bC,hincA]at hpq;have hkN:k+1=N:=by have:=a8 Prod.snd hpq;simpa using this
    have hR2:RF a++[⟨nm,(A:Int),nj S A B' k⟩]=RF (a+1):=by rw[hR1,←hkN,hU1]
    have hjc:j+C a+(k+1)=j+C (a+1):=by rw[hC1,←hkN];omega
    repeat'(first|apply au|refine rq ?_|simp only[go_sem,hJAe,hjc,bt,bn,bZ,bh,eZ,eY,Tryz.f43])
    refine⟨⟨a+1,m7,m7+1,ae,ae,ae,trivial⟩,af,?_⟩;refine bF ?_ ?_ ?_<;>simp only[go_sem,←hR2,hjc,aE,aM,aQ]
    all_goals first|rfl|omega
   obtain⟨p,hp⟩:∃p,p+q+1=A:=⟨A-1-q,ae⟩;obtain⟨e1,e4⟩:=kJA.out q p hp;have hpD:p<T.length:=ae
   have hpT:p<TA.length:=ae
   have hclen:=w7 hTl hq;have hpC:p<(fA T A q).length:=ae
   have hcg:=w6 hTl hp hpC hpD;obtain⟨d,hd⟩:∃d,T[p]=d:=⟨_,rfl⟩;have hdb:=kTv.out p hpD;rw[hd]at hcg hdb;have hgd:(bA ((fA T A q).map enc)).getD p .junk= .fz (.i .i64 d):=by rw[nM hpC,hcg];rfl
   have hT:=wh hTT (by rw[show p+1=A-q by omega];exact hpq) hpT hpD;have hta:TA[p]=S:=by simp only[←hTA,eQ]
   rw[hd,hta]at hT;have e2:((0:Int)≤(p:Int))=True:=aU ae;have e3:((p:Int)<0)=False:=aP ae;have hpi:p<A:=ae
   by_cases h11:d+1<(S:Int)
   ·have h11':(d=(S:Int)-1)=False:=aP ae;obtain⟨E,hE⟩:∃E,(fA T A q).set p (d+1)=E:=⟨_,rfl⟩;have hst:(bA ((fA T A q).map enc)).set p (.fz (.i .i64 (d+1)))=bA (E.map enc):=by rw[←hE,←jI];rfl
    have h13:=hT.2 h11;rw[hincA]at h13;have hkN:k+1<N:=by
     have h14:=a8 Prod.snd h13;have h15:¬k+1=N:=by simpa using h14
     omega
    have hEn:E=fc S A (k+1):=by have h16:=a8 Prod.fst h13;simp only at h16;rw[←hE,vf hTl hp,←h16,dA hkN]
    repeat'(first|apply au|refine rq ?_|simp only[go_sem,e1,e2,e3,hgd,hst,hpi,hclen,h11',bt,bn,bZ,bh,eZ,eY,Tryz.f43])
    refine⟨⟨k+1,g7,m7,ae,ae,ae,hkN⟩,af,?_⟩;refine bF ?_ ?_ ?_<;>simp only[go_sem,hEn,hU1,aE,aM,aQ,bP]
    all_goals first|rfl|omega
   ·have h11':(d=(S:Int)-1)=True:=aU ae;have hst2:(bA ((fA T A q).map enc)).set p (.fz (.i .i64 0))=bA ((fA T A (q+1)).map enc):=by rw[←w8 hTl hp,←jI];rfl
    repeat'(first|apply au|refine rq ?_|simp only[go_sem,e1,e2,hgd,hst2,hpi,hclen,h11',bt,bn,bZ,bh,eZ,eY,Tryz.f43])
    refine⟨⟨q+1,ae,by rw[show A-(q+1)=p by omega];exact hT.1 ae⟩,af,?_⟩;refine bF ?_ ?_ ?_<;>simp only[go_sem,e4]
    all_goals first|rfl|omega
 obtain rfl:a=ps.length:=ae
 repeat'(first|apply au|refine rq ?_|simp only[go_sem,aC,hRe,bt,bn,bZ,bh,eZ,eY,Tryz.f43])
 have hFs:F.size=(S:Int):=by rw[←hF];rfl
 have hFt:∀x∈l,jE F x []:=fun x hx=>by rw[←hF];exact Qy ⟨kf.out,hl,hs1,hs4⟩ hrr hx
 obtain⟨V,hV⟩:∃V:Nat→Bool,V=fun q=>(l.take q).all fun f=>fB F f []:=⟨_,rfl⟩;have hV0:V 0=true:=by rw[hV];rfl
 have hVs:∀q (h:q<l.length),V (q+1)=(V q&&fB F l[q] []):=fun q h=>by rw[hV];simp only;rw[aB h,List.all_append];simp
 have hVe:V l.length=okF l F:=by rw[hV];simp only[aJ];rfl
 have hVf:∀q,V q=false→okF l F=false:=fun q h=>by rw[hV]at h;simp only[iJ]at h;obtain⟨x,hx,h2⟩:=h;unfold okF;rw[iJ];exact⟨x,dE hx,h2⟩
 have kV:=Kp.mk hVs;have kVf:=Kp.mk hVf;have kFt:=Kp.mk hFt;clear hV hVs hVf hFt
 refine cI hm ju 43000 qWm (ι:=fW l.length m6 fun _=>True)
  ⟨fun q=>⟨frL [(0,eS l),(1,eI S),(2,eI M),(8,eS ps),(10,eS ns),(11,.ow (43080,g2) 1 ((iZ TN).map enc)),(12,eI v),(20,.arr (43096,m3) 1 0 i),(21,.ow (43213,g3) 3 (O.map enc)),(22,eI n),(23,.ptr (43023,m4) 0),(32,.fz (.b (V q.i))),(33,eI q.i)],hpL [((43096,m3),some ⟨bA (D.map enc),false,false⟩),((43080,g2),some tok),((43213,g3),some tok),((43023,m4),some ⟨[eI F.size,eS F.consts,eS F.rels],true,false⟩)],q.m⟩,fun q=>l.length-q.i⟩
  ⟨0,m6,ae,ae,trivial⟩ ah ?_ ?_
 ·refine eX [] [] [] ?_ ?_ ?_ ?_ ?_<;>(try simp only[go_sem,hV0,hFs])
  all_goals omega
 rintro⟨b,m7,hb,hm7,_⟩
 try simp only at hb hm7
 obtain⟨u,hu⟩:∃u,V b=u:=⟨_,rfl⟩;have hcase:(b<l.length∧u=true)∨(okF l F=u∧((b<l.length∧u=false)∨b=l.length)):=by
  rcases aA b l.length with h|h
  ·cases u with
   |true=>exact .inl ⟨h,rfl⟩
   |false=>exact .inr ⟨kVf.out b hu,.inl ⟨h,rfl⟩⟩
  ·obtain rfl:b=l.length:=ae
   exact .inr ⟨by rw[←hVe,hu],.inr rfl⟩
 rcases hcase with⟨h6,rfl⟩|⟨hok,hcase⟩
 ·obtain⟨x,hx⟩:∃x,l[b]=x:=⟨_,rfl⟩;have h7:=kFt.out x (by rw[←hx];simp);have h8:=kV.out b h6;rw[hx,hu,cZ]at h8;have h9:((b:Int)<(l.length:Int))=True:=aU ae
  repeat'(first|refine ru (id:=66) hm ju 43000 qWm NZ ?_|apply rx h7|apply au|refine rq ?_|simp only[go_sem,h6,h9,hx,hu,NZ,bt,bn,bZ,bh,eZ,eY,Tryz.f43])
  all_goals
   refine⟨⟨b+1,m7,ae,ae,trivial⟩,af,?_⟩;refine bF ?_ ?_ ?_<;>simp only[go_sem,h8]
   all_goals first|rfl|omega
 have hvE:v=S^j*2^K:=by have h7:=(yC (c:=ns.length) (ps:=ps) hs1 (by rw[←hrr];unfold lG;rw[hns,hps])).1;rw[h7,hcl,hK]
 have hinc:=RP (S:=S) (j:=j) (K:=K) (n:=n) ae ae;rw[hTN,hD]at hinc;have hTD:TN.length=D.length:=ae
 have hz0:iv (TN.drop (i-0)) (D.drop (i-0))=(List.replicate 0 0,true):=by have:=Lj hTD;rw[hTn]at this;exact this
 have hDx:∀x∈D,0≤x∧x≤4:=fun x h7=>by
  rw[←hD]at h7;unfold jH at h7;rcases aO.1 h7 with h8|h8
  ·have:=sA ae _ _ _ h8;omega
  ·have:=sA ae _ _ _ h8;omega
 have hDv:∀q (h:q<D.length),0≤D[q]∧D[q]≤4:=fun q h=>hDx _ (aT h);obtain⟨J,hJ⟩:∃J:Nat→Int,J=fun q:Nat=>(i:Int)-1-(q:Int):=⟨_,rfl⟩;have hJ0:J 0=(i:Int)-1:=by rw[hJ];simp
 have hJe:J i= -1:=by rw[hJ];simp only;omega
 have hJp:∀q p,p+q+1=i→J q=(p:Int)∧J (q+1)=(p:Int)-1:=fun q p h=>by rw[hJ];simp only;omega
 have kJ:=Kp.mk hJp;have kDv:=Kp.mk hDv;have hcz:=KG hDl;clear hJ hJp hDv;rcases hcase with⟨h6,rfl⟩|rfl
 ·have h9:((b:Int)<(l.length:Int))=True:=aU ae;rw[hok,az ai,bP]at hms
  repeat'(first|apply au|refine rq ?_|simp only[go_sem,h6,h9,hu,hTn,hJ0,bt,bn,bZ,bh,eZ,eY,Tryz.f43])
  refine cI hm ju 43000 qWm (ι:=eO i fun q=>iv (TN.drop (i-q)) (D.drop (i-q))=(List.replicate q 0,true))
   ⟨fun q=>⟨frL [(0,eS l),(1,eI S),(2,eI M),(8,eS ps),(10,eS ns),(11,.ow (43080,g2) 1 ((iZ TN).map enc)),(12,eI v),(20,.arr (43096,m3) 1 0 i),(21,.ow (43213,g3) 3 ((O).map enc)),(22,eI n),(34,eI (J q.i))],hpL [((43096,m3),some ⟨bA ((fA D i q.i).map enc),false,false⟩),((43080,g2),some tok),((43213,g3),some tok)],m7⟩,fun q=>i-q.i⟩
   ⟨0,ae,hz0⟩ ah ?_ ?_
  ·refine bF ?_ ?_ ?_<;>simp only[go_sem,hJ0,hcz,aE,aM,aQ]
   all_goals first|rfl|omega
  rintro⟨q,hq,hpq⟩
  try simp only at hq hpq
  rcases aA q i with h10|h10;rotate_left
  ·obtain rfl:i=q:=ae
   rw[cM,bC,bC]at hpq;have hdz:fA D i i=jH S j K (n+1):=by rw[←hinc,hpq];unfold fA;rw[cM,bv,aK]
   repeat'(first|apply au|refine rq ?_|simp only[go_sem,hJe,bt,bn,bZ,bh,eZ,eY,Tryz.f43])
   refine⟨⟨n+1,g3,m7,ae,ae,ae,by rw[hms];omega⟩,af,?_⟩;refine bF ?_ ?_ ?_<;>simp only[go_sem,hdz,hms,aE,aM,aQ]
   all_goals first|rfl|omega
  obtain⟨p,hp⟩:∃p,p+q+1=i:=⟨i-1-q,ae⟩;obtain⟨e1,e4⟩:=kJ.out q p hp;have hpD:p<D.length:=ae
  have hpT:p<TN.length:=ae
  have hclen:=w7 hDl hq;have hpC:p<(fA D i q).length:=ae
  have hcg:=w6 hDl hp hpC hpD;obtain⟨d,hd⟩:∃d,D[p]=d:=⟨_,rfl⟩;have hdb:=kDv.out p hpD;rw[hd]at hcg hdb;have hgd:(bA ((fA D i q).map enc)).getD p .junk= .fz (.i .i64 d):=by rw[nM hpC,hcg];rfl
  obtain⟨E,hE⟩:∃E,(fA D i q).set p (d+1)=E:=⟨_,rfl⟩;have hEl:E.length=i:=by rw[←hE,cY];exact hclen
  have hpE:p<E.length:=ae
  have hst:(bA ((fA D i q).map enc)).set p (.fz (.i .i64 (d+1)))=bA (E.map enc):=by rw[←hE,←jI];rfl
  have hge:(bA (E.map enc)).getD p .junk= .fz (.i .i64 (d+1)):=by
   have h12:E[p]=d+1:=by subst hE;exact gk _
   rw[nM hpE,h12];rfl
  have hE0:E.set p 0=fA D i (q+1):=by rw[←hE,mK,w8 hDl hp]
  have hst2:(bA (E.map enc)).set p (.fz (.i .i64 0))=bA ((fA D i (q+1)).map enc):=by rw[←hE0,←jI];rfl
  obtain⟨t,ht⟩:∃t,TN[p]=t:=⟨_,rfl⟩;have hgt:=kg.out p hpT;rw[ht]at hgt;have hT:=wh hTD qWc hpT hpD;rw[hd,ht]at hT;have e2:((0:Int)≤(p:Int))=True:=aU ae;have hpi:p<i:=ae
  have hpl:p<(iZ TN).length:=ae
  by_cases h11:d+1<(t:Int)
  ·have h11':(d+1<(t:Int))=True:=aU h11;have hEn:E=jH S j K (n+1):=by rw[←hinc,hT.2 h11,←hE,vf hDl hp]
   repeat'(first|refine ru (id:=73) hm ju 43000 qWm pz ?_|refine rx qQy ?_|apply au|refine rq ?_|simp only[go_sem,e1,e2,hgd,hst,hge,hgt,hpi,hpl,hclen,hEl,h11',pz,bt,bn,bZ,bh,eZ,eY,Tryz.f43])
   all_goals
    refine⟨⟨n+1,g3,m7,ae,ae,ae,by rw[hms];omega⟩,af,?_⟩;refine bF ?_ ?_ ?_<;>simp only[go_sem,hEn,hms,aE,aM,aQ]
    all_goals first|rfl|omega
  ·have h11':(d+1<(t:Int))=False:=aP h11
   repeat'(first|refine ru (id:=73) hm ju 43000 qWm pz ?_|refine rx qQy ?_|apply au|refine rq ?_|simp only[go_sem,e1,e2,hgd,hst,hge,hst2,hgt,hpi,hpl,hclen,hEl,h11',pz,bt,bn,bZ,bh,eZ,eY,Tryz.f43])
   all_goals
    refine⟨⟨q+1,ae,qQ3⟩,af,?_⟩;refine bF ?_ ?_ ?_<;>simp only[go_sem,e4]
    all_goals first|rfl|omega
 ·cases u with
  |false=>
   rw[hok,az ai,bP]at hms
   repeat'(first|apply au|refine rq ?_|simp only[go_sem,ck,hu,hTn,hJ0,bt,bn,bZ,bh,eZ,eY,Tryz.f43])
   refine cI hm ju 43000 qWm (ι:=eO i fun q=>iv (TN.drop (i-q)) (D.drop (i-q))=(List.replicate q 0,true))
    ⟨fun q=>⟨frL [(0,eS l),(1,eI S),(2,eI M),(8,eS ps),(10,eS ns),(11,.ow (43080,g2) 1 ((iZ TN).map enc)),(12,eI v),(20,.arr (43096,m3) 1 0 i),(21,.ow (43213,g3) 3 ((O).map enc)),(22,eI n),(34,eI (J q.i))],hpL [((43096,m3),some ⟨bA ((fA D i q.i).map enc),false,false⟩),((43080,g2),some tok),((43213,g3),some tok)],m7⟩,fun q=>i-q.i⟩
    ⟨0,ae,hz0⟩ ah ?_ ?_
   ·refine bF ?_ ?_ ?_<;>simp only[go_sem,hJ0,hcz,aE,aM,aQ]
    all_goals first|rfl|omega
   rintro⟨q,hq,hpq⟩
   try simp only at hq hpq
   rcases aA q i with h10|h10;rotate_left
   ·obtain rfl:i=q:=ae
    rw[cM,bC,bC]at hpq;have hdz:fA D i i=jH S j K (n+1):=by rw[←hinc,hpq];unfold fA;rw[cM,bv,aK]
    repeat'(first|apply au|refine rq ?_|simp only[go_sem,hJe,bt,bn,bZ,bh,eZ,eY,Tryz.f43])
    refine⟨⟨n+1,g3,m7,ae,ae,ae,by rw[hms];omega⟩,af,?_⟩;refine bF ?_ ?_ ?_<;>simp only[go_sem,hdz,hms,aE,aM,aQ]
    all_goals first|rfl|omega
   obtain⟨p,hp⟩:∃p,p+q+1=i:=⟨i-1-q,ae⟩;obtain⟨e1,e4⟩:=kJ.out q p hp;have hpD:p<D.length:=ae
   have hpT:p<TN.length:=ae
   have hclen:=w7 hDl hq;have hpC:p<(fA D i q).length:=ae
   have hcg:=w6 hDl hp hpC hpD;obtain⟨d,hd⟩:∃d,D[p]=d:=⟨_,rfl⟩;have hdb:=kDv.out p hpD;rw[hd]at hcg hdb;have hgd:(bA ((fA D i q).map enc)).getD p .junk= .fz (.i .i64 d):=by rw[nM hpC,hcg];rfl
   obtain⟨E,hE⟩:∃E,(fA D i q).set p (d+1)=E:=⟨_,rfl⟩;have hEl:E.length=i:=by rw[←hE,cY];exact hclen
   have hpE:p<E.length:=ae
   have hst:(bA ((fA D i q).map enc)).set p (.fz (.i .i64 (d+1)))=bA (E.map enc):=by rw[←hE,←jI];rfl
   have hge:(bA (E.map enc)).getD p .junk= .fz (.i .i64 (d+1)):=by
    have h12:E[p]=d+1:=by subst hE;exact gk _
    rw[nM hpE,h12];rfl
   have hE0:E.set p 0=fA D i (q+1):=by rw[←hE,mK,w8 hDl hp]
   have hst2:(bA (E.map enc)).set p (.fz (.i .i64 0))=bA ((fA D i (q+1)).map enc):=by rw[←hE0,←jI];rfl
   obtain⟨t,ht⟩:∃t,TN[p]=t:=⟨_,rfl⟩;have hgt:=kg.out p hpT;rw[ht]at hgt;have hT:=wh hTD qWc hpT hpD;rw[hd,ht]at hT;have e2:((0:Int)≤(p:Int))=True:=aU ae;have hpi:p<i:=ae
   have hpl:p<(iZ TN).length:=ae
   by_cases h11:d+1<(t:Int)
   ·have h11':(d+1<(t:Int))=True:=aU h11;have hEn:E=jH S j K (n+1):=by rw[←hinc,hT.2 h11,←hE,vf hDl hp]
    repeat'(first|refine ru (id:=73) hm ju 43000 qWm pz ?_|refine rx qQy ?_|apply au|refine rq ?_|simp only[go_sem,e1,e2,hgd,hst,hge,hgt,hpi,hpl,hclen,hEl,h11',pz,bt,bn,bZ,bh,eZ,eY,Tryz.f43])
    all_goals
     refine⟨⟨n+1,g3,m7,ae,ae,ae,by rw[hms];omega⟩,af,?_⟩;refine bF ?_ ?_ ?_<;>simp only[go_sem,hEn,hms,aE,aM,aQ]
     all_goals first|rfl|omega
   ·have h11':(d+1<(t:Int))=False:=aP h11
    repeat'(first|refine ru (id:=73) hm ju 43000 qWm pz ?_|refine rx qQy ?_|apply au|refine rq ?_|simp only[go_sem,e1,e2,hgd,hst,hge,hst2,hgt,hpi,hpl,hclen,hEl,h11',pz,bt,bn,bZ,bh,eZ,eY,Tryz.f43])
    all_goals
     refine⟨⟨q+1,ae,qQ3⟩,af,?_⟩;refine bF ?_ ?_ ?_<;>simp only[go_sem,e4]
     all_goals first|rfl|omega
  |true=>
   rw[hok,aF rfl]at hms
   repeat'(first|refine rx ⟨Rs _,dZ ae ai⟩ ?_|apply au|refine rq ?_|simp only[go_sem,ck,hu,hTn,hJ0,bt,bn,bZ,bh,eZ,eY,Tryz.f43])
   refine cI hm ju 43000 qWm (ι:=eO i fun q=>iv (TN.drop (i-q)) (D.drop (i-q))=(List.replicate q 0,true))
    ⟨fun q=>⟨frL [(0,eS l),(1,eI S),(2,eI M),(8,eS ps),(10,eS ns),(11,.ow (43080,g2) 1 ((iZ TN).map enc)),(12,eI v),(20,.arr (43096,m3) 1 0 i),(21,.ow (43213,m7) 3 ((O++[F]).map enc)),(22,eI n),(34,eI (J q.i))],hpL [((43096,m3),some ⟨bA ((fA D i q.i).map enc),false,false⟩),((43080,g2),some tok),((43213,m7),some tok)],m7+1⟩,fun q=>i-q.i⟩
    ⟨0,ae,hz0⟩ ah ?_ ?_
   ·refine bF ?_ ?_ ?_<;>simp only[go_sem,hJ0,hcz,aE,aM,aQ]
    all_goals first|rfl|omega
   rintro⟨q,hq,hpq⟩
   try simp only at hq hpq
   rcases aA q i with h10|h10;rotate_left
   ·obtain rfl:i=q:=ae
    rw[cM,bC,bC]at hpq;have hdz:fA D i i=jH S j K (n+1):=by rw[←hinc,hpq];unfold fA;rw[cM,bv,aK]
    repeat'(first|apply au|refine rq ?_|simp only[go_sem,hJe,bt,bn,bZ,bh,eZ,eY,Tryz.f43])
    refine⟨⟨n+1,m7,m7+1,ae,ae,ae,qQ1⟩,af,?_⟩;refine bF ?_ ?_ ?_<;>simp only[go_sem,hdz,hms,aE,aM,aQ]
    all_goals first|rfl|omega
   obtain⟨p,hp⟩:∃p,p+q+1=i:=⟨i-1-q,ae⟩;obtain⟨e1,e4⟩:=kJ.out q p hp;have hpD:p<D.length:=ae
   have hpT:p<TN.length:=ae
   have hclen:=w7 hDl hq;have hpC:p<(fA D i q).length:=ae
   have hcg:=w6 hDl hp hpC hpD;obtain⟨d,hd⟩:∃d,D[p]=d:=⟨_,rfl⟩;have hdb:=kDv.out p hpD;rw[hd]at hcg hdb;have hgd:(bA ((fA D i q).map enc)).getD p .junk= .fz (.i .i64 d):=by rw[nM hpC,hcg];rfl
   obtain⟨E,hE⟩:∃E,(fA D i q).set p (d+1)=E:=⟨_,rfl⟩;have hEl:E.length=i:=by rw[←hE,cY];exact hclen
   have hpE:p<E.length:=ae
   have hst:(bA ((fA D i q).map enc)).set p (.fz (.i .i64 (d+1)))=bA (E.map enc):=by rw[←hE,←jI];rfl
   have hge:(bA (E.map enc)).getD p .junk= .fz (.i .i64 (d+1)):=by
    have h12:E[p]=d+1:=by subst hE;exact gk _
    rw[nM hpE,h12];rfl
   have hE0:E.set p 0=fA D i (q+1):=by rw[←hE,mK,w8 hDl hp]
   have hst2:(bA (E.map enc)).set p (.fz (.i .i64 0))=bA ((fA D i (q+1)).map enc):=by rw[←hE0,←jI];rfl
   obtain⟨t,ht⟩:∃t,TN[p]=t:=⟨_,rfl⟩;have hgt:=kg.out p hpT;rw[ht]at hgt;have hT:=wh hTD qWc hpT hpD;rw[hd,ht]at hT;have e2:((0:Int)≤(p:Int))=True:=aU ae;have hpi:p<i:=ae
   have hpl:p<(iZ TN).length:=ae
   by_cases h11:d+1<(t:Int)
   ·have h11':(d+1<(t:Int))=True:=aU h11;have hEn:E=jH S j K (n+1):=by rw[←hinc,hT.2 h11,←hE,vf hDl hp]
    repeat'(first|refine ru (id:=73) hm ju 43000 qWm pz ?_|refine rx qQy ?_|apply au|refine rq ?_|simp only[go_sem,e1,e2,hgd,hst,hge,hgt,hpi,hpl,hclen,hEl,h11',pz,bt,bn,bZ,bh,eZ,eY,Tryz.f43])
    all_goals
     refine⟨⟨n+1,m7,m7+1,ae,ae,ae,qQ1⟩,af,?_⟩;refine bF ?_ ?_ ?_<;>simp only[go_sem,hEn,hms,aE,aM,aQ]
     all_goals first|rfl|omega
   ·have h11':(d+1<(t:Int))=False:=aP h11
    repeat'(first|refine ru (id:=73) hm ju 43000 qWm pz ?_|refine rx qQy ?_|apply au|refine rq ?_|simp only[go_sem,e1,e2,hgd,hst,hge,hst2,hgt,hpi,hpl,hclen,hEl,h11',pz,bt,bn,bZ,bh,eZ,eY,Tryz.f43])
    all_goals
     refine⟨⟨q+1,ae,qQ3⟩,af,?_⟩;refine bF ?_ ?_ ?_<;>simp only[go_sem,e4]
     all_goals first|rfl|omega
end
section
variable {G:Nat→List FD}
def Em1:Tbl:=iW.add 44 (sp2 (fun a b:List Int=>decide (a=b)) fun _ _=>True)
theorem Ba:b9 Tryz.prog G Em1:=by
 refine gN G5 zE fun a b _ ha hb=>?_;have la:=iN ha;have lb:=iN hb;simp only[aG,dt]at la lb;refine rv (N:=26) hm zE 44000 qWi G5 Tryz.func44 rfl ?_;simp only[go_sem];refine gG.d (fun h=>?_) (fun h=>?_)
 ·simp only[go_sem];refine cI hm zE 44000 qWi (ι:=eO a.length fun i=>a.take i=b.take i) ⟨fun i=>⟨frL [(0,.fz (enc a)),(1,.fz (enc b)),(12,eI a.length),(13,eI i.i)],hpL [],0⟩,fun i=>a.length-i.i⟩ ⟨0,ak,ak⟩ ah ?_ ?_
  ·refine bF ?_ ?_ ?_<;>simp only[go_sem]
  ·rintro⟨i,hi,hp⟩
   try simp only at hi hp
   rcases aA i a.length with h2|h2
   ·have h3:i<b.length:=ae
    obtain⟨x,hx⟩:∃x,a[i]=x:=⟨_,rfl⟩;obtain⟨y,hy⟩:∃y,b[i]=y:=⟨_,rfl⟩;by_cases h4:x=y
    ·have h4':(x=y)=True:=aU h4
     repeat'(first|refine rq ?_|simp only[go_sem,h2,h3,hx,hy,h4',bh,Tryz.f44,iW])
     refine⟨⟨i+1,ae,(by grind[Ie])⟩,af,?_⟩;refine bF ?_ ?_ ?_<;>simp only[go_sem]
    ·have h4':(x=y)=False:=aP h4;have hne:=MI h2 h3 ae
     repeat'(first|refine rq ?_|simp only[go_sem,h2,h3,hx,hy,h4',bh,Tryz.f44,iW,hne])
   ·have he:=Ic h ae hp;obtain rfl:i=a.length:=ae
    repeat'(first|refine rq ?_|simp only[go_sem,aC,ck,Tryz.f44,he])
 ·have hne:a≠b:=ap
  simp only[go_sem,Tryz.f44,hne]
def Em2:Tbl:=Em1.add 21 (sp2 (fun a b:List (List Int)=>decide (a=b)) fun _ _=>True)
theorem sa:b9 Tryz.prog G Em2:=by
 refine gN GT Ba fun a b _ ha hb=>?_;have la:=iN ha;have lb:=iN hb;simp only[aG,dt]at la lb;refine rv (N:=27) hm Ba 21000 qWi GT Tryz.func21 rfl ?_;simp only[go_sem];refine gG.d (fun h=>?_) (fun h=>?_)
 ·simp only[go_sem];refine cI hm Ba 21000 qWi (ι:=eO a.length fun i=>a.take i=b.take i) ⟨fun i=>⟨frL [(0,.fz (enc a)),(1,.fz (enc b)),(12,eI a.length),(13,eI i.i)],hpL [],0⟩,fun i=>a.length-i.i⟩ ⟨0,ak,ak⟩ ah ?_ ?_
  ·refine bF ?_ ?_ ?_<;>simp only[go_sem]
  ·rintro⟨i,hi,hp⟩
   try simp only at hi hp
   rcases aA i a.length with h2|h2
   ·have h3:i<b.length:=ae
    obtain⟨x,hx⟩:∃x,a[i]=x:=⟨_,rfl⟩;obtain⟨y,hy⟩:∃y,b[i]=y:=⟨_,rfl⟩;by_cases h4:x=y
    ·have h4':(x=y)=True:=aU h4
     repeat'(first|refine rq ?_|simp only[go_sem,h2,h3,hx,hy,h4',bh,Tryz.f21,Em1])
     refine⟨⟨i+1,ae,(by grind[Ie])⟩,af,?_⟩;refine bF ?_ ?_ ?_<;>simp only[go_sem]
    ·have h4':(x=y)=False:=aP h4;have hne:=MI h2 h3 ap
     repeat'(first|refine rq ?_|simp only[go_sem,h2,h3,hx,hy,h4',bh,Tryz.f21,Em1,hne])
   ·have he:=Ic h ae hp;obtain rfl:i=a.length:=ae
    repeat'(first|refine rq ?_|simp only[go_sem,aC,ck,Tryz.f21,he])
 ·have hne:a≠b:=ap
  simp only[go_sem,Tryz.f21,hne]
theorem SA {a b:dd}(h1:a.size=b.size)(h2:a.consts=b.consts)(h3:a.rels=b.rels):a=b:=by cases a;simp_all
theorem SB {a b:gV}(h1:a.name=b.name)(h2:a.arity=b.arity)(h3:a.tuples=b.tuples):a=b:=by cases a;simp_all
theorem VO {α:Type}{a b:List α}(h:a.length=b.length)(h2:a.take a.length=b.take a.length):a=b:=ap
theorem Mg {N:Nat}{l:List (Nat×D)}{H:bR}{n:Nat}{id:Abs.Id}{t:Nat}{ys:List FD}{b:Bool}(ho:H id=some ⟨ys.map .fz,b,false⟩)(hs:frL l t= .ptr id 0):
  gH G N ⟨frL l,H,n⟩ ⟨frL ((t,.rp ys)::l),cp H id none,n⟩:=zF (st:=⟨frL l,H,n⟩) ho hs
def mT:Tv:=(.q 0 (.q 1 (.q 2 (.q 3 (.q 4 (.q 5 (.q 7 (.r 6 (.q 8 (.r 9 (.br [(10,(.br [(11,(.br [(12,(.br [(13,.leaf)]))]))])),(11,(.br [(10,(.br [(12,(.br [(13,.leaf)]))]))]))])))))))))))
def Em3:Tbl:=Em2.add 9 (sp2 (fun a b:dd=>decide (a=b)) fun _ _=>True)
set_option maxHeartbeats 4000000 in
theorem U6:b9 Tryz.prog G Em3:=by
 refine gN ok9 sa fun a b _ hwa hwb=>?_;obtain⟨Q,hQ⟩:∃Q:D→bR→Nat→Prop,Q=(fun d _ _=>D.val d=some (.fz (enc (decide (a=b))))):=⟨_,rfl⟩;rw[←hQ];have hf:a≠b→∀{H' n'},Q (.fz (.b false)) H' n':=fun h H' n'=>by rw[hQ];show _=some (D.fz (.b (decide (a=b))));rw[aW h];rfl
 have ht:a=b→∀{H' n'},Q (.fz (.b true)) H' n':=fun h H' n'=>by rw[hQ];show _=some (D.fz (.b (decide (a=b))));rw[ba h];rfl
 have hsl:a.consts.length≤dt:=by have h:=jh (by have h:=hwa;rw[tk]at h;exact h) (FD.sl (a.consts.map enc)) ak;have:=iN h;simpa using this
 have hso:a.rels.length≤dt:=by have h:=jh (by have h:=hwa;rw[tk]at h;exact h) (FD.sl (a.rels.map enc)) ak;have:=iN h;simpa using this
 unfold dt at hsl hso;have kf:=Kp.mk @hf;have kt:=Kp.mk @ht;clear hf ht hQ hwa hwb;refine rv (N:=87) hm sa 9000 qW3 ok9 Tryz.func9 rfl ?_;by_cases e1:a.size=b.size;rotate_left
 ·have e1':(a.size=b.size)=False:=aP e1;have hne:a≠b:=ap
  repeat'(first|apply au|refine rq ?_|simp only[go_sem,e1',jp,jB,bZ,bn,bh,mT,Tryz.f9,Em2,Em1,iW])
  all_goals first|exact kf.out hne|exact kt.out heq
 have e1':(a.size=b.size)=True:=aU e1;by_cases e2:a.consts.length=b.consts.length;rotate_left
 ·have e2':((a.consts.length:Int)=(b.consts.length:Int))=False:=ap
  have e2'':(a.consts.length=b.consts.length)=False:=aP e2;have hne:a≠b:=ap
  repeat'(first|apply au|refine rq ?_|simp only[go_sem,e1',e2',e2'',jp,jB,bZ,bn,bh,mT,Tryz.f9,Em2,Em1,iW])
  all_goals first|exact kf.out hne|exact kt.out heq
 have e2':((a.consts.length:Int)=(b.consts.length:Int))=True:=ap
 have e2'':(a.consts.length=b.consts.length)=True:=aU e2;by_cases e3:a.rels.length=b.rels.length;rotate_left
 ·have e3':((a.rels.length:Int)=(b.rels.length:Int))=False:=ap
  have e3'':(a.rels.length=b.rels.length)=False:=aP e3;have hne:a≠b:=ap
  repeat'(first|apply au|refine rq ?_|simp only[go_sem,e1',e2',e2'',e3',e3'',jp,jB,bZ,bn,bh,mT,Tryz.f9,Em2,Em1,iW])
  all_goals first|exact kf.out hne|exact kt.out heq
 have e3':((a.rels.length:Int)=(b.rels.length:Int))=True:=ap
 have e3'':(a.rels.length=b.rels.length)=True:=aU e3
 repeat'(first|apply au|refine rq ?_|simp only[go_sem,e1',e2',e2'',e3',e3'',jp,jB,bZ,bn,bh,mT,Tryz.f9,Em2,Em1,iW])
 refine fa (Mg (id:=(9002,0)) (t:=2) (b:=true) (ys:=[.i .i64 a.size,.sl (a.consts.map enc),.sl (a.rels.map enc)]) qQi aj) ?_;refine fa (Mg (id:=(9003,1)) (t:=3) (b:=true) (ys:=[.i .i64 b.size,.sl (b.consts.map enc),.sl (b.rels.map enc)]) qQi aj) ?_
 refine cI hm sa 9000 qW3 (ι:=eO a.consts.length fun i=>a.consts.take i=b.consts.take i)
  ⟨fun q=>⟨frL [(2,.rp [.i .i64 a.size,.sl (a.consts.map enc),.sl (a.rels.map enc)]),(3,.rp [.i .i64 b.size,.sl (b.consts.map enc),.sl (b.rels.map enc)]),(34,eI a.consts.length),(35,eI q.i)],hpL [],2⟩,fun q=>a.consts.length-q.i⟩
  ⟨0,ae,rfl⟩ ah ?_ ?_
 ·refine bF ?_ ?_ ?_<;>simp only[go_sem,e2'']
 rintro⟨i,hi,hpi⟩
 try simp only at hi hpi
 rcases aA i a.consts.length with h1|h1
 ·have h2:i<b.consts.length:=ae
  obtain⟨x,hx⟩:∃x,a.consts[i]=x:=⟨_,rfl⟩;obtain⟨y,hy⟩:∃y,b.consts[i]=y:=⟨_,rfl⟩;by_cases he:x=y
  ·subst he
   repeat'(first|apply au|refine rq ?_|simp only[go_sem,h1,h2,hx,hy,jp,jB,bZ,bn,bh,mT,Tryz.f9,Em2,Em1,iW])
   all_goals
    refine⟨⟨i+1,ae,qQ2⟩,af,?_⟩;refine bF ?_ ?_ ?_<;>simp only[go_sem]
  ·have hne:a≠b:=ap
   by_cases hn:x.name=y.name
   ·have hv:(x.value=y.value)=False:=aP fun e=>he (by cases x;simp_all);have hn':(x.name=y.name)=True:=aU hn
    repeat'(first|apply au|refine rq ?_|simp only[go_sem,h1,h2,hx,hy,hn',hv,jp,jB,bZ,bn,bh,mT,Tryz.f9,Em2,Em1,iW])
    all_goals first|exact kf.out hne|exact kt.out heq
   ·have hn':(x.name=y.name)=False:=aP hn
    repeat'(first|apply au|refine rq ?_|simp only[go_sem,h1,h2,hx,hy,hn',jp,jB,bZ,bn,bh,mT,Tryz.f9,Em2,Em1,iW])
    all_goals first|exact kf.out hne|exact kt.out heq
 obtain rfl:i=a.consts.length:=ae
 have ec:=VO e2 hpi
 repeat'(first|apply au|refine rq ?_|simp only[go_sem,aC,ck,jp,jB,bZ,bn,bh,mT,Tryz.f9,Em2,Em1,iW])
 refine cI hm sa 9000 qW3 (ι:=fW a.rels.length 2 fun i=>a.rels.take i=b.rels.take i)
  ⟨fun q=>⟨frL [(2,.rp [.i .i64 a.size,.sl (a.consts.map enc),.sl (a.rels.map enc)]),(3,.rp [.i .i64 b.size,.sl (b.consts.map enc),.sl (b.rels.map enc)]),(52,eI a.rels.length),(53,eI q.i)],hpL [],q.m⟩,fun q=>a.rels.length-q.i⟩
  ⟨0,2,ae,ae,rfl⟩ ah ?_ ?_
 ·refine bF ?_ ?_ ?_<;>simp only[go_sem,e3'']
 rintro⟨i,m,hi,hm2,hpi⟩
 try simp only at hi hm2 hpi
 rcases aA i a.rels.length with h1|h1
 ·have h2:i<b.rels.length:=ae
  obtain⟨x,hx⟩:∃x,a.rels[i]=x:=⟨_,rfl⟩;obtain⟨y,hy⟩:∃y,b.rels[i]=y:=⟨_,rfl⟩;have hnn:x≠y→a≠b:=ap
  by_cases f1:x.name=y.name;rotate_left
  ·have f1':(x.name=y.name)=False:=aP f1;have hne:a≠b:=ap
   repeat'(first|refine ru (id:=12) hm sa 9000 qW3 mT ?_|apply au|refine rq ?_|simp only[go_sem,h1,h2,hx,hy,f1',jp,jB,bZ,bn,bh,mT,Tryz.f9,Em2,Em1,iW])
   all_goals first|exact kf.out hne|exact kt.out heq
  have f1':(x.name=y.name)=True:=aU f1;by_cases f2:x.arity=y.arity;rotate_left
  ·have f2':(x.arity=y.arity)=False:=aP f2;have hne:a≠b:=ap
   repeat'(first|refine ru (id:=12) hm sa 9000 qW3 mT ?_|apply au|refine rq ?_|simp only[go_sem,h1,h2,hx,hy,f1',f2',jp,jB,bZ,bn,bh,mT,Tryz.f9,Em2,Em1,iW])
   all_goals first|exact kf.out hne|exact kt.out heq
  have f2':(x.arity=y.arity)=True:=aU f2;by_cases f3:x.tuples=y.tuples;rotate_left
  ·have f3':(x.tuples=y.tuples)=False:=aP f3;have hne:a≠b:=ap
   repeat'(first|refine ru (id:=12) hm sa 9000 qW3 mT ?_|apply au|refine rq ?_|simp only[go_sem,h1,h2,hx,hy,f1',f2',f3',decide_false,jp,jB,bZ,bn,bh,mT,Tryz.f9,Em2,Em1,iW])
   all_goals first|exact kf.out hne|exact kt.out heq
  have f3':(x.tuples=y.tuples)=True:=aU f3;have hxy:=SB f1 f2 f3
  repeat'(first|refine ru (id:=12) hm sa 9000 qW3 mT ?_|apply au|refine rq ?_|simp only[go_sem,h1,h2,hx,hy,f1',f2',f3',j0,jp,jB,bZ,bn,bh,mT,Tryz.f9,Em2,Em1,iW])
  all_goals
   refine⟨⟨i+1,m+2,ae,ae,qQ2⟩,af,?_⟩;refine bF ?_ ?_ ?_<;>simp only[go_sem]
 obtain rfl:i=a.rels.length:=ae
 have heq:a=b:=by grind[SA]
 clear ec
 repeat'(first|apply au|refine rq ?_|simp only[go_sem,aC,ck,jp,jB,bZ,bn,bh,mT,Tryz.f9,Em2,Em1,iW])
 all_goals first|exact kf.out hne|exact kt.out heq
end
section
variable {G:Nat→List FD}
def rV (l:List Abs.aH)(size:Int):dd×Bool×iY:=p6 l 1 size.toNat
theorem mod_one {l:List Abs.aH}(k:Nat):ua l (k:Int) 1=wm ((jD l k).map (List.take 1)):=by rfl
def I19:Tbl:=I18.add 20 (wu rV fun l size=>(gU l size).code=0)
attribute [go_sem] I19
set_option maxHeartbeats 4000000 in
theorem Vc:b9 Tryz.prog G I19:=by
 refine Oa GQ Bb fun l size hf _ _=>?_;obtain⟨_,_,_,hs1,hs4⟩:=B9 hf;obtain⟨S,hS⟩:∃S:Nat,size=(S:Int):=⟨size.toNat,ae⟩;subst hS;obtain⟨r,hr⟩:∃r,rV l S=r:=⟨_,rfl⟩;rw[hr];obtain⟨Q,hQ⟩:∃Q:D→bR→Nat→Prop,Q=(fun d _ _=>D.val d=some (.tup [.fz (enc r.1),.fz (enc r.2.1),.fz (enc r.2.2)])):=⟨_,rfl⟩;rw[←hQ];have kq:=Kp.mk hQ;clear hQ;have e:p6 l 1 S=r:=by rw[←hr];unfold rV;rw[bo]
 refine rv (N:=34) qqh Bb 20000 qWi GQ Tryz.func20 rfl ?_
 repeat'(first|apply au|refine rq ?_|simp only[go_sem,bt,bn,bZ,bh,jA,Tryz.f20])
 refine cI qqh Bb 20000 qWi (ι:=fW S 2 fun i=>p6 l (i+1) (S-i)=r)
  ⟨fun q=>⟨frL [(0,eS l),(1,eI S),(4,.ptr (20004,0) 0),(5,.fz (.b false)),(6,.ptr (20006,1) 0),(7,eI ((q.i+1:Nat):Int))],hpL [((20004,0),some ⟨[eI 0,.full [],.full []],true,false⟩),((20006,1),some ⟨[eI 0,eI 0],true,false⟩)],q.m⟩,fun q=>S-q.i⟩
  ⟨0,2,ae,ae,e⟩ ah ?_ ?_
 ·refine bF ?_ ?_ ?_<;>simp only[go_sem]
  all_goals first|rfl|omega
 rintro⟨i,m,hi,hm2,hp⟩
 try simp only at hi hm2 hp
 rcases aA i S with h1|h1;rotate_left
 ·obtain rfl:i=S:=ae
  rw[cM,p6]at hp;subst hp;have h5:((i:Int)+1≤(i:Int))=False:=ap
  repeat'(first|apply au|refine rq ?_|simp only[go_sem,h5,gS,Int.natCast_one,bt,bn,bZ,bh,jA,Tryz.f20])
  all_goals first|rfl|(rw[kq.out];done)|(rw[kq.out];rfl)|(rw[kq.out];simp only[go_sem,gi,bZ];done)|(rw[kq.out];simp only[go_sem,gi,bZ];rfl)|(rw[kq.out];trace_state)
 have hmq:GL l ((i+1:Nat):Int) 1:=⟨by grind[L8],ae,ai⟩;rw[show S-i=(S-(i+1))+1 by omega,p6]at hp;have hB4:((i+1:Nat):Int)=(i:Int)+1:=ak
 have h5:((i:Int)+1≤(S:Int))=True:=ap
 have hMo:=mod_one (l:=l) (i+1);rw[hB4]at hMo hmq;cases hn:jD l (i+1)with
 |none=>
  rw[hn]at hMo hp;simp only[Option.map_none,wm]at hMo hp;subst hp
  repeat'(first|apply rx hmq|apply au|refine rq ?_|simp only[go_sem,h5,hMo,hB4,bt,bn,bZ,bh,jA,Tryz.f20])
  all_goals first|rfl|(rw[kq.out];done)|(rw[kq.out];rfl)|(rw[kq.out];simp only[go_sem,gi,bZ];done)|(rw[kq.out];simp only[go_sem,gi,bZ];rfl)|(rw[kq.out];trace_state)
 |some ms=>
  rw[hn]at hMo hp;cases ms with
  |nil=>
   simp only[bL,List.take_nil,wm]at hMo hp
   repeat'(first|apply rx hmq|apply au|refine rq ?_|simp only[go_sem,h5,hMo,hB4,bt,bn,bZ,bh,jA,Tryz.f20])
   all_goals
    refine⟨⟨i+1,m,ae,ae,hp⟩,af,?_⟩;refine bF ?_ ?_ ?_<;>simp only[go_sem,hB4,gS]
    all_goals first|rfl|omega
  |cons x ms=>
   simp only[bL,bm,bv,wm]at hMo hp;subst hp
   repeat'(first|apply rx hmq|apply au|refine rq ?_|simp only[go_sem,h5,hMo,hB4,bt,bn,bZ,bh,jA,Tryz.f20])
   all_goals first|rfl|(rw[kq.out];done)|(rw[kq.out];rfl)|(rw[kq.out];simp only[go_sem,gi,bZ];done)|(rw[kq.out];simp only[go_sem,gi,bZ];rfl)|(rw[kq.out];trace_state)
end
def T36:Tbl:=Tbl.or I19 Em3
attribute [go_sem] T36
end Go.Proofs.YtnijhilfchekkaaGreatDoor
