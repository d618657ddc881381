import Derived.Test.YtnijhilfchekkaaGreatDoorW3
set_option linter.unusedSimpArgs false
namespace Go.Proofs.YtnijhilfchekkaaGreatDoor
open Go Go.Abs Go.Proofs
theorem IC:∀xs:List FD,D.toFDs (xs.map .fz)=some xs
 |[]=>rfl
 |x::xs=>by rw[aM,D.toFDs,IC xs];rfl
theorem JY {xs ys:List FD}:bA (xs++ys)=bA xs++bA ys:=by simp[bA]
theorem Ji {i:Nat}{r:Res}:ji (vD i r)=ji r:=rfl
theorem Jj {i:Nat}{nm:Str}{r:Res}:ji (sL i nm r)=ji r:=rfl
theorem sy {a:Int}:ji (l3 a)=2:=rfl
theorem sn {a:Int}:(l3 a).added=a:=rfl
theorem Ip {i:Nat}{r:Res}:(vD i r).added=r.added:=rfl
theorem Iq {i:Nat}{nm:Str}{r:Res}:(sL i nm r).added=r.added:=rfl
theorem zB {p:Prf}{a:Int}:ji ⟨p,false,false,a⟩=0:=rfl
theorem DP (l:List jW):dP (l.map enc) 2:=fun x hx=>by obtain⟨d,_,rfl⟩:=be.1 hx;rfl
theorem za {p:Prf}{l:Bool}{a:Int}:ji ⟨p,true,l,a⟩=1:=rfl
def fR:Tv:=(.q 0 (.q 1 (.q 6 (.q 7 (.q 9 (.q 11 (.q 12 (.q 13 (.q 14 (.br [(2,(.q 3 (.q 4 (.br [(5,(.br [(8,(.br [(10,(.br [(15,(.q 16 .leaf))]))]))]))])))),(3,(.q 4 (.br [(2,(.br [(5,(.br [(8,(.br [(10,(.br [(15,(.q 16 .leaf))]))]))]))]))])))]))))))))))
def fH:Tv:=(.q 0 (.q 1 (.q 2 (.q 3 (.q 4 (.q 5 (.q 6 (.q 7 (.q 8 (.q 9 .leaf))))))))))
theorem Fi {l2:List Abs.aH}{u2:List Bool}{made:List jW}{r uses a2:Int}{res:Res}{H:bR}{n g len es:Nat}{id:Abs.Id}{v:Bool}{xs:List FD}{cells:List D}{R:D→bR→Nat→Prop}
  (hrun:cS Tryz.prog GA 41 [.fz (enc l2),.fz (enc u2),.fz (enc made),.fz (.i .i64 r),.fz (.i .i64 uses),.ptr (7,0) 0] (hpL [((7,0),some ⟨[eI a2],true,false⟩)]) 1 (fun d H' _=>D.val d=some (.fz (.i .i64 (ji res)))∧H' (7,0)=some ⟨[FD.i .i64 res.added].map .fz,true,false⟩))
  (hx:xs=l2.map enc)(ho:H (41158,g)=some ⟨cells,false,v⟩)(hc:cells=bA (u2.map enc))(hv:v=true→u2=[])(hl:len=u2.length)(hs:H (7,0)=some ⟨[.fz (.i .i64 a2)],true,false⟩)
  (hR:R (.fz (.i .i64 (ji res))) (cp (cp H (41158,g) none) (7,0) (some ⟨[.fz (.i .i64 res.added)],true,false⟩)) n):
  cS Tryz.prog GA 41 [.ow id es xs,.arr (41158,g) 1 0 len,.fz (.sl (made.map enc)),.fz (.i .i64 r),.fz (.i .i64 uses),.ptr (7,0) 0] H n R:=by
 subst hl hx hc;rw[ia]at ho;refine wW (41158,g) (u2.map enc) ho ap qQ8 (fun x hx=>by obtain⟨y,_,rfl⟩:=be.1 hx;rfl) (args':=[.ow id es (l2.map enc),.fz (.sl (u2.map enc)),.fz (.sl (made.map enc)),.fz (.i .i64 r),.fz (.i .i64 uses),.ptr (7,0) 0]) ?_ ?_
 ·simp_all[oF,fzD]
 ·refine wB (T:=7) (ds:=[.ow id es (l2.map enc),.fz (.sl (u2.map enc)),.fz (.sl (made.map enc)),.fz (.i .i64 r),.fz (.i .i64 uses)]) (xs:=[.sl (l2.map enc),.sl (u2.map enc),.sl (made.map enc),.i .i64 r,.i .i64 uses]) (cs:=[.i .i64 a2]) (cs':=[.i .i64 res.added]) rfl hrun ?_ hR;simp_all[cp]
structure Fv (n n0:Nat)(p:Nat→Prop) where
 i:Nat
 g1:Nat
 g2:Nat
 m:Nat
 hi:i≤n
 h1:g1<m
 h2:g2<m
 hm:n0≤m
 hp:p i
structure EI (n n0:Nat)(p:Nat→List Abs.aH→List Bool→List jW→List Prf→Int→Prop) where
 i:Nat
 lm:List Abs.aH
 um:List Bool
 al:List jW
 st:List Prf
 ad:Int
 g1:Nat
 g2:Nat
 g3:Nat
 m:Nat
 hi:i≤n
 h1:g1<m
 h2:g2<m
 h3:g3<m
 hm:n0≤m
 hp:p i lm um al st ad
structure x4 (uses a r:Int)(l:List Abs.aH)(made:List jW)(lm:List Abs.aH)(um:List Bool)(al:List jW)(st:List Prf)(ad:Int):Prop where
 ok:ix uses (brD lm um al (r+1)) ad
 bf:oZ lm
 dn:p9 al lm.length
 ln:lm.length=l.length+st.length
 gd:∀d∈made,d∈al
 all:(al.length:Int)≤ad
 ad1:a+st.length≤ad
structure Sw (n n0:Nat)(p:Nat→Int→Prop) where
 i:Nat
 a:Int
 m:Nat
 hi:i≤n
 hm:n0≤m
 hp:p i a
def xY:List Int:=[1,4,2]
def AF (uses:Int)(rec:Brn→Int→Res)(m:Nat):Prop:=∀(l:List Abs.aH) (used:List Bool) (made:List jW) (r a:Int),ix uses (brD l used made r) a→oZ l→p9 made l.length→(made.length:Int)≤a→301-a≤m→
 cS Tryz.prog GA 41 [.fz (enc l),.fz (enc used),.fz (enc made),.fz (.i .i64 r),.fz (.i .i64 uses),.ptr (7,0) 0] (hpL [((7,0),some ⟨[eI a],true,false⟩)]) 1
  (fun d H' _=>D.val d=some (.fz (.i .i64 (ji (rec (brD l used made r) a))))∧H' (7,0)=some ⟨[FD.i .i64 (rec (brD l used made r) a).added].map .fz,true,false⟩)
set_option maxRecDepth 100000 in
set_option maxHeartbeats 1000000 in
set_option maxHeartbeats 16000000 in
theorem OU {uses:Int}{m:Nat}{rec:Brn→Int→Res}(hih:AF uses rec m)(hadd:∀b a,a≤300→qL a (rec b a)):AF uses (oD rec uses) (m+1):=by
 intro l used made r a hok hbf hin hma hm1;obtain⟨V,hV⟩:∃V,oD rec uses (brD l used made r) a=V:=⟨_,rfl⟩;rw[hV];obtain⟨Q,hQ⟩:∃Q:D→bR→Nat→Prop,Q=(fun d H' _=>D.val d=some (.fz (.i .i64 (ji V)))∧H' (7,0)=some ⟨[FD.i .i64 V.added].map .fz,true,false⟩):=⟨_,rfl⟩;rw[←hQ];have kq:=Kp.mk hQ;clear hQ;unfold oD at hV;obtain⟨b,hb⟩:∃b,brD l used made r=b:=⟨_,rfl⟩;rw[hb]at hok hV;have hbl:b.list=l:=by rw[←hb];rfl
 have hbu:b.used=used:=by rw[←hb];rfl
 have hbr:b.rounds=r:=by rw[←hb];rfl
 have hll:=hok.ll;have hul:=hok.ul;rw[hbl]at hll hul;rw[hbu]at hul;have ha0:=hok.a0;have ha1:=hok.a1;have hr0:=hok.r0;have hr1:=hok.r1;rw[hbr]at hr0 hr1;have hu:=hok.u;have hcl:(∀f∈l,brF f)∧l.length≤100000:=⟨fun f hf=>(hbf f hf).o.b,ae⟩;have hac:(∀f∈l,acP f)∧l.length≤100000:=⟨fun f hf=>Au (hbf f hf).o,ae⟩;have ko:=Kp.mk hok;have kf:=Kp.mk hbf;have kn:=Kp.mk hin;have ki:=Kp.mk hih;have kd:=Kp.mk hadd;have kb:=Kp.mk hb;have hsh:=WD b.list;rw[hbl]at hsh hV;clear hok hbf hin hih hadd;refine rv (N:=267) hm hW1 41000 qWu UP Tryz.func41 rfl ?_;cases hM:nP l with
 |some p=>
  rw[hM]at hV hsh;simp only at hV;have hR:vU l=true:=hsh.symm;clear hM hsh
  repeat'(first|apply rx hcl|refine rx qQa ?_|apply au|refine rq ?_|simp only[go_sem,hR,bt,bn,bh,fR,fH,Tryz.f41])
  all_goals(
   rw[kq.out,←hV];refine⟨?_,?_⟩
   ·simp only[go_sem,za]
   ·simp only[go_sem,za])
 |none=>
  rw[hM]at hV hsh;simp only at hV;have hR:vU l=false:=hsh.symm;obtain⟨K,hK⟩:∃K,nQ rec uses b a=K:=⟨_,rfl⟩;rw[hK]at hV
  repeat'(first|apply rx hcl|refine rx qQa ?_|apply au|refine rq ?_|simp only[go_sem,hR,bt,bn,bh,fR,fH,Tryz.f41])
  refine cI hm hW1 41000 qWu (ι:=fW 3 1 fun w=>kY rec b a K (xY.drop w)=V)
   ⟨fun q=>⟨frL [(0,eS l),(1,eS used),(2,eS made),(3,eI r),(4,eI uses),(5,.ptr (7,0) 0),(12,eI 0),(37,.full [.i .i64 1,.i .i64 4,.i .i64 2]),(38,eI 3),(39,eI q.i)],hpL [((7,0),some ⟨[eI a],true,false⟩)],q.m⟩,fun q=>3-q.i⟩
   ⟨0,1,ae,ae,hV⟩ ah ?_ ?_
  ·refine bF ?_ ?_ ?_<;>simp only[go_sem]
   all_goals first|rfl|omega
  rintro⟨w,q0,hw,hq0,hP⟩
  try simp only at hw hq0 hP
  clear hR hM hsh;rcases aA w 3 with hw3|hw3
  ·have hcase:w=0∨w=1∨w=2:=ae
   rcases hcase with rfl|rfl|rfl
   ·have hP2:(match ik 1 (b.list.drop 0) (b.used.drop 0) 0 with
     |some i=>jr rec b a i (b.list.getD i fQ)
     |none=>kY rec b a K (xY.drop 1))=V:=hP
    rw[hbl,hbu]at hP2;obtain⟨X,hX⟩:∃X,ik 1 (l.drop 0) (used.drop 0) 0=X:=⟨_,rfl⟩;rw[hX]at hP2
    repeat'(first|refine rx qQa ?_|apply au|refine rq ?_|simp only[go_sem,bt,bn,bh,fR,fH,Tryz.f41])
    refine cI hm hW1 41000 qWu (ι:=fW l.length q0 fun i=>ik 1 (l.drop i) (used.drop i) i=X)
     ⟨fun q=>⟨frL [(0,eS l),(1,eS used),(2,eS made),(3,eI r),(4,eI uses),(5,.ptr (7,0) 0),(12,eI 0),(14,eI 1),(37,.full [.i .i64 1,.i .i64 4,.i .i64 2]),(38,eI 3),(39,eI 0),(44,eI l.length),(45,eI q.i)],hpL [((7,0),some ⟨[eI a],true,false⟩)],q.m⟩,fun q=>l.length-q.i⟩
     ⟨0,q0,ae,ae,hX⟩ ah ?_ ?_
    ·refine bF ?_ ?_ ?_<;>simp only[go_sem]
     all_goals first|rfl|omega
    rintro⟨i,q1,hi,hq1,hE⟩
    try simp only at hi hq1 hE
    rcases aA i l.length with h1|h1;rotate_left
    ·rw[uM h1]at hE;rw[←hE]at hP2;simp only at hP2;obtain rfl:i=l.length:=ae
     repeat'(first|refine rx qQa ?_|apply au|refine rq ?_|simp only[go_sem,aC,bt,bn,bh,fR,fH,Tryz.f41])
     all_goals refine⟨⟨1,q1,ae,ae,hP2⟩,af,?_⟩
     all_goals refine bF ?_ ?_ ?_<;>simp only[go_sem]
     all_goals first|rfl|omega
    have h2:i<used.length:=ae
    obtain⟨f,hf⟩:∃f,l[i]=f:=⟨_,rfl⟩;obtain⟨u,hu2⟩:∃u,used[i]=u:=⟨_,rfl⟩;have hfB:BF f:=kf.out f qQj;have hfb:brF f:=hfB.o.b;rw[uH h1 h2,hf,hu2]at hE;obtain⟨k,hk⟩:∃k,(bY f).1=k:=⟨_,rfl⟩;have hks:eT f=k:=hk;rw[hk]at hE;cases u with
    |true=>
     rw[az ak]at hE
     repeat'(first|refine rx qQa ?_|apply au|refine rq ?_|simp only[go_sem,h1,h2,hf,hu2,hks,bt,bn,bh,fR,fH,Tryz.f41])
     all_goals refine⟨⟨i+1,q1,ae,ae,hE⟩,af,?_⟩
     all_goals refine bF ?_ ?_ ?_<;>simp only[go_sem]
     all_goals first|rfl|omega
    |false=>
     by_cases hkw:k=1;rotate_left
     ·rw[az (by simp[hkw])]at hE;have hkw':(k=1)=False:=aP hkw
      repeat'(first|apply rx hfb|refine rx qQa ?_|apply au|refine rq ?_|simp only[go_sem,h1,h2,hf,hu2,hks,hkw',bt,bn,bh,fR,fH,Tryz.f41])
      all_goals refine⟨⟨i+1,q1,ae,ae,hE⟩,af,?_⟩
      all_goals refine bF ?_ ?_ ?_<;>simp only[go_sem]
      all_goals first|rfl|omega
     subst hkw;rw[aF ⟨rfl,rfl⟩]at hE;rw[←hE]at hP2;simp only at hP2;have hfg:l.getD i fQ=f:=by rw[av,ay h1,hf];rfl
     rw[hfg]at hP2;obtain⟨pb1,pb2,pb3,pb4⟩:=pV hfb;have pB:=yN hfB;obtain⟨po,pq,pt,hPt⟩:∃o q t,bY f=(1,o,q,t):=⟨(bY f).2.1,(bY f).2.2.1,(bY f).2.2.2,qWd⟩;rw[hPt]at pb1 pb2 pb3 pb4 pB;simp only at pb1 pb2 pb3 pb4 pB;have hpie:iV f=po:=by unfold iV;rw[hPt]
     unfold jr at hP2;rw[hPt]at hP2;have hue:used.isEmpty=false:=by cases hb:used with|nil=>rw[hb]at h2;simp at h2|cons=>rfl
     have hul2:used.length≤100000:=ae
     have hvi:used.isEmpty=false∧i+1≤used.length:=⟨hue,ae⟩;obtain⟨U,hU⟩:∃U,used.set i true=U:=⟨_,rfl⟩;have hUl:U.length=used.length:=by rw[←hU,cY]
     have hUc:(used.map (D.fz∘enc)).set i (.fz (.b true))=bA (U.map enc):=by rw[ia,←hU,fZ];rfl
     rw[aF rfl]at hP2;have hpo1:1≤po.length:=by have:=Ca (f:=f) (by rw[hPt]);rw[hPt]at this;exact this
     have hcp:clB f∧(eT f=1∨eT f=2):=⟨qN hfB,.inl hks⟩;by_cases hfu:300<a+po.length
     ·rw[aF hfu]at hP2;have hfT:(300<a+(po.length:Int))=True:=aU hfu
      repeat'(first|apply rx hfb|apply rx hvi|apply rx hcp|apply rx hcp.1|refine rx qQa ?_|apply au|refine rq ?_|simp only[go_sem,hfT,h1,h2,hf,hu2,hks,hpie,bt,bn,bh,fR,fH,Tryz.f41])
      all_goals(
       rw[kq.out,←hP2];refine⟨?_,?_⟩
       ·simp only[go_sem,sy,sn]
       ·simp only[go_sem,sy,sn])
     ·rw[az hfu]at hP2;have hfT:(300<a+(po.length:Int))=False:=aP hfu
      repeat'(first|apply rx hfb|apply rx hvi|apply rx hcp|apply rx hcp.1|refine rx qQa ?_|apply au|refine rq ?_|simp only[go_sem,hfT,h1,h2,hf,hu2,hks,hpie,bt,bn,bh,fR,fH,Tryz.f41])
      have hMb:∀y∈po,brF y:=pb1;have hMB:∀y∈po,BF y:=pB;obtain⟨B',hB'⟩:∃B',eo (il b i) po=B':=⟨_,rfl⟩;have hok':ix uses B' ((a+po.length)):=by rw[←hB'];exact(ko.out.mark i).add hMb ak ae
      have eB:B'=brD (l++po) (U++List.replicate po.length false) made r:=by rw[←hB',←kb.out,Dt kn.out,hU]
      rw[hB']at hP2;obtain⟨rs,hrs⟩:∃rs,rec B' ((a+po.length))=rs:=⟨_,rfl⟩;rw[hrs]at hP2;have hrun:=ki.out (l++po) (U++List.replicate po.length false) made r ((a+po.length)) (by rw[←eB];exact hok') (fun y hy=>by
       rcases aO.1 hy with h|h
       ·exact kf.out y h
       ·exact hMB y h) (kn.out.mono ak) ae ae
      rw[←eB,hrs]at hrun;have hU0:(bA (used.map enc)).set i (D.fz (FD.b true))=bA (U.map enc):=by rw[ia];exact hUc
      refine cI hm hW1 41000 qWu (ι:=Fv po.length (q1+3) fun _=>True)
       ⟨fun q=>⟨frL [(2,eS made),(3,eI r),(4,eI uses),(5,.ptr (7,0) 0),(22,.ow (41155,q.g1) 4 ((l++po.take q.i).map enc)),(16,.arr (41158,q.g2) 1 0 (U++List.replicate q.i false).length),(146,eS po),(147,eI po.length),(148,eI q.i)],
        hpL [((7,0),some ⟨[eI (a+po.length)],true,false⟩),((41155,q.g1),some tok),((41158,q.g2),some ⟨bA ((U++List.replicate q.i false).map enc),false,false⟩)],q.m⟩,fun q=>po.length-q.i⟩
       ⟨0,q1+2,q1+2,q1+3,ae,ae,ae,ae,trivial⟩ ah ?_ ?_
      ·refine eX [((41155,q1+2),(41145,q1+1)),((41158,q1+2),(41063,q1))] [] [] ?_ ?_ ?_ ?_ ?_<;>simp only[go_sem,xM,nf,vL,hU0,hUl,hue,bv,bP,fq]
       all_goals first|rfl|omega|(refine⟨?_,?_⟩<;>omega)
      rintro⟨j,g1,g2,m',hj,hg1,hg2,hm',_⟩
      try simp only at hj hg1 hg2 hm'
      rcases aA j po.length with h3|h3
      ·obtain⟨x,hx⟩:∃x,po[j]=x:=⟨_,rfl⟩;have et:po.take (j+1)=po.take j++[x]:=by rw[aB h3,hx]
       have er:List.replicate (j+1) false=List.replicate j false++[false]:=dF;have hlU:(U++List.replicate j false).length=U.length+j:=ak
       have hlM:(l++po.take j).length=l.length+j:=by rw[aD,aX];omega
       have hfl:(bA (U.map enc++(List.replicate j false).map enc)).length=U.length+j:=by rw[←aE,ia];simp
       have hft:=bV (mL hfl);have hfa:bA (U.map enc++(List.replicate j false).map enc)++bA [FD.b false]=bA (U.map enc++((List.replicate j false).map enc++[FD.b false])):=by rw[←JY,bu]
       repeat'(first|refine rx ⟨mL hfl.symm,rfl,dZ ae ai⟩ ?_|refine rx qQa ?_|apply au|refine rq ?_|simp only[go_sem,h3,hx,hlU,hlM,hft,bt,bn,bh,fR,fH,Tryz.f41])
       refine⟨⟨j+1,m'+1,m'+2,m'+3,ae,ae,ae,ae,trivial⟩,af,?_⟩;refine eX [] [] [] ?_ ?_ ?_ ?_ ?_<;>simp only[go_sem,et,er,hfa,aE,bu,hlU]
       all_goals first|rfl|omega|(simp only[cE];omega)|(refine⟨?_,?_⟩<;>omega)
      ·obtain rfl:j=po.length:=ae
       have hlU:(U++List.replicate po.length false).length=U.length+po.length:=ak
       repeat'(first|refine rx qQa ?_|apply au|refine rq ?_|simp only[go_sem,aC,aJ,bt,bn,bh,fR,fH,Tryz.f41])
       refine dJ.i (Fi (a2:=(a+po.length)) (l2:=l++po) (u2:=U++List.replicate po.length false) (made:=made) (g:=g2) (v:=false) (cells:=bA (U.map enc++(List.replicate po.length false).map enc)) hrun aE.symm aj (by rw[aE]) (fun h=>by cases h) (by first|exact hlU.symm|simp) aj ?_)
       repeat'(first|refine rx qQa ?_|apply au|refine rq ?_|simp only[go_sem,bt,bn,bh,fR,fH,Tryz.f41])
       all_goals(
        rw[kq.out,←hP2];refine⟨?_,?_⟩
        ·simp only[go_sem,Ji,Ip]
        ·simp only[go_sem,Ji,Ip])
   ·have hP2:(match ik 4 (b.list.drop 0) (b.used.drop 0) 0 with
     |some i=>jr rec b a i (b.list.getD i fQ)
     |none=>kY rec b a K (xY.drop 2))=V:=hP
    rw[hbl,hbu]at hP2;obtain⟨X,hX⟩:∃X,ik 4 (l.drop 0) (used.drop 0) 0=X:=⟨_,rfl⟩;rw[hX]at hP2
    repeat'(first|refine rx qQa ?_|apply au|refine rq ?_|simp only[go_sem,bt,bn,bh,fR,fH,Tryz.f41])
    refine cI hm hW1 41000 qWu (ι:=fW l.length q0 fun i=>ik 4 (l.drop i) (used.drop i) i=X)
     ⟨fun q=>⟨frL [(0,eS l),(1,eS used),(2,eS made),(3,eI r),(4,eI uses),(5,.ptr (7,0) 0),(12,eI 0),(14,eI 4),(37,.full [.i .i64 1,.i .i64 4,.i .i64 2]),(38,eI 3),(39,eI 1),(44,eI l.length),(45,eI q.i)],hpL [((7,0),some ⟨[eI a],true,false⟩)],q.m⟩,fun q=>l.length-q.i⟩
     ⟨0,q0,ae,ae,hX⟩ ah ?_ ?_
    ·refine bF ?_ ?_ ?_<;>simp only[go_sem]
     all_goals first|rfl|omega
    rintro⟨i,q1,hi,hq1,hE⟩
    try simp only at hi hq1 hE
    rcases aA i l.length with h1|h1;rotate_left
    ·rw[uM h1]at hE;rw[←hE]at hP2;simp only at hP2;obtain rfl:i=l.length:=ae
     repeat'(first|refine rx qQa ?_|apply au|refine rq ?_|simp only[go_sem,aC,bt,bn,bh,fR,fH,Tryz.f41])
     all_goals refine⟨⟨2,q1,ae,ae,hP2⟩,af,?_⟩
     all_goals refine bF ?_ ?_ ?_<;>simp only[go_sem]
     all_goals first|rfl|omega
    have h2:i<used.length:=ae
    obtain⟨f,hf⟩:∃f,l[i]=f:=⟨_,rfl⟩;obtain⟨u,hu2⟩:∃u,used[i]=u:=⟨_,rfl⟩;have hfB:BF f:=kf.out f qQj;have hfb:brF f:=hfB.o.b;rw[uH h1 h2,hf,hu2]at hE;obtain⟨k,hk⟩:∃k,(bY f).1=k:=⟨_,rfl⟩;have hks:eT f=k:=hk;rw[hk]at hE;cases u with
    |true=>
     rw[az ak]at hE
     repeat'(first|refine rx qQa ?_|apply au|refine rq ?_|simp only[go_sem,h1,h2,hf,hu2,hks,bt,bn,bh,fR,fH,Tryz.f41])
     all_goals refine⟨⟨i+1,q1,ae,ae,hE⟩,af,?_⟩
     all_goals refine bF ?_ ?_ ?_<;>simp only[go_sem]
     all_goals first|rfl|omega
    |false=>
     by_cases hkw:k=4;rotate_left
     ·rw[az (by simp[hkw])]at hE;have hkw':(k=4)=False:=aP hkw
      repeat'(first|apply rx hfb|refine rx qQa ?_|apply au|refine rq ?_|simp only[go_sem,h1,h2,hf,hu2,hks,hkw',bt,bn,bh,fR,fH,Tryz.f41])
      all_goals refine⟨⟨i+1,q1,ae,ae,hE⟩,af,?_⟩
      all_goals refine bF ?_ ?_ ?_<;>simp only[go_sem]
      all_goals first|rfl|omega
     subst hkw;rw[aF ⟨rfl,rfl⟩]at hE;rw[←hE]at hP2;simp only at hP2;have hfg:l.getD i fQ=f:=by rw[av,ay h1,hf];rfl
     rw[hfg]at hP2;obtain⟨pb1,pb2,pb3,pb4⟩:=pV hfb;have pB:=yN hfB;obtain⟨po,pq,pt,hPt⟩:∃o q t,bY f=(4,o,q,t):=⟨(bY f).2.1,(bY f).2.2.1,(bY f).2.2.2,qWd⟩;rw[hPt]at pb1 pb2 pb3 pb4 pB;simp only at pb1 pb2 pb3 pb4 pB;have hpie:iV f=po:=by unfold iV;rw[hPt]
     unfold jr at hP2;rw[hPt]at hP2;have hue:used.isEmpty=false:=by cases hb:used with|nil=>rw[hb]at h2;simp at h2|cons=>rfl
     have hul2:used.length≤100000:=ae
     have hvi:used.isEmpty=false∧i+1≤used.length:=⟨hue,ae⟩;obtain⟨U,hU⟩:∃U,used.set i true=U:=⟨_,rfl⟩;have hUl:U.length=used.length:=by rw[←hU,cY]
     have hUc:(used.map (D.fz∘enc)).set i (.fz (.b true))=bA (U.map enc):=by rw[ia,←hU,fZ];rfl
     have hP3:(if(4:Int)=1 then _ else if(4:Int)=4 then(if 300<a+1 then l3 (a+1)else sL i (oS (e7 b.list)) (rec (eo (il b i) [gP pq pt (oS (e7 b.list))]) (a+1)))else _)=V:=hP2;rw[az ai,aF rfl,hbl,←yF]at hP3;obtain⟨hf1,hf2,hf3⟩:=BE (acM l);have hnb:(acM l).length<10^20:=by rw[yF];exact Jw hcl.1 ae
     have hnm:oS (acM l)=ir (lu (acM l) (acM l).length 0):=rfl;obtain⟨NS,hNS⟩:∃NS,acM l=NS:=⟨_,rfl⟩;rw[hNS]at hf1 hf2 hf3 hnb hnm hP3;have hn64:NS.length≤900000000:=by rw[←hNS];have:=zG hac.1 l.length (aI _);rw[aJ]at this;omega
     obtain⟨KF,hKF⟩:∃KF,lu NS NS.length 0=KF:=⟨_,rfl⟩;rw[hKF]at hf1 hf2 hf3 hnm;rw[hnm]at hP3
     repeat'(first|apply rx hfb|apply rx hvi|apply rx hcp|apply rx hcp.1|refine rx qQa ?_|apply au|refine rq ?_|simp only[go_sem,h1,h2,hf,hu2,hks,hNS,bt,bn,bh,fR,fH,Tryz.f41])
     refine cI hm hW1 41000 qWu (ι:=fW KF (q1+1) fun _=>True)
      ⟨fun q=>⟨frL [(0,eS l),(2,eS made),(3,eI r),(4,eI uses),(5,.ptr (7,0) 0),(15,eI i),(16,.arr (41063,q1) 1 0 used.length),(21,eI q.i)],
       hpL [((7,0),some ⟨[eI a],true,false⟩),((41063,q1),some ⟨(bA (used.map enc)).set i (.fz (.b true)),false,used.isEmpty⟩)],q.m⟩,fun q=>KF-q.i⟩
      ⟨0,q1+1,ae,ae,trivial⟩ ah ?_ ?_
     ·refine bF ?_ ?_ ?_<;>simp only[go_sem]
      all_goals first|rfl|omega|(refine⟨?_,?_⟩<;>omega)
     rintro⟨k,m2,hk2,hm2,_⟩
     try simp only at hk2 hm2
     have hK2:(0:Int)≤k∧(k:Int)≤1000000000000:=ae
     have hdk:(x7 (k:Int)).l=fV k:=rfl;have hdl:1+(fV k).length≤dt:=by have:=ta k;unfold dt;omega
     rcases aA k KF with h3|h3
     ·have hin:((⟨99::fV k⟩:Str)∈NS)=True:=aU (hf3 k h3)
      repeat'(first|apply rx hdl|apply rx hfb|apply rx hvi|apply rx hac|apply rx hK2|refine ru (id:=30) hm hW1 41000 qWu fH ?_|refine rx qQa ?_|apply au|refine rq ?_|simp only[go_sem,hNS,hdk,hin,a6,aK,bt,bn,bh,fR,fH,Tryz.f41])
      refine⟨⟨k+1,m2,ae,ae,trivial⟩,af,?_⟩;refine bF ?_ ?_ ?_<;>simp only[go_sem]
      all_goals first|rfl|omega
     obtain rfl:k=KF:=ae
     have hin:((⟨99::fV k⟩:Str)∈NS)=False:=aP hf2;obtain⟨qa,hqa,hab,has⟩:=pb4 ak;have hfor:xw f ⟨99::fV k⟩:=⟨qN hfB,.inr hks,BN (j:=k) ae⟩;have hIB:BF (gP pq pt (ir k)):=by have:=zg hfB (nm:=ir k) (.inr (by rw[hPt])) (BN ae);rw[hPt]at this;exact this
     have hfI:lZ f ⟨99::fV k⟩=gP pq pt (ir k):=by unfold lZ;rw[hPt];rfl
     obtain⟨I,hI⟩:∃I,gP pq pt (ir k)=I:=⟨_,rfl⟩;rw[hI]at hIB hfI hP3;obtain⟨M,hMM⟩:∃M,M=[I]:=⟨_,rfl⟩;rw[←hMM]at hP3;have hMl:M.length=1:=by rw[hMM];rfl
     by_cases hfu:300<a+1
     ·rw[aF hfu]at hP3;have hfT:(300<a+1)=True:=aU hfu
      repeat'(first|apply rx hdl|apply rx hfb|apply rx hvi|apply rx hac|apply rx hK2|apply rx hfor|refine ru (id:=30) hm hW1 41000 qWu fH ?_|refine rx qQa ?_|apply au|refine rq ?_|simp only[go_sem,hfT,h1,h2,hf,hNS,hdk,hin,hfI,a6,aK,bt,bn,bh,fR,fH,Tryz.f41])
      all_goals(
       rw[kq.out,←hP3];refine⟨?_,?_⟩
       ·simp only[go_sem,sy,sn]
       ·simp only[go_sem,sy,sn])
     rw[az hfu]at hP3;have hfT:(300<a+1)=False:=aP hfu
     repeat'(first|apply rx hdl|apply rx hfb|apply rx hvi|apply rx hac|apply rx hK2|apply rx hfor|refine ru (id:=30) hm hW1 41000 qWu fH ?_|refine rx qQa ?_|apply au|refine rq ?_|simp only[go_sem,hfT,h1,h2,hf,hNS,hdk,hin,hfI,a6,aK,bt,bn,bh,fR,fH,Tryz.f41])
     have hMb:∀y∈M,brF y:=fun y hy=>by rw[hMM]at hy;rw[a7.1 hy];exact hIB.o.b
     have hMB:∀y∈M,BF y:=fun y hy=>by rw[hMM]at hy;rw[a7.1 hy];exact hIB
     obtain⟨B',hB'⟩:∃B',eo (il b i) M=B':=⟨_,rfl⟩;have hok':ix uses B' ((a+1)):=by rw[←hB'];exact(ko.out.mark i).add hMb (by rw[hMl];rfl) ae
     have eB:B'=brD (l++M) (U++List.replicate M.length false) made r:=by rw[←hB',←kb.out,Dt kn.out,hU]
     rw[hB']at hP3;obtain⟨rs,hrs⟩:∃rs,rec B' ((a+1))=rs:=⟨_,rfl⟩;rw[hrs]at hP3;have hrun:=ki.out (l++M) (U++List.replicate M.length false) made r ((a+1)) (by rw[←eB];exact hok') (fun y hy=>by
      rcases aO.1 hy with h|h
      ·exact kf.out y h
      ·exact hMB y h) (kn.out.mono ak) ae ae
     rw[←eB,hrs]at hrun;have hU0:(bA (used.map enc)).set i (D.fz (FD.b true))=bA (U.map enc):=by rw[ia];exact hUc
     refine cI hm hW1 41000 qWu (ι:=Fv M.length (m2+2) fun _=>True)
      ⟨fun q=>⟨frL [(2,eS made),(3,eI r),(4,eI uses),(5,.ptr (7,0) 0),(22,.ow (41155,q.g1) 4 ((l++M.take q.i).map enc)),(16,.arr (41158,q.g2) 1 0 (U++List.replicate q.i false).length),(146,.full (M.map enc)),(147,eI M.length),(148,eI q.i)],
       hpL [((7,0),some ⟨[eI (a+1)],true,false⟩),((41155,q.g1),some tok),((41158,q.g2),some ⟨bA ((U++List.replicate q.i false).map enc),false,false⟩)],q.m⟩,fun q=>M.length-q.i⟩
      ⟨0,m2+1,m2+1,m2+2,ae,ae,ae,ae,trivial⟩ ah ?_ ?_
     ·refine eX [((41155,m2+1),(41145,m2)),((41158,m2+1),(41063,q1))] [] [] ?_ ?_ ?_ ?_ ?_<;>simp only[go_sem,xM,nf,vL,hU0,hUl,hue,bv,bP,fq,hMM]
      all_goals first|rfl|omega|(refine⟨?_,?_⟩<;>omega)
     rintro⟨j,g1,g2,m',hj,hg1,hg2,hm',_⟩
     try simp only at hj hg1 hg2 hm'
     rcases aA j M.length with h3|h3
     ·obtain⟨x,hx⟩:∃x,M[j]=x:=⟨_,rfl⟩;have et:M.take (j+1)=M.take j++[x]:=by rw[aB h3,hx]
      have er:List.replicate (j+1) false=List.replicate j false++[false]:=dF;have hlU:(U++List.replicate j false).length=U.length+j:=ak
      have hlM:(l++M.take j).length=l.length+j:=by rw[aD,aX];omega
      have hfl:(bA (U.map enc++(List.replicate j false).map enc)).length=U.length+j:=by rw[←aE,ia];simp
      have hft:=bV (mL hfl);have hfa:bA (U.map enc++(List.replicate j false).map enc)++bA [FD.b false]=bA (U.map enc++((List.replicate j false).map enc++[FD.b false])):=by rw[←JY,bu]
      repeat'(first|refine rx ⟨mL hfl.symm,rfl,dZ ae ai⟩ ?_|refine rx qQa ?_|apply au|refine rq ?_|simp only[go_sem,h3,hx,hlU,hlM,hft,bt,bn,bh,fR,fH,Tryz.f41])
      refine⟨⟨j+1,m'+1,m'+2,m'+3,ae,ae,ae,ae,trivial⟩,af,?_⟩;refine eX [] [] [] ?_ ?_ ?_ ?_ ?_<;>simp only[go_sem,et,er,hfa,aE,bu,hlU]
      all_goals first|rfl|omega|(simp only[cE];omega)|(refine⟨?_,?_⟩<;>omega)
     ·obtain rfl:j=M.length:=ae
      have hlU:(U++List.replicate M.length false).length=U.length+M.length:=ak
      repeat'(first|refine rx qQa ?_|apply au|refine rq ?_|simp only[go_sem,aC,aJ,bt,bn,bh,fR,fH,Tryz.f41])
      refine dJ.i (Fi (a2:=(a+1)) (l2:=l++M) (u2:=U++List.replicate M.length false) (made:=made) (g:=g2) (v:=false) (cells:=bA (U.map enc++(List.replicate M.length false).map enc)) hrun aE.symm aj (by rw[aE]) (fun h=>by cases h) (by first|exact hlU.symm|simp) aj ?_)
      repeat'(first|refine rx qQa ?_|apply au|refine rq ?_|simp only[go_sem,bt,bn,bh,fR,fH,Tryz.f41])
      all_goals(
       rw[kq.out,←hP3];refine⟨?_,?_⟩
       ·simp only[go_sem,Jj,Iq]
       ·simp only[go_sem,Jj,Iq])
   ·have hP2:(match ik 2 (b.list.drop 0) (b.used.drop 0) 0 with
     |some i=>jr rec b a i (b.list.getD i fQ)
     |none=>kY rec b a K (xY.drop 3))=V:=hP
    rw[hbl,hbu]at hP2;obtain⟨X,hX⟩:∃X,ik 2 (l.drop 0) (used.drop 0) 0=X:=⟨_,rfl⟩;rw[hX]at hP2
    repeat'(first|refine rx qQa ?_|apply au|refine rq ?_|simp only[go_sem,bt,bn,bh,fR,fH,Tryz.f41])
    refine cI hm hW1 41000 qWu (ι:=fW l.length q0 fun i=>ik 2 (l.drop i) (used.drop i) i=X)
     ⟨fun q=>⟨frL [(0,eS l),(1,eS used),(2,eS made),(3,eI r),(4,eI uses),(5,.ptr (7,0) 0),(12,eI 0),(14,eI 2),(37,.full [.i .i64 1,.i .i64 4,.i .i64 2]),(38,eI 3),(39,eI 2),(44,eI l.length),(45,eI q.i)],hpL [((7,0),some ⟨[eI a],true,false⟩)],q.m⟩,fun q=>l.length-q.i⟩
     ⟨0,q0,ae,ae,hX⟩ ah ?_ ?_
    ·refine bF ?_ ?_ ?_<;>simp only[go_sem]
     all_goals first|rfl|omega
    rintro⟨i,q1,hi,hq1,hE⟩
    try simp only at hi hq1 hE
    rcases aA i l.length with h1|h1;rotate_left
    ·rw[uM h1]at hE;rw[←hE]at hP2;simp only at hP2;obtain rfl:i=l.length:=ae
     repeat'(first|refine rx qQa ?_|apply au|refine rq ?_|simp only[go_sem,aC,bt,bn,bh,fR,fH,Tryz.f41])
     all_goals refine⟨⟨3,q1,ae,ae,hP2⟩,af,?_⟩
     all_goals refine bF ?_ ?_ ?_<;>simp only[go_sem]
     all_goals first|rfl|omega
    have h2:i<used.length:=ae
    obtain⟨f,hf⟩:∃f,l[i]=f:=⟨_,rfl⟩;obtain⟨u,hu2⟩:∃u,used[i]=u:=⟨_,rfl⟩;have hfB:BF f:=kf.out f qQj;have hfb:brF f:=hfB.o.b;rw[uH h1 h2,hf,hu2]at hE;obtain⟨k,hk⟩:∃k,(bY f).1=k:=⟨_,rfl⟩;have hks:eT f=k:=hk;rw[hk]at hE;cases u with
    |true=>
     rw[az ak]at hE
     repeat'(first|refine rx qQa ?_|apply au|refine rq ?_|simp only[go_sem,h1,h2,hf,hu2,hks,bt,bn,bh,fR,fH,Tryz.f41])
     all_goals refine⟨⟨i+1,q1,ae,ae,hE⟩,af,?_⟩
     all_goals refine bF ?_ ?_ ?_<;>simp only[go_sem]
     all_goals first|rfl|omega
    |false=>
     by_cases hkw:k=2;rotate_left
     ·rw[az (by simp[hkw])]at hE;have hkw':(k=2)=False:=aP hkw
      repeat'(first|apply rx hfb|refine rx qQa ?_|apply au|refine rq ?_|simp only[go_sem,h1,h2,hf,hu2,hks,hkw',bt,bn,bh,fR,fH,Tryz.f41])
      all_goals refine⟨⟨i+1,q1,ae,ae,hE⟩,af,?_⟩
      all_goals refine bF ?_ ?_ ?_<;>simp only[go_sem]
      all_goals first|rfl|omega
     subst hkw;rw[aF ⟨rfl,rfl⟩]at hE;rw[←hE]at hP2;simp only at hP2;have hfg:l.getD i fQ=f:=by rw[av,ay h1,hf];rfl
     rw[hfg]at hP2;obtain⟨pb1,pb2,pb3,pb4⟩:=pV hfb;have pB:=yN hfB;obtain⟨po,pq,pt,hPt⟩:∃o q t,bY f=(2,o,q,t):=⟨(bY f).2.1,(bY f).2.2.1,(bY f).2.2.2,qWd⟩;rw[hPt]at pb1 pb2 pb3 pb4 pB;simp only at pb1 pb2 pb3 pb4 pB;have hpie:iV f=po:=by unfold iV;rw[hPt]
     unfold jr at hP2;rw[hPt]at hP2;have hue:used.isEmpty=false:=by cases hb:used with|nil=>rw[hb]at h2;simp at h2|cons=>rfl
     have hul2:used.length≤100000:=ae
     have hvi:used.isEmpty=false∧i+1≤used.length:=⟨hue,ae⟩;obtain⟨U,hU⟩:∃U,used.set i true=U:=⟨_,rfl⟩;have hUl:U.length=used.length:=by rw[←hU,cY]
     have hUc:(used.map (D.fz∘enc)).set i (.fz (.b true))=bA (U.map enc):=by rw[ia,←hU,fZ];rfl
     have hP3:(if(2:Int)=1 then _ else if(2:Int)=4 then _ else kH rec (il b i) i po [] a)=V:=hP2;rw[az ai,az ai]at hP3;have hcp:clB f∧(eT f=1∨eT f=2):=⟨qN hfB,.inr hks⟩;have hU0:(bA (used.map enc)).set i (D.fz (FD.b true))=bA (U.map enc):=by rw[ia];exact hUc
     repeat'(first|apply rx hfb|apply rx hvi|apply rx hcp|apply rx hcp.1|refine rx qQa ?_|apply au|refine rq ?_|simp only[go_sem,h1,h2,hf,hu2,hks,hpie,bt,bn,bh,fR,fH,Tryz.f41])
     refine cI hm hW1 41000 qWu (ι:=Sw po.length (q1+1) fun j a'=>(∃subs,kH rec (il b i) i (po.drop j) subs a'=V)∧a≤a'∧a'≤300)
      ⟨fun q=>⟨frL [(0,eS l),(2,eS made),(3,eI r),(4,eI uses),(5,.ptr (7,0) 0),(16,eS U),(73,eS po),(74,eI po.length),(75,eI q.i)],
       hpL [((7,0),some ⟨[eI q.a],true,false⟩)],q.m⟩,fun q=>po.length-q.i⟩
      ⟨0,a,q1+1,ae,ae,⟨⟨[],hP3⟩,ae,ae⟩⟩ ah ?_ ?_
     ·refine eX [] [] [((41063,q1),U.map enc)] ?_ ?_ ?_ ?_ ?_<;>simp only[go_sem,hU0,hUl,hue]
      all_goals first|rfl|omega|(refine⟨?_,?_⟩<;>omega)
     rintro⟨j,a',m',hj,hm',⟨subs,hB0⟩,hB1,hB2⟩
     try simp only at hj hm' hB0 hB1 hB2
     rcases aA j po.length with h3|h3;rotate_left
     ·have hB9:=hB0;rw[cL h3,kH]at hB9;obtain rfl:j=po.length:=ae
      repeat'(first|refine rx qQa ?_|apply au|refine rq ?_|simp only[go_sem,aC,bt,bn,bh,fR,fH,Tryz.f41])
      all_goals(
       rw[kq.out,←hB9];refine⟨?_,?_⟩
       ·simp only[go_sem,za]
       ·simp only[go_sem,za])
     have hB9:=hB0;rw[JH h3]at hB9;obtain⟨x,hx⟩:∃x,po[j]=x:=⟨_,rfl⟩;have hxB:BF x:=pB x (by rw[←hx];exact aT h3);rw[hx]at hB9;by_cases hfu:300<a'+1
     ·rw[aF hfu]at hB9;have hfT:(300<a'+1)=True:=aU hfu
      repeat'(first|refine rx qQa ?_|apply au|refine rq ?_|simp only[go_sem,hfT,h3,hx,bt,bn,bh,fR,fH,Tryz.f41])
      all_goals(
       rw[kq.out,←hB9];refine⟨?_,?_⟩
       ·simp only[go_sem,sy,sn]
       ·simp only[go_sem,sy,sn])
     rw[az hfu]at hB9;have hfT:(300<a'+1)=False:=aP hfu;obtain⟨B',hB'⟩:∃B',eo (il b i) [x]=B':=⟨_,rfl⟩;have hMb:∀y∈[x],brF y:=fun y hy=>by rw[a7.1 hy];exact hxB.o.b
     have hok':ix uses B' (a'+1):=by rw[←hB'];exact((ko.out.mark i).mono hB1 hB2).add hMb rfl ae
     have eB:B'=brD (l++[x]) (U++[false]) made r:=by rw[←hB',←kb.out,Dt kn.out,hU];rfl
     rw[hB']at hB9;obtain⟨rs,hrs⟩:∃rs,rec B' (a'+1)=rs:=⟨_,rfl⟩;rw[hrs]at hB9;have hrun:=ki.out (l++[x]) (U++[false]) made r (a'+1) (by rw[←eB];exact hok') (fun y hy=>by
      rcases aO.1 hy with h|h
      ·exact kf.out y h
      ·rw[a7.1 h];exact hxB) (kn.out.mono ak) ae ae
     rw[←eB,hrs]at hrun;have had:=kd.out B' (a'+1) ae;rw[hrs]at had;obtain⟨had1,had2⟩:=had;have key:∀{H:bR} {n:Nat} {R:D→bR→Nat→Prop} {id1 id2:Abs.Id} {e1 e2:Nat} {xs ys:List FD},xs=(l++[x]).map enc→ys=(U++[false]).map enc→H (7,0)=some ⟨[.fz (.i .i64 (a'+1))],true,false⟩→
       R (.fz (.i .i64 (ji rs))) (cp H (7,0) (some ⟨[.fz (.i .i64 rs.added)],true,false⟩)) n→cS Tryz.prog GA 41 [.ow id1 e1 xs,.ow id2 e2 ys,.fz (.sl (made.map enc)),.fz (.i .i64 r),.fz (.i .i64 uses),.ptr (7,0) 0] H n R:=by
      intro H n R id1 id2 e1 e2 xs ys hx hy hH hR;subst hx hy;exact wB (T:=7) (ds:=[.ow id1 e1 ((l++[x]).map enc),.ow id2 e2 ((U++[false]).map enc),.fz (.sl (made.map enc)),.fz (.i .i64 r),.fz (.i .i64 uses)]) (xs:=[.sl ((l++[x]).map enc),.sl ((U++[false]).map enc),.sl (made.map enc),.i .i64 r,.i .i64 uses]) (cs:=[.i .i64 (a'+1)]) (cs':=[.i .i64 rs.added]) rfl hrun hH hR
     repeat'(first|refine rx ⟨rfl,dZ ae ai⟩ ?_|refine ru (id:=19) hm hW1 41000 qWu fR ?_|refine rx qQa ?_|apply au|refine rq ?_|simp only[go_sem,hfT,h3,hx,bt,bn,bh,fR,fH,Tryz.f41])
     all_goals refine dJ.i (key (by simp only[aE,aM,aQ,jf]) (by rw[aE];rfl) aj ?_)
     all_goals cases hrk:rs.ok with
     |false=>
      rw[aF hrk]at hB9;have hcv:ji V=ji rs:=by rw[←hB9];unfold ji;rw[hrk]
      have hav:V.added=rs.added:=by rw[←hB9]
      have hne:(ji rs=1)=False:=aP (by rw[KI,hrk];simp)
      repeat'(first|refine rx qQa ?_|apply au|refine rq ?_|simp only[go_sem,hne,bt,bn,bh,fR,fH,Tryz.f41])
      all_goals(
       rw[kq.out];refine⟨?_,?_⟩
       ·simp only[go_sem,hcv]
       ·simp only[go_sem,hav])
     |true=>
      rw[az (by rw[hrk];simp)]at hB9;have hne:ji rs=1:=KI.2 hrk
      repeat'(first|refine rx qQa ?_|apply au|refine rq ?_|simp only[go_sem,hne,bt,bn,bh,fR,fH,Tryz.f41])
      all_goals refine⟨⟨j+1,rs.added,m'+9,ae,ae,⟨⟨_,hB9⟩,ae,had2 hrk⟩⟩,af,?_⟩
      all_goals refine bF ?_ ?_ ?_<;>simp only[go_sem]
      all_goals first|rfl|omega
  ·obtain rfl:w=3:=ae
   have hG:nQ rec uses b a=V:=hK.trans hP;unfold nQ at hG;rw[hbr]at hG;by_cases hru:r=uses
   ·rw[aF hru]at hG;have hrT:(r=uses)=True:=aU hru
    repeat'(first|refine rx qQa ?_|apply au|refine rq ?_|simp only[go_sem,hrT,ck,bt,bn,bh,fR,fH,Tryz.f41])
    all_goals(
     rw[kq.out,←hG];refine⟨?_,?_⟩
     ·simp only[go_sem,zB]
     ·simp only[go_sem,zB])
   rw[az hru]at hG;have hrT:(r=uses)=False:=aP hru;obtain⟨NS,hNS⟩:∃NS,acM l=NS:=⟨_,rfl⟩;obtain⟨CS,hCS0⟩:∃CS,oN l=CS:=⟨_,rfl⟩;have hnm:=yF l;rw[hNS]at hnm;have hc0:(⟨b.list,b.used,b.seen,r+1⟩:Brn)=brD l used made (r+1):=by rw[←kb.out];rfl
   rw[hc0,hbl,hCS0]at hG;have hS0:x4 uses a r l made l used made [] a:=by refine⟨?_,kf.out,kn.out,ak,fun d hd=>hd,hma,ak⟩;rw[←hc0];exact⟨ko.out.br,ko.out.ll,ko.out.ul,ko.out.sl,ko.out.ss,af,af,ko.out.u,ko.out.a0,ko.out.a1⟩
   have hCn:∀w∈CS,dI w=true:=fun w hw=>Iv kf.out (by rw[hCS0];exact hw);have hcs:(((NS.length:Int)=0)=True∧CS=[⟨[99,48]⟩])∨(((NS.length:Int)=0)=False∧CS=NS):=by
    rw[←hCS0];unfold oN;rw[←hnm];by_cases h:NS=[]
    ·left;rw[aF h,h];exact⟨ak,rfl⟩
    ·right;rw[az h];exact⟨aP fun h2=>h (bG ae),rfl⟩
   have hCd:CS.Nodup:=by
    rcases hcs with⟨_,h⟩|⟨_,h⟩
    ·rw[h];simp
    ·rw[h,hnm];exact ZD (C0 _)
   have hcb:CS.length≤1000000000:=by
    rcases hcs with⟨_,h⟩|⟨_,h⟩
    ·rw[h];simp
    ·rw[h,←hNS];have:=zG hac.1 l.length (aI _);rw[aJ]at this;omega
   have kCn:=Kp.mk hCn;have kCd:=Kp.mk hCd;clear hCn hCd;rcases hcs with⟨hnT,hCS⟩|⟨hnT,hCS⟩
   all_goals(
    repeat'(first|apply rx hac|refine rx ⟨DP made,dZ ae ai⟩ ?_|refine rx qQa ?_|apply au|refine rq ?_|simp only[go_sem,hrT,hNS,hnT,bt,bn,bh,fR,fH,Tryz.f41])
    refine cI hm hW1 41000 qWu (ι:=EI l.length (q0+4) fun i lm um al st ad=>mF rec (iQ CS (l.drop i) i ⟨brD lm um al (r+1),st,ad⟩)=V∧x4 uses a r l made lm um al st ad∧∀d∈al,d∈made∨d.at'<(i:Int))
     ⟨fun q=>⟨frL [(0,eS l),(2,eS made),(3,eI r),(4,eI uses),(5,.ptr (7,0) 0),(25,eS CS),(26,.ow (41242,q.g1) 4 (q.lm.map enc)),(27,.ow (41245,q.g2) 1 (q.um.map enc)),(28,.ow (41251,q.g3) 2 (q.al.map enc)),(188,eI l.length),(189,eI q.i)],hpL [((7,0),some ⟨[eI q.ad],true,false⟩),((41242,q.g1),some tok),((41245,q.g2),some tok),((41251,q.g3),some tok)],q.m⟩,fun q=>l.length-q.i⟩
     ⟨0,l,used,made,[],a,q0+3,q0+3,q0+3,q0+4,ae,ae,ae,ae,ae,⟨hG,hS0,fun d hd=> .inl hd⟩⟩ ah ?_ ?_
    ·refine eX [((41242,q0+3),(41180,q0)),((41245,q0+3),(41183,q0+1)),((41251,q0+3),(41186,q0+2))] [] [] ?_ ?_ ?_ ?_ ?_<;>simp only[go_sem,xM,nf,vL,hCS]
     all_goals first|rfl|omega|(refine⟨?_,?_⟩<;>omega)
    rintro⟨i,lm,um,al,st,ad,g1,g2,g3,m2,hi,hg1,hg2,hg3,hm2,hq,hS,hD⟩
    try simp only at hi hg1 hg2 hg3 hm2 hq hS hD
    have hlm:=hS.ok.ll;have hln:=hS.ln;have hum:=hS.ok.ul;have hsa:=hS.ok.a0;have hsb:=hS.ok.a1;have had:=hS.ad1;have hal:=hS.all;have hlmb:(lm.length:Int)≤41+ad:=hlm;have humb:um.length=lm.length:=hum;rcases aA i l.length with h5|h5
    ·obtain⟨f,hf⟩:∃f,l[i]=f:=⟨_,rfl⟩;have hfB:BF f:=kf.out f (by rw[←hf];exact aT h5);have hfb:brF f:=hfB.o.b;have hq9:=hq;rw[Ld h5,hf]at hq9;obtain⟨k,hk⟩:∃k,(bY f).1=k:=⟨_,rfl⟩;have hks:eT f=k:=hk;by_cases hk3:k=3;rotate_left
     ·have hk3':(k=3)=False:=aP hk3;rw[hk,az hk3]at hq9
      repeat'(first|apply rx hfb|refine rx qQa ?_|apply au|refine rq ?_|simp only[go_sem,h5,hf,hks,hk3',bt,bn,bh,fR,fH,Tryz.f41])
      all_goals refine⟨⟨i+1,lm,um,al,st,ad,g1,g2,g3,m2,ae,ae,ae,ae,ae,⟨hq9,hS,fun d hd=>(hD d hd).imp id fun h=>ae⟩⟩,af,?_⟩
      all_goals refine bF ?_ ?_ ?_<;>simp only[go_sem]
      all_goals first|rfl|omega
     subst hk3;rw[aF hk]at hq9;obtain⟨po,pq,pt,hPt⟩:∃o q t,bY f=(3,o,q,t):=⟨(bY f).2.1,(bY f).2.2.1,(bY f).2.2.2,qWd⟩;rw[hPt]at hq9;have hq8:mF rec ((jt pq pt i (CS.drop 0) ⟨brD lm um al (r+1),st,ad⟩).bind (iQ CS (l.drop (i+1)) (i+1)))=V:=hq9
     repeat'(first|apply rx hfb|refine rx qQa ?_|apply au|refine rq ?_|simp only[go_sem,h5,hf,hks,bt,bn,bh,fR,fH,Tryz.f41])
     refine cI hm hW1 41000 qWu (ι:=EI CS.length m2 fun j lm um al st ad=>mF rec ((jt pq pt i (CS.drop j) ⟨brD lm um al (r+1),st,ad⟩).bind (iQ CS (l.drop (i+1)) (i+1)))=V∧x4 uses a r l made lm um al st ad∧∀d∈al,d∈made∨d.at'<(i:Int)∨(d.at'=(i:Int)∧d.name∈CS.take j))
      ⟨fun q=>⟨frL [(0,eS l),(2,eS made),(3,eI r),(4,eI uses),(5,.ptr (7,0) 0),(25,eS CS),(26,.ow (41242,q.g1) 4 (q.lm.map enc)),(27,.ow (41245,q.g2) 1 (q.um.map enc)),(28,.ow (41251,q.g3) 2 (q.al.map enc)),(188,eI l.length),(29,eI i),(189,eI i),(198,eS CS),(199,eI CS.length),(200,eI q.i)],hpL [((7,0),some ⟨[eI q.ad],true,false⟩),((41242,q.g1),some tok),((41245,q.g2),some tok),((41251,q.g3),some tok)],q.m⟩,fun q=>CS.length-q.i⟩
      ⟨0,lm,um,al,st,ad,g1,g2,g3,m2,ae,ae,ae,ae,ae,⟨hq8,hS,fun d hd=>(hD d hd).imp id .inl⟩⟩ ah ?_ ?_
     ·refine bF ?_ ?_ ?_<;>simp only[go_sem]
      all_goals first|rfl|omega
     rintro⟨j,lm,um,al,st,ad,g1,g2,g3,m3,hj,hg1,hg2,hg3,hm3,hq,hS,hD⟩
     try simp only at hj hg1 hg2 hg3 hm3 hq hS hD
     have hlm:=hS.ok.ll;have hln:=hS.ln;have hum:=hS.ok.ul;have hsa:=hS.ok.a0;have hsb:=hS.ok.a1;have had:=hS.ad1;have hal:=hS.all;have hlmb:(lm.length:Int)≤41+ad:=hlm;have humb:um.length=lm.length:=hum;have hil:i<lm.length:=ae
     rcases aA j CS.length with h6|h6;rotate_left
     ·have hq9:=hq;rw[cL h6,jt]at hq9;have hq7:mF rec (iQ CS (l.drop (i+1)) (i+1) ⟨brD lm um al (r+1),st,ad⟩)=V:=hq9;obtain rfl:j=CS.length:=ae
      repeat'(first|refine rx qQa ?_|apply au|refine rq ?_|simp only[go_sem,aC,bt,bn,bh,fR,fH,Tryz.f41])
      all_goals refine⟨⟨i+1,lm,um,al,st,ad,g1,g2,g3,m3,ae,ae,ae,ae,ae,⟨hq7,hS,fun d hd=>(hD d hd).imp id fun h=>by rcases h with h|h<;>omega⟩⟩,af,?_⟩
      all_goals refine bF ?_ ?_ ?_<;>simp only[go_sem]
      all_goals first|rfl|omega
     obtain⟨w,hx⟩:∃w,CS[j]=w:=⟨_,rfl⟩;have hwn:dI w=true:=kCn.out w (by rw[←hx];exact aT h6);have hwt:w∉CS.take j:=fun h=>by
      obtain⟨t,ht,e⟩:=bI h;rw[mI,←hx]at e;have htl:t<j:=by rw[aX]at ht;omega
      have:=(dy.1 kCd.out) t j ae h6 htl;exact this e
     obtain⟨A,hA⟩:∃A:jW→Bool,A=fun d=>decide (d.at'=(i:Int))&&decide (d.name=w):=⟨_,rfl⟩;have hseen:w∈(brD lm um al (r+1)).seen.getD i []↔made.any A=true:=by
      rw[show(brD lm um al (r+1)).seen=oA al lm.length from rfl,X5 hil,jb,hA];constructor
      ·rintro⟨d,hd,e1,e2⟩;rcases hD d hd with h|h|⟨_,h⟩
       ·exact⟨d,h,by simp[e1,e2]⟩
       ·omega
       ·rw[e2]at h;exact absurd h hwt
      ·rintro⟨d,hd,e⟩;simp only[aS,bi]at e;exact⟨d,hS.gd d hd,e.1,e.2⟩
     have kA:=Kp.mk hA;clear hA
     repeat'(first|refine rx qQa ?_|apply au|refine rq ?_|simp only[go_sem,h6,hx,bt,bn,bh,fR,fH,Tryz.f41])
     refine cI hm hW1 41000 qWu (ι:=fW made.length m3 fun _=>True)
      ⟨fun q=>⟨frL [(0,eS l),(2,eS made),(3,eI r),(4,eI uses),(5,.ptr (7,0) 0),(25,eS CS),(26,.ow (41242,g1) 4 (lm.map enc)),(27,.ow (41245,g2) 1 (um.map enc)),(28,.ow (41251,g3) 2 (al.map enc)),(188,eI l.length),(29,eI i),(189,eI i),(198,eS CS),(199,eI CS.length),(200,eI j),(31,.fz (.s w.l)),(32,.fz (.b ((made.take q.i).any A))),(204,eS made),(205,eI made.length),(206,eI q.i)],hpL [((7,0),some ⟨[eI ad],true,false⟩),((41242,g1),some tok),((41245,g2),some tok),((41251,g3),some tok)],q.m⟩,fun q=>made.length-q.i⟩
      ⟨0,m3,ae,ae,trivial⟩ ah ?_ ?_
     ·refine bF ?_ ?_ ?_<;>simp only[go_sem,bv,List.any_nil]
      all_goals first|rfl|omega
     rintro⟨t,m4,ht,hm4,_⟩
     try simp only at ht hm4
     rcases aA t made.length with h7|h7
     ·obtain⟨d,hd⟩:∃d,made[t]=d:=⟨_,rfl⟩;have e1:(made.take (t+1)).any A=((made.take t).any A||A d):=by rw[aB h7,List.any_append,hd];simp
      have hAd:A d=(decide (d.at'=(i:Int))&&decide (d.name=w)):=by rw[kA.out]
      obtain⟨B,hB⟩:∃B,(made.take t).any A=B:=⟨_,rfl⟩;rw[hB]at e1;have hnn:(d.name.l=w.l)=(d.name=w):=propext ⟨fun h=>qF h,fun h=>by rw[h]⟩;cases B with
      |true=>
       repeat'(first|refine rx qQa ?_|apply au|refine rq ?_|simp only[go_sem,hB,h7,hd,bt,bn,bh,fR,fH,Tryz.f41])
       all_goals refine⟨⟨t+1,m4+1,ae,ae,trivial⟩,af,?_⟩
       all_goals refine bF ?_ ?_ ?_<;>simp only[go_sem,e1,fY]
       all_goals first|rfl|omega
      |false=>
       rw[da]at e1;by_cases hat:d.at'=(i:Int)
       ·have hatT:(d.at'=(i:Int))=True:=aU hat;by_cases hdn:d.name=w
        ·have hdnT:(d.name.l=w.l)=True:=aU (by rw[hdn]);rw[hAd,ba hat,ba hdn]at e1
         repeat'(first|refine rx qQa ?_|apply au|refine rq ?_|simp only[go_sem,hB,h7,hd,hatT,hdnT,bt,bn,bh,fR,fH,Tryz.f41])
         all_goals refine⟨⟨t+1,m4+1,ae,ae,trivial⟩,af,?_⟩
         all_goals refine bF ?_ ?_ ?_<;>simp only[go_sem,e1,cZ]
         all_goals first|rfl|omega
        ·have hdnT:(d.name.l=w.l)=False:=aP (by rw[hnn];exact hdn);rw[hAd,ba hat,aW hdn]at e1
         repeat'(first|refine rx qQa ?_|apply au|refine rq ?_|simp only[go_sem,hB,h7,hd,hatT,hdnT,bt,bn,bh,fR,fH,Tryz.f41])
         all_goals refine⟨⟨t+1,m4+1,ae,ae,trivial⟩,af,?_⟩
         all_goals refine bF ?_ ?_ ?_<;>simp only[go_sem,e1,cZ]
         all_goals first|rfl|omega
       ·have hatT:(d.at'=(i:Int))=False:=aP hat;rw[hAd,aW hat]at e1
        repeat'(first|refine rx qQa ?_|apply au|refine rq ?_|simp only[go_sem,hB,h7,hd,hatT,bt,bn,bh,fR,fH,Tryz.f41])
        all_goals refine⟨⟨t+1,m4+1,ae,ae,trivial⟩,af,?_⟩
        all_goals refine bF ?_ ?_ ?_<;>simp only[go_sem,e1,dU]
        all_goals first|rfl|omega
     obtain rfl:t=made.length:=ae
     have hq9:=hq;rw[Le h6,hx]at hq9;simp only at hq9;obtain⟨O,hO⟩:∃O,made.any A=O:=⟨_,rfl⟩;have hO2:(made.take made.length).any A=O:=by rw[aJ];exact hO
     have etk:CS.take (j+1)=CS.take j++[w]:=by rw[aB h6,hx]
     cases O with
     |true=>
      rw[aF (hseen.2 hO)]at hq9
      repeat'(first|refine rx qQa ?_|apply au|refine rq ?_|simp only[go_sem,aC,hO,hO2,bt,bn,bh,fR,fH,Tryz.f41])
      all_goals refine⟨⟨j+1,lm,um,al,st,ad,g1,g2,g3,m4,ae,ae,ae,ae,ae,⟨hq9,hS,fun d hd=>(hD d hd).imp id (.imp id fun h=>⟨h.1,by rw[etk];exact cx _ h.2⟩)⟩⟩,af,?_⟩
      all_goals refine bF ?_ ?_ ?_<;>simp only[go_sem]
      all_goals first|rfl|omega
     |false=>
      rw[az (fun h=>by rw[hseen.1 h]at hO;cases hO)]at hq9;by_cases hfu:300<ad+1
      ·rw[aF hfu]at hq9;have hfT:(300<ad+1)=True:=aU hfu;have hq7:l3 (ad+1)=V:=hq9
       repeat'(first|refine rx qQa ?_|apply au|refine rq ?_|simp only[go_sem,aC,hO,hO2,hfT,bt,bn,bh,fR,fH,Tryz.f41])
       all_goals(
        rw[kq.out,←hq7];refine⟨?_,?_⟩
        ·simp only[go_sem,sy,sn]
        ·simp only[go_sem,sy,sn])
      rw[az hfu]at hq9;have hfT:(300<ad+1)=False:=aP hfu;have hfor:xw f w:=⟨qN hfB,.inl hks,hwn⟩;have hIB:BF (gP pq pt w):=by have:=zg hfB (nm:=w) (.inl (by rw[hPt])) hwn;rw[hPt]at this;exact this
      have hfI:lZ f w=gP pq pt w:=by unfold lZ;rw[hPt]
      obtain⟨I,hI⟩:∃I,gP pq pt w=I:=⟨_,rfl⟩;rw[hI]at hIB hfI hq9;rw[NA hS.dn hil]at hq9;have hS':x4 uses a r l made (lm++[I]) (um++[false]) (al++[⟨i,w⟩]) (st++[.mk 4 i 0 w []]) (ad+1):=by
       refine⟨?_,fun y hy=>?_,(hS.dn.snoc hil w).mono ak,qQo,fun d hd=>cx _ (hS.gd d hd),qQo,qQo⟩
       ·rw[←NA hS.dn hil];exact hS.ok.saw (by rw[hS.ok.sl];exact hil) hIB.o.b ae
       ·rcases aO.1 hy with h|h
        ·exact hS.bf y h
        ·rw[a7.1 h];exact hIB
      have hD':∀d∈al++[⟨i,w⟩],d∈made∨d.at'<(i:Int)∨(d.at'=(i:Int)∧d.name∈CS.take (j+1)):=fun d hd=>by
       rcases aO.1 hd with h|h
       ·exact(hD d h).imp id (.imp id fun h=>⟨h.1,by rw[etk];exact cx _ h.2⟩)
       ·rw[a7.1 h,etk];exact .inr (.inr ⟨rfl,cP _ ak⟩)
      have hall2:dP (al.map enc) 2∧fits al.length 24:=⟨DP al,dZ ae ai⟩
      repeat'(first|apply rx hfb|apply rx hfor|refine rx ⟨rfl,dZ ae ai⟩ ?_|refine rx ⟨DP al,dZ ae ai⟩ ?_|refine rx qQa ?_|apply au|refine rq ?_|simp only[go_sem,aC,hO,hO2,hfT,h5,hf,hfI,bt,bn,bh,fR,fH,Tryz.f41])
      all_goals refine⟨⟨j+1,lm++[I],um++[false],al++[⟨i,w⟩],st++[.mk 4 i 0 w []],ad+1,m4,m4+1,m4+2,m4+3,ae,ae,ae,ae,ae,⟨hq9,hS',hD'⟩⟩,af,?_⟩
      all_goals refine eX [] [] [] ?_ ?_ ?_ ?_ ?_<;>simp only[go_sem,aE]
      all_goals first|rfl|omega
    ·obtain rfl:i=l.length:=ae
     rw[fe]at hq;have hq7:mF rec (.go ⟨brD lm um al (r+1),st,ad⟩)=V:=hq;unfold mF at hq7;simp only at hq7;by_cases hst:st=[]
     ·rw[aF hst]at hq7;have hle:((lm.length:Int)=l.length)=True:=aU (by rw[hln,hst];simp)
      repeat'(first|refine rx qQa ?_|apply au|refine rq ?_|simp only[go_sem,aC,hle,bt,bn,bh,fR,fH,Tryz.f41])
      all_goals(
       rw[kq.out,←hq7];refine⟨?_,?_⟩
       ·simp only[go_sem,zB]
       ·simp only[go_sem,zB])
     ·rw[az hst]at hq7;have hs1:1≤st.length:=List.length_pos_iff.2 hst;have hle:((lm.length:Int)=l.length)=False:=aP ae;have hrun:=ki.out lm um al (r+1) ad hS.ok hS.bf hS.dn hS.all ae;obtain⟨rs,hrs⟩:∃rs,rec (brD lm um al (r+1)) ad=rs:=⟨_,rfl⟩;rw[hrs]at hrun hq7;have hcv:ji V=ji rs:=by rw[←hq7];rfl
      have hav:V.added=rs.added:=by rw[←hq7]
      repeat'(first|refine rx qQa ?_|apply au|refine rq ?_|simp only[go_sem,aC,hle,bt,bn,bh,fR,fH,Tryz.f41])
      refine dJ.i (wB (T:=7) (ds:=[.ow (41242,g1) 4 (lm.map enc),.ow (41245,g2) 1 (um.map enc),.ow (41251,g3) 2 (al.map enc),.fz (.i .i64 (r+1)),.fz (.i .i64 uses)]) (xs:=[.sl (lm.map enc),.sl (um.map enc),.sl (al.map enc),.i .i64 (r+1),.i .i64 uses]) (cs:=[.i .i64 ad]) (cs':=[.i .i64 rs.added]) rfl hrun aj ?_)
      repeat'(first|refine rx qQa ?_|apply au|refine rq ?_|simp only[go_sem,bt,bn,bh,fR,fH,Tryz.f41])
      all_goals(
       rw[kq.out];refine⟨?_,?_⟩
       ·simp only[go_sem,hcv]
       ·simp only[go_sem,hav]))
end Go.Proofs.YtnijhilfchekkaaGreatDoor
