import Derived.Test.YtnijhilfchekkaaGreatDoorW2
set_option linter.unusedSimpArgs false
set_option maxRecDepth 100000
set_option maxHeartbeats 1000000
namespace Go.Proofs.YtnijhilfchekkaaGreatDoor
open Go Go.Abs Go.Proofs
def pF (f:Abs.aH)(name:Str):Abs.aH:=eC (dv f) [⟨f.name,name⟩]
def Nz (f:Abs.aH)(_:Str):Prop:=∃a,f.subs=[a]∧a.fit=true∧a.size≤1000
def EZ:Tv:=(.q 0 (.q 1 (.q 2 (.q 3 (.q 4 (.q 5 (.q 6 (.q 7 (.q 8 (.q 9 (.br [(10,.leaf)])))))))))))
def Y1:Tbl:=N5.add 85 (sp2 pF Nz)
attribute [go_sem] Y1
theorem hY1:b9 Tryz.prog GA Y1:=by
 refine gN Hk hN5 fun f name hp _ _=>?_;obtain⟨a,ha,h1,h2⟩:=hp;have e:pF f name=eC a [⟨f.name,name⟩]:=by unfold pF dv;rw[ha];rfl
 rw[e];have hcp:CD a [⟨f.name,name⟩]:=⟨h1,h2,ak⟩;obtain⟨R,hR⟩:∃R,eC a [⟨f.name,name⟩]=R:=⟨_,rfl⟩;rw[hR];refine rv (N:=15) hm hN5 85000 qW5 Hk Tryz.func85 rfl ?_
 repeat'(first|refine rx ⟨rfl,hcp⟩ ?_|apply rx hcp|refine ru (id:=1) hm hN5 85000 qW5 EZ ?_|apply au|refine rq ?_|simp only[go_sem,ha,hR,bn,bt,EZ,Tryz.f85])
def tX (q:Abs.aH)(turned:Bool)(name:Str):Abs.aH:=if turned then nc (pF q name)else pF q name
def zQ (q:Abs.aH)(_:Bool)(_:Str):Prop:=∃a,q.subs=[a]∧a.fit=true∧a.size≤800
theorem XW {q:Abs.aH}{name:Str}(h:∃a,q.subs=[a]∧a.fit=true∧a.size≤800):(pF q name).fit=true∧(pF q name).size≤800:=by
 obtain⟨a,ha,h1,h2⟩:=h;have e:pF q name=eC a [⟨q.name,name⟩]:=by unfold pF dv;rw[ha];rfl
 rw[e];exact⟨by rw[BQ];exact h1,by rw[uw];exact h2⟩
def Y2:Tbl:=Y1.add 63 (sp3 tX zQ)
attribute [go_sem] Y2
theorem hY2:b9 Tryz.prog GA Y2:=by
 refine oT Bo hY1 fun q tn name hp _ _ _=>?_;have hs:=XW (name:=name) hp;have hb:Nz q name:=by obtain⟨a,ha,h1,h2⟩:=hp;exact⟨a,ha,h1,ae⟩
 have hng:(pF q name).fit=true∧(pF q name).size≤900:=⟨hs.1,ae⟩;obtain⟨B,hB⟩:∃B,pF q name=B:=⟨_,rfl⟩;rw[hB]at hng;cases tn with
 |true=>
  have e:tX q true name=nc B:=by unfold tX;rw[hB];rfl
  rw[e];obtain⟨R,hR⟩:∃R,nc B=R:=⟨_,rfl⟩;rw[hR];refine rv (N:=15) hm hY1 63000 qWi Bo Tryz.func63 rfl ?_
  repeat'(first|apply rx hb|apply rx hng|apply au|refine rq ?_|simp only[go_sem,hB,hR,bn,bt,Tryz.f63])
 |false=>
  have e:tX q false name=B:=by unfold tX;rw[hB];rfl
  rw[e];refine rv (N:=15) hm hY1 63000 qWi Bo Tryz.func63 rfl ?_
  repeat'(first|apply rx hb|apply rx hng|apply au|refine rq ?_|simp only[go_sem,hB,bn,bt,Tryz.f63])
def E8:Tv:=(.q 0 (.q 1 (.q 2 (.q 3 (.q 4 (.q 6 (.q 7 (.br [(5,(.q 8 (.q 9 (.q 10 (.br [(11,(.q 12 (.q 13 (.q 14 (.q 15 (.br [(16,(.q 17 .leaf))])))))),(13,(.br [(11,(.q 12 (.q 14 (.q 15 (.br [(16,(.q 17 .leaf))])))))]))]))))),(8,(.q 9 (.br [(5,(.q 10 (.br [(11,(.q 12 (.q 13 (.q 14 (.q 15 (.br [(16,(.q 17 .leaf))])))))),(13,(.br [(11,(.q 12 (.q 14 (.q 15 (.br [(16,(.q 17 .leaf))])))))]))]))),(10,(.br [(5,(.br [(11,(.q 12 (.q 13 (.q 14 (.q 15 (.br [(16,(.q 17 .leaf))])))))),(13,(.br [(11,(.q 12 (.q 14 (.q 15 (.br [(16,(.q 17 .leaf))])))))]))])),(13,(.br [(5,(.br [(11,(.q 12 (.q 14 (.q 15 (.br [(16,(.q 17 .leaf))])))))]))]))])),(13,(.br [(5,(.q 10 (.br [(11,(.q 12 (.q 14 (.q 15 (.br [(16,(.q 17 .leaf))])))))]))),(10,(.br [(5,(.br [(11,(.q 12 (.q 14 (.q 15 (.br [(16,(.q 17 .leaf))])))))]))]))]))]))),(13,(.br [(5,(.q 8 (.q 9 (.q 10 (.br [(11,(.q 12 (.q 14 (.q 15 (.br [(16,(.q 17 .leaf))])))))]))))),(8,(.q 9 (.br [(5,(.q 10 (.br [(11,(.q 12 (.q 14 (.q 15 (.br [(16,(.q 17 .leaf))])))))]))),(10,(.br [(5,(.br [(11,(.q 12 (.q 14 (.q 15 (.br [(16,(.q 17 .leaf))])))))]))]))])))]))]))))))))
def E9:Tv:=(.q 0 (.q 1 (.q 2 (.q 3 (.q 4 (.q 6 (.q 7 (.br [(5,(.q 8 (.q 9 (.q 10 (.br [(11,(.q 12 (.q 13 (.q 14 (.q 15 (.br [(16,(.q 17 .leaf))])))))),(13,(.br [(11,(.q 12 (.q 14 (.q 15 (.br [(16,(.q 17 .leaf))])))))]))]))))),(8,(.q 9 (.br [(5,(.q 10 (.br [(11,(.q 12 (.q 13 (.q 14 (.q 15 (.br [(16,(.q 17 .leaf))])))))),(13,(.br [(11,(.q 12 (.q 14 (.q 15 (.br [(16,(.q 17 .leaf))])))))]))]))),(10,(.br [(5,(.br [(11,(.q 12 (.q 13 (.q 14 (.q 15 (.br [(16,(.q 17 .leaf))])))))),(13,(.br [(11,(.q 12 (.q 14 (.q 15 (.br [(16,(.q 17 .leaf))])))))]))])),(13,(.br [(5,(.br [(11,(.q 12 (.q 14 (.q 15 (.br [(16,(.q 17 .leaf))])))))]))]))])),(13,(.br [(5,(.q 10 (.br [(11,(.q 12 (.q 14 (.q 15 (.br [(16,(.q 17 .leaf))])))))]))),(10,(.br [(5,(.br [(11,(.q 12 (.q 14 (.q 15 (.br [(16,(.q 17 .leaf))])))))]))]))]))]))),(13,(.br [(5,(.q 8 (.q 9 (.q 10 (.br [(11,(.q 12 (.q 14 (.q 15 (.br [(16,(.q 17 .leaf))])))))]))))),(8,(.q 9 (.br [(5,(.q 10 (.br [(11,(.q 12 (.q 14 (.q 15 (.br [(16,(.q 17 .leaf))])))))]))),(10,(.br [(5,(.br [(11,(.q 12 (.q 14 (.q 15 (.br [(16,(.q 17 .leaf))])))))]))]))])))]))]))))))))
def E':Tv:=(.q 0 (.q 1 (.q 2 (.q 3 (.q 4 (.q 5 (.q 6 (.q 7 (.q 8 (.q 9 (.br [(10,(.q 11 (.q 12 (.q 13 (.q 14 (.br [(15,(.q 16 .leaf))])))))),(12,(.br [(10,(.q 11 (.q 13 (.q 14 (.br [(15,(.q 16 .leaf))])))))]))])))))))))))
def N0:Tv:=(.q 0 (.q 1 (.q 2 (.br [(3,(.q 4 .leaf))]))))
def N8:Tv:=(.q 0 (.q 1 (.q 2 (.br [(3,(.q 4 .leaf))]))))
def Ec:Tv:=(.q 0 (.q 1 (.q 2 (.q 3 (.q 4 (.br [(5,(.q 6 (.q 7 (.q 8 (.q 9 (.br [(10,(.q 11 .leaf))])))))),(7,(.br [(5,(.q 6 (.q 8 (.q 9 (.br [(10,(.q 11 .leaf))])))))]))]))))))
def Ed:Tv:=(.q 0 (.q 1 (.q 2 (.q 3 (.q 4 (.q 5 (.q 6 (.q 7 (.q 8 (.q 9 (.q 10 (.q 11 (.q 12 (.q 13 (.br [(14,(.q 15 .leaf))])))))))))))))))
def Ee:Tv:=(.q 0 (.q 1 (.q 2 (.q 3 (.q 4 (.q 5 (.q 6 (.q 7 (.q 8 (.q 9 (.q 10 (.q 11 (.q 12 (.q 13 (.br [(14,(.q 15 .leaf))])))))))))))))))
def Ef:Tv:=(.q 0 (.q 1 (.q 2 (.q 3 (.q 4 (.q 6 (.br [(5,(.q 7 (.q 8 (.q 9 (.q 10 (.q 11 (.q 12 (.q 13 (.q 14 (.br [(15,(.q 16 .leaf))])))))))))),(7,(.q 8 (.br [(5,(.q 9 (.q 10 (.q 11 (.q 12 (.q 13 (.q 14 (.br [(15,(.q 16 .leaf))])))))))),(9,(.br [(5,(.q 10 (.q 11 (.q 12 (.q 13 (.q 14 (.br [(15,(.q 16 .leaf))]))))))),(12,(.br [(5,(.q 10 (.q 11 (.q 13 (.q 14 (.br [(15,(.q 16 .leaf))]))))))]))])),(12,(.br [(5,(.q 9 (.q 10 (.q 11 (.q 13 (.q 14 (.br [(15,(.q 16 .leaf))]))))))),(9,(.br [(5,(.q 10 (.q 11 (.q 13 (.q 14 (.br [(15,(.q 16 .leaf))]))))))]))]))]))),(12,(.br [(5,(.q 7 (.q 8 (.q 9 (.q 10 (.q 11 (.q 13 (.q 14 (.br [(15,(.q 16 .leaf))]))))))))),(7,(.q 8 (.br [(5,(.q 9 (.q 10 (.q 11 (.q 13 (.q 14 (.br [(15,(.q 16 .leaf))]))))))),(9,(.br [(5,(.q 10 (.q 11 (.q 13 (.q 14 (.br [(15,(.q 16 .leaf))]))))))]))])))]))])))))))
def Eg:Tv:=(.q 0 (.q 1 (.q 2 (.br [(3,(.q 4 .leaf))]))))
def Eh:Tv:=(.q 0 (.q 1 (.q 2 (.br [(3,(.q 4 .leaf))]))))
def zN:Tv:=(.q 0 (.q 1 (.q 2 (.br [(3,(.q 4 .leaf))]))))
theorem tu {a:Abs.aH}(h:brF a):a.fit=true∧a.size≤1000:=⟨h.ft,by have:=h.s;omega⟩
theorem uX {a:Abs.aH}(h:brF a):a.fit=true∧a.size≤900:=⟨h.ft,by have:=h.s;omega⟩
def Y3:Tbl:=Y2.add 57 (wr bY brF)
attribute [go_sem] Y3
set_option maxHeartbeats 16000000 in
theorem hY3:b9 Tryz.prog GA Y3:=by
 refine RU oH hY2 fun f hbr _=>?_;have zk:fQ.kind=0:=rfl;have zn:fQ.name.l=[]:=rfl;have zw:fQ.words=[]:=rfl;have zs:fQ.subs=[]:=rfl;have hkb:=fU.1 hbr.v;have hk1:=hkb.1;have hk2:=hkb.2.1;clear hkb;by_cases k5:f.kind=5
 ·obtain⟨a,b,hab,s0,s1,ha,hb⟩:=oV hbr ae;have pa:=tu ha;have pb:=tu hb;obtain⟨A,hA⟩:∃A,eC a []=A:=⟨_,rfl⟩;obtain⟨B,hB⟩:∃B,eC b []=B:=⟨_,rfl⟩;have e:bY f=(1,[A,B],fQ,false):=by unfold bY;rw[s0,s1,k5,←hA,←hB];rfl
  rw[e];clear e s0 s1 ha hb;refine rv (N:=131) hm hY2 57000 qWl oH Tryz.func57 rfl ?_
  repeat'(first|apply rx pa|apply rx pb|refine ru (id:=4) hm hY2 57000 qWl E8 ?_|apply au|refine rq ?_|simp only[go_sem,k5,hab,hA,hB,E8,zk,zn,zw,zs,bt,bh,Tryz.f57])
 by_cases k6:f.kind=6
 ·obtain⟨a,b,hab,s0,s1,ha,hb⟩:=oV hbr ae;have pa:=tu ha;have pb:=tu hb;obtain⟨A,hA⟩:∃A,eC a []=A:=⟨_,rfl⟩;obtain⟨B,hB⟩:∃B,eC b []=B:=⟨_,rfl⟩;have e:bY f=(2,[A,B],fQ,false):=by unfold bY;rw[s0,s1,k6,←hA,←hB];rfl
  rw[e];clear e s0 s1 ha hb;refine rv (N:=131) hm hY2 57000 qWl oH Tryz.func57 rfl ?_
  repeat'(first|apply rx pa|apply rx pb|refine ru (id:=6) hm hY2 57000 qWl E9 ?_|apply au|refine rq ?_|simp only[go_sem,k6,hab,hA,hB,E9,zk,zn,zw,zs,bt,bh,Tryz.f57])
 by_cases k7:f.kind=7
 ·obtain⟨a,b,hab,s0,s1,ha,hb⟩:=oV hbr ae;have pa:=uX ha;have pb:=tu hb;obtain⟨A,hA⟩:∃A,nc a=A:=⟨_,rfl⟩;obtain⟨B,hB⟩:∃B,eC b []=B:=⟨_,rfl⟩;have e:bY f=(2,[A,B],fQ,false):=by unfold bY;rw[s0,s1,k7,←hA,←hB];rfl
  rw[e];clear e s0 s1 ha hb;refine rv (N:=131) hm hY2 57000 qWl oH Tryz.func57 rfl ?_
  repeat'(first|apply rx pa|apply rx pb|refine ru (id:=8) hm hY2 57000 qWl E' ?_|apply au|refine rq ?_|simp only[go_sem,k7,hab,hA,hB,E',zk,zn,zw,zs,bt,bh,Tryz.f57])
 by_cases k8:f.kind=8
 ·have eF:Abs.aH.mk 8 f.name f.words f.subs=f:=by rw[←k8];exact bt
  have e:bY f=(3,[],f,false):=by unfold bY;rw[k8];rfl
  rw[e];clear e;refine rv (N:=131) hm hY2 57000 qWl oH Tryz.func57 rfl ?_
  repeat'(first|refine ru (id:=10) hm hY2 57000 qWl N0 ?_|apply au|refine rq ?_|simp only[go_sem,k8,eF,N0,zk,zn,zw,zs,bt,bh,Tryz.f57])
 by_cases k9:f.kind=9
 ·have eF:Abs.aH.mk 9 f.name f.words f.subs=f:=by rw[←k9];exact bt
  have e:bY f=(4,[],f,false):=by unfold bY;rw[k9];rfl
  rw[e];clear e;refine rv (N:=131) hm hY2 57000 qWl oH Tryz.func57 rfl ?_
  repeat'(first|refine ru (id:=12) hm hY2 57000 qWl N8 ?_|apply au|refine rq ?_|simp only[go_sem,k9,eF,N8,zk,zn,zw,zs,bt,bh,Tryz.f57])
 by_cases k4:f.kind=4
 ·obtain⟨g,hg,s0,hbg⟩:=nz hbr (.inl k4);have hgk:=fU.1 hbg.v;have hg1:=hgk.1;have hg2:=hgk.2.1;clear hgk;by_cases j4:g.kind=4
  ·obtain⟨a,ha0,t0,ha⟩:=nz hbg (.inl j4);have pa:=tu ha;obtain⟨A,hA⟩:∃A,eC a []=A:=⟨_,rfl⟩;have e:bY f=(1,[A],fQ,false):=by unfold bY;rw[s0,t0,k4,j4,←hA];rfl
   rw[e];clear e s0 t0 ha;refine rv (N:=131) hm hY2 57000 qWl oH Tryz.func57 rfl ?_
   repeat'(first|apply rx pa|refine ru (id:=17) hm hY2 57000 qWl Ec ?_|apply au|refine rq ?_|simp only[go_sem,k4,j4,hg,ha0,hA,Ec,zk,zn,zw,zs,bt,bh,Tryz.f57])
  by_cases j5:g.kind=5
  ·obtain⟨a,b,hab,t0,t1,ha,hb⟩:=oV hbg ae;have pa:=uX ha;have pb:=uX hb;obtain⟨A,hA⟩:∃A,nc a=A:=⟨_,rfl⟩;obtain⟨B,hB⟩:∃B,nc b=B:=⟨_,rfl⟩;have e:bY f=(2,[A,B],fQ,false):=by unfold bY;rw[s0,t0,t1,k4,j5,←hA,←hB];rfl
   rw[e];clear e s0 t0 t1 ha hb;refine rv (N:=131) hm hY2 57000 qWl oH Tryz.func57 rfl ?_
   repeat'(first|apply rx pa|apply rx pb|refine ru (id:=19) hm hY2 57000 qWl Ed ?_|apply au|refine rq ?_|simp only[go_sem,k4,j5,hg,hab,hA,hB,Ed,zk,zn,zw,zs,bt,bh,Tryz.f57])
  by_cases j6:g.kind=6
  ·obtain⟨a,b,hab,t0,t1,ha,hb⟩:=oV hbg ae;have pa:=uX ha;have pb:=uX hb;obtain⟨A,hA⟩:∃A,nc a=A:=⟨_,rfl⟩;obtain⟨B,hB⟩:∃B,nc b=B:=⟨_,rfl⟩;have e:bY f=(1,[A,B],fQ,false):=by unfold bY;rw[s0,t0,t1,k4,j6,←hA,←hB];rfl
   rw[e];clear e s0 t0 t1 ha hb;refine rv (N:=131) hm hY2 57000 qWl oH Tryz.func57 rfl ?_
   repeat'(first|apply rx pa|apply rx pb|refine ru (id:=21) hm hY2 57000 qWl Ee ?_|apply au|refine rq ?_|simp only[go_sem,k4,j6,hg,hab,hA,hB,Ee,zk,zn,zw,zs,bt,bh,Tryz.f57])
  by_cases j7:g.kind=7
  ·obtain⟨a,b,hab,t0,t1,ha,hb⟩:=oV hbg ae;have pa:=tu ha;have pb:=uX hb;obtain⟨A,hA⟩:∃A,eC a []=A:=⟨_,rfl⟩;obtain⟨B,hB⟩:∃B,nc b=B:=⟨_,rfl⟩;have e:bY f=(1,[A,B],fQ,false):=by unfold bY;rw[s0,t0,t1,k4,j7,←hA,←hB];rfl
   rw[e];clear e s0 t0 t1 ha hb;refine rv (N:=131) hm hY2 57000 qWl oH Tryz.func57 rfl ?_
   repeat'(first|apply rx pa|apply rx pb|refine ru (id:=23) hm hY2 57000 qWl Ef ?_|apply au|refine rq ?_|simp only[go_sem,k4,j7,hg,hab,hA,hB,Ef,zk,zn,zw,zs,bt,bh,Tryz.f57])
  by_cases j8:g.kind=8
  ·have eF:Abs.aH.mk 8 g.name g.words g.subs=g:=by rw[←j8];exact bt
   have e:bY f=(4,[],g,true):=by unfold bY;rw[s0,k4,j8];rfl
   rw[e];clear e s0;refine rv (N:=131) hm hY2 57000 qWl oH Tryz.func57 rfl ?_
   repeat'(first|refine ru (id:=25) hm hY2 57000 qWl Eg ?_|apply au|refine rq ?_|simp only[go_sem,k4,j8,hg,eF,Eg,zk,zn,zw,zs,bt,bh,Tryz.f57])
  by_cases j9:g.kind=9
  ·have eF:Abs.aH.mk 9 g.name g.words g.subs=g:=by rw[←j9];exact bt
   have e:bY f=(3,[],g,true):=by unfold bY;rw[s0,k4,j9];rfl
   rw[e];clear e s0;refine rv (N:=131) hm hY2 57000 qWl oH Tryz.func57 rfl ?_
   repeat'(first|refine ru (id:=27) hm hY2 57000 qWl Eh ?_|apply au|refine rq ?_|simp only[go_sem,k4,j9,hg,eF,Eh,zk,zn,zw,zs,bt,bh,Tryz.f57])
  have e:bY f=(0,[],fQ,false):=by unfold bY;rw[s0,k4];simp only[j4,j5,j6,j7,j8,j9,cd];rfl
  rw[e];clear e s0;refine rv (N:=131) hm hY2 57000 qWl oH Tryz.func57 rfl ?_
  repeat'(first|refine ru (id:=28) hm hY2 57000 qWl zN ?_|apply au|refine rq ?_|simp only[go_sem,k4,hg,j4,j5,j6,j7,j8,j9,zN,zk,zn,zw,zs,bt,bh,Tryz.f57])
 have e:bY f=(0,[],fQ,false):=by unfold bY;simp only[k4,k5,k6,k7,k8,k9,cd]
 rw[e];clear e;refine rv (N:=131) hm hY2 57000 qWl oH Tryz.func57 rfl ?_
 repeat'(first|refine ru (id:=28) hm hY2 57000 qWl zN ?_|apply au|refine rq ?_|simp only[go_sem,k4,k5,k6,k7,k8,k9,zN,zk,zn,zw,zs,bt,bh,Tryz.f57])
theorem Yc {f:Abs.aH}(h:(cst f []).isEmpty=true):eR f=[]:=by
 cases hu:eR f with
 |nil=>rfl
 |cons x l=>have:=(og f x).1 (by rw[hu];simp);rw[cK.1 h]at this;simp at this
def Y4:Tbl:=Y3.add 80 (sp1 eR brF)
attribute [go_sem] Y4
theorem hY4:b9 Tryz.prog GA Y4:=by
 refine iD yj hY3 fun f hp hw=>?_;have hl:=rM hp.ft [];have hs:=hp.s;refine lj (f80 hw ae ae) ?_;rintro d H n ⟨g,hg,rfl,ho⟩;obtain⟨U,hU⟩:∃U,eR f=U:=⟨_,rfl⟩;have hn:(cst f []).isEmpty=true→U=[]:=fun h=>by rw[←hU];exact Yc h
 rw[hU]at ho ⊢;refine⟨.fz (.sl (U.map enc)),H0,n,?_,rfl⟩;have e:H0=hpL []:=rfl;rw[e];refine eX [] [] [((106024,g),U.map enc)] ?_ ?_ ?_ ?_ ?_<;>simp only[go_sem,ho];intro h;rw[hn h];rfl
def Y5:Tbl:=Y4
attribute [go_sem] Y5
theorem hY5:b9 Tryz.prog GA Y5:=hY4
structure Tt (c:List cX)(w0:Str) where
 w:Str
 i:Nat
 j:Nat
 hi:i≤c.length
 hj:j≤c.length
 hr:dp c w=dp c w0
 h1:Kp (∀k (hk:k<c.length),k<i→c[k].fr≠w)
 h2:Kp (∀k (hk:k<c.length),k<j→c[k].fr≠w)
def Y6:Tbl:=Y5.add 103 (sp2 dp fun c _=>wfC c∧c.length≤1000000)
attribute [go_sem] Y6
theorem hY6:b9 Tryz.prog GA Y6:=by
 refine gN FS hY5 fun c w0 hp _ _=>?_;obtain⟨hwf,hcl⟩:=hp;obtain⟨R,hR⟩:∃R,dp c w0=R:=⟨_,rfl⟩;rw[hR];have kw:=Kp.mk hwf;clear hwf;refine rv (N:=25) hm hY5 103000 qWi FS Tryz.func103 rfl ?_
 repeat'(first|apply au|refine rq ?_|simp only[go_sem,Tryz.f103])
 refine cI hm hY5 103000 qWi (ι:=Tt c w0)
  ⟨fun q=>⟨frL [(0,eS c),(1,.fz (.s q.w.l)),(5,eI q.i)],hpL [],0⟩,fun q=>(c.length-q.j)*(c.length+2)+(c.length-q.i)⟩
  ⟨w0,0,0,ae,ae,rfl,⟨fun k hk h=>absurd h ae⟩,⟨fun k hk h=>absurd h ae⟩⟩ ah ?_ ?_
 ·refine bF ?_ ?_ ?_<;>simp only[go_sem]
  all_goals first|rfl|omega
 rintro⟨w,i,j,hi,hj,hr,k1,k2⟩
 try simp only at hi hj hr
 rcases aA i c.length with h6|h6
 ·obtain⟨x,hx⟩:∃x,c[i]=x:=⟨_,rfl⟩;by_cases hm2:x.fr=w
  ·have hml:(x.fr.l=w.l)=True:=aU (by rw[hm2]);have hij:j≤i:=by
    rcases aA i j with h|h
    ·exact absurd (by rw[hx];exact hm2) (k2.out i h6 h)
    ·exact h
   repeat'(first|apply au|refine rq ?_|simp only[go_sem,h6,hx,hml,bh,bn,Tryz.f103])
   refine⟨⟨x.to,0,i+1,ae,ae,?_,⟨fun k hk h=>absurd h ae⟩,⟨fun k hk h=>?_⟩⟩,?_,?_⟩
   ·have:=Yw kw.out h6;rw[hx,hm2]at this;rw[←this,hr]
   ·rw[←hx];exact kw.out.t i k h6 hk ae
   ·simp only;have a1:(c.length-(i+1))+1≤c.length-j:=ae
    have a2:=bW (c.length+2) a1;rw[Nat.succ_mul]at a2;omega
   refine bF ?_ ?_ ?_<;>simp only[go_sem]
   all_goals first|rfl|omega
  ·have hml:(x.fr.l=w.l)=False:=aP fun h=>hm2 (show(⟨x.fr.l⟩:Str)=⟨w.l⟩ by rw[h])
   repeat'(first|apply au|refine rq ?_|simp only[go_sem,h6,hx,hml,bh,bn,Tryz.f103])
   refine⟨⟨w,i+1,j,ae,ae,hr,⟨fun k hk h=>?_⟩,k2⟩,af,?_⟩
   ·rcases aA k i with h7|h7
    ·exact k1.out k hk h7
    ·obtain rfl:k=i:=ae
     rw[hx];exact hm2
   refine bF ?_ ?_ ?_<;>simp only[go_sem]
   all_goals first|rfl|omega
 obtain rfl:i=c.length:=ae
 have hw:dp c w=w:=yP fun l hl=>by obtain⟨k,hk,rfl⟩:=bI hl;exact k1.out k hk hk
 have hwR:w=R:=by rw[←hw,hr,hR]
 subst hwR
 repeat'(first|apply au|refine rq ?_|simp only[go_sem,aC,bn,Tryz.f103])
def Y7:Tbl:=Y6.add 77 (sp1 ii fun l=>(∀f∈l,brF f)∧l.length≤100000)
attribute [go_sem] Y7
set_option maxHeartbeats 4000000 in
theorem hY7:b9 Tryz.prog GA Y7:=by
 refine iD Hg hY6 fun l hp _=>?_;obtain⟨hbr,hsl⟩:=hp;have kb:=Kp.mk hbr;clear hbr;refine rv (N:=40) hm hY6 77000 (lsw [37] []) Hg Tryz.func77 rfl ?_
 repeat'(first|apply au|refine rq ?_|simp only[go_sem,Tryz.f77])
 refine cI hm hY6 77000 (lsw [37] []) (ι:=jL l.length 1 fun _=>True)
  ⟨fun q=>⟨frL [(3,.ow (77037,q.g) 2 ((ii (l.take q.i)).map enc)),(8,eS l),(9,eI l.length),(10,eI q.i)],
   hpL [((77037,q.g),some tok)],q.m⟩,fun q=>l.length-q.i⟩
  ⟨0,0,1,ae,ae,ae,trivial⟩ ah ?_ ?_
 ·refine eX [] [(77037,0)] [] ?_ ?_ ?_ ?_ ?_<;>simp only[go_sem,ii]
  all_goals first|rfl|omega
 rintro⟨i,g,m,hi,hg,hm1,_⟩
 try simp only at hi hg hm1
 rcases aA i l.length with h1|h1
 ·obtain⟨x,hx⟩:∃x,l[i]=x:=⟨_,rfl⟩;have hxb:brF x:=kb.out x qQe;have et:ii (l.take (i+1))=l4 (ii (l.take i)) x:=by rw[aB h1,YD,hx]
  obtain⟨hwf,hcl⟩:=EC (l.take i);rw[aX]at hcl;obtain⟨c,hc⟩:∃c,ii (l.take i)=c:=⟨_,rfl⟩;rw[hc]at et hwf hcl;have hcp:wfC c∧c.length≤1000000:=⟨hwf,ae⟩;by_cases hk:x.kind=3
  ·obtain⟨a,b,hab⟩:∃a b,x.words=[a,b]:=by
    have h2:=(fU.1 hxb.v).2.2.2.1 hk
    match h:x.words,h2 with
    |[a,b],_=>exact⟨a,b,rfl⟩
   have el:l4 c x=if dp c a=dp c b then c else c++[⟨dp c a,dp c b⟩]:=by unfold l4;rw[az (by simp[hk]),hab];rfl
   rw[el]at et;obtain⟨ra,hra⟩:∃r,dp c a=r:=⟨_,rfl⟩;obtain⟨rb,hrb⟩:∃r,dp c b=r:=⟨_,rfl⟩;rw[hra,hrb]at et;clear el hwf hxb;by_cases hab2:ra=rb
   ·rw[aF hab2]at et;have hl:(ra.l=rb.l)=True:=aU (by rw[hab2])
    repeat'(first|apply rx hcp|apply au|refine rq ?_|simp only[go_sem,h1,hx,hc,hk,hab,hra,hrb,hl,bh,bn,bt,Tryz.f77])
    refine⟨⟨i+1,g,m+1,ae,ae,ae,trivial⟩,af,?_⟩;refine bF ?_ ?_ ?_<;>simp only[go_sem,et]
    all_goals first|rfl|omega
   ·rw[az hab2]at et;have hl:(ra.l=rb.l)=False:=aP fun h=>hab2 (show(⟨ra.l⟩:Str)=⟨rb.l⟩ by rw[h])
    repeat'(first|apply rx hcp|apply au|refine rq ?_|simp only[go_sem,h1,hx,hc,hk,hab,hra,hrb,hl,bh,bn,bt,Tryz.f77])
    refine⟨⟨i+1,m+1,m+2,ae,ae,ae,trivial⟩,af,?_⟩;refine bF ?_ ?_ ?_<;>simp only[go_sem,et,aE]
    all_goals first|rfl|omega
  ·have el:l4 c x=c:=by unfold l4;rw[aF hk]
   rw[el]at et
   repeat'(first|apply au|refine rq ?_|simp only[go_sem,h1,hx,hc,hk,bh,bn,bt,Tryz.f77])
   refine⟨⟨i+1,g,m+1,ae,ae,ae,trivial⟩,af,?_⟩;refine bF ?_ ?_ ?_<;>simp only[go_sem,et]
   all_goals first|rfl|omega
 ·obtain rfl:i=l.length:=ae
  repeat'(first|apply au|refine rq ?_|simp only[go_sem,aC,aJ,Tryz.f77])
theorem f105 {c:List cX}{a b:Str}{id:Abs.Id}{H:bR}{n:Nat}{R:D→bR→Nat→Prop}(_hid:id.2<n)(ho:H id=some ⟨[.fz (.sl (c.map enc))],true,false⟩)(hc:wfC c∧c.length≤1000000)
  (hR:∀n',n≤n'→R (.fz (.b (decide (dp c a=dp c b)))) H n'):cS Tryz.prog GA 105 [.fz (.s a.l),.fz (.s b.l),.ptr id 0] H n R:=by
 refine uE FV (fun hfr=>?_) hR;obtain⟨ra,hra⟩:∃r,dp c a=r:=⟨_,rfl⟩;obtain⟨rb,hrb⟩:∃r,dp c b=r:=⟨_,rfl⟩;rw[hra,hrb];obtain⟨Q,hQ⟩:∃Q:D→bR→Nat→Prop,Q=(fun d' H' n'=>d'= .fz (.b (decide (ra=rb)))∧n≤n'∧∀id,id.2<n→H' id=H id):=⟨_,rfl⟩;rw[←hQ];have e:H=hpX [] H:=rfl;rw[e];refine rv (N:=13) hm hY7 105000 qWi FV Tryz.func105 rfl ?_
 repeat'(first|apply rx hc|apply au|refine rq ?_|simp only[go_sem,ho,hra,hrb,bn,hpX,Tryz.f105])
 all_goals
  rw[hQ];refine⟨?_,ae,fun id _=>rfl⟩;by_cases h:ra=rb
  ·simp[h]
  ·have:¬ra.l=rb.l:=fun e=>h (show(⟨ra.l⟩:Str)=⟨rb.l⟩ by rw[e]);simp[h,this]
set_option maxHeartbeats 4000000 in
theorem f104 {c:List cX}{a b:List Str}{id:Abs.Id}{H:bR}{n:Nat}{R:D→bR→Nat→Prop}(hid:id.2<n)(ho:H id=some ⟨[.fz (.sl (c.map enc))],true,false⟩)(hc:wfC c∧c.length≤1000000)(hal:a.length≤1000000)
  (hR:∀n',n≤n'→R (.fz (.b (decide (a.map (dp c)=b.map (dp c))))) H n'):cS Tryz.prog GA 104 [.fz (.sl (a.map enc)),.fz (.sl (b.map enc)),.fn 105 [.ptr id 0]] H n R:=by
 refine uE FU (fun hfr=>?_) hR;obtain⟨Q,hQ⟩:∃Q:D→bR→Nat→Prop,Q=(fun d' H' n'=>d'= .fz (.b (decide (a.map (dp c)=b.map (dp c))))∧n≤n'∧∀id,id.2<n→H' id=H id):=⟨_,rfl⟩;rw[←hQ];have hf:a.map (dp c)≠b.map (dp c)→∀{n'},n≤n'→Q (.fz (.b false)) H n':=fun h n' hn=>by rw[hQ];exact⟨by rw[aW h],hn,fun _ _=>rfl⟩
 have ht:a.map (dp c)=b.map (dp c)→∀{n'},n≤n'→Q (.fz (.b true)) H n':=fun h n' hn=>by rw[hQ];exact⟨by rw[ba h],hn,fun _ _=>rfl⟩
 have kf:=Kp.mk @hf;have kt:=Kp.mk @ht;clear hf ht hQ;have e:H=hpX [] H:=rfl;rw[e];refine rv (N:=32) hm hY7 104000 qWi FU Tryz.func104 rfl ?_;by_cases hl:a.length=b.length;rotate_left
 ·have hl':((a.length:Int)=b.length)=False:=aP ae
  repeat'(first|apply au|refine rq ?_|simp only[go_sem,hl',Tryz.f104])
  all_goals exact kf.out (fun e=>hl (by have:=a8 List.length e;simpa using this)) (aI _)
 have hl':((a.length:Int)=b.length)=True:=aU ae
 repeat'(first|apply au|refine rq ?_|simp only[go_sem,hl',Tryz.f104])
 refine cI hm hY7 104000 qWi (ι:=fW a.length n fun i=>(a.take i).map (dp c)=(b.take i).map (dp c))
  ⟨fun q=>⟨frL [(1,eS b),(2,.fn 105 [.ptr id 0]),(15,eS a),(16,eI a.length),(17,eI q.i)],hpX [] H,q.m⟩,fun q=>a.length-q.i⟩
  ⟨0,n,ae,aI _,rfl⟩ ah ?_ ?_
 ·refine gT ?_ ?_ (fun id2 o2 ho2=>?_) ?_
  ·simp only[go_sem]
  ·simp only[go_sem]
  ·exact ho2
  ·first|omega|(simp only[go_sem];done)|(simp only[go_sem];omega)
 rintro⟨i,m,hi,hm1,hp⟩
 try simp only at hi hm1 hp
 rcases aA i a.length with h1|h1
 ·have h2:i<b.length:=ae
  obtain⟨x,hx⟩:∃x,a[i]=x:=⟨_,rfl⟩;obtain⟨y,hy⟩:∃y,b[i]=y:=⟨_,rfl⟩;by_cases hxy:dp c x=dp c y
  ·have hd:decide (dp c x=dp c y)=true:=ba hxy
   repeat'(first|refine dJ.i (f105 (c:=c) (a:=x) (b:=y) ae ho hc fun n' hn'=>?_)|apply au|refine rq ?_|simp only[go_sem,h1,h2,hx,hy,hd,bh,Tryz.f104])
   all_goals
    refine⟨⟨i+1,n',ae,ae,?_⟩,af,?_⟩
    ·rw[aB h1,aB h2,aE,aE,hp,hx,hy,aM,aM,hxy]
    refine gT ?_ ?_ (fun id2 o2 ho2=>?_) ?_
    ·simp only[go_sem]
    ·simp only[go_sem]
    ·exact ho2
    ·first|omega|(simp only[go_sem];done)|(simp only[go_sem];omega)
  ·have hd:decide (dp c x=dp c y)=false:=aW hxy
   repeat'(first|refine dJ.i (f105 (c:=c) (a:=x) (b:=y) ae ho hc fun n' hn'=>?_)|apply au|refine rq ?_|simp only[go_sem,h1,h2,hx,hy,hd,bh,Tryz.f104])
   all_goals
    refine kf.out (fun e=>hxy ?_) ae;have:=a8 (fun l=>l[i]?) e;simp only[bp,ay h1,ay h2,hx,hy,bL,aL]at this;exact this
 ·obtain rfl:i=a.length:=ae
  have h1':¬a.length<a.length:=ae
  repeat'(first|apply au|refine rq ?_|simp only[go_sem,aC,h1',Tryz.f104])
  all_goals
   refine kt.out ?_ ae;rw[aJ,hl,aJ]at hp;exact hp
def Y8:Tbl:=Y7.add 79 (sp3 iF fun c f _=>(wfC c∧c.length≤1000000)∧f.fit=true)
attribute [go_sem] Y8
theorem hY8:b9 Tryz.prog GA Y8:=by
 refine oT ww hY7 fun c f g hp _ _ _=>?_;obtain⟨hcw,hff⟩:=hp;have hfw:f.words.length≤1000000:=by have:=(aH.fit_eq hff).1;omega
 clear hff;by_cases k1:f.kind=2;rotate_left
 ·have e:iF c f g=false:=by unfold iF;simp[k1]
  rw[e];refine rv (N:=28) hm hY7 79000 qWi ww Tryz.func79 rfl ?_
  repeat'(first|apply au|refine rq ?_|simp only[go_sem,k1,bn,bt,Tryz.f79])
 by_cases k2:g.kind=2;rotate_left
 ·have e:iF c f g=false:=by unfold iF;simp[k2]
  rw[e];refine rv (N:=28) hm hY7 79000 qWi ww Tryz.func79 rfl ?_
  repeat'(first|apply au|refine rq ?_|simp only[go_sem,k1,k2,bn,bt,Tryz.f79])
 by_cases k3:f.name=g.name;rotate_left
 ·have e:iF c f g=false:=by unfold iF;simp[k3]
  have k3':(f.name.l=g.name.l)=False:=aP fun h=>k3 (show(⟨f.name.l⟩:Str)=⟨g.name.l⟩ by rw[h]);rw[e];refine rv (N:=28) hm hY7 79000 qWi ww Tryz.func79 rfl ?_
  repeat'(first|apply au|refine rq ?_|simp only[go_sem,k1,k2,k3',bn,bt,Tryz.f79])
 have k3':(f.name.l=g.name.l)=True:=aU (by rw[k3]);have e:iF c f g=decide (f.words.map (dp c)=g.words.map (dp c)):=by unfold iF;simp[k1,k2,k3]
 rw[e];obtain⟨b,hb⟩:∃b,decide (f.words.map (dp c)=g.words.map (dp c))=b:=⟨_,rfl⟩;rw[hb];refine rv (N:=28) hm hY7 79000 qWi ww Tryz.func79 rfl ?_
 repeat'(first|refine dJ.i (f104 (c:=c) (a:=f.words) (b:=g.words) af aj hcw hfw fun n' hn'=>?_)|apply au|refine rq ?_|simp only[go_sem,k1,k2,k3',hb,bn,bt,Tryz.f79])
def Nq (c:List cX)(f:Abs.aH):Prop:=(wfC c∧c.length≤1000000)∧brF f
def Y9:Tbl:=Y8.add 78 (sp2 jP Nq)
attribute [go_sem] Y9
theorem hY9:b9 Tryz.prog GA Y9:=by
 refine gN wv hY8 fun c f hp _ _=>?_;obtain⟨hcw,hbr⟩:=hp;by_cases k1:f.kind=4;rotate_left
 ·have e:jP c f=false:=by unfold jP;simp[k1]
  rw[e];refine rv (N:=36) hm hY8 78000 qWi wv Tryz.func78 rfl ?_
  repeat'(first|apply au|refine rq ?_|simp only[go_sem,k1,bn,bt,Tryz.f78])
 obtain⟨g,hg,s0,hbg⟩:=nz hbr (.inl k1);by_cases k2:g.kind=1
 ·have e:jP c f=true:=by unfold jP;rw[s0];simp[k1,k2]
  rw[e];refine rv (N:=36) hm hY8 78000 qWi wv Tryz.func78 rfl ?_
  repeat'(first|apply au|refine rq ?_|simp only[go_sem,k1,hg,k2,bn,bt,Tryz.f78])
 by_cases k3:g.kind=3;rotate_left
 ·have e:jP c f=false:=by unfold jP;rw[s0];simp[k1,k2,k3]
  rw[e];refine rv (N:=36) hm hY8 78000 qWi wv Tryz.func78 rfl ?_
  repeat'(first|apply au|refine rq ?_|simp only[go_sem,k1,hg,k2,k3,bn,bt,Tryz.f78])
 obtain⟨a,b,hab⟩:∃a b,g.words=[a,b]:=by
  have h2:=(fU.1 hbg.v).2.2.2.1 k3
  match h:g.words,h2 with
  |[a,b],_=>exact⟨a,b,rfl⟩
 have e:jP c f=decide (dp c a=dp c b):=by unfold jP;rw[s0,hab];simp[k1,k3]
 rw[e];obtain⟨ra,hra⟩:∃r,dp c a=r:=⟨_,rfl⟩;obtain⟨rb,hrb⟩:∃r,dp c b=r:=⟨_,rfl⟩;rw[hra,hrb];refine rv (N:=36) hm hY8 78000 qWi wv Tryz.func78 rfl ?_;by_cases hr:ra=rb
 ·have hl:(ra.l=rb.l)=True:=aU (by rw[hr]);rw[ba hr]
  repeat'(first|apply rx hcw|apply au|refine rq ?_|simp only[go_sem,k1,hg,k3,hab,hra,hrb,hl,bn,bt,Tryz.f78])
 ·have hl:(ra.l=rb.l)=False:=aP fun h=>hr (show(⟨ra.l⟩:Str)=⟨rb.l⟩ by rw[h]);rw[aW hr]
  repeat'(first|apply rx hcw|apply au|refine rq ?_|simp only[go_sem,k1,hg,k3,hab,hra,hrb,hl,bn,bt,Tryz.f78])
mutual
theorem YH:∀(p:Prf) (n:Int),q8 p n≤2000→n+p.size=q8 p n
 | .mk k f o nm s,n,h=>by rw[q8]at h ⊢;have:=Jh s (n+1) h;rw[Prf.size];omega
theorem Jh:∀(s:List Prf) (n:Int),qP s n≤2000→n+Prf.sizes s=qP s n
 |[],n,h=>by rw[qP,Prf.sizes];simp
 |x::xs,n,h=>by
  rw[qP]at h ⊢;by_cases h1:2000<n
  ·rw[aF h1]at h;omega
  ·rw[az h1]at h ⊢;have i2:=Jh xs (q8 x n) h;have i1:=YH x n ae;rw[Prf.sizes];omega
end
def jz (ax:List Abs.aH)(g:Abs.aH):List Abs.aH:=jO ax++[nc g]
theorem CB {f:Abs.aH}(h:(dB false f).code=0):brF f:=⟨wM h,rB h,by have:=nq h;omega⟩
theorem CQ {ax:List Abs.aH}{g:Abs.aH}(h:(iC ax g).2.code=0):iC ax g=(jz ax g,⟨0,0⟩)∧ax.length≤40∧(∀f∈ax,(dB false f).code=0)∧(dB false g).code=0:=by
 unfold iC at h ⊢;split at h
 ·exact absurd h ai
 rename_i h1;split at h
 ·rename_i h2;exact absurd h h2
 rename_i h2;split at h
 ·rename_i h3;exact absurd h h3
 rename_i h3;rw[az h1,az h2,az h3];refine⟨rfl,ae,fun f hf=>?_,bT.1 h3⟩;have h4:=bT.1 h2;clear h h2 h3 h1;by_cases hc:(dB false f).code=0
 ·exact hc
 ·exfalso;have:∀(l:List Abs.aH) (k:Nat),f∈l→(nZ l k).code≠0:=by
   intro l;induction l with
   |nil=>intro k h;simp at h
   |cons x l ih=>
    intro k hm;rw[nZ];by_cases hx:(dB false x).code=0
    ·rw[az (by simp[hx])];rcases aV.1 hm with rfl|hm
     ·exact absurd hx hc
     ·exact ih _ hm
    ·rw[aF hx];exact hx
  exact this ax 0 hf h4
theorem XX {ax:List Abs.aH}{g:Abs.aH}(h1:∀f∈ax,(dB false f).code=0)(h2:(dB false g).code=0):∀f∈jz ax g,brF f:=fun f hf=>by
 unfold jz jO at hf;rcases aO.1 hf with hf|hf
 ·obtain⟨a,ha,rfl⟩:=be.1 hf;exact(CB (h1 a ha)).cn
 ·rw[a7.1 hf];exact(CB h2).ng (by have:=nq h2;omega)
section
variable {P:Program} {G:Nat→List FD} {T:Tbl}
theorem Ql {α β ρ:Type}[Enc α][Enc β][Enc ρ]{f:FuncId}{g:α→β→ρ}{pre:α→β→Prop}(m:β→Nat)(hc:cW P f)(hT:b9 P G T)
  (h:∀n,b9 P G (T.add f (sp2 g fun a b=>m b<n∧pre a b))→∀a b,m b=n→pre a b→(enc a).Wf→(enc b).Wf→cS P G f [.fz (enc a),.fz (enc b)] (hpL []) 0 (fun d _ _=>D.val d=some (.fz (enc (g a b))))):b9 P G (T.add f (sp2 g pre)):=by
 have key:∀n,b9 P G (T.add f (sp2 g fun a b=>m b<n∧pre a b)):=by
  intro n;induction n with
  |zero=>exact gN hc hT fun a b ha=>ae
  |succ n ih=>
   refine gN hc hT fun a b ha hw hw2=>?_;rcases aA (m b) n with h1|h1
   ·have h2:=ih f (sp2 g fun a b=>m b<n∧pre a b) [enc a,enc b] _ _ (by simp[Tbl.add]) (Fz) ⟨qQ5,qQ5,by rw[dec_enc,dec_enc];exact⟨h1,ha.2⟩⟩;rw[dec_enc,dec_enc,ky]at h2;exact h2
   ·exact h n ih a b ae ha.2 hw hw2
 exact gN hc hT fun a b ha hw hw2=>h (m b) (key _) a b rfl ha hw hw2
end
def Y10:Tbl:=Y9
attribute [go_sem] Y10
theorem C8 {l:List Abs.aH}{i:Int}(h:inL l i=false):¬(0≤i∧i<l.length):=by unfold inL at h;intro⟨h1,h2⟩;rw[ba h1,ba h2]at h;cases h
theorem rL {l:List Abs.aH}{i:Int}(h:inL l i=true):0≤i∧i<l.length:=by unfold inL at h;simp only[aS,bi]at h;exact h
def Y11:Tbl:=Y10
attribute [go_sem] Y11
def ep:Tv:=(.q 0 (.q 1 (.q 2 (.q 3 (.q 4 (.q 5 (.q 6 (.q 7 (.q 8 .leaf)))))))))
def py:Tv:=(.q 0 (.q 1 (.q 2 (.q 3 .leaf))))
def NT:Tv:=(.q 0 (.q 1 (.q 2 (.q 3 (.q 4 (.q 5 (.q 6 (.q 7 (.q 8 (.q 9 (.q 10 (.q 11 (.q 12 (.q 13 .leaf))))))))))))))
def vr:Tv:=(.q 0 (.q 1 (.q 2 (.q 3 (.q 4 (.q 5 (.q 6 (.q 7 (.q 8 (.q 9 (.q 10 (.q 11 (.q 12 (.q 13 (.q 14 (.q 15 (.q 16 (.q 17 (.q 18 (.q 19 (.q 20 (.q 21 .leaf))))))))))))))))))))))
def NU:Tv:=(.q 0 (.q 1 (.q 2 (.q 3 (.q 4 (.q 5 (.q 10 (.r 7 (.r 11 (.q 12 (.r 13 (.br [(6,(.q 8 (.br [(9,(.q 14 (.q 15 (.q 16 .leaf))))])))]))))))))))))
def sF:Tv:=(.q 0 (.q 1 (.q 6 (.q 8 (.r 3 (.q 4 (.r 7 (.q 9 (.r 10 (.br [(2,(.br [(5,(.q 11 (.q 12 .leaf)))]))]))))))))))
def ou:Tv:=(.q 0 (.q 1 (.q 2 (.q 3 (.q 4 (.q 5 (.q 6 (.q 7 (.q 8 (.q 9 (.q 10 (.q 11 (.q 12 (.q 13 (.q 14 (.q 15 (.q 16 (.q 17 (.q 18 (.q 19 (.q 20 (.q 21 (.q 22 (.q 23 .leaf))))))))))))))))))))))))
def zK:Tv:=(.q 0 (.q 1 (.q 4 (.q 9 (.r 3 (.r 5 (.r 10 (.q 11 (.r 12 (.br [(2,(.q 6 (.q 7 (.br [(8,(.q 13 (.q 14 .leaf)))]))))]))))))))))
def qD:Tv:=(.q 0 (.q 1 (.q 2 (.q 3 (.q 4 (.q 5 (.q 6 (.q 7 (.q 8 (.q 9 (.q 10 (.q 11 (.q 12 (.q 13 (.q 14 (.q 15 (.q 16 (.q 17 (.q 18 (.q 19 (.q 20 .leaf)))))))))))))))))))))
def vu:Tv:=(.q 0 (.q 1 (.q 3 (.q 4 (.q 8 (.q 11 (.q 12 (.q 16 (.r 5 (.q 6 (.r 7 (.r 9 (.q 10 (.r 17 (.q 18 (.r 19 (.br [(2,(.q 13 (.q 14 (.br [(15,(.q 20 (.q 21 .leaf)))]))))])))))))))))))))))
def MN:Tv:=(.q 0 (.q 1 (.q 2 (.q 3 (.q 4 (.q 5 (.q 10 (.r 7 (.br [(6,(.q 8 (.br [(9,(.q 11 (.q 12 (.q 13 (.q 14 (.q 15 (.q 16 .leaf))))))),(11,(.q 12 (.br [(9,(.q 13 (.q 14 (.q 15 (.q 16 .leaf))))),(13,(.br [(9,(.q 14 (.q 15 (.q 16 .leaf))))]))])))]))),(11,(.q 12 (.br [(6,(.q 8 (.br [(9,(.q 13 (.q 14 (.q 15 (.q 16 .leaf))))),(13,(.br [(9,(.q 14 (.q 15 (.q 16 .leaf))))]))]))),(13,(.br [(6,(.q 8 (.br [(9,(.q 14 (.q 15 (.q 16 .leaf))))])))]))])))])))))))))
def clP (l:List Abs.aH)(p:Prf):Prop:=(∀f∈l,BF f)∧l.length+2*p.size≤100000
def eP (n:Nat):Tbl:=O13.add 10 (sp2 (fun l p=>dC p l) fun l p=>p.size<n∧clP l p)
theorem qN {f:Abs.aH}(h:BF f):clB f:=⟨h.o.b,h.o.clean⟩
theorem vG {f a:Abs.aH}(h:BF f)(ha:a∈f.subs):BF0 a∧a.size+1≤800:=⟨h.o.sub ha,by have:=aH.size_sub ha;have:=h.o.b.s;omega⟩
theorem tF {f g a:Abs.aH}(h:BF f)(hg:g∈f.subs)(ha:a∈g.subs):BF0 a∧a.size+1≤800:=⟨(h.o.sub hg).sub ha,by have:=aH.size_sub hg;have:=aH.size_sub ha;have:=h.o.b.s;omega⟩
theorem uU {f:Abs.aH}{i:Nat}(h:i<f.subs.length):f.subs.getD i fQ∈f.subs:=by rw[av,ay h];exact aT h
theorem Df {f:Abs.aH}(h:BF f):∀g∈(bY f).2.1,BF g:=by
 have hv:=fU.1 h.o.b.v;have one:∀{x:Abs.aH},vok x→(x.kind=4∨x.kind=8∨x.kind=9)→dv x∈x.subs:=fun{x} hx hk=>uU (f:=x) (i:=0) (by rw[(fU.1 hx).2.2.2.2.1 hk];omega);have two0:∀{x:Abs.aH},vok x→(x.kind=5∨x.kind=6∨x.kind=7)→dv x∈x.subs:=fun{x} hx hk=>uU (f:=x) (i:=0) qQx;have two1:∀{x:Abs.aH},vok x→(x.kind=5∨x.kind=6∨x.kind=7)→qc x∈x.subs:=fun{x} hx hk=>uU (f:=x) (i:=1) qQx;have C:∀{a:Abs.aH},BF0 a∧a.size+1≤800→BF (cnn a):=fun h=>h.1.cn;have N:∀{a:Abs.aH},BF0 a∧a.size+1≤800→BF (ngg a):=fun h=>h.1.ng h.2;have fv:=h.o.b.v;intro g hg;unfold bY at hg;by_cases k5:f.kind=5
 ·rw[aF k5]at hg;simp only[aV,aZ,ct]at hg;rcases hg with rfl|rfl
  ·exact C (vG h (two0 fv ae))
  ·exact C (vG h (two1 fv ae))
 rw[az k5]at hg;by_cases k6:f.kind=6
 ·rw[aF k6]at hg;simp only[aV,aZ,ct]at hg;rcases hg with rfl|rfl
  ·exact C (vG h (two0 fv ae))
  ·exact C (vG h (two1 fv ae))
 rw[az k6]at hg;by_cases k7:f.kind=7
 ·rw[aF k7]at hg;simp only[aV,aZ,ct]at hg;rcases hg with rfl|rfl
  ·exact N (vG h (two0 fv ae))
  ·exact C (vG h (two1 fv ae))
 rw[az k7]at hg;by_cases k8:f.kind=8
 ·rw[aF k8]at hg;exact absurd hg aZ
 rw[az k8]at hg;by_cases k9:f.kind=9
 ·rw[aF k9]at hg;exact absurd hg aZ
 rw[az k9]at hg;by_cases k4:f.kind=4;rotate_left
 ·rw[az k4]at hg;exact absurd hg aZ
 rw[aF k4]at hg;have hs:=one fv (.inl k4);have gv:vok (dv f):=(h.o.sub hs).b.v;by_cases j4:(dv f).kind=4
 ·rw[aF j4]at hg;simp only[aV,aZ,ct]at hg;rw[hg];exact C (tF h hs (one gv (.inl j4)))
 rw[az j4]at hg;by_cases j5:(dv f).kind=5
 ·rw[aF j5]at hg;simp only[aV,aZ,ct]at hg;rcases hg with rfl|rfl
  ·exact N (tF h hs (two0 gv ae))
  ·exact N (tF h hs (two1 gv ae))
 rw[az j5]at hg;by_cases j6:(dv f).kind=6
 ·rw[aF j6]at hg;simp only[aV,aZ,ct]at hg;rcases hg with rfl|rfl
  ·exact N (tF h hs (two0 gv ae))
  ·exact N (tF h hs (two1 gv ae))
 rw[az j6]at hg;by_cases j7:(dv f).kind=7
 ·rw[aF j7]at hg;simp only[aV,aZ,ct]at hg;rcases hg with rfl|rfl
  ·exact C (tF h hs (two0 gv ae))
  ·exact N (tF h hs (two1 gv ae))
 rw[az j7]at hg;by_cases j8:(dv f).kind=8
 ·rw[aF j8]at hg;exact absurd hg aZ
 rw[az j8]at hg;by_cases j9:(dv f).kind=9
 ·rw[aF j9]at hg;exact absurd hg aZ
 rw[az j9]at hg;exact absurd hg aZ
theorem NQ {f:Abs.aH}{nm:Str}(h:BF f)(hs:eT f=3∨eT f=4)(hn:dI nm=true):BF (lZ f nm):=by
 have hq:=N9 h.o.b hs;have key:∀{q:Abs.aH},BF0 q→(q.kind=8∨q.kind=9)→BF (lx q nm):=fun{q} hq0 hk=>by have hl:=(fU.1 hq0.b.v).2.2.2.2.1 (.inr hk);have hm:dv q∈q.subs:=uU (f:=q) (i:=0) ae;exact(hq0.sub hm).can ak fun b hb=>by rw[a7.1 hb];exact hn
 by_cases k4:f.kind=4
 ·have hl:=(fU.1 h.o.b.v).2.2.2.2.1 (.inl k4);have hm:dv f∈f.subs:=uU (f:=f) (i:=0) ae;have hqk:(dv f).kind=8∨(dv f).kind=9:=ae
  have e:lZ f nm=ngg (lx (dv f) nm):=by unfold lZ bY;rcases hqk with j|j<;>(rw[k4,j];rfl)
  have hb:=key (h.o.sub hm) hqk;rw[e];refine hb.o.ng ?_;have h2:=(fU.1 (h.o.sub hm).b.v).2.2.2.2.1 (.inr hqk);have hm2:dv (dv f)∈(dv f).subs:=uU (f:=dv f) (i:=0) ae;have:=aH.size_sub hm;have:=aH.size_sub hm2;have:=h.o.b.s;unfold lx;rw[uw];omega
 ·have hqk:f.kind=8∨f.kind=9:=ae
  have e:lZ f nm=lx f nm:=by unfold lZ bY;rcases hqk with j|j<;>(rw[j];rfl)
  rw[e];exact key h.o hqk
section
variable {P:Program} {G:Nat→List FD}
theorem su {f:FuncId}{args:List D}{xs ys:List FD}{H:bR}{n t es:Nat}{R:D→bR→Nat→Prop}(ha:D.toFDs args=some xs)
  (h:cS P G f (xs.map .fz) H0 0 (fun d H1 n1=>∃g,g<n1∧d= .ow (t,g) es ys∧H1 (t,g)=some tok))(hR:∀g n',n≤g→g<n'→R (.ow (t,g) es ys) (hpX [((t,g),some tok)] H) n'):cS P G f args H n R:=by
 refine uy h.1 fun hfr=>lj (wX ha h) ?_;rintro d H' n' ⟨d1,H1,n1,⟨g,hg,rfl,ho⟩,rfl,rfl,rfl⟩;have hsh:shH n H H1 (t,g+n)=some tok:=by unfold shH;rw[aF ak,show(t,g+n-n)=(t,g) by rw[dl],ho];rfl
 refine⟨.ow (t,g+n) es ys,hpX [((t,g+n),some tok)] H,n+n1,oo ?_ (fun id o hid=>?_) (aI _),hR (g+n) (n+n1) ae ae⟩
 ·exact⟨rfl,trivial⟩
 ·simp only[hpX]at hid;split at hid
  ·rename_i e;subst e;rw[←hid];exact hsh
  ·have hlt:id.2<n:=by
    rcases aA id.2 n with h3|h3
    ·exact h3
    ·rw[hfr id h3]at hid;cases hid
   show shH n H H1 id=some o;unfold shH;rw[az ae];exact hid
theorem wL {f:FuncId}{args:List D}{xs cs:List FD}{H:bR}{n t es len:Nat}{v:Bool}{R:D→bR→Nat→Prop}(ha:D.toFDs args=some xs)
  (h:cS P G f (xs.map .fz) H0 0 (fun d H1 n1=>∃g,g<n1∧d= .arr (t,g) es 0 len∧H1 (t,g)=some ⟨cs.map .fz,false,v⟩))(hR:∀g n',n≤g→g<n'→R (.arr (t,g) es 0 len) (hpX [((t,g),some ⟨cs.map .fz,false,v⟩)] H) n'):cS P G f args H n R:=by
 refine uy h.1 fun hfr=>lj (wX ha h) ?_;rintro d H' n' ⟨d1,H1,n1,⟨g,hg,rfl,ho⟩,rfl,rfl,rfl⟩;have hm:∀l:List FD,oJ n (l.map .fz)=l.map .fz:=fun l=>by rw[tz,bX];exact bB fun x _=>rfl
 have hsh:shH n H H1 (t,g+n)=some ⟨cs.map .fz,false,v⟩:=by unfold shH;rw[aF ak,show(t,g+n-n)=(t,g) by rw[dl],ho];simp only[bL,shO,hm]
 refine⟨.arr (t,g+n) es 0 len,hpX [((t,g+n),some ⟨cs.map .fz,false,v⟩)] H,n+n1,oo ?_ (fun id o hid=>?_) (aI _),hR (g+n) (n+n1) ae ae⟩
 ·exact⟨rfl,trivial⟩
 ·simp only[hpX]at hid;split at hid
  ·rename_i e;subst e;rw[←hid];exact hsh
  ·have hlt:id.2<n:=by
    rcases aA id.2 n with h3|h3
    ·exact h3
    ·rw[hfr id h3]at hid;cases hid
   show shH n H H1 id=some o;unfold shH;rw[az ae];exact hid
end
theorem xm {l:List Abs.aH}(hl:l.length≤1000000):cS Tryz.prog GA 13 [.fz (.sl (l.map enc))] H0 0 (fun d H n=>∃g,g<n∧d= .ow (13007,g) 4 (l.map enc)∧H (13007,g)=some tok):=by
 rw[ky];obtain⟨Q,hQ⟩:∃Q:D→bR→Nat→Prop,Q=(fun d H n=>(d= .full []∧l=[]∧n=0∧H=hpL [])∨∃g,g<n∧d= .ow (13007,g) 4 (l.map enc)∧H (13007,g)=some tok):=⟨_,rfl⟩;have key:cS Tryz.prog GA 13 [.fz (.sl (l.map enc))] (hpL []) 0 Q:=by
  refine rv (N:=8) hm hY9 13000 (lsw [7] []) UK Tryz.func13 rfl ?_;simp only[go_sem];refine qV.i fun b hb=>?_;cases b
  ·repeat'(first|apply au|refine rq ?_|simp only[go_sem,Tryz.f13])
   rw[hQ];exact .inr ⟨0,ae,aj,aj⟩
  ·have:l=[]:=bG (hb rfl);subst this
   repeat'(first|apply au|refine rq ?_|simp only[go_sem,Tryz.f13])
   rw[hQ];exact .inl ⟨rfl,rfl,rfl,rfl⟩
 refine lj key ?_;rw[hQ];rintro d H n (⟨rfl,rfl,rfl,rfl⟩|⟨g,hg,rfl,ho⟩)
 ·refine⟨.ow (13007,0) 4 [],hpL [((13007,0),some tok)],1,?_,0,ae,rfl,aj⟩;refine eX [] [(13007,0)] [] ?_ ?_ ?_ ?_ ?_<;>simp only[go_sem]
  all_goals first|rfl
 ·exact⟨_,H,n,oo ⟨rfl,trivial⟩ (fun _ _ h=>h) (aI _),g,hg,rfl,ho⟩
theorem QX {l:List Bool}(hl:l.length≤1000000):cS Tryz.prog GA 58 [.fz (.sl (l.map enc))] H0 0 (fun d H n=>∃g,g<n∧d= .ow (58007,g) 1 (l.map enc)∧H (58007,g)=some tok):=by
 rw[ky];obtain⟨Q,hQ⟩:∃Q:D→bR→Nat→Prop,Q=(fun d H n=>(d= .full []∧l=[]∧n=0∧H=hpL [])∨∃g,g<n∧d= .ow (58007,g) 1 (l.map enc)∧H (58007,g)=some tok):=⟨_,rfl⟩;have key:cS Tryz.prog GA 58 [.fz (.sl (l.map enc))] (hpL []) 0 Q:=by
  refine rv (N:=8) hm hY9 58000 (lsw [7] []) GC Tryz.func58 rfl ?_;simp only[go_sem];refine qV.i fun b hb=>?_;cases b
  ·repeat'(first|apply au|refine rq ?_|simp only[go_sem,Tryz.f58])
   rw[hQ];exact .inr ⟨0,ae,aj,aj⟩
  ·have:l=[]:=bG (hb rfl);subst this
   repeat'(first|apply au|refine rq ?_|simp only[go_sem,Tryz.f58])
   rw[hQ];exact .inl ⟨rfl,rfl,rfl,rfl⟩
 refine lj key ?_;rw[hQ];rintro d H n (⟨rfl,rfl,rfl,rfl⟩|⟨g,hg,rfl,ho⟩)
 ·refine⟨.ow (58007,0) 1 [],hpL [((58007,0),some tok)],1,?_,0,ae,rfl,aj⟩;refine eX [] [(58007,0)] [] ?_ ?_ ?_ ?_ ?_<;>simp only[go_sem]
  all_goals first|rfl
 ·exact⟨_,H,n,oo ⟨rfl,trivial⟩ (fun _ _ h=>h) (aI _),g,hg,rfl,ho⟩
theorem Np {l:List Str}(hl:l.length≤1000000):cS Tryz.prog GA 64 [.fz (.sl (l.map enc))] H0 0 (fun d H n=>∃g,g<n∧d= .ow (64007,g) 1 (l.map enc)∧H (64007,g)=some tok):=by
 rw[ky];obtain⟨Q,hQ⟩:∃Q:D→bR→Nat→Prop,Q=(fun d H n=>(d= .full []∧l=[]∧n=0∧H=hpL [])∨∃g,g<n∧d= .ow (64007,g) 1 (l.map enc)∧H (64007,g)=some tok):=⟨_,rfl⟩;have key:cS Tryz.prog GA 64 [.fz (.sl (l.map enc))] (hpL []) 0 Q:=by
  refine rv (N:=8) hm hY9 64000 (lsw [7] []) Bp Tryz.func64 rfl ?_;simp only[go_sem];refine qV.i fun b hb=>?_;cases b
  ·repeat'(first|apply au|refine rq ?_|simp only[go_sem,Tryz.f64])
   rw[hQ];exact .inr ⟨0,ae,aj,aj⟩
  ·have:l=[]:=bG (hb rfl);subst this
   repeat'(first|apply au|refine rq ?_|simp only[go_sem,Tryz.f64])
   rw[hQ];exact .inl ⟨rfl,rfl,rfl,rfl⟩
 refine lj key ?_;rw[hQ];rintro d H n (⟨rfl,rfl,rfl,rfl⟩|⟨g,hg,rfl,ho⟩)
 ·refine⟨.ow (64007,0) 1 [],hpL [((64007,0),some tok)],1,?_,0,ae,rfl,aj⟩;refine eX [] [(64007,0)] [] ?_ ?_ ?_ ?_ ?_<;>simp only[go_sem]
  all_goals first|rfl
 ·exact⟨_,H,n,oo ⟨rfl,trivial⟩ (fun _ _ h=>h) (aI _),g,hg,rfl,ho⟩
theorem xl {l:List Bool}(hl:l.length≤1000000):cS Tryz.prog GA 58 [.fz (.sl (l.map enc))] H0 0 (fun d H n=>∃g,g<n∧d= .arr (58007,g) 1 0 l.length∧H (58007,g)=some ⟨(l.map enc).map .fz,false,l.isEmpty⟩):=by
 rw[ky];have hfl:bA (l.map enc)=(l.map enc).map .fz:=by
  unfold bA;rw[bX,List.flatMap_map];induction l with
  |nil=>rfl
  |cons x l ih=>rw[cU,aM,ih (by simp at hl;omega)];rfl
 obtain⟨Q,hQ⟩:∃Q:D→bR→Nat→Prop,Q=(fun d H n=>(d= .full []∧l=[]∧n=0∧H=hpL [])∨∃g,g<n∧d= .arr (58007,g) 1 0 l.length∧H (58007,g)=some ⟨(l.map enc).map .fz,false,l.isEmpty⟩):=⟨_,rfl⟩;have key:cS Tryz.prog GA 58 [.fz (.sl (l.map enc))] (hpL []) 0 Q:=by
  refine rv (N:=8) hm hY9 58000 (lst [7]) GC Tryz.func58 rfl ?_;simp only[go_sem];refine qV.i fun b hb=>?_;cases b
  ·repeat'(first|apply au|refine rq ?_|simp only[go_sem,Tryz.f58])
   rw[hQ];refine .inr ⟨0,ae,aj,?_⟩;simp only[go_sem,←hfl]
   all_goals trace_state
  ·have:l=[]:=bG (hb rfl);subst this
   repeat'(first|apply au|refine rq ?_|simp only[go_sem,Tryz.f58])
   rw[hQ];exact .inl ⟨rfl,rfl,rfl,rfl⟩
 refine lj key ?_;rw[hQ];rintro d H n (⟨rfl,rfl,rfl,rfl⟩|⟨g,hg,rfl,ho⟩)
 ·refine⟨.arr (58007,0) 1 0 0,hpL [((58007,0),some ⟨[],false,true⟩)],1,?_,0,ae,rfl,aj⟩;refine eX [] [(58007,0)] [] ?_ ?_ ?_ ?_ ?_<;>simp only[go_sem]
  all_goals first|rfl
 ·exact⟨_,H,n,oo ⟨rfl,trivial⟩ (fun _ _ h=>h) (aI _),g,hg,rfl,ho⟩
theorem vV:b9 Tryz.prog GA iW:=fun f t xs r c h _ _=>by cases h
def fT (k g:Nat)(S:List (List Str)):List D:=S.mapIdx fun j x=>if j=k then .ow (64007,g) 1 (x.map enc)else .fz (.sl (x.map enc))
theorem mq {k g:Nat}{S:List (List Str)}:(fT k g S).length=S.length:=by simp[fT]
theorem Ja {k g:Nat}{S:List (List Str)}{x:List Str}:fT k g (S++[x])=fT k g S++[if S.length=k then .ow (64007,g) 1 (x.map enc)else .fz (.sl (x.map enc))]:=by unfold fT;rw[List.mapIdx_concat]
theorem Qh {k g g2:Nat}{S:List (List Str)}(h:S.length≤k):fT k g S=fT k g2 S:=by
 unfold fT;apply cC ak;intro j h1 h2;have hj:j<S.length:=by simpa using h1
 simp only[gY];rw[az ae,az ae]
theorem uO {k g j:Nat}{S:List (List Str)}(h:j<S.length):(fT k g S).getD j .junk=if j=k then .ow (64007,g) 1 (S[j].map enc)else .fz (.sl (S[j].map enc)):=by unfold fT;rw[av,ay qQh,bD,gY]
theorem C7 {te:TI}{d:D}{n:Nat}(h:te.size=1)(hz:te.zero=[d]):l6 te n=List.replicate n d:=by unfold l6;rw[h,hz,fO];apply cC ak;intro j h1 h2;simp[Nat.mod_one]
theorem J0 {n:Nat}:bA ((List.replicate n false).map enc)=List.replicate n (D.fz (.b false)):=by
 induction n with
 |zero=>rfl
 |succ n ih=>rw[fp,aM,fp,←ih];rfl
instance:Kc Bool 1:=⟨fun _=>rfl⟩
theorem Ng {n n':Nat}{pre:Abs.Id→Abs.Id}{vn:Abs.Id→Bool}{z:Abs.Id→Option (List FD)}{H:bR}{k g j:Nat}{x:List Str}(hg:g<n'):
  Dr n n' pre vn z H (if j=k then .ow (64007,g) 1 (x.map enc)else .fz (.sl (x.map enc))) (if j=k then .ow (64007,g) 1 (x.map enc)else .fz (.sl (x.map enc))):=by
 split
 ·rw[UJ,SY];exact⟨rfl,rfl,hg⟩
 ·rw[Hq]
theorem L7 {n n':Nat}{pre:Abs.Id→Abs.Id}{vn:Abs.Id→Bool}{z:Abs.Id→Option (List FD)}{H:bR}{k g:Nat}{S:List (List Str)}{d d':D}(hg:g<n')(hd:Dr n n' pre vn z H d d'):
  Drs n n' pre vn z H (fT k g S++[d]) (fT k g S++[d']):=by
 refine DT ak fun j hj=>?_;simp only[aD,mq,aN,bj]at hj;rcases aA j S.length with h|h
 ·rw[qk qQ0,qk qQ0,uO h];exact Ng hg
 ·obtain rfl:j=S.length:=ae
  rw[ql qQ0,ql qQ0,mq,cM];exact hd
theorem Nh {n n':Nat}{pre:Abs.Id→Abs.Id}{vn:Abs.Id→Bool}{z:Abs.Id→Option (List FD)}{H:bR}{k g m:Nat}{S:List (List Str)}(hg:g<n'):
  Drs n n' pre vn z H (fT k g S++List.replicate m (.full [])) (fT k g (S++List.replicate m [])):=by
 refine DT (by simp[mq]) fun j hj=>?_;rw[mq]at hj;rw[uO hj];rw[aD,cE]at hj;rcases aA j S.length with h|h
 ·rw[qk qQ0,uO h,c5 h];exact Ng hg
 ·rw[ql qQ0,mq,iA h];simp only[eQ,aQ];rw[av,List.getElem?_replicate_of_lt ae,bD];split
  ·rw[P'];exact⟨rfl,hg⟩
  ·rw[SX]
theorem C' {α:Type}{A:List α}{x:α}:(A++[x]).isEmpty=false:=by cases A<;>rfl
structure Sv (n n0:Nat) where
 i:Nat
 r:Nat
 g:Nat
 m:Nat
 hi:i≤n
 hr:r<m
 hg:g<m
 hm:n0≤m
def Af:Tv:=(.q 0 (.q 2 (.br [(1,(.br [(3,(.br [(4,(.br [(5,(.q 6 (.br [(7,.leaf)])))]))]))])),(3,(.br [(1,(.br [(4,(.br [(5,(.q 6 (.br [(7,.leaf)])))]))])),(4,(.q 1 (.br [(5,(.q 6 (.br [(7,.leaf)])))])))]))])))
set_option maxHeartbeats 4000000 in
theorem Gv (k:Nat){b:Brn}{fs:List Abs.aH}(hb:b.list.length≤100000∧b.used.length≤100000∧b.seen.length≤100000∧fs.length≤100000)(hs:∀s∈b.seen,s.length≤1000000):
  cS Tryz.prog GA 36 [.fz (enc b),.fz (.sl (fs.map enc))] (hpL []) 0 (fun d H n=>∃r g,r<n∧g<n∧d= .agg [.fz (.sl ((b.list++fs).map enc)),.fz (.sl ((b.used++List.replicate fs.length false).map enc)),.arr (36043,r) 1 0 (b.seen.length+fs.length),.fz (.i .i64 b.rounds)]∧
   H (36043,r)=some ⟨fT k g (b.seen++List.replicate fs.length []),false,(b.seen++List.replicate fs.length []).isEmpty⟩∧H (64007,g)=some tok):=by
 obtain⟨hb1,hb2,hb3,hb4⟩:=hb;obtain⟨Q,hQ⟩:∃Q:D→bR→Nat→Prop,Q=(fun d H n=>∃r g,r<n∧g<n∧d= .agg [.fz (.sl ((b.list++fs).map enc)),.fz (.sl ((b.used++List.replicate fs.length false).map enc)),.arr (36043,r) 1 0 (b.seen.length+fs.length),.fz (.i .i64 b.rounds)]∧
   H (36043,r)=some ⟨fT k g b.seen++List.replicate fs.length (D.full []),false,b.seen.isEmpty&&(fT k g b.seen++List.replicate fs.length (D.full [])).isEmpty⟩∧H (64007,g)=some tok):=⟨_,rfl⟩
 suffices hkey:cS Tryz.prog GA 36 [.fz (enc b),.fz (.sl (fs.map enc))] (hpL []) 0 Q by
  refine lj hkey ?_;rw[hQ];rintro d H n ⟨r,g,hr,hg,rfl,ho,hg2⟩;have hve:(b.seen++List.replicate fs.length []).isEmpty=(b.seen.isEmpty&&(fT k g b.seen++List.replicate fs.length (D.full [])).isEmpty):=by
   rw[gR];simp only[cK,aS,List.append_eq_nil_iff];constructor
   ·rintro⟨h1,h2⟩;refine⟨h1,⟨by rw[h1];rfl,?_⟩⟩;rw[List.replicate_eq_nil_iff]at h2 ⊢;exact h2
   ·rintro⟨h1,_,h2⟩;refine⟨h1,?_⟩;rw[List.replicate_eq_nil_iff]at h2 ⊢;exact h2
  refine⟨_,hpL [((36043,r),some ⟨fT k g (b.seen++List.replicate fs.length []),false,(b.seen++List.replicate fs.length []).isEmpty⟩),((64007,g),some tok)],n,?_,r,g,hr,hg,rfl,aj,aj⟩;refine eX [] [] [] ?_ ?_ ?_ ?_ ?_<;>simp only[go_sem,ho,hg2,hve]
  all_goals repeat'(first|apply au|omega|rfl|exact Nh hg|simp only[go_sem])
  all_goals trace_state
 have kq:=Kp.mk hQ;have ks:=Kp.mk hs;clear hQ hs;refine OH (N:=46) hm vV 36000 qW6 UM Tryz.func36 rfl rfl ak ah ?_
 repeat'(first|apply au|refine rq ?_|simp only[go_sem,fg,Tryz.f36,iW])
 refine dJ.i (su (xs:=[FD.sl (b.list.map enc)]) rfl (xm (l:=b.list) ae) fun g1 n1 hg1 hn1=>?_)
 repeat'(first|apply au|refine rq ?_|simp only[go_sem,fg,Tryz.f36,iW])
 refine Jz (rid:=3) vV 36000 qW6 5 rfl rfl rfl rfl rfl rfl rfl ?_
 repeat'(first|apply au|refine rq ?_|simp only[go_sem,fg,Tryz.f36,iW])
 refine dJ.i (su (xs:=[FD.sl (b.used.map enc)]) rfl (QX (l:=b.used) ae) fun g2 n2 hg2 hn2=>?_)
 repeat'(first|apply au|refine rq ?_|simp only[go_sem,fg,Tryz.f36,iW])
 refine tL.ow (kk:= .i64) ((List.replicate fs.length false).map enc) (te:=⟨1,1,[.fz (.b false)],.bool,false,false,[]⟩) aj Tryz.underlying3 ae rfl rfl ae ak (by rw[C7 rfl rfl,bo];exact J0) (o:=⟨[],false,true⟩) aj (qA _) (qA _) (by rw[J0];simp[fh]) (by rw[bo];exact dZ qQ6 ai) ?_
 repeat'(first|apply au|refine rq ?_|simp only[go_sem,fg,Tryz.f36,iW])
 refine uV hm vV 36000 qW6 (ι:=Sv b.seen.length (n2+3))
  ⟨fun q=>⟨frL [(1,eS fs),(2,.ptr (36002,0) 0),(4,.ptr (36004,1) 0),(5,.ptr (36005,2) 0),(25,eS b.seen),(26,eI b.seen.length),(27,eI q.i)],
   hpL [((36002,0),some ⟨[eS b.list,eS b.used,eS b.seen,eI b.rounds],true,false⟩),((36004,1),some ⟨[.full [],.full [],.full [],eI 0],true,false⟩),
    ((36005,2),some ⟨[.fz (.sl ((b.list++fs).map enc)),.fz (.sl ((b.used++List.replicate fs.length false).map enc)),.arr (36036,q.r) 1 0 q.i,.fz (.i .i64 b.rounds)],true,false⟩),
    ((36036,q.r),some ⟨fT k q.g (b.seen.take q.i),false,(b.seen.take q.i).isEmpty⟩),((64007,q.g),some tok)],q.m⟩,fun q=>b.seen.length-q.i⟩
  ⟨0,n2+1,n2+2,n2+3,ae,ae,ae,ae⟩ ah ?_ ?_
 ·refine eX [] [(36036,n2+1),(64007,n2+2)] [] ?_ ?_ ?_ ?_ ?_<;>simp only[go_sem,aE,fT]
  all_goals first|rfl|omega|(refine⟨ae,ae,⟨ae,ae⟩,⟨ae,rfl⟩,ae,ae⟩)
 rintro⟨i,r,g,m,hi,hr,hg,hm2⟩
 try simp only at hi hr hg hm2
 rcases aA i b.seen.length with h1|h1
 ·obtain⟨s,hx⟩:∃s,b.seen[i]=s:=⟨_,rfl⟩;have hsl:s.length≤1000000:=ks.out s qQe;have e3:=aB h1;rw[hx]at e3;have htl:(b.seen.take i).length=i:=by rw[aX];omega
  have hts:(fT k g (b.seen.take i)).take i=fT k g (b.seen.take i):=bV (by rw[mq,htl];exact aI _);by_cases hik:i=k
  ·have hif:(i=k)=True:=aU hik
   repeat'(first|refine dJ.i (su (xs:=[FD.sl (s.map enc)]) rfl (Np (l:=s) ae) fun g3 m3 hg3 hm3=>?_)|refine ru (id:=7) hm vV 36000 qW6 Af ?_|apply au|refine rq ?_|simp only[go_sem,hts,h1,hx,Af,mq,htl,bh,fg,Tryz.f36,iW])
   all_goals
    have hsw:fT k g (b.seen.take i)=fT k g3 (b.seen.take i):=Qh (by rw[htl];omega);refine⟨⟨i+1,m3+1,g3,m3+2,ae,ae,ae,ae⟩,af,?_⟩;refine eX [] [] [] ?_ ?_ ?_ ?_ ?_<;>simp only[go_sem,e3,hsw,Ja,htl,hif,aE,C']
   all_goals repeat'(first|apply au|omega|rfl|(refine L7 ae ?_)|simp only[go_sem])
   all_goals trace_state
  ·have hif:(i=k)=False:=aP hik
   repeat'(first|refine dJ.i (su (xs:=[FD.sl (s.map enc)]) rfl (Np (l:=s) ae) fun g3 m3 hg3 hm3=>?_)|refine ru (id:=7) hm vV 36000 qW6 Af ?_|apply au|refine rq ?_|simp only[go_sem,hts,h1,hx,Af,mq,htl,bh,fg,Tryz.f36,iW])
   all_goals
    have hgg:(g=g3)=False:=aP ae;refine⟨⟨i+1,m3+1,g,m3+2,ae,ae,ae,ae⟩,af,?_⟩;refine eX [] [] [] ?_ ?_ ?_ ?_ ?_<;>simp only[go_sem,e3,Ja,htl,hif,hgg,aE,C']
   all_goals repeat'(first|apply au|omega|rfl|(refine L7 ae ?_)|simp only[go_sem])
   all_goals trace_state
 ·obtain rfl:i=b.seen.length:=ae
  have htl:(b.seen.take b.seen.length)=b.seen:=aJ;have hts:(fT k g b.seen).take b.seen.length=fT k g b.seen:=bV (by rw[mq];exact aI _)
  repeat'(first|apply au|refine rq ?_|simp only[go_sem,htl,aC,hts,mq,fg,Tryz.f36,iW])
  refine Jz (rid:=9) vV 36000 qW6 4 rfl rfl rfl rfl rfl rfl rfl ?_
  repeat'(first|apply au|refine rq ?_|simp only[go_sem,htl,aC,hts,mq,fg,Tryz.f36,iW])
  refine tL.arr (kk:= .i64) (te:=⟨1,24,[.full []],.slice 9,false,false,[]⟩) aj Tryz.underlying3 ae rfl rfl ae (o:=⟨fT k g b.seen,false,b.seen.isEmpty⟩) (by simp only[go_sem,htl]) (by simp[mq]) (by rw[C7 rfl rfl];simp[fh]) ai (by rw[bo];exact dZ ae ai) ?_;have hz:l6 ⟨1,24,[.full []],.slice 9,false,false,[]⟩ fs.length=List.replicate fs.length (D.full []):=C7 rfl rfl
  repeat'(first|apply au|refine rq ?_|simp only[go_sem,hz,htl,aC,hts,mq,bo,fO,bC,fg,Tryz.f36,iW])
  rw[kq.out];refine⟨m,g,ae,ae,?_,?_,?_⟩
  ·simp only[go_sem,aE]
  ·simp only[go_sem]
  ·simp only[go_sem]
def Z1:Tbl:=Y9.add 56 (sp1 (fun f=>(bY f).1) brF)
attribute [go_sem] Z1
set_option maxHeartbeats 4000000 in
theorem hZ1:b9 Tryz.prog GA Z1:=by
 refine iD Bn hY9 fun f hbr _=>?_;have hkb:=fU.1 hbr.v;have hk1:=hkb.1;have hk2:=hkb.2.1;clear hkb;by_cases k4:f.kind=4
 ·obtain⟨g,hg,s0,hbg⟩:=nz hbr (.inl k4);have hgk:=fU.1 hbg.v;have hg1:=hgk.1;have hg2:=hgk.2.1;clear hgk;have hcase:g.kind=1∨g.kind=2∨g.kind=3∨g.kind=4∨g.kind=5∨g.kind=6∨g.kind=7∨g.kind=8∨g.kind=9:=ae
  rcases hcase with j|j|j|j|j|j|j|j|j
  all_goals
   have e:=Yh k4 s0 j
   try simp only at e
   rw[e];refine rv (N:=32) hm hY9 56000 qWi Bn Tryz.func56 rfl ?_
   repeat'(first|apply au|refine rq ?_|simp only[go_sem,k4,hg,j,bh,bt,Tryz.f56])
 ·have hcase:f.kind=1∨f.kind=2∨f.kind=3∨f.kind=5∨f.kind=6∨f.kind=7∨f.kind=8∨f.kind=9:=ae
  rcases hcase with j|j|j|j|j|j|j|j
  all_goals
   have e:=WZ k4 j
   try simp only at e
   rw[e];refine rv (N:=32) hm hY9 56000 qWi Bn Tryz.func56 rfl ?_
   repeat'(first|apply au|refine rq ?_|simp only[go_sem,j,bh,bt,Tryz.f56])
theorem OZ {B U:List Str}:(B.isEmpty&&U.isEmpty)=(B.isEmpty&&(bA (B.map enc++U.map enc)).isEmpty):=by rw[←aE,ia];cases B<;>cases U<;>rfl
theorem Ct (l:List Abs.aH):e7 l=lC (kv (l.flatMap eR)):=by unfold e7 lC kv;rw[xj]
theorem MP {f:Abs.aH}(h:brF f):(eR f).length≤1000000:=by
 rw[C5];have h1:=rM h.ft [];have hs:=h.s;have h2:(lC (kv (cst f []))).length≤(kv (cst f [])).length:=by unfold lC;rw[aG];have:=sq ((kv (cst f [])).map (·.l));rw[aG]at this;exact this
 rw[sj]at h2;omega
set_option maxHeartbeats 4000000 in
theorem SD {l:List Abs.aH}(hbr:∀f∈l,brF f)(hl:l.length≤100000):cS Tryz.prog GA 60 [.fz (enc l)] (hpL []) 0
  (fun d H n=>∃g,g<n∧d= .arr (60015,g) 1 0 (e7 l).length∧H (60015,g)=some ⟨bA ((e7 l).map enc),false,(l.flatMap eR).isEmpty⟩):=by
 obtain⟨Q,hQ⟩:∃Q:D→bR→Nat→Prop,Q=(fun d H n=>∃g,g<n∧d= .arr (60015,g) 1 0 (e7 l).length∧H (60015,g)=some ⟨bA ((e7 l).map enc),false,(l.flatMap eR).isEmpty⟩):=⟨_,rfl⟩;rw[←hQ];obtain⟨A,hA⟩:∃A:Nat→List Str,A=fun i=>(l.take i).flatMap eR:=⟨_,rfl⟩;have hA0:A 0=[]:=by rw[hA];rfl
 have hAs:∀i (h:i<l.length),A (i+1)=A i++eR l[i]:=fun i h=>by rw[hA];simp only;rw[aB h,lL,cU,nG,bP]
 have hAe:A l.length=l.flatMap eR:=by rw[hA];simp only[aJ]
 rw[Ct,←hAe]at hQ;have kb:=Kp.mk hbr;have kA:=Kp.mk hAs;have kq:=Kp.mk hQ;clear hbr hA hAs hAe hQ;refine rv (N:=21) hm hZ1 60000 (lst [15]) GD Tryz.func60 rfl ?_
 repeat'(first|apply au|refine rq ?_|simp only[go_sem,Tryz.f60])
 refine cI hm hZ1 60000 (lst [15]) (ι:=jL l.length 1 fun i=>(A i).length≤i*1000000)
  ⟨fun q=>⟨frL [(3,.arr (60015,q.g) 1 0 (A q.i).length),(6,eS l),(7,eI l.length),(8,eI q.i)],hpL [((60015,q.g),some ⟨bA ((A q.i).map enc),false,(A q.i).isEmpty⟩)],q.m⟩,fun q=>l.length-q.i⟩
  ⟨0,0,1,ae,ae,ae,by rw[hA0];simp⟩ ah ?_ ?_
 ·refine eX [] [(60015,0)] [] ?_ ?_ ?_ ?_ ?_<;>simp only[go_sem,hA0]
  all_goals first|rfl|omega
 rintro⟨i,g,m,hi,hg,hm2,hp⟩
 try simp only at hi hg hm2 hp
 rcases aA i l.length with h1|h1
 ·obtain⟨x,hx⟩:∃x,l[i]=x:=⟨_,rfl⟩;have hxb:brF x:=kb.out x qQe;have hs:=kA.out i h1;rw[hx]at hs;have hul:=MP hxb;obtain⟨U,hU⟩:∃U,eR x=U:=⟨_,rfl⟩;rw[hU]at hs hul;obtain⟨B,hB⟩:∃B,A i=B:=⟨_,rfl⟩;rw[hB]at hs hp;have hft:fits (B.length+U.length) 16:=⟨qQ9,ae⟩
  repeat'(first|apply rx hxb|apply rx hft|refine rx (by simp only[aG];exact hft) ?_|apply au|refine rq ?_|simp only[go_sem,h1,hx,hU,hB,bh,bt,bn,Tryz.f60])
  all_goals refine⟨⟨i+1,m+1,m+2,ae,ae,ae,by rw[hs,aD];omega⟩,af,?_⟩
  all_goals refine eX [] [] [] ?_ ?_ ?_ ?_ ?_<;>simp only[go_sem,hs,aE,aD]
  all_goals first|rfl|omega|exact⟨ae,OZ⟩
 ·obtain rfl:i=l.length:=ae
  obtain⟨B,hB⟩:∃B,A l.length=B:=⟨_,rfl⟩
  repeat'(first|apply au|refine rq ?_|simp only[go_sem,hB,aC,bt,bn,Tryz.f60])
  refine dJ.i (M9 (l:=B) (bx:=false) (vt:=B.isEmpty) (by simp only[go_sem,hB]) ?_);have b1:=sj B
  repeat'(first|apply au|refine rq ?_|simp only[go_sem,hB,aC,bt,bn,Tryz.f60])
  rw[←sj B];refine dJ.i (LW (l:=kv B) (bx:=false) (vt:=B.isEmpty) aj ?_)
  repeat'(first|apply au|refine rq ?_|simp only[go_sem,hB,aC,bt,bn,Tryz.f60])
  rw[kq.out,hB];exact⟨g,ae,aj,aj⟩
def Z2:Tbl:=Z1.add 60 (sp1 e7 fun l=>(∀f∈l,brF f)∧l.length≤100000)
attribute [go_sem] Z2
theorem hZ2:b9 Tryz.prog GA Z2:=by
 refine iD GD hZ1 fun l hp hw=>?_;refine lj (SD hp.1 hp.2) ?_;rintro d H n ⟨g,hg,rfl,ho⟩;have hn:(l.flatMap eR).isEmpty=true→e7 l=[]:=fun h=>by
  rw[Ct,cK.1 h];cases hu:lC (kv [])with
  |nil=>rfl
  |cons x t=>
   have:x∈lC (kv []):=by rw[hu];simp
   unfold lC kv at this;rw[xj]at this;obtain⟨y,hy,rfl⟩:=be.1 this;have h2:=(uL _ _).1 hy;have h3:=(ry _).mem_iff.1 h2;simp at h3
 obtain⟨U,hU⟩:∃U,e7 l=U:=⟨_,rfl⟩;rw[hU]at ho hn ⊢;refine⟨.fz (.sl (U.map enc)),H0,n,?_,rfl⟩;have e:H0=hpL []:=rfl;rw[e];refine eX [] [] [((60015,g),U.map enc)] ?_ ?_ ?_ ?_ ?_<;>simp only[go_sem,ho];intro h;rw[hn h];rfl
theorem sP {sid:Abs.Id}{uses a k:Int}{H:bR}{n:Nat}{R:D→bR→Nat→Prop}(ho:H sid=some ⟨[.fz (.i .i64 uses),.fz (.i .i64 a)],true,false⟩)(ha:0≤a∧a≤300)(hk:0≤k∧k≤1000000)
  (hR:R (.fz (.b (decide (300<a+k)))) (cp H sid (some ⟨[.fz (.i .i64 uses),.fz (.i .i64 (a+k))],true,false⟩)) n):cS Tryz.prog GA 59 [.ptr sid 0,.fz (.i .i64 k)] H n R:=by
 refine sr (T:=7) (xs:=[.i .i64 k]) (cs:=[.i .i64 uses,.i .i64 a]) (cs':=[.i .i64 uses,.i .i64 (a+k)]) rfl ?_ ho hR;obtain⟨ha0,ha1⟩:=ha;obtain⟨hk0,hk1⟩:=hk;obtain⟨Q,hQ⟩:∃Q:D→bR→Nat→Prop,Q=(fun d H' _=>D.val d=some (.fz (.b (decide (300<a+k))))∧H' (7,0)=some ⟨[FD.i .i64 uses,.i .i64 (a+k)].map .fz,true,false⟩):=⟨_,rfl⟩;rw[←hQ];refine rv (N:=18) hm hZ2 59000 qWi UR Tryz.func59 rfl ?_
 repeat'(first|apply au|refine rq ?_|simp only[go_sem,Tryz.f59,iW])
 all_goals(
  rw[hQ];refine⟨?_,?_⟩
  ·simp only[go_sem]
  ·simp only[go_sem])
theorem ZS {k g:Nat}{S:List (List Str)}(h:S.length≤k):fT k g S=bA (S.map enc):=by
 rw[ia];unfold fT;apply cC ak;intro j h1 h2;have hj:j<S.length:=by simpa using h1
 simp only[gY,cm];rw[az ae];rfl
theorem wi {b:Brn}{fs:List Abs.aH}{args:List D}{H:bR}{n:Nat}{R:D→bR→Nat→Prop}(hb:b.list.length≤100000∧b.used.length≤100000∧b.seen.length≤100000∧fs.length≤100000)(hs:∀s∈b.seen,s.length≤1000000)
  (ha:D.toFDs args=some [enc b,.sl (fs.map enc)])(hR:R (.fz (enc (eo b fs))) H n):cS Tryz.prog GA 36 args H n R:=by
 have h:cS Tryz.prog GA 36 ([enc b,FD.sl (fs.map enc)].map .fz) H0 0 (fun d _ _=>D.val d=some (.fz (enc (eo b fs)))):=by
  refine lj (Gv (b.seen.length+fs.length) hb hs) ?_;rintro d H n ⟨r,g,hr,hg,rfl,ho,_⟩;have hlen:(b.seen++List.replicate fs.length ([]:List Str)).length=b.seen.length+fs.length:=ak
  rw[ZS (by rw[hlen];exact aI _)]at ho;obtain⟨S,hS⟩:∃S,b.seen++List.replicate fs.length ([]:List Str)=S:=⟨_,rfl⟩;have e1:enc (eo b fs)= .agg [.sl ((b.list++fs).map enc),.sl ((b.used++List.replicate fs.length false).map enc),.sl (S.map enc),.i .i64 b.rounds]:=by rw[←hS];rfl
  rw[hS]at ho hlen;refine⟨.agg [.fz (.sl ((b.list++fs).map enc)),.fz (.sl ((b.used++List.replicate fs.length false).map enc)),.fz (.sl (S.map enc)),.fz (.i .i64 b.rounds)],hpL [],n,?_,by rw[e1];rfl⟩;refine eX [] [] [((36043,r),S.map enc)] ?_ ?_ ?_ ?_ ?_<;>simp only[go_sem,ho]
  all_goals first|rfl|omega|(intro h;rw[cK.1 h];rfl)
 exact jl (JB ha h) (by rintro d H' n' ⟨rfl,rfl,rfl⟩;exact hR)
theorem ZT {k g n:Nat}{S:List (List Str)}:oJ n (fT k g S)=fT k (g+n) S:=by rw[tz];unfold fT;apply cC ak;intro j h1 h2;simp only[cm,gY];split<;>rfl
theorem Uw (k:Nat){b:Brn}{fs:List Abs.aH}{args:List D}{H:bR}{n:Nat}{R:D→bR→Nat→Prop}(hb:b.list.length≤100000∧b.used.length≤100000∧b.seen.length≤100000∧fs.length≤100000)(hs:∀s∈b.seen,s.length≤1000000)
  (ha:D.toFDs args=some [enc b,.sl (fs.map enc)])
  (hR:∀r g n',n≤r→r<n'→n≤g→g<n'→R (D.agg [.fz (.sl ((b.list++fs).map enc)),.fz (.sl ((b.used++List.replicate fs.length false).map enc)),.arr (36043,r) 1 0 (b.seen.length+fs.length),.fz (.i .i64 b.rounds)]) (hpX [((36043,r),some ⟨fT k g (b.seen++List.replicate fs.length []),false,(b.seen++List.replicate fs.length []).isEmpty⟩),((64007,g),some tok)] H) n'):cS Tryz.prog GA 36 args H n R:=by
 have h:=Gv k hb hs;refine uy h.1 fun hfr=>lj (wX ha h) ?_;rintro d H' n' ⟨d1,H1,n1,⟨r,g,hr,hg,rfl,ho,ho2⟩,rfl,rfl,rfl⟩;have hsh:shH n H H1 (36043,r+n)=some ⟨fT k (g+n) (b.seen++List.replicate fs.length []),false,(b.seen++List.replicate fs.length []).isEmpty⟩:=by unfold shH;rw[aF ak,show(36043,r+n-n)=(36043,r) by rw[dl],ho];simp only[bL,shO,ZT]
 have hsh2:shH n H H1 (64007,g+n)=some tok:=by unfold shH;rw[aF ak,show(64007,g+n-n)=(64007,g) by rw[dl],ho2];rfl
 refine⟨D.agg [.fz (.sl ((b.list++fs).map enc)),.fz (.sl ((b.used++List.replicate fs.length false).map enc)),.arr (36043,r+n) 1 0 (b.seen.length+fs.length),.fz (.i .i64 b.rounds)],hpX [((36043,r+n),some ⟨fT k (g+n) (b.seen++List.replicate fs.length []),false,(b.seen++List.replicate fs.length []).isEmpty⟩),((64007,g+n),some tok)] H,n+n1,oo ?_ (fun id o hid=>?_) (aI _),hR (r+n) (g+n) (n+n1) ae ae ae ae⟩
 ·exact⟨rfl,trivial⟩
 ·simp only[hpX]at hid;split at hid
  ·rename_i e;subst e;rw[←hid];exact hsh
  split at hid
  ·rename_i e;subst e;rw[←hid];exact hsh2
  ·have hlt:id.2<n:=by
    rcases aA id.2 n with h3|h3
    ·exact h3
    ·rw[hfr id h3]at hid;cases hid
   show shH n H H1 id=some o;unfold shH;rw[az ae];exact hid
def Z3:Tbl:=Z2.add 55 (wq vd fun l=>(∀f∈l,brF f)∧l.length≤100000)
attribute [go_sem] Z3
theorem Wr {c:List cX}{l:List Abs.aH}{i k:Nat}(h:i<l.length):pp c l (l.drop i) k=match nt c l l[i] k with|some p=>some p|none=>pp c l (l.drop (i+1)) (k+1):=by rw[aR h,pp];cases nt c l l[i] k<;>rfl
theorem Xd {p:Abs.aH→Bool}{l:List Abs.aH}{i k:Nat}(h:i<l.length):pD p (l.drop i) k=if p l[i]then some k else pD p (l.drop (i+1)) (k+1):=by rw[aR h,pD]
theorem H4 {l:List Abs.aH}{p:Prf}(h:nP l=some p):vd l=(p,true):=by unfold vd;rw[h]
theorem H3 {l:List Abs.aH}(h:nP l=none):vd l=(ig,false):=by unfold vd;rw[h]
def zJ:Tv:=(.q 0 (.q 1 (.q 2 (.q 3 (.q 4 (.q 5 (.q 6 .leaf)))))))
set_option maxHeartbeats 4000000 in
theorem hZ3:b9 Tryz.prog GA Z3:=by
 refine N' GB hZ2 fun l hp _=>?_;obtain⟨hbr,hl⟩:=hp;obtain⟨cw,cl⟩:=EC l;obtain⟨C,hC⟩:∃C,ii l=C:=⟨_,rfl⟩;have hM:pp C l (l.drop 0) 0=nP l:=by rw[←hC];rfl
 rw[hC]at cw cl;have hpl:(∀f∈l,brF f)∧l.length≤100000:=⟨hbr,hl⟩;obtain⟨V,hV⟩:∃V,vd l=V:=⟨_,rfl⟩;obtain⟨M,hMM⟩:∃M,nP l=M:=⟨_,rfl⟩;have hVs:∀p,M=some p→V=(p,true):=fun p h=>by rw[←hV,H4 (hMM.trans h)]
 have hVn:M=none→V=(ig,false):=fun h=>by rw[←hV,H3 (hMM.trans h)]
 rw[hMM]at hM;rw[hV];have kb:=Kp.mk hbr;have kp:=Kp.mk hpl;have kC:=Kp.mk cw;have ks:=Kp.mk hVs;have kn:=Kp.mk hVn;clear hbr hpl cw hVs hVn;refine rv (N:=55) hm hZ2 55000 qXa GB Tryz.func55 rfl ?_
 repeat'(first|apply rx kp.out|apply au|refine rq ?_|simp only[go_sem,hC,bt,Tryz.f55])
 refine cI hm hZ2 55000 qXa (ι:=fW l.length 1 fun i=>pp C l (l.drop i) i=M)
  ⟨fun q=>⟨frL [(0,eS l),(2,.ptr (55002,0) 0),(3,.fz (.b false)),(4,eS C),(11,eS l),(12,eI l.length),(13,eI q.i)],hpL [((55002,0),some ⟨[eI 0,eI 0,eI 0,.fz (.s []),.full []],true,false⟩)],q.m⟩,fun q=>l.length-q.i⟩
  ⟨0,1,ae,ae,hM⟩ ah ?_ ?_
 ·refine bF ?_ ?_ ?_<;>simp only[go_sem,hC]
  all_goals first|rfl|omega
 rintro⟨i,m,hi,hm1,hq⟩
 try simp only at hi hm1 hq
 rcases aA i l.length with h1|h1
 ·obtain⟨f,hf⟩:∃f,l[i]=f:=⟨_,rfl⟩;have hfb:brF f:=kb.out f qQj;rw[Wr h1,hf]at hq;have hcon:Nq C f:=⟨⟨kC.out,ae⟩,hfb⟩;obtain⟨B,hB⟩:∃B,jP C f=B:=⟨_,rfl⟩;by_cases hv:B=true
  ·have hI:nt C l f i=some (.mk 1 i i ⟨[]⟩ []):=by unfold nt;rw[aF (by rw[hB];exact hv)]
   rw[hI]at hq;have e:=ks.out _ hq.symm;rw[e]
   repeat'(first|apply rx hcon|apply au|refine rq ?_|simp only[go_sem,h1,hf,hB,hv,bh,bt,Tryz.f55])
   all_goals trace_state
  have hv:B=false:=by simpa using hv
  by_cases k4:f.kind=4;rotate_left
  ·have hI:nt C l f i=none:=by unfold nt;rw[hB,hv,az ak,az ae]
   rw[hI]at hq
   repeat'(first|apply rx hcon|apply au|refine rq ?_|simp only[go_sem,h1,hf,hB,hv,k4,bh,bt,Tryz.f55])
   all_goals refine⟨⟨i+1,m+1,ae,ae,hq⟩,af,?_⟩
   all_goals refine bF ?_ ?_ ?_<;>simp only[go_sem]
   all_goals first|rfl|omega
  obtain⟨g,hg,s0,hbg⟩:=nz hfb (.inl k4);have eF:Abs.aH.mk 4 f.name f.words [g]=f:=by rw[←k4,←hg];exact bt
  by_cases k2:g.kind=2;rotate_left
  ·have hI:nt C l f i=none:=by unfold nt;rw[hB,hv,az ak,az (by rw[s0];omega)]
   rw[hI]at hq
   repeat'(first|apply rx hcon|apply au|refine rq ?_|simp only[go_sem,h1,hf,hB,hv,k4,eF,hg,k2,bh,bt,Tryz.f55])
   all_goals refine⟨⟨i+1,m+1,ae,ae,hq⟩,af,?_⟩
   all_goals refine bF ?_ ?_ ?_<;>simp only[go_sem]
   all_goals first|rfl|omega
  have eG:Abs.aH.mk 2 g.name g.words g.subs=g:=by rw[←k2];exact bt
  obtain⟨W,hW⟩:∃W,pD (fun h=>iF C h g) (l.drop 0) 0=W:=⟨_,rfl⟩;have hI:nt C l f i=W.map fun(k:Nat)=>Prf.mk 1 (k:Int) i ⟨[]⟩ []:=by unfold nt;rw[hB,hv,az ak,aF ⟨k4,by rw[s0];exact k2⟩,s0,←hW,bC]
  rw[hI]at hq
  repeat'(first|apply rx hcon|apply au|refine rq ?_|simp only[go_sem,h1,hf,hB,hv,k4,eF,hg,k2,eG,bh,bt,Tryz.f55])
  refine cI hm hZ2 55000 qXa (ι:=fW l.length (m+1) fun k=>pD (fun h=>iF C h g) (l.drop k) k=W)
   ⟨fun q=>⟨frL [(0,eS l),(2,.ptr (55002,0) 0),(3,.fz (.b false)),(4,eS C),(5,eI i),(6,.ptr (55006,m) 0),(11,eS l),(12,eI l.length),(13,eI i),(35,eS l),(36,eI l.length),(37,eI q.i)],
    hpL [((55002,0),some ⟨[eI 0,eI 0,eI 0,.fz (.s []),.full []],true,false⟩),((55006,m),some ⟨[eI 4,.fz (.s f.name.l),eS f.words,.fz (.sl [enc g])],true,false⟩)],q.m⟩,fun q=>l.length-q.i⟩
   ⟨0,m+1,ae,ae,hW⟩ ah ?_ ?_
  ·refine bF ?_ ?_ ?_<;>simp only[go_sem,k2]
   all_goals first|rfl|omega
  rintro⟨k,m2,hk,hm3,hr⟩
  try simp only at hk hm3 hr
  rcases aA k l.length with h2|h2
  ·obtain⟨x,hx⟩:∃x,l[k]=x:=⟨_,rfl⟩;have hxb:brF x:=kb.out x (by rw[←hx];exact aT h2);have hal:(wfC C∧C.length≤1000000)∧x.fit=true:=⟨⟨kC.out,ae⟩,hxb.ft⟩;rw[Xd h2,hx]at hr;obtain⟨E,hE⟩:∃E,iF C x g=E:=⟨_,rfl⟩;by_cases hv2:E=true
   ·rw[aF (hE.trans hv2)]at hr;rw[←hr]at hq;have e:=ks.out _ hq.symm;rw[e]
    repeat'(first|apply rx hal|refine ru (id:=11) hm hZ2 55000 qXa zJ ?_|apply au|refine rq ?_|simp only[go_sem,h2,hx,hE,hv2,hg,eG,zJ,bh,bt,Tryz.f55])
    all_goals trace_state
   ·have hv2:E=false:=by simpa using hv2
    rw[az (by rw[hE,hv2];simp)]at hr
    repeat'(first|apply rx hal|refine ru (id:=11) hm hZ2 55000 qXa zJ ?_|apply au|refine rq ?_|simp only[go_sem,h2,hx,hE,hv2,hg,eG,zJ,bh,bt,Tryz.f55])
    all_goals refine⟨⟨k+1,m2+1,ae,ae,hr⟩,af,?_⟩
    all_goals refine bF ?_ ?_ ?_<;>simp only[go_sem]
    all_goals first|rfl|omega
  ·have hWn:W=none:=by rw[←hr,cL h2];rfl
   rw[hWn]at hq;obtain rfl:k=l.length:=ae
   repeat'(first|apply au|refine rq ?_|simp only[go_sem,aC,bh,bt,Tryz.f55])
   all_goals refine⟨⟨i+1,m2,ae,ae,hq⟩,af,?_⟩
   all_goals refine bF ?_ ?_ ?_<;>simp only[go_sem]
   all_goals first|rfl|omega
 ·have hMn:M=none:=by rw[←hq,cL h1];rfl
  have e:=kn.out hMn;obtain rfl:i=l.length:=ae
  rw[e]
  repeat'(first|apply au|refine rq ?_|simp only[go_sem,ig,aC,bh,bt,Tryz.f55])
  all_goals trace_state
def Ei:Tv:=(.q 0 (.q 1 (.q 2 (.q 3 (.q 4 (.q 5 (.q 6 (.br [(7,(.br [(8,(.q 9 (.q 10 (.q 11 (.q 12 (.br [(13,(.br [(14,(.q 15 (.q 16 .leaf)))]))])))))),(13,(.br [(8,(.q 9 (.q 10 (.q 11 (.q 12 (.br [(14,(.q 15 (.q 16 .leaf)))]))))))]))])),(13,(.br [(7,(.br [(8,(.q 9 (.q 10 (.q 11 (.q 12 (.br [(14,(.q 15 (.q 16 .leaf)))]))))))]))]))]))))))))
def zO:Tv:=(.q 0 (.q 1 (.q 2 (.q 3 (.q 4 (.q 5 (.q 6 .leaf)))))))
def Ej:Tv:=(.q 0 (.q 2 (.q 3 (.q 4 (.q 5 (.q 6 (.q 7 (.q 8 (.q 9 (.br [(1,(.br [(10,(.q 11 (.br [(12,.leaf)])))])),(10,(.q 1 (.q 11 (.br [(12,.leaf)]))))]))))))))))
def Ek:Tv:=(.q 0 (.q 1 (.q 2 (.q 3 (.q 4 (.q 5 (.br [(6,(.br [(7,.leaf)]))])))))))
theorem Pp {l:List Abs.aH}(h:∀f∈l,brF f):(l.flatMap eR).length≤l.length*1000000:=by
 induction l with
 |nil=>simp
 |cons x l ih=>grind[MP]
theorem KZ {l:List Abs.aH}(h:∀f∈l,brF f):(e7 l).length≤l.length*1000000:=by grind[Ct,Pp,lC,sq,sj]
theorem MK:∀xs:List FD,D.toFDs (xs.map .fz)=some xs
 |[]=>rfl
 |x::xs=>by rw[aM,D.toFDs,MK xs];rfl
theorem Gu {b:Brn}{i:Nat}{fs:List Abs.aH}{x2:D}{H:bR}{n g1:Nat}{R:D→bR→Nat→Prop}{B':Brn}(hi:i<b.used.length)(hb:b.list.length≤100000∧b.used.length≤100000∧b.seen.length≤100000∧fs.length≤100000)(hs:∀s∈b.seen,s.length≤1000000)
  (ho:H (58007,g1)=some ⟨(b.used.map (D.fz∘enc)).set i (.fz (.b true)),false,b.used.isEmpty⟩)(h2:x2= .fz (.sl (fs.map enc))∨x2= .full (fs.map enc))(hB:eo (il b i) fs=B')
  (hR:R (.fz (enc B')) (cp H (58007,g1) none) n):cS Tryz.prog GA 36 [.agg [.fz (.sl (b.list.map enc)),.arr (58007,g1) 1 0 b.used.length,.fz (.sl (b.seen.map enc)),.fz (.i .i64 b.rounds)],x2] H n R:=by
 subst hB;obtain⟨U,hU⟩:∃U,b.used.set i true=U:=⟨_,rfl⟩;have hUl:U.length=b.used.length:=by rw[←hU,cY]
 have hc:(b.used.map (D.fz∘enc)).set i (.fz (.b true))=(U.map enc).map .fz:=by rw[←hU,bX,fZ];rfl
 rw[hc]at ho;have hne:b.used.isEmpty=false:=by
  cases hb:b.used with
  |nil=>grind
  |cons=>rfl
 have hb2:(il b i).list.length≤100000∧(il b i).used.length≤100000∧(il b i).seen.length≤100000∧fs.length≤100000:=by simp_all[il]
 have em:enc (il b i)= .agg [.sl (b.list.map enc),.sl (U.map enc),.sl (b.seen.map enc),.i .i64 b.rounds]:=by rw[←hU];rfl
 refine wW (58007,g1) (U.map enc) ho ap (MK _) (fun x hx=>by obtain⟨y,_,rfl⟩:=be.1 hx;rfl) (args':=[.agg [.fz (.sl (b.list.map enc)),.fz (.sl (U.map enc)),.fz (.sl (b.seen.map enc)),.fz (.i .i64 b.rounds)],x2]) ?_ ?_
 ·rcases h2 with rfl|rfl<;>simp only[oF,fzD,aG,hUl,and_self,cJ]
 ·refine wi (b:=il b i) (fs:=fs) hb2 hs ?_ hR;rw[em];rcases h2 with rfl|rfl<;>rfl
theorem Fp (k:Nat){b B':Brn}{fs:List Abs.aH}{args:List D}{H:bR}{n:Nat}{R:D→bR→Nat→Prop}(hb:b.list.length≤100000∧b.used.length≤100000∧b.seen.length≤100000∧fs.length≤100000)(hs:∀s∈b.seen,s.length≤1000000)
  (hB:eo b fs=B')(ha:D.toFDs args=some [enc b,.sl (fs.map enc)])
  (hR:∀r g n',n≤r→r<n'→n≤g→g<n'→R (.agg [.fz (.sl (B'.list.map enc)),.fz (.sl (B'.used.map enc)),.arr (36043,r) 1 0 B'.seen.length,.fz (.i .i64 B'.rounds)]) (hpX [((36043,r),some ⟨fT k g B'.seen,false,B'.seen.isEmpty⟩),((64007,g),some tok)] H) n'):cS Tryz.prog GA 36 args H n R:=by
 subst hB;refine Uw k hb hs ha fun r g n' h1 h2 h3 h4=>?_;simp_all[eo]
theorem C4:∀{ds:List D} {xs:List FD},ds.length=xs.length→(∀j,j<xs.length→(ds.getD j .junk).toFD=some (xs.getD j .nilf))→D.toFDs ds=some xs
 |[],[],_,_=>rfl
 |[],_::_,h,_=>ap
 |_::_,[],h,_=>ap
 |d::ds,x::xs,h,hj=>by have h0:=hj 0 ak;grind[D.toFDs,C4 (ds:=ds) (xs:=xs) qQh (fun j h2=>by have:=hj (j+1) qQ4;simpa using this)]
theorem KQ {k g j:Nat}{S:List (List Str)}(h:j<S.length):((fT k g S).getD j .junk).toFD=some (.sl (S[j].map enc)):=by rw[uO h];split<;>rfl
theorem X7 {k g:Nat}{S:List (List Str)}:D.toFDs (fT k g S)=some (S.map enc):=by refine C4 (by simp_all[mq]) fun j hj=>?_;rw[aG]at hj;rw[KQ hj,av,ay ap,bD,cm];rfl
theorem Qi {k g i es:Nat}{id:Abs.Id}{S:List (List Str)}{x:List Str}(hi:i<S.length):D.toFDs ((fT k g S).set i (.ow id es (x.map enc)))=some ((S.set i x).map enc):=by
 refine C4 (by simp_all[mq]) fun j hj=>?_;rw[aG,cY]at hj;rw[av (l:=(S.set i x).map enc),ay ap,bD,cm];by_cases e:i=j
 ·subst e;rw[av,List.getElem?_set_self (by rw[mq];exact hi),bD,gk];rfl
 ·rw[av,List.getElem?_set_ne e,←av,KQ hj,List.getElem_set_ne e];rfl
theorem Tx (k:Nat){b B':Brn}{fs:List Abs.aH}{cells:List D}{v:Bool}{H:bR}{n r0 len:Nat}{x2:D}{R:D→bR→Nat→Prop}(hb:b.list.length≤100000∧b.used.length≤100000∧b.seen.length≤100000∧fs.length≤100000)(hs:∀s∈b.seen,s.length≤1000000)
  (hB:eo b fs=B')(ho:H (36043,r0)=some ⟨cells,false,v⟩)(hv:v=true→b.seen=[])(hc:D.toFDs cells=some (b.seen.map enc))(hl:len=b.seen.length)(h2:x2= .full (fs.map enc))
  (hR:∀r g n',n≤r→r<n'→n≤g→g<n'→R (.agg [.fz (.sl (B'.list.map enc)),.fz (.sl (B'.used.map enc)),.arr (36043,r) 1 0 B'.seen.length,.fz (.i .i64 B'.rounds)]) (hpX [((36043,r),some ⟨fT k g B'.seen,false,B'.seen.isEmpty⟩),((64007,g),some tok)] (cp H (36043,r0) none)) n'):
  cS Tryz.prog GA 36 [.agg [.fz (.sl (b.list.map enc)),.fz (.sl (b.used.map enc)),.arr (36043,r0) 1 0 len,.fz (.i .i64 b.rounds)],x2] H n R:=by
 subst hl h2;refine wW (36043,r0) (b.seen.map enc) ho ap hc (fun x hx=>by obtain⟨y,_,rfl⟩:=be.1 hx;rfl) (args':=[.agg [.fz (.sl (b.list.map enc)),.fz (.sl (b.used.map enc)),.fz (.sl (b.seen.map enc)),.fz (.i .i64 b.rounds)],.full (fs.map enc)]) ?_ ?_
 ·simp_all[oF,fzD]
 ·exact Fp k hb hs hB rfl hR
def pJ (CS:List Str)(c:Brn):List Abs.aH→Nat→Nat
 |[],_=>c.seen.length
 |f::fs,i=>if(bY f).1=3∧(∃w∈CS,w∉c.seen.getD i [])then i else pJ CS c fs (i+1)
def pK (CS:List Str)(c:Brn)(ws:List Str)(i:Nat)(fs:List Abs.aH):Nat:=if∃w∈ws,w∉c.seen.getD i []then i else pJ CS c fs (i+1)
theorem K4 {CS:List Str}{c:Brn}{l:List Abs.aH}{i k:Nat}(h:i<l.length):pJ CS c (l.drop i) k=if(bY l[i]).1=3∧(∃w∈CS,w∉c.seen.getD k [])then k else pJ CS c (l.drop (i+1)) (k+1):=by rw[aR h,pJ]
theorem Ry {CS:List Str}{c:Brn}{ws:List Str}{i j:Nat}{fs:List Abs.aH}(h:j<ws.length)(hin:ws[j]∈c.seen.getD i []):pK CS c (ws.drop j) i fs=pK CS c (ws.drop (j+1)) i fs:=by
 unfold pK;rw[aR h];have e:(∃w∈ws[j]::ws.drop (j+1),w∉c.seen.getD i [])↔(∃w∈ws.drop (j+1),w∉c.seen.getD i []):=by
  constructor
  ·grind
  ·grind
 simp_all
theorem QB {CS:List Str}{c:Brn}{ws:List Str}{i j:Nat}{fs:List Abs.aH}(h:j<ws.length)(hin:ws[j]∉c.seen.getD i []):pK CS c (ws.drop j) i fs=i:=by unfold pK;rw[aR h,aF ap]
theorem QA {CS:List Str}{c:Brn}{ws:List Str}{i j:Nat}{fs:List Abs.aH}(h:ws.length≤j):pK CS c (ws.drop j) i fs=pJ CS c fs (i+1):=by simp_all[pK,cL]
theorem Qz {CS:List Str}{c:Brn}{l:List Abs.aH}{i k:Nat}(h:i<l.length)(hk:(bY l[i]).1=3):pJ CS c (l.drop i) k=pK CS c CS k (l.drop (i+1)):=by simp_all[K4,pK]
theorem Rx {CS:List Str}{c:Brn}{l:List Abs.aH}{i k:Nat}(h:i<l.length)(hk:¬(bY l[i]).1=3):pJ CS c (l.drop i) k=pJ CS c (l.drop (i+1)) (k+1):=by simp_all[K4]
theorem Ou {b:Brn}:eo b []=b:=by simp_all[eo]
def AQ (uses a:Int)(n:Nat)(s:GS):Prop:=ix uses s.c s.added∧n≤s.c.list.length∧(s.steps.length:Int)+a≤s.added
structure EK (n n0:Nat)(p:Nat→GS→Prop) where
 i:Nat
 s:GS
 r:Nat
 g:Nat
 z:Nat
 m:Nat
 hi:i≤n
 hr:r<m
 hg:g<m
 hz:z<m
 hm:n0≤m
 hp:p i s
theorem yX {xs ys:List FD}:bA (xs++ys)=bA xs++bA ys:=by simp[bA]
theorem Sh {xs:List FD}{a:FD}{l:List FD}:(bA (xs++[FD.agg (a::l)])).isEmpty=false:=by simp_all[bA,FD.cells]
theorem PK {n n':Nat}{pre:Abs.Id→Abs.Id}{vn:Abs.Id→Bool}{z:Abs.Id→Option (List FD)}{H:bR}{k g:Nat}{S:List (List Str)}(hg:g<n'):Drs n n' pre vn z H (fT k g S) (fT k g S):=by have h:=Nh (n:=n) (pre:=pre) (vn:=vn) (z:=z) (H:=H) (k:=k) (m:=0) (S:=S) hg;grind
theorem TL {c:Brn}{uses ad:Int}{r:Res}{H:bR}{n r0 k g:Nat}{v:Bool}{R:D→bR→Nat→Prop}
  (hrun:cS Tryz.prog GA 35 [.ptr (7,0) 0,.fz (enc c)] (hpL [((7,0),some ⟨[eI uses,eI ad],true,false⟩)]) 1
   (fun d H' _=>D.val d=some (.tup [.fz (enc r.p),.fz (.b r.ok),.fz (.b r.lim)])∧H' (7,0)=some ⟨[FD.i .i64 uses,.i .i64 r.added].map .fz,true,false⟩))
  (ho:H (36043,r0)=some ⟨fT k g c.seen,false,v⟩)(hv:v=true→c.seen=[])(hs:H (7,0)=some ⟨[.fz (.i .i64 uses),.fz (.i .i64 ad)],true,false⟩)
  (hR:R (.tup [.fz (enc r.p),.fz (.b r.ok),.fz (.b r.lim)]) (cp (cp H (36043,r0) none) (7,0) (some ⟨[FD.i .i64 uses,.i .i64 r.added].map .fz,true,false⟩)) n):
  cS Tryz.prog GA 35 [.ptr (7,0) 0,.agg [.fz (.sl (c.list.map enc)),.fz (.sl (c.used.map enc)),.arr (36043,r0) 1 0 c.seen.length,.fz (.i .i64 c.rounds)]] H n R:=by
 refine wW (36043,r0) (c.seen.map enc) ho ap X7 (fun x hx=>by obtain⟨y,_,rfl⟩:=be.1 hx;rfl) (args':=[.ptr (7,0) 0,.agg [.fz (.sl (c.list.map enc)),.fz (.sl (c.used.map enc)),.fz (.sl (c.seen.map enc)),.fz (.i .i64 c.rounds)]]) ?_ ?_
 ·simp_all[oF,fzD]
 ·refine sr (T:=7) (xs:=[enc c]) (cs:=[.i .i64 uses,.i .i64 ad]) (cs':=[.i .i64 uses,.i .i64 r.added]) rfl hrun ?_ hR;simp_all[cp]
structure Sy (n n0:Nat)(P:Nat→List Prf→Prf→Prop) where
 i:Nat
 tl:List Prf
 p:Prf
 m:Nat
 hi:i≤n
 hm:n0≤m
 hp:P i tl p
structure Tp (n n0:Nat)(p:Nat→List Prf→Int→Prop) where
 i:Nat
 subs:List Prf
 a:Int
 g:Nat
 m:Nat
 hi:i≤n
 hg:g<m
 hm:n0≤m
 hp:p i subs a
def xZ:List Int:=[1,4,2]
def Bd (uses:Int)(rec:Brn→Int→Res)(m:Nat):Prop:=∀(b:Brn) (a:Int),ix uses b a→301-a≤m→cS Tryz.prog GA 35 [.ptr (7,0) 0,.fz (enc b)] (hpL [((7,0),some ⟨[.fz (.i .i64 uses),.fz (.i .i64 a)],true,false⟩)]) 1
  (fun d H' _=>D.val d=some (.tup [.fz (enc (rec b a).p),.fz (.b (rec b a).ok),.fz (.b (rec b a).lim)])∧H' (7,0)=some ⟨[FD.i .i64 uses,.i .i64 (rec b a).added].map .fz,true,false⟩)
set_option maxHeartbeats 16000000 in
theorem Rq {uses:Int}{m:Nat}{rec:Brn→Int→Res}(hih:Bd uses rec m)(hadd:∀b a,a≤300→qL a (rec b a)):Bd uses (oD rec uses) (m+1):=by
 intro b a hok hm1;obtain⟨V,hV⟩:∃V,oD rec uses b a=V:=⟨_,rfl⟩;rw[hV];obtain⟨Q,hQ⟩:∃Q:D→bR→Nat→Prop,Q=(fun d H' _=>D.val d=some (.tup [.fz (enc V.p),.fz (.b V.ok),.fz (.b V.lim)])∧H' (7,0)=some ⟨[FD.i .i64 uses,.i .i64 V.added].map .fz,true,false⟩):=⟨_,rfl⟩;rw[←hQ];have kq:=Kp.mk hQ;clear hQ;unfold oD at hV;have hll:=hok.ll;have ha0:=hok.a0;have ha1:=hok.a1;have hr0:=hok.r0;have hr1:=hok.r1;have hu:=hok.u;have hcl:(∀f∈b.list,brF f)∧b.list.length≤100000:=⟨hok.br,ae⟩;have ko:=Kp.mk hok;have ki:=Kp.mk hih;have kd:=Kp.mk hadd;clear hok hih hadd;refine rv (N:=304) hm hZ3 35000 qWv UL Tryz.func35 rfl ?_;cases hM:nP b.list with
 |some p=>
  rw[hM]at hV;simp only at hV;subst hV;have hR:=H4 hM;clear hM
  repeat'(first|apply rx hcl|apply au|refine rq ?_|simp only[go_sem,hR,fg,bt,cT,bn,bh,Tryz.f35])
  all_goals(
   rw[kq.out];refine⟨?_,?_⟩
   ·simp only[go_sem,iq]
   ·simp only[go_sem,iq])
 |none=>
  rw[hM]at hV;simp only at hV;have hR:=H3 hM;obtain⟨K,hK⟩:∃K,nQ rec uses b a=K:=⟨_,rfl⟩;rw[hK]at hV
  repeat'(first|apply rx hcl|apply au|refine rq ?_|simp only[go_sem,hR,ig,fg,bt,cT,bn,bh,Tryz.f35])
  refine cI hm hZ3 35000 qWv (ι:=fW 3 4 fun w=>kY rec b a K (xZ.drop w)=V)
   ⟨fun q=>⟨frL [(0,.ptr (7,0) 0),(3,.ptr (35003,1) 0),(4,.ptr (35004,2) 0),(5,.fz (.b false)),(6,.fz (.b false)),(55,.full [.i .i64 1,.i .i64 4,.i .i64 2]),(56,eI 3),(57,eI q.i)],hpL [((35003,1),some ⟨[eS b.list,eS b.used,eS b.seen,eI b.rounds],true,false⟩),((35004,2),some ⟨[eI 0,eI 0,eI 0,.fz (.s []),.full []],true,false⟩),((7,0),some ⟨[eI uses,eI a],true,false⟩)],q.m⟩,fun q=>3-q.i⟩
   ⟨0,4,ae,ae,hV⟩ ah ?_ ?_
  ·refine bF ?_ ?_ ?_<;>simp only[go_sem]
   all_goals first|rfl|omega
  rintro⟨w,q0,hw,hq0,hP⟩
  try simp only at hw hq0 hP
  clear hR hM;rcases aA w 3 with hw3|hw3
  ·have hcase:w=0∨w=1∨w=2:=ae
   rcases hcase with rfl|rfl|rfl
   ·have hP2:(match ik 1 (b.list.drop 0) (b.used.drop 0) 0 with
     |some i=>jr rec b a i (b.list.getD i fQ)
     |none=>kY rec b a K (xZ.drop 1))=V:=hP
    obtain⟨X,hX⟩:∃X,ik 1 (b.list.drop 0) (b.used.drop 0) 0=X:=⟨_,rfl⟩;rw[hX]at hP2
    repeat'(first|apply au|refine rq ?_|simp only[go_sem,fg,bt,cT,bn,bh,Tryz.f35])
    refine cI hm hZ3 35000 qWv (ι:=fW b.list.length q0 fun i=>ik 1 (b.list.drop i) (b.used.drop i) i=X)
     ⟨fun q=>⟨frL [(0,.ptr (7,0) 0),(3,.ptr (35003,1) 0),(4,.ptr (35004,2) 0),(5,.fz (.b false)),(6,.fz (.b false)),(10,eI 1),(55,.full [.i .i64 1,.i .i64 4,.i .i64 2]),(56,eI 3),(57,eI 0),(62,eS b.list),(63,eI b.list.length),(64,eI q.i)],hpL [((35003,1),some ⟨[eS b.list,eS b.used,eS b.seen,eI b.rounds],true,false⟩),((35004,2),some ⟨[eI 0,eI 0,eI 0,.fz (.s []),.full []],true,false⟩),((7,0),some ⟨[eI uses,eI a],true,false⟩)],q.m⟩,fun q=>b.list.length-q.i⟩
     ⟨0,q0,ae,ae,hX⟩ ah ?_ ?_
    ·refine bF ?_ ?_ ?_<;>simp only[go_sem]
     all_goals first|rfl|omega
    rintro⟨i,q1,hi,hq1,hE⟩
    try simp only at hi hq1 hE
    rcases aA i b.list.length with h1|h1;rotate_left
    ·rw[uM h1]at hE;rw[←hE]at hP2;simp only at hP2;obtain rfl:i=b.list.length:=ae
     repeat'(first|apply au|refine rq ?_|simp only[go_sem,aC,fg,bt,cT,bn,bh,Tryz.f35])
     all_goals refine⟨⟨1,q1,ae,ae,hP2⟩,af,?_⟩
     all_goals refine bF ?_ ?_ ?_<;>simp only[go_sem]
     all_goals first|rfl|omega
    have hul:=ko.out.ul;have h2:i<b.used.length:=ae
    obtain⟨f,hf⟩:∃f,b.list[i]=f:=⟨_,rfl⟩;obtain⟨u,hu2⟩:∃u,b.used[i]=u:=⟨_,rfl⟩;have hfb:brF f:=ko.out.br f qQj;rw[uH h1 h2,hf,hu2]at hE;obtain⟨k,hk⟩:∃k,(bY f).1=k:=⟨_,rfl⟩;rw[hk]at hE;cases u with
    |true=>
     rw[az ak]at hE
     repeat'(first|apply au|refine rq ?_|simp only[go_sem,h1,h2,hf,hu2,hk,fg,bt,cT,bn,bh,Tryz.f35])
     all_goals refine⟨⟨i+1,q1+1,ae,ae,hE⟩,af,?_⟩
     all_goals refine bF ?_ ?_ ?_<;>simp only[go_sem]
     all_goals first|rfl|omega
    |false=>
     by_cases hkw:k=1;rotate_left
     ·rw[az (by simp[hkw])]at hE;have hkw':(k=1)=False:=aP hkw
      repeat'(first|apply rx hfb|apply au|refine rq ?_|simp only[go_sem,h1,h2,hf,hu2,hk,hkw',fg,bt,cT,bn,bh,Tryz.f35])
      all_goals refine⟨⟨i+1,q1+1,ae,ae,hE⟩,af,?_⟩
      all_goals refine bF ?_ ?_ ?_<;>simp only[go_sem]
      all_goals first|rfl|omega
     subst hkw;rw[aF ⟨rfl,rfl⟩]at hE;rw[←hE]at hP2;simp only at hP2;have hfg:b.list.getD i fQ=f:=by rw[av,ay h1,hf];rfl
     rw[hfg]at hP2;obtain⟨pb1,pb2,pb3,pb4⟩:=pV hfb;obtain⟨po,pq,pt,hPt⟩:∃o q t,bY f=(1,o,q,t):=⟨(bY f).2.1,(bY f).2.2.1,(bY f).2.2.2,qWd⟩;rw[hPt]at pb1 pb2 pb3 pb4;simp only at pb1 pb2 pb3 pb4;unfold jr at hP2;rw[hPt]at hP2;rw[aF rfl]at hP2;have hpo1:1≤po.length:=by have:=Ca (f:=f) (by rw[hPt]);rw[hPt]at this;exact this
     have hvi:b.used.isEmpty=false∧i+1≤b.used.length:=⟨qQv,ae⟩;by_cases hfu:300<a+po.length
     ·rw[aF hfu]at hP2;have hfT:(300<a+(po.length:Int))=True:=aU hfu
      repeat'(first|apply rx hfb|apply rx hvi|refine dJ.i (wL (cs:=b.used.map enc) (xs:=[FD.sl (b.used.map enc)]) rfl (xl (l:=b.used) ae) fun g1 n1 hg1 hn1=>?_)|refine dJ.i (sP (uses:=uses) aj ⟨ha0,ha1⟩ ae ?_)|apply au|refine rq ?_|simp only[go_sem,hfT,h1,h2,hf,hu2,hk,hPt,fg,bt,cT,bn,bh,Tryz.f35])
      all_goals(
       rw[kq.out,←hP2];refine⟨?_,?_⟩
       ·simp only[go_sem,iq,l3,ig]
       ·simp only[go_sem,iq,l3,ig])
     ·rw[az hfu]at hP2;have hfT:(300<a+(po.length:Int))=False:=aP hfu
      repeat'(first|apply rx hfb|apply rx hvi|refine dJ.i (wL (cs:=b.used.map enc) (xs:=[FD.sl (b.used.map enc)]) rfl (xl (l:=b.used) ae) fun g1 n1 hg1 hn1=>?_)|refine dJ.i (sP (uses:=uses) aj ⟨ha0,ha1⟩ ae ?_)|apply au|refine rq ?_|simp only[go_sem,hfT,h1,h2,hf,hu2,hk,hPt,fg,bt,cT,bn,bh,Tryz.f35])
      obtain⟨B',hB'⟩:∃B',eo (il b i) po=B':=⟨_,rfl⟩;have hok':ix uses B' (a+po.length):=by rw[←hB'];exact(ko.out.mark i).add pb1 rfl ae
      rw[hB']at hP2;obtain⟨r,hr⟩:∃r,rec B' (a+po.length)=r:=⟨_,rfl⟩;rw[hr]at hP2;have hrun:=ki.out B' (a+po.length) hok' ae;rw[hr]at hrun;have hsn:∀s∈b.seen,s.length≤1000000:=fun s hs=>by have:=ko.out.ss s hs;omega
      have hsl:=ko.out.sl;refine dJ.i (Gu (b:=b) (i:=i) (fs:=po) h2 ⟨ae,ae,ae,ae⟩ hsn aj (.inl rfl) hB' ?_)
      repeat'(first|apply au|refine rq ?_|simp only[go_sem,fg,bt,cT,bn,bh,Tryz.f35])
      refine dJ.i (sr (T:=7) (xs:=[enc B']) (cs:=[.i .i64 uses,.i .i64 (a+po.length)]) rfl hrun aj ?_)
      repeat'(first|apply au|refine rq ?_|simp only[go_sem,fg,bt,cT,bn,bh,Tryz.f35])
      all_goals(
       rw[kq.out,←hP2];refine⟨?_,?_⟩
       ·simp only[go_sem,iq,vD]
       ·simp only[go_sem,iq,vD])
   ·have hP2:(match ik 4 (b.list.drop 0) (b.used.drop 0) 0 with
     |some i=>jr rec b a i (b.list.getD i fQ)
     |none=>kY rec b a K (xZ.drop 2))=V:=hP
    obtain⟨X,hX⟩:∃X,ik 4 (b.list.drop 0) (b.used.drop 0) 0=X:=⟨_,rfl⟩;rw[hX]at hP2
    repeat'(first|apply au|refine rq ?_|simp only[go_sem,fg,bt,cT,bn,bh,Tryz.f35])
    refine cI hm hZ3 35000 qWv (ι:=fW b.list.length q0 fun i=>ik 4 (b.list.drop i) (b.used.drop i) i=X)
     ⟨fun q=>⟨frL [(0,.ptr (7,0) 0),(3,.ptr (35003,1) 0),(4,.ptr (35004,2) 0),(5,.fz (.b false)),(6,.fz (.b false)),(10,eI 4),(55,.full [.i .i64 1,.i .i64 4,.i .i64 2]),(56,eI 3),(57,eI 1),(62,eS b.list),(63,eI b.list.length),(64,eI q.i)],hpL [((35003,1),some ⟨[eS b.list,eS b.used,eS b.seen,eI b.rounds],true,false⟩),((35004,2),some ⟨[eI 0,eI 0,eI 0,.fz (.s []),.full []],true,false⟩),((7,0),some ⟨[eI uses,eI a],true,false⟩)],q.m⟩,fun q=>b.list.length-q.i⟩
     ⟨0,q0,ae,ae,hX⟩ ah ?_ ?_
    ·refine bF ?_ ?_ ?_<;>simp only[go_sem]
     all_goals first|rfl|omega
    rintro⟨i,q1,hi,hq1,hE⟩
    try simp only at hi hq1 hE
    rcases aA i b.list.length with h1|h1;rotate_left
    ·rw[uM h1]at hE;rw[←hE]at hP2;simp only at hP2;obtain rfl:i=b.list.length:=ae
     repeat'(first|apply au|refine rq ?_|simp only[go_sem,aC,fg,bt,cT,bn,bh,Tryz.f35])
     all_goals refine⟨⟨2,q1,ae,ae,hP2⟩,af,?_⟩
     all_goals refine bF ?_ ?_ ?_<;>simp only[go_sem]
     all_goals first|rfl|omega
    have hul:=ko.out.ul;have h2:i<b.used.length:=ae
    obtain⟨f,hf⟩:∃f,b.list[i]=f:=⟨_,rfl⟩;obtain⟨u,hu2⟩:∃u,b.used[i]=u:=⟨_,rfl⟩;have hfb:brF f:=ko.out.br f qQj;rw[uH h1 h2,hf,hu2]at hE;obtain⟨k,hk⟩:∃k,(bY f).1=k:=⟨_,rfl⟩;rw[hk]at hE;cases u with
    |true=>
     rw[az ak]at hE
     repeat'(first|apply au|refine rq ?_|simp only[go_sem,h1,h2,hf,hu2,hk,fg,bt,cT,bn,bh,Tryz.f35])
     all_goals refine⟨⟨i+1,q1+1,ae,ae,hE⟩,af,?_⟩
     all_goals refine bF ?_ ?_ ?_<;>simp only[go_sem]
     all_goals first|rfl|omega
    |false=>
     by_cases hkw:k=4;rotate_left
     ·rw[az (by simp[hkw])]at hE;have hkw':(k=4)=False:=aP hkw
      repeat'(first|apply rx hfb|apply au|refine rq ?_|simp only[go_sem,h1,h2,hf,hu2,hk,hkw',fg,bt,cT,bn,bh,Tryz.f35])
      all_goals refine⟨⟨i+1,q1+1,ae,ae,hE⟩,af,?_⟩
      all_goals refine bF ?_ ?_ ?_<;>simp only[go_sem]
      all_goals first|rfl|omega
     subst hkw;rw[aF ⟨rfl,rfl⟩]at hE;rw[←hE]at hP2;simp only at hP2;have hfg:b.list.getD i fQ=f:=by rw[av,ay h1,hf];rfl
     rw[hfg]at hP2;obtain⟨pb1,pb2,pb3,pb4⟩:=pV hfb;obtain⟨po,pq,pt,hPt⟩:∃o q t,bY f=(4,o,q,t):=⟨(bY f).2.1,(bY f).2.2.1,(bY f).2.2.2,qWd⟩;rw[hPt]at pb1 pb2 pb3 pb4;simp only at pb1 pb2 pb3 pb4;unfold jr at hP2;rw[hPt]at hP2;have hP3:(if(4:Int)=1 then _ else if(4:Int)=4 then(if 300<a+1 then l3 (a+1)else sL i (oS (e7 b.list)) (rec (eo (il b i) [gP pq pt (oS (e7 b.list))]) (a+1)))else _)=V:=hP2;rw[az ai,aF rfl]at hP3;have hvi:b.used.isEmpty=false∧i+1≤b.used.length:=⟨qQv,ae⟩;have hsn:∀s∈b.seen,s.length≤1000000:=fun s hs=>by have:=ko.out.ss s hs;omega
     have hsl:=ko.out.sl;by_cases hfu:300<a+1
     ·rw[aF hfu]at hP3;have hfT:(300<a+1)=True:=aU hfu
      repeat'(first|apply rx hfb|apply rx hvi|refine dJ.i (wL (cs:=b.used.map enc) (xs:=[FD.sl (b.used.map enc)]) rfl (xl (l:=b.used) ae) fun g1 n1 hg1 hn1=>?_)|refine dJ.i (sP (uses:=uses) aj ⟨ha0,ha1⟩ ae ?_)|apply au|refine rq ?_|simp only[go_sem,hfT,h1,h2,hf,hu2,hk,hPt,fg,bt,cT,bn,bh,Tryz.f35])
      all_goals(
       rw[kq.out,←hP3];refine⟨?_,?_⟩
       ·simp only[go_sem,iq,l3,ig]
       ·simp only[go_sem,iq,l3,ig])
     rw[az hfu]at hP3;have hfT:(300<a+1)=False:=aP hfu;obtain⟨qa,hqa,hab,has⟩:=pb4 ak;have hip:zQ pq pt ⟨[]⟩:=⟨qa,hqa,hab.ft,ae⟩;obtain⟨hf1,hf2,hf3⟩:=BE (e7 b.list);have hnl:=KZ ko.out.br;have hnb:(e7 b.list).length≤1000000000:=by
      have hbl:b.list.length≤1000:=ae
      have hbm:b.list.length*1000000≤1000*1000000:=bW _ hbl;omega
     have hnm:oS (e7 b.list)=ir (lu (e7 b.list) (e7 b.list).length 0):=rfl;obtain⟨NS,hNS⟩:∃NS,e7 b.list=NS:=⟨_,rfl⟩;rw[hNS]at hf1 hf2 hf3 hnb hnm hP3;obtain⟨KF,hKF⟩:∃KF,lu NS NS.length 0=KF:=⟨_,rfl⟩;rw[hKF]at hf1 hf2 hf3 hnm;rw[hnm]at hP3;obtain⟨nmAt,hnA⟩:∃nmAt:Nat→List UInt8,nmAt=fun k=>if k=0 then[]else(ir (k-1)).l:=⟨_,rfl⟩
     have hn0:nmAt 0=[]:=by rw[hnA];rfl
     have hns:∀k,nmAt (k+1)=(ir k).l:=fun k=>by rw[hnA];simp
     repeat'(first|apply rx hcl|apply rx hfb|apply rx hvi|refine dJ.i (wL (cs:=b.used.map enc) (xs:=[FD.sl (b.used.map enc)]) rfl (xl (l:=b.used) ae) fun g1 n1 hg1 hn1=>?_)|refine dJ.i (sP (uses:=uses) aj ⟨ha0,ha1⟩ ae ?_)|apply au|refine rq ?_|simp only[go_sem,hfT,h1,h2,hf,hu2,hk,hPt,hNS,fg,bt,cT,bn,bh,Tryz.f35])
     refine cI hm hZ3 35000 qWv (ι:=fW (KF+1) (g1+1) fun _=>True)
      ⟨fun q=>⟨frL [(0,.ptr (7,0) 0),(3,.ptr (35003,1) 0),(4,.ptr (35004,2) 0),(5,.fz (.b false)),(6,.fz (.b false)),(11,eI i),(15,.ptr (35015,q1+1) 0),(16,.fz (.b pt)),(20,.fz (.s (nmAt q.i))),(21,eS NS),(22,eI q.i)],
       hpL [((35003,1),some ⟨[eS b.list,.arr (58007,g1) 1 0 b.used.length,eS b.seen,eI b.rounds],true,false⟩),((58007,g1),some ⟨(b.used.map (D.fz∘enc)).set i (.fz (.b true)),false,b.used.isEmpty⟩),
        ((35015,q1+1),some ⟨[.fz (.i .i64 pq.kind),.fz (.s pq.name.l),.fz (.sl (pq.words.map enc)),.fz (.sl (pq.subs.map enc))],true,false⟩),((35004,2),some ⟨[.fz (.i .i64 0),.fz (.i .i64 0),.fz (.i .i64 0),.fz (.s []),.full []],true,false⟩),((7,0),some ⟨[.fz (.i .i64 uses),.fz (.i .i64 (a+1))],true,false⟩)],q.m⟩,fun q=>KF+1-q.i⟩
      ⟨0,n1,ae,ae,trivial⟩ ah ?_ ?_
     ·refine bF ?_ ?_ ?_<;>simp only[go_sem,hn0]
      all_goals first|rfl|omega|(refine⟨?_,?_⟩<;>omega)
     rintro⟨k,m2,hk2,hm2,_⟩
     try simp only at hk2 hm2
     have ei0:(xK 0).l=fV 0:=wP 0;have ei1:(xK ((k:Int))).l=fV k:=wP k;have hdl0:=ta 0;have hdl1:=ta k;have hK2:(0:Int)≤k∧(k:Int)≤1000000000000:=ae
     cases k with
     |zero=>
      repeat'(first|apply rx hK2|apply au|refine rq ?_|simp only[go_sem,hn0,ei0,fg,bt,cT,bn,bh,Tryz.f35])
      all_goals refine⟨⟨1,m2,ae,ae,trivial⟩,af,?_⟩
      all_goals refine bF ?_ ?_ ?_<;>simp only[go_sem,hns,ir]
      all_goals first|rfl|omega
     |succ k=>
      have hne:((ir k).l=[])=False:=aP (by unfold ir;simp);rcases aA k KF with h3|h3
      ·have hin:(ir k∈NS)=True:=aU (hf3 k h3);have hK3:(0:Int)≤(k:Int)+1∧(k:Int)+1≤1000000000000:=ae
       have ei2:(xK ((k:Int)+1)).l=fV (k+1):=wP (k+1)
       repeat'(first|apply rx hK2|apply rx hK3|apply au|refine rq ?_|simp only[go_sem,hns,hne,hin,ei2,fg,bt,cT,bn,bh,Tryz.f35])
       all_goals refine⟨⟨k+2,m2,ae,ae,trivial⟩,af,?_⟩
       all_goals refine bF ?_ ?_ ?_<;>simp only[go_sem,hns,ir]
       all_goals first|rfl|omega|(exact a8 (fun x:Int=>D.fz (FD.i .i64 x)) ae)
      ·obtain rfl:k=KF:=ae
       have hin:(ir k∈NS)=False:=aP hf2;have hns2:=hns k;have hib:=NE (t:=pt) (nm:=ir k) hqa hab has;have hig:tX pq pt (ir k)=gP pq pt (ir k):=rfl;have hip2:zQ pq pt (ir k):=hip;obtain⟨I,hI⟩:∃I,gP pq pt (ir k)=I:=⟨_,rfl⟩;rw[hI]at hib hig hP3;obtain⟨B',hB'⟩:∃B',eo (il b i) [I]=B':=⟨_,rfl⟩;have hok':ix uses B' (a+1):=by rw[←hB'];exact(ko.out.mark i).add (fs:=[I]) (fun y hy=>by rw[a7.1 hy];exact hib) rfl ae
       rw[hB']at hP3;obtain⟨r,hr⟩:∃r,rec B' (a+1)=r:=⟨_,rfl⟩;rw[hr]at hP3;have hrun:=ki.out B' (a+1) hok' ae;rw[hr]at hrun;obtain⟨c,hc⟩:∃c,ir k=c:=⟨_,rfl⟩;rw[hc]at hne hin hig hip2 hP3 hns2
       repeat'(first|apply rx hip2|refine ru (id:=28) hm hZ3 35000 qWv Ei ?_|refine dJ.i (Gu (b:=b) (i:=i) (fs:=[I]) h2 ⟨ae,ae,ae,ak⟩ hsn aj (.inr (by simp only[aM,aQ,jf])) hB' ?_)|refine dJ.i (sr (T:=7) (xs:=[enc B']) (cs:=[.i .i64 uses,.i .i64 (a+1)]) rfl hrun aj ?_)|apply au|refine rq ?_|simp only[go_sem,Ei,hns2,hne,hin,hig,fg,bt,cT,bn,bh,Tryz.f35])
       all_goals(
        rw[kq.out,←hP3];refine⟨?_,?_⟩
        ·simp only[go_sem,iq,sL]
        ·simp only[go_sem,iq,sL])
   ·have hP2:(match ik 2 (b.list.drop 0) (b.used.drop 0) 0 with
     |some i=>jr rec b a i (b.list.getD i fQ)
     |none=>kY rec b a K (xZ.drop 3))=V:=hP
    obtain⟨X,hX⟩:∃X,ik 2 (b.list.drop 0) (b.used.drop 0) 0=X:=⟨_,rfl⟩;rw[hX]at hP2
    repeat'(first|apply au|refine rq ?_|simp only[go_sem,fg,bt,cT,bn,bh,Tryz.f35])
    refine cI hm hZ3 35000 qWv (ι:=fW b.list.length q0 fun i=>ik 2 (b.list.drop i) (b.used.drop i) i=X)
     ⟨fun q=>⟨frL [(0,.ptr (7,0) 0),(3,.ptr (35003,1) 0),(4,.ptr (35004,2) 0),(5,.fz (.b false)),(6,.fz (.b false)),(10,eI 2),(55,.full [.i .i64 1,.i .i64 4,.i .i64 2]),(56,eI 3),(57,eI 2),(62,eS b.list),(63,eI b.list.length),(64,eI q.i)],hpL [((35003,1),some ⟨[eS b.list,eS b.used,eS b.seen,eI b.rounds],true,false⟩),((35004,2),some ⟨[eI 0,eI 0,eI 0,.fz (.s []),.full []],true,false⟩),((7,0),some ⟨[eI uses,eI a],true,false⟩)],q.m⟩,fun q=>b.list.length-q.i⟩
     ⟨0,q0,ae,ae,hX⟩ ah ?_ ?_
    ·refine bF ?_ ?_ ?_<;>simp only[go_sem]
     all_goals first|rfl|omega
    rintro⟨i,q1,hi,hq1,hE⟩
    try simp only at hi hq1 hE
    rcases aA i b.list.length with h1|h1;rotate_left
    ·rw[uM h1]at hE;rw[←hE]at hP2;simp only at hP2;obtain rfl:i=b.list.length:=ae
     repeat'(first|apply au|refine rq ?_|simp only[go_sem,aC,fg,bt,cT,bn,bh,Tryz.f35])
     all_goals refine⟨⟨3,q1,ae,ae,hP2⟩,af,?_⟩
     all_goals refine bF ?_ ?_ ?_<;>simp only[go_sem]
     all_goals first|rfl|omega
    have hul:=ko.out.ul;have h2:i<b.used.length:=ae
    obtain⟨f,hf⟩:∃f,b.list[i]=f:=⟨_,rfl⟩;obtain⟨u,hu2⟩:∃u,b.used[i]=u:=⟨_,rfl⟩;have hfb:brF f:=ko.out.br f qQj;rw[uH h1 h2,hf,hu2]at hE;obtain⟨k,hk⟩:∃k,(bY f).1=k:=⟨_,rfl⟩;rw[hk]at hE;cases u with
    |true=>
     rw[az ak]at hE
     repeat'(first|apply au|refine rq ?_|simp only[go_sem,h1,h2,hf,hu2,hk,fg,bt,cT,bn,bh,Tryz.f35])
     all_goals refine⟨⟨i+1,q1+1,ae,ae,hE⟩,af,?_⟩
     all_goals refine bF ?_ ?_ ?_<;>simp only[go_sem]
     all_goals first|rfl|omega
    |false=>
     by_cases hkw:k=2;rotate_left
     ·rw[az (by simp[hkw])]at hE;have hkw':(k=2)=False:=aP hkw
      repeat'(first|apply rx hfb|apply au|refine rq ?_|simp only[go_sem,h1,h2,hf,hu2,hk,hkw',fg,bt,cT,bn,bh,Tryz.f35])
      all_goals refine⟨⟨i+1,q1+1,ae,ae,hE⟩,af,?_⟩
      all_goals refine bF ?_ ?_ ?_<;>simp only[go_sem]
      all_goals first|rfl|omega
     subst hkw;rw[aF ⟨rfl,rfl⟩]at hE;rw[←hE]at hP2;simp only at hP2;have hfg:b.list.getD i fQ=f:=by rw[av,ay h1,hf];rfl
     rw[hfg]at hP2;obtain⟨pb1,pb2,pb3,pb4⟩:=pV hfb;obtain⟨po,pq,pt,hPt⟩:∃o q t,bY f=(2,o,q,t):=⟨(bY f).2.1,(bY f).2.2.1,(bY f).2.2.2,qWd⟩;rw[hPt]at pb1 pb2 pb3 pb4;simp only at pb1 pb2 pb3 pb4;unfold jr at hP2;rw[hPt]at hP2;have hP3:(if(2:Int)=1 then _ else if(2:Int)=4 then _ else kH rec (il b i) i po [] a)=V:=hP2;rw[az ai,az ai]at hP3;have hvi:b.used.isEmpty=false∧i+1≤b.used.length:=⟨qQv,ae⟩;have hsn:∀s∈b.seen,s.length≤1000000:=fun s hs=>by have:=ko.out.ss s hs;omega
     have hsl:=ko.out.sl;obtain⟨U,hU⟩:∃U,b.used.set i true=U:=⟨_,rfl⟩;have hUl:U.length=b.used.length:=by rw[←hU,cY]
     have hUe:U.isEmpty=false:=by
      cases hb:U with
      |nil=>rw[hb]at hUl;simp at hUl;omega
      |cons=>rfl
     have hUc:(b.used.map (D.fz∘enc)).set i (.fz (.b true))=bA (U.map enc):=by rw[ia,←hU,fZ];rfl
     have em:il b i=⟨b.list,U,b.seen,b.rounds⟩:=by rw[←hU];rfl
     obtain⟨b1,hb1⟩:∃b1,il b i=b1:=⟨_,rfl⟩;rw[hb1]at hP3 em;have e1:enc b1= .agg [.sl (b.list.map enc),.sl (U.map enc),.sl (b.seen.map enc),.i .i64 b.rounds]:=by rw[em];rfl
     have hb1l:b1.list=b.list:=by rw[em]
     have hb1u:b1.used=U:=by rw[em]
     have hb1s:b1.seen=b.seen:=by rw[em]
     repeat'(first|apply rx hfb|apply rx hvi|refine dJ.i (wL (cs:=b.used.map enc) (xs:=[FD.sl (b.used.map enc)]) rfl (xl (l:=b.used) ae) fun g1 n1 hg1 hn1=>?_)|apply au|refine rq ?_|simp only[go_sem,h1,h2,hf,hu2,hk,hPt,fg,bt,cT,bn,bh,Tryz.f35])
     refine cI hm hZ3 35000 qWv (ι:=Tp po.length (g1+1) fun j subs a'=>kH rec b1 i (po.drop j) subs a'=V∧a≤a'∧a'≤300∧subs.length=j)
      ⟨fun q=>⟨frL [(0,.ptr (7,0) 0),(3,.ptr (35003,1) 0),(4,.ptr (35004,2) 0),(5,.fz (.b false)),(6,.fz (.b false)),(11,eI i),(26,.ow (35184,q.g) 5 (q.subs.map enc)),(158,eS po),(159,eI po.length),(160,eI q.i)],
       hpL [((35003,1),some ⟨[eS b.list,eS U,eS b.seen,eI b.rounds],true,false⟩),((35004,2),some ⟨[eI 0,eI 0,eI 0,.fz (.s []),.full []],true,false⟩),((7,0),some ⟨[eI uses,eI q.a],true,false⟩),((35184,q.g),some tok)],q.m⟩,fun q=>po.length-q.i⟩
      ⟨0,[],a,n1,n1+1,ae,ae,ae,⟨hP3,ae,ae,rfl⟩⟩ ah ?_ ?_
     ·refine eX [] [(35184,n1)] [((58007,g1),U.map enc)] ?_ ?_ ?_ ?_ ?_<;>simp only[go_sem,hUc,hUl,hvi.1]
      all_goals first|rfl|omega|(refine⟨?_,?_⟩<;>omega)
     rintro⟨j,subs,a',g,m',hj,hg,hm',hB0,hB1,hB2,hB3⟩
     try simp only at hj hg hm' hB0 hB1 hB2 hB3
     rcases aA j po.length with h3|h3;rotate_left
     ·have hB9:=hB0;rw[cL h3,kH]at hB9;obtain rfl:j=po.length:=ae
      repeat'(first|apply au|refine rq ?_|simp only[go_sem,aC,fg,bt,cT,bn,bh,Tryz.f35])
      all_goals(
       rw[kq.out,←hB9];refine⟨?_,?_⟩
       ·simp only[go_sem,iq]
       ·simp only[go_sem,iq])
     have hB9:=hB0;rw[JH h3]at hB9;obtain⟨x,hx⟩:∃x,po[j]=x:=⟨_,rfl⟩;have hxb:brF x:=pb1 x (by rw[←hx];exact aT h3);rw[hx]at hB9;by_cases hfu:300<a'+1
     ·rw[aF hfu]at hB9;have hfT:(300<a'+1)=True:=aU hfu
      repeat'(first|refine dJ.i (sP (uses:=uses) aj ⟨ae,hB2⟩ ae ?_)|apply au|refine rq ?_|simp only[go_sem,hfT,h3,hx,fg,bt,cT,bn,bh,Tryz.f35])
      all_goals(
       rw[kq.out,←hB9];refine⟨?_,?_⟩
       ·simp only[go_sem,iq,l3,ig]
       ·simp only[go_sem,iq,l3,ig])
     rw[az hfu]at hB9;have hfT:(300<a'+1)=False:=aP hfu;obtain⟨B',hB'⟩:∃B',eo b1 [x]=B':=⟨_,rfl⟩;have hok':ix uses B' (a'+1):=by rw[←hB',←hb1];exact((ko.out.mark i).mono hB1 hB2).add (fs:=[x]) (fun y hy=>by rw[a7.1 hy];exact hxb) rfl ae
     rw[hB']at hB9;obtain⟨r,hr⟩:∃r,rec B' (a'+1)=r:=⟨_,rfl⟩;rw[hr]at hB9;have hrun:=ki.out B' (a'+1) hok' ae;rw[hr]at hrun;have had:=kd.out B' (a'+1) ae;rw[hr]at had;obtain⟨had1,had2⟩:=had
     repeat'(first|refine dJ.i (sP (uses:=uses) aj ⟨ae,hB2⟩ ae ?_)|apply au|refine rq ?_|simp only[go_sem,hfT,h3,hx,fg,bt,cT,bn,bh,Tryz.f35])
     refine dJ.i (wi (b:=b1) (fs:=[x]) (by rw[hb1l,hb1u,hb1s,hUl];exact⟨ae,ae,ae,ak⟩) (by rw[hb1s];exact hsn) (by rw[e1];simp only[aM,aQ,jf];rfl) ?_);rw[hB']
     repeat'(first|apply au|refine rq ?_|simp only[go_sem,fg,bt,cT,bn,bh,Tryz.f35])
     refine dJ.i (sr (T:=7) (xs:=[enc B']) (cs:=[.i .i64 uses,.i .i64 (a'+1)]) rfl hrun aj ?_);cases hrk:r.ok with
     |false=>
      rw[aF hrk]at hB9
      repeat'(first|apply au|refine rq ?_|simp only[go_sem,hrk,fg,bt,cT,bn,bh,Tryz.f35])
      all_goals(
       rw[kq.out,←hB9];refine⟨?_,?_⟩
       ·simp only[go_sem,iq,ig]
       ·simp only[go_sem,iq,ig])
     |true=>
      rw[az (by rw[hrk];simp)]at hB9
      repeat'(first|apply au|refine rq ?_|simp only[go_sem,hrk,fg,bt,cT,bn,bh,Tryz.f35])
      all_goals refine⟨⟨j+1,subs++[r.p],r.added,m'+2,m'+3,ae,ae,ae,⟨hB9,ae,had2 hrk,by simp[hB3]⟩⟩,af,?_⟩
      all_goals refine eX [] [] [] ?_ ?_ ?_ ?_ ?_<;>simp only[go_sem,aE,iq]
      all_goals first|rfl|omega
  ·obtain rfl:w=3:=ae
   have hG:nQ rec uses b a=V:=hK.trans hP;unfold nQ at hG;by_cases hru:b.rounds=uses
   ·rw[aF hru]at hG;have hrT:(b.rounds=uses)=True:=aU hru
    repeat'(first|refine ru (id:=44) hm hZ3 35000 qWv zO ?_|apply au|refine rq ?_|simp only[go_sem,zO,hrT,ck,fg,bt,cT,bn,bh,Tryz.f35])
    all_goals(
     rw[kq.out,←hG];refine⟨?_,?_⟩
     ·simp only[go_sem,iq,ig]
     ·simp only[go_sem,iq,ig])
   rw[az hru]at hG;have hrT:(b.rounds=uses)=False:=aP hru;have hsn:∀s∈b.seen,s.length≤1000000:=fun s hs=>by have:=ko.out.ss s hs;omega
   have hsl:=ko.out.sl;have hul:=ko.out.ul;obtain⟨NS,hNS⟩:∃NS,e7 b.list=NS:=⟨_,rfl⟩;obtain⟨CS,hCS0⟩:∃CS,oN b.list=CS:=⟨_,rfl⟩;rw[hCS0]at hG;obtain⟨c0,hc0⟩:∃c0:Brn,c0=⟨b.list,b.used,b.seen,b.rounds+1⟩:=⟨_,rfl⟩;rw[←hc0]at hG;have hS0:AQ uses a b.list.length ⟨c0,[],a⟩:=by refine⟨?_,by rw[hc0];exact aI _,ak⟩;rw[hc0];exact⟨ko.out.br,ko.out.ll,ko.out.ul,ko.out.sl,ko.out.ss,af,af,ko.out.u,ko.out.a0,ko.out.a1⟩
   have hcs:(((NS.length:Int)=0)=True∧CS=[⟨[99,48]⟩])∨(((NS.length:Int)=0)=False∧CS=NS):=by
    rw[←hCS0];unfold oN;rw[hNS];by_cases h:NS=[]
    ·left;rw[aF h,h];exact⟨ak,rfl⟩
    ·right;rw[az h];exact⟨aP fun h2=>h (bG ae),rfl⟩
   have hcb:CS.length≤1000000000:=by
    have hbl:b.list.length≤1000:=ae
    have hbm:b.list.length*1000000≤1000*1000000:=bW _ hbl;have hnl:=KZ ko.out.br;rw[hNS]at hnl;rcases hcs with⟨_,h⟩|⟨_,h⟩
    ·rw[h];simp
    ·rw[h];omega
   rcases hcs with⟨hnT,hCS⟩|⟨hnT,hCS⟩
   all_goals(
    repeat'(first|apply rx hcl|refine ru (id:=44) hm hZ3 35000 qWv zO ?_|apply au|refine rq ?_|simp only[go_sem,zO,hrT,hNS,hnT,fg,bt,cT,bn,bh,Tryz.f35])
    refine dJ.i (Fp (pJ CS c0 b.list 0) (b:=b) (B':=b) (fs:=[]) ⟨ae,ae,ae,ak⟩ hsn Ou rfl fun r g n1 h1 h2 h3 h4=>?_)
    repeat'(first|apply au|refine rq ?_|simp only[go_sem,hNS,hnT,fg,bt,cT,bn,bh,Tryz.f35])
    refine cI hm hZ3 35000 qWv (ι:=EK b.list.length (n1+2) fun i s=>mF rec (iQ CS (b.list.drop i) i s)=V∧AQ uses a b.list.length s)
     ⟨fun q=>⟨frL [(0,.ptr (7,0) 0),(3,.ptr (35003,1) 0),(4,.ptr (35004,2) 0),(5,.fz (.b false)),(6,.fz (.b false)),(32,eS CS),(33,.arr (35270,q.z) 5 0 q.s.steps.length),(34,.ptr (35034,n1) 0),(213,eS b.list),(214,eI b.list.length),(215,eI q.i)],hpL [((35003,1),some ⟨[eS b.list,eS b.used,eS b.seen,eI b.rounds],true,false⟩),((35004,2),some ⟨[eI 0,eI 0,eI 0,.fz (.s []),.full []],true,false⟩),((7,0),some ⟨[eI uses,eI q.s.added],true,false⟩),((35034,n1),some ⟨[eS q.s.c.list,eS q.s.c.used,.arr (36043,q.r) 1 0 q.s.c.seen.length,eI q.s.c.rounds],true,false⟩),((36043,q.r),some ⟨fT (pJ CS q.s.c (b.list.drop q.i) q.i) q.g q.s.c.seen,false,q.s.c.seen.isEmpty⟩),((64007,q.g),some tok),((35270,q.z),some ⟨bA (q.s.steps.map enc),false,q.s.steps.isEmpty⟩)],q.m⟩,fun q=>b.list.length-q.i⟩
     ⟨0,⟨c0,[],a⟩,r,g,n1+1,n1+2,ae,ae,ae,ae,ae,⟨hG,hS0⟩⟩ ah ?_ ?_
    ·refine eX [] [(35270,n1+1)] [] ?_ ?_ ?_ ?_ ?_<;>simp only[go_sem,hCS,hc0,bC]
     all_goals repeat'(first|apply au|omega|rfl|exact PK ae|simp only[go_sem])
     all_goals trace_state
    rintro⟨i,⟨c,st,ad⟩,r,g,z,m2,hi,hr,hg,hz,hm2,hq,hS⟩
    try simp only at hi hr hg hz hm2 hq hS
    obtain⟨hS1,hS2,hS3⟩:=hS
    try simp only at hS1 hS2 hS3
    have hsa:=hS1.a0;have hsb:=hS1.a1;have hcl2:=hS1.ll;have hcu:=hS1.ul;have hcs2:=hS1.sl;rcases aA i b.list.length with h5|h5
    ·obtain⟨f,hf⟩:∃f,b.list[i]=f:=⟨_,rfl⟩;have hfb:brF f:=hcl.1 f (by rw[←hf];exact aT h5);have hq9:=hq;rw[Ld h5,hf]at hq9;obtain⟨k,hk⟩:∃k,(bY f).1=k:=⟨_,rfl⟩;by_cases hk3:k=3;rotate_left
     ·have hk3':(k=3)=False:=aP hk3;rw[hk,az hk3]at hq9;have hnx:=Rx (CS:=CS) (c:=c) (k:=i) h5 (by rw[hf,hk];exact hk3)
      repeat'(first|apply rx hfb|apply au|refine rq ?_|simp only[go_sem,h5,hf,hk,hk3',fg,bt,cT,bn,bh,Tryz.f35])
      all_goals refine⟨⟨i+1,⟨c,st,ad⟩,r,g,z,m2+1,ae,ae,ae,ae,ae,⟨hq9,hS1,hS2,hS3⟩⟩,af,?_⟩
      all_goals refine bF ?_ ?_ ?_<;>simp only[go_sem,hnx]
      all_goals first|rfl|omega
     subst hk3;rw[aF hk]at hq9;obtain⟨po,pq,pt,hPt⟩:∃o q t,bY f=(3,o,q,t):=⟨(bY f).2.1,(bY f).2.2.1,(bY f).2.2.2,qWd⟩;obtain⟨pb1,pb2,pb3,pb4⟩:=pV hfb;rw[hPt]at pb4 hq9;obtain⟨qa,hqa,hab,has⟩:=pb4 ak
     try simp only at hq9 hqa
     have hnx:=Qz (CS:=CS) (c:=c) (k:=i) h5 (by rw[hf,hPt]);have hq8:mF rec ((jt pq pt i (CS.drop 0) ⟨c,st,ad⟩).bind (iQ CS (b.list.drop (i+1)) (i+1)))=V:=hq9
     repeat'(first|apply rx hfb|apply au|refine rq ?_|simp only[go_sem,h5,hf,hk,hPt,fg,bt,cT,bn,bh,Tryz.f35])
     refine cI hm hZ3 35000 qWv (ι:=EK CS.length (m2+2) fun j s=>mF rec ((jt pq pt i (CS.drop j) s).bind (iQ CS (b.list.drop (i+1)) (i+1)))=V∧AQ uses a b.list.length s)
      ⟨fun q=>⟨frL [(0,.ptr (7,0) 0),(3,.ptr (35003,1) 0),(4,.ptr (35004,2) 0),(5,.fz (.b false)),(6,.fz (.b false)),(32,eS CS),(33,.arr (35270,q.z) 5 0 q.s.steps.length),(34,.ptr (35034,n1) 0),(213,eS b.list),(214,eI b.list.length),(35,eI i),(39,.ptr (35039,m2+1) 0),(40,.fz (.b pt)),(215,eI i),(230,eS CS),(231,eI CS.length),(232,eI q.i)],
       hpL [((35003,1),some ⟨[eS b.list,eS b.used,eS b.seen,eI b.rounds],true,false⟩),((35004,2),some ⟨[eI 0,eI 0,eI 0,.fz (.s []),.full []],true,false⟩),((7,0),some ⟨[eI uses,eI q.s.added],true,false⟩),((35034,n1),some ⟨[eS q.s.c.list,eS q.s.c.used,.arr (36043,q.r) 1 0 q.s.c.seen.length,eI q.s.c.rounds],true,false⟩),((36043,q.r),some ⟨fT (pK CS q.s.c (CS.drop q.i) i (b.list.drop (i+1))) q.g q.s.c.seen,false,q.s.c.seen.isEmpty⟩),((64007,q.g),some tok),((35270,q.z),some ⟨bA (q.s.steps.map enc),false,q.s.steps.isEmpty⟩),((35039,m2+1),some ⟨(qcD pq),true,false⟩)],q.m⟩,fun q=>CS.length-q.i⟩
      ⟨0,⟨c,st,ad⟩,r,g,z,m2+2,ae,ae,ae,ae,ae,⟨hq8,hS1,hS2,hS3⟩⟩ ah ?_ ?_
     ·refine bF ?_ ?_ ?_<;>simp only[go_sem,hnx,bC]
      all_goals first|rfl|omega
     rintro⟨j,⟨c,st,ad⟩,r,g,z,m3,hj,hr,hg,hz,hm3,hq,hS⟩
     try simp only at hj hr hg hz hm3 hq hS
     obtain⟨hS1,hS2,hS3⟩:=hS
     try simp only at hS1 hS2 hS3
     have hsa:=hS1.a0;have hsb:=hS1.a1;have hcl2:=hS1.ll;have hcu:=hS1.ul;have hcs2:=hS1.sl;rcases aA j CS.length with h6|h6
     ·obtain⟨w,hx⟩:∃w,CS[j]=w:=⟨_,rfl⟩;have his:i<c.seen.length:=ae
      obtain⟨Si,hSi⟩:∃Si,c.seen[i]=Si:=⟨_,rfl⟩;have hgD:c.seen.getD i []=Si:=by rw[av,ay his,hSi];rfl
      have hq9:=hq;rw[Le h6,hx]at hq9;simp only[hgD]at hq9;obtain⟨kk,hkk⟩:∃kk,pK CS c (CS.drop j) i (b.list.drop (i+1))=kk:=⟨_,rfl⟩;have hrow:i+1≤(fT kk g c.seen).length∧c.seen.isEmpty=false:=⟨by rw[mq];omega,by cases hb:c.seen with|nil=>rw[hb]at his;simp at his|cons=>rfl⟩;by_cases hin:w∈Si
      ·rw[aF hin]at hq9;have hinT:(w∈Si)=True:=aU hin;have hnx:=Ry (CS:=CS) (c:=c) (ws:=CS) (i:=i) (fs:=b.list.drop (i+1)) h6 (by rw[hx,hgD];exact hin);rw[hkk]at hnx;have hgt:=uO (k:=kk) (g:=g) his;rw[hSi]at hgt;by_cases hik:i=kk
       ·rw[aF hik]at hgt
        repeat'(first|apply rx hrow|apply au|refine rq ?_|simp only[go_sem,hkk,hx,hinT,h6,hgt,fg,bt,cT,bn,bh,Tryz.f35])
        all_goals refine⟨⟨j+1,⟨c,st,ad⟩,r,g,z,m3,ae,ae,ae,ae,ae,⟨hq9,hS1,hS2,hS3⟩⟩,af,?_⟩
        all_goals refine bF ?_ ?_ ?_<;>simp only[go_sem,←hnx]
        all_goals first|rfl|omega
       ·rw[az hik]at hgt
        repeat'(first|apply rx hrow|apply au|refine rq ?_|simp only[go_sem,hkk,hx,hinT,h6,hgt,fg,bt,cT,bn,bh,Tryz.f35])
        all_goals refine⟨⟨j+1,⟨c,st,ad⟩,r,g,z,m3,ae,ae,ae,ae,ae,⟨hq9,hS1,hS2,hS3⟩⟩,af,?_⟩
        all_goals refine bF ?_ ?_ ?_<;>simp only[go_sem,←hnx]
        all_goals first|rfl|omega
      ·rw[az hin]at hq9;have hinT:(w∈Si)=False:=aP hin;have hnx:=QB (CS:=CS) (c:=c) (ws:=CS) (i:=i) (fs:=b.list.drop (i+1)) h6 (by rw[hx,hgD];exact hin);have hki:kk=i:=hkk.symm.trans hnx;have hgt:=uO (k:=kk) (g:=g) his;rw[hSi,aF hki.symm]at hgt;by_cases hfu:300<ad+1
       ·rw[aF hfu]at hq9;have hfT:(300<ad+1)=True:=aU hfu;have hq7:l3 (ad+1)=V:=hq9
        repeat'(first|apply rx hrow|refine dJ.i (sP (uses:=uses) aj ⟨hsa,hsb⟩ ae ?_)|apply au|refine rq ?_|simp only[go_sem,hfT,hkk,hx,hinT,h6,hgt,fg,bt,cT,bn,bh,Tryz.f35])
        all_goals(
         rw[kq.out,←hq7];refine⟨?_,?_⟩
         ·simp only[go_sem,iq,l3,ig]
         ·simp only[go_sem,iq,l3,ig])
       rw[az hfu]at hq9;have hfT:(300<ad+1)=False:=aP hfu;have hib:=NE (t:=pt) (nm:=w) hqa hab has;have hig:tX pq pt w=gP pq pt w:=rfl;have hip:zQ pq pt w:=⟨qa,hqa,hab.ft,ae⟩;obtain⟨I,hI⟩:∃I,gP pq pt w=I:=⟨_,rfl⟩;rw[hI]at hib hig hq9;obtain⟨S1,hSS⟩:∃S1,c.seen.set i (Si++[w])=S1:=⟨_,rfl⟩;have hc1:saw c i w=⟨c.list,c.used,S1,c.rounds⟩:=by unfold saw;rw[hgD,hSS]
       have hok':ix uses (eo ⟨c.list,c.used,S1,c.rounds⟩ [I]) (ad+1):=by rw[←hc1];exact hS1.saw his hib ae
       have hc1n:S1.length=c.seen.length:=by rw[←hSS,cY]
       rw[hc1]at hq9;have hsw:∀id:Abs.Id,D.toFDs ((fT kk g c.seen).set i (.ow id 1 (Si.map enc++[.s w.l])))=some (S1.map enc):=fun id=>by rw[←hSS];have:=Qi (k:=kk) (g:=g) (i:=i) (es:=1) (id:=id) (S:=c.seen) (x:=Si++[w]) his;rw[aE]at this;exact this
       have hsn1:∀s∈S1,s.length≤1000000:=fun s hs=>by
        rw[←hSS]at hs;rcases List.mem_or_eq_of_mem_set hs with h|h
        ·have:=hS1.ss s h;omega
        ·have:=hS1.ss Si (by rw[←hSi];exact aT his);rw[h,aD,bU];omega
       have hSl:Si.length≤1000:=by have:=hS1.ss Si (by rw[←hSi];exact aT his);omega
       obtain⟨B',hB'⟩:∃B',eo ⟨c.list,c.used,S1,c.rounds⟩ [I]=B':=⟨_,rfl⟩;have hBl:B'.list.length=c.list.length+1:=by rw[←hB'];unfold eo;simp
       have hrow2:c.seen.isEmpty=false∧i+1≤(fT kk g c.seen).length:=⟨hrow.2,hrow.1⟩;have hst:st.length*5≤(bA (st.map enc)).length∧fits (st.length+1) 64:=⟨by rw[yq];exact aI _,dZ ae ai⟩;have hstk:(bA (st.map enc)).take (st.length*5)=bA (st.map enc):=bV (by rw[yq];exact aI _);have hse:c.seen.isEmpty=true→S1=[]:=fun h=>by rw[hrow.2]at h;cases h
       have hlen1:c.list.length≤100000∧c.used.length≤100000∧S1.length≤100000∧[I].length≤100000:=⟨ae,ae,ae,ak⟩;rw[hB']at hq9 hok'
       repeat'(first|refine dJ.i (Tx (pK CS B' (CS.drop (j+1)) i (b.list.drop (i+1))) (b:=⟨c.list,c.used,S1,c.rounds⟩) (B':=B') (fs:=[I]) hlen1 hsn1 hB' aj hse (hsw (35256,m3)) hc1n.symm (by simp only[aM,aQ,jf]) fun r4 g4 n4 h11 h12 h13 h14=>?_)|apply rx hrow|apply rx hrow2|apply rx hst|apply rx hip|refine ru (id:=63) hm hZ3 35000 qWv Ej ?_|refine ru (id:=64) hm hZ3 35000 qWv Ek ?_|refine dJ.i (sP (uses:=uses) aj ⟨hsa,hsb⟩ ae ?_)|apply au|refine rq ?_|simp only[go_sem,hstk,Ej,Ek,hfT,hig,hkk,hx,hinT,h6,hgt,fg,bt,cT,bn,bh,Tryz.f35])
       all_goals refine⟨⟨j+1,⟨B',st++[.mk 4 i 0 w []],ad+1⟩,r4,g4,n4,n4+1,ae,ae,ae,ae,ae,⟨hq9,hok',af,qQo⟩⟩,af,?_⟩
       all_goals refine bF ?_ ?_ ?_<;>simp only[go_sem,aE,C',Sh,eK]
       all_goals first|rfl|omega
     ·have hq9:=hq;rw[cL h6,jt]at hq9;have hq8:mF rec (iQ CS (b.list.drop (i+1)) (i+1) ⟨c,st,ad⟩)=V:=hq9;have hnx:=QA (CS:=CS) (c:=c) (ws:=CS) (i:=i) (fs:=b.list.drop (i+1)) h6;obtain rfl:j=CS.length:=ae
      repeat'(first|apply au|refine rq ?_|simp only[go_sem,aC,fg,bt,cT,bn,bh,Tryz.f35])
      all_goals refine⟨⟨i+1,⟨c,st,ad⟩,r,g,z,m3,ae,ae,ae,ae,ae,⟨hq8,hS1,hS2,hS3⟩⟩,af,?_⟩
      all_goals refine bF ?_ ?_ ?_<;>simp only[go_sem,hnx]
      all_goals first|rfl|omega
    ·have hq9:=hq;rw[cL h5,iQ]at hq9;have hq8:(if st=[]then(⟨ig,false,false,ad⟩:Res)else⟨pH st (rec c ad).p,(rec c ad).ok,(rec c ad).lim,(rec c ad).added⟩)=V:=hq9;obtain rfl:i=b.list.length:=ae
     by_cases hst0:st=[]
     ·rw[aF hst0]at hq8;have hstT:((st.length:Int)=0)=True:=aU (by rw[hst0];rfl)
      repeat'(first|apply au|refine rq ?_|simp only[go_sem,hstT,aC,fg,bt,cT,bn,bh,Tryz.f35])
      all_goals(
       rw[kq.out,←hq8];refine⟨?_,?_⟩
       ·simp only[go_sem,iq,ig]
       ·simp only[go_sem,iq,ig])
     rw[az hst0]at hq8;have hsp:1≤st.length:=by
      cases hb:st with
      |nil=>exact absurd hb hst0
      |cons=>simp
     have hstT:((st.length:Int)=0)=False:=aP ae;obtain⟨rr,hr9⟩:∃rr,rec c ad=rr:=⟨_,rfl⟩;have hrun:=ki.out c ad hS1 ae;rw[hr9]at hrun hq8;have hve:c.seen.isEmpty=true→c.seen=[]:=fun h=>cK.1 h
     repeat'(first|refine dJ.i (TL (c:=c) (k:=pJ CS c (b.list.drop b.list.length) b.list.length) (g:=g) (v:=c.seen.isEmpty) hrun aj hve aj ?_)|apply au|refine rq ?_|simp only[go_sem,hstT,aC,fg,bt,cT,bn,bh,Tryz.f35])
     refine cI hm hZ3 35000 qWv (ι:=Sy st.length (m2+1) fun k tl p=>tl.length=st.length-k∧p=pH (st.drop k) rr.p)
      ⟨fun q=>⟨frL [(0,.ptr (7,0) 0),(3,.ptr (35003,1) 0),(4,.ptr (35004,2) 0),(5,.fz (.b false)),(6,.fz (.b false)),(33,.arr (35270,z) 5 0 st.length),(43,.ptr (35043,m2) 0),(44,.fz (.b rr.ok)),(45,.fz (.b rr.lim)),(46,eI ((q.i:Int)-1))],
       hpL [((35004,2),some ⟨[eI 0,eI 0,eI 0,.fz (.s []),.full []],true,false⟩),((7,0),some ⟨[eI uses,eI rr.added],true,false⟩),((35043,m2),some ⟨[eI q.p.kind,eI q.p.form,eI q.p.other,.fz (.s q.p.name.l),eS q.p.subs],true,false⟩),
        ((35270,z),some ⟨bA ((st.take q.i++q.tl).map enc),false,st.isEmpty⟩)],q.m⟩,fun q=>q.i⟩
      ⟨st.length,[],rr.p,m2+1,ae,ae,⟨ak,by rw[fe];rfl⟩⟩ ah ?_ ?_
     ·refine bF ?_ ?_ ?_<;>simp only[go_sem,aJ,bP]
      all_goals first|rfl|omega
     rintro⟨k,tl,p,m4,hk,hm4,htl,hp⟩
     try simp only at hk hm4 htl hp
     cases k with
     |zero=>
      have hz0:((0:Int)≤0-1)=False:=aP ae;have hp0:pH st rr.p=p:=by rw[hp];rfl
      have hq7:=hq8;rw[hp0]at hq7
      repeat'(first|apply au|refine rq ?_|simp only[go_sem,hz0,fg,bt,cT,bn,bh,Tryz.f35])
      all_goals(
       rw[kq.out,←hq7];refine⟨?_,?_⟩
       ·simp only[go_sem,iq]
       ·simp only[go_sem,iq])
     |succ k=>
      have hs1:(k:Int)+1-1=k:=ae
      have hs2:((0:Int)≤k)=True:=aU ae;have hk5:k<st.length:=ae
      obtain⟨x,hx⟩:∃x,st[k]=x:=⟨_,rfl⟩;obtain⟨FA,hFA⟩:∃FA,bA ((st.take k).map enc)=FA:=⟨_,rfl⟩;obtain⟨FT,hFT⟩:∃FT,bA (tl.map enc)=FT:=⟨_,rfl⟩;have hFl:FA.length=k*5:=by rw[←hFA,yq,aX];congr 1;omega
      have hspl:bA (List.map enc (st.take (k+1))++List.map enc tl)=FA++(.fz (.i .i64 x.kind):: .fz (.i .i64 x.form):: .fz (.i .i64 x.other):: .fz (.s x.name.l):: .fz (.sl (x.subs.map enc))::FT):=by rw[aB hk5,hx,aE,bu,yX,hFA,yX,hFT];rw[aM,aQ,iq];rfl
      have hrw:st.isEmpty=false∧k*5+4+1≤FA.length+(FT.length+1+1+1+1+1):=⟨by cases hb:st with|nil=>exact absurd hb hst0|cons=>rfl,ae⟩;have hrw2:k*5+5≤FA.length+(FT.length+1+1+1+1+1)∧st.isEmpty=false:=⟨ae,hrw.1⟩;have hset:∀y:D,(FA++(D.fz (.i .i64 x.kind)::D.fz (.i .i64 x.form)::D.fz (.i .i64 x.other)::D.fz (.s x.name.l)::D.fz (.sl (x.subs.map enc))::FT)).set (k*5+4) y=FA++(D.fz (.i .i64 x.kind)::D.fz (.i .i64 x.form)::D.fz (.i .i64 x.other)::D.fz (.s x.name.l)::y::FT):=fun y=>by rw[gl _ _ ae,hFl,Nat.add_sub_cancel_left];rfl
      have hdr:∀y:D,(FA++(D.fz (.i .i64 x.kind)::D.fz (.i .i64 x.form)::D.fz (.i .i64 x.other)::D.fz (.s x.name.l)::y::FT)).drop (k*5)=D.fz (.i .i64 x.kind)::D.fz (.i .i64 x.form)::D.fz (.i .i64 x.other)::D.fz (.s x.name.l)::y::FT:=fun y=>by rw[←hFl,List.drop_left]
      repeat'(first|apply rx hrw|apply rx hrw2|apply au|refine rq ?_|simp only[go_sem,hset,hdr,hspl,hs1,hs2,fg,bt,cT,bn,bh,Tryz.f35])
      have hspl2:bA (List.map enc (st.take k)++FD.agg [.i .i64 x.kind,.i .i64 x.form,.i .i64 x.other,.s x.name.l,.sl [FD.agg [.i .i64 p.kind,.i .i64 p.form,.i .i64 p.other,.s p.name.l,.sl (p.subs.map enc)]]]::List.map enc tl)=FA++(D.fz (.i .i64 x.kind)::D.fz (.i .i64 x.form)::D.fz (.i .i64 x.other)::D.fz (.s x.name.l)::D.fz (.sl [FD.agg [.i .i64 p.kind,.i .i64 p.form,.i .i64 p.other,.s p.name.l,.sl (p.subs.map enc)]])::FT):=by rw[←hFA,←hFT,yX];rfl
      have hwp:Prf.mk x.kind x.form x.other x.name [p]=pH (st.drop k) rr.p:=by rw[aR hk5,hx,hp];rfl
      all_goals refine⟨⟨k,.mk x.kind x.form x.other x.name [p]::tl,.mk x.kind x.form x.other x.name [p],m4,ae,ae,⟨by simp only[aN];omega,hwp⟩⟩,af,?_⟩
      all_goals refine eX [] [] [] ?_ ?_ ?_ ?_ ?_<;>simp only[go_sem,aE,iq,hspl2]
      all_goals repeat'(first|apply au|omega|rfl|simp only[go_sem,←hFA,←hFT])
      all_goals trace_state)
section
variable {P:Program} {G:Nat→List FD} {T:Tbl}
def ye {α β γ ρ σ τ:Type}[Enc α][Enc β][Enc γ][Enc ρ][Enc σ][Enc τ](f:α→β→γ→ρ×σ×τ)(pre:α→β→γ→Prop):List FD→Option (D×Prop)
 |[x,y,z]=>some (.tup [.fz (enc (f (dec x) (dec y) (dec z)).1),.fz (enc (f (dec x) (dec y) (dec z)).2.1),.fz (enc (f (dec x) (dec y) (dec z)).2.2)],x=enc (dec (α:=α) x)∧y=enc (dec (α:=β) y)∧z=enc (dec (α:=γ) z)∧pre (dec x) (dec y) (dec z))
 |_=>none
@[go_sem] theorem zPp {α β γ ρ σ τ:Type}[Enc α][Enc β][Enc γ][Enc ρ][Enc σ][Enc τ]{f:α→β→γ→ρ×σ×τ}{pre:α→β→γ→Prop}{x y z:FD}:ye f pre [x,y,z]=some (.tup [.fz (enc (f (dec x) (dec y) (dec z)).1),.fz (enc (f (dec x) (dec y) (dec z)).2.1),.fz (enc (f (dec x) (dec y) (dec z)).2.2)],x=enc (dec (α:=α) x)∧y=enc (dec (α:=β) y)∧z=enc (dec (α:=γ) z)∧pre (dec x) (dec y) (dec z)):=rfl
theorem RV {α β γ ρ σ τ:Type}[Enc α][Enc β][Enc γ][Enc ρ][Enc σ][Enc τ]{f:FuncId}{g:α→β→γ→ρ×σ×τ}{pre:α→β→γ→Prop}(hc:cW P f)(hT:b9 P G T)
  (h:∀a b c,pre a b c→(enc a).Wf→(enc b).Wf→(enc c).Wf→cS P G f [.fz (enc a),.fz (enc b),.fz (enc c)] (hpL []) 0 (fun d _ _=>D.val d=some (.tup [.fz (enc (g a b c).1),.fz (enc (g a b c).2.1),.fz (enc (g a b c).2.2)]))):b9 P G (T.add f (ye g pre)):=by
 refine pS hT fun xs r c hx hcc=>?_;unfold ye at hx;split at hx
 ·rename_i x y z;simp only[aL,aY]at hx;obtain⟨rfl,rfl⟩:=hx;obtain⟨e,e2,e3,hp⟩:=hcc;refine qx hc fun hw=>?_;rw[ky];have:=h (dec x) (dec y) (dec z) hp (by rw[←e];exact hw x ak) (by rw[←e2];exact hw y ak) (by rw[←e3];exact hw z ak);rw[←e,←e2,←e3]at this;exact this
 ·cases hx
end
theorem ER (uses:Int):∀n:Nat,Bd uses (gQ uses n) n
 |0=>fun b a h hn=>by have:=h.a1;omega
 |n+1=>by
  have h:=Rq (ER uses n) fun b a ha=>wJ n b a ha;have e:gQ uses (n+1)=oD (gQ uses n) uses:=by funext b a;rw[gQ]
  rw[e];exact h
def gw:Brn:=⟨[],[],[],0⟩
def lh (ax:List Abs.aH)(g:Abs.aH)(uses:Int):Res:=gQ uses 301 (eo gw (jz ax g)) 0
def jK (ax:List Abs.aH)(g:Abs.aH)(uses:Int):Prf×Bool×iY:=
 if(iC ax g).2.code≠0 then(ig,false,(iC ax g).2)
 else if uses<0∨5<uses then(ig,false,⟨3, -3⟩)
 else if(lh ax g uses).lim=true then(ig,false,⟨17, -3⟩)
 else if(lh ax g uses).ok=false then(ig,false,⟨0,0⟩)
 else((lh ax g uses).p,true,⟨0,0⟩)
def E7:Tv:=(.q 0 (.br [(1,(.br [(2,(.q 3 (.br [(4,.leaf)])))])),(2,(.q 1 (.q 3 (.br [(4,.leaf)]))))]))
def Z4:Tbl:=Z3.add 12 (ye jK fun _ _ _=>True)
attribute [go_sem] Z4
set_option maxHeartbeats 4000000 in
theorem hZ4:b9 Tryz.prog GA Z4:=by
 refine RV GN hZ3 fun ax g uses _ _ _ _=>?_;obtain⟨V,hV⟩:∃V,jK ax g uses=V:=⟨_,rfl⟩;rw[hV];unfold jK at hV;obtain⟨Q,hQ⟩:∃Q:D→bR→Nat→Prop,Q=(fun d _ _=>D.val d=some (.tup [.fz (enc V.1),.fz (enc V.2.1),.fz (enc V.2.2)])):=⟨_,rfl⟩;rw[←hQ];have kq:=Kp.mk hQ;clear hQ;refine rv (N:=55) hm hZ3 12000 qW7 GN Tryz.func12 rfl ?_;by_cases h0:(iC ax g).2.code=0;rotate_left
 ·rw[aF h0]at hV;obtain⟨bl,bf,hb⟩:∃l f,iC ax g=(l,f):=⟨_,_,rfl⟩;rw[hb]at h0 hV;simp only at h0 hV;have h0':(bf.code=0)=False:=aP h0
  repeat'(first|refine ru (id:=3) hm hZ3 12000 qW7 E7 ?_|apply au|refine rq ?_|simp only[go_sem,E7,hb,h0',bt,Tryz.f12])
  all_goals(
   rw[kq.out,←hV];simp only[go_sem,iq,ig])
 rw[az (by simp[h0])]at hV;obtain⟨hb,hlen,hva,hvg⟩:=CQ h0;by_cases hu:uses<0∨5<uses
 ·rw[aF hu]at hV;by_cases hu1:uses<0
  ·have hu1':(uses<0)=True:=aU hu1
   repeat'(first|apply au|refine rq ?_|simp only[go_sem,hb,hu1',bt,Tryz.f12])
   all_goals(
    rw[kq.out,←hV];simp only[go_sem,iq,ig])
  ·have hu1':(uses<0)=False:=aP hu1;have hu2':(5<uses)=True:=aU ae
   repeat'(first|apply au|refine rq ?_|simp only[go_sem,hb,hu1',hu2',bt,Tryz.f12])
   all_goals(
    rw[kq.out,←hV];simp only[go_sem,iq,ig])
 rw[az hu]at hV;have hu1':(uses<0)=False:=aP ae;have hu2':(5<uses)=False:=aP ae;have hbl:(jz ax g).length=ax.length+1:=by unfold jz jO;simp
 obtain⟨B,hB⟩:∃B,jz ax g=B:=⟨_,rfl⟩;have hbb:∀f∈B,brF f:=by rw[←hB];exact XX hva hvg
 obtain⟨B',hB'⟩:∃B',eo gw B=B':=⟨_,rfl⟩;have hr0:lh ax g uses=gQ uses 301 B' 0:=by unfold lh;rw[hB,hB']
 rw[hB]at hb hbl;have hok:ix uses B' 0:=by
  rw[←hB'];refine⟨fun f hf=>hbb f (by simpa[eo,gw]using hf),?_,?_,?_,fun s hs=>?_,?_,?_,ae,ae,ae⟩
  ·show((gw.list++B).length:Int)≤_;unfold gw;simp only[aK];omega
  ·show(gw.used++List.replicate B.length false).length=(gw.list++B).length;unfold gw;simp
  ·show(gw.seen++List.replicate B.length []).length=(gw.list++B).length;unfold gw;simp
  ·have h2:s∈gw.seen++List.replicate B.length []:=hs;unfold gw at h2;simp only[aK]at h2;rw[(l8.1 h2).2];simp
  ·show(0:Int)≤gw.rounds;exact fN _
  ·show gw.rounds≤uses;unfold gw;simp only;omega
 have hrun:=ER uses 301 B' 0 hok ae;obtain⟨r,hr⟩:∃r,gQ uses 301 B' 0=r:=⟨_,rfl⟩;rw[hr]at hrun;rw[hr0,hr]at hV;cases hl:r.lim with
 |true=>
  rw[aF hl]at hV
  repeat'(first|(refine dJ.i (wi (b:=gw) (fs:=B) ⟨qQs,qQs,qQs,ae⟩ (fun s hs=>by unfold gw at hs;simp at hs) rfl ?_);rw[hB'])|refine dJ.i (sr (T:=7) (xs:=[enc B']) (cs:=[.i .i64 uses,.i .i64 0]) rfl hrun aj ?_)|apply au|refine rq ?_|simp only[go_sem,hb,hu1',hu2',hl,bt,fg,Tryz.f12])
  all_goals(
   rw[kq.out,←hV];simp only[go_sem,iq,ig])
 |false=>
  rw[az (by simp[hl])]at hV;cases hk:r.ok with
  |false=>
   rw[aF hk]at hV
   repeat'(first|(refine dJ.i (wi (b:=gw) (fs:=B) ⟨qQs,qQs,qQs,ae⟩ (fun s hs=>by unfold gw at hs;simp at hs) rfl ?_);rw[hB'])|refine dJ.i (sr (T:=7) (xs:=[enc B']) (cs:=[.i .i64 uses,.i .i64 0]) rfl hrun aj ?_)|apply au|refine rq ?_|simp only[go_sem,hb,hu1',hu2',hl,hk,bt,fg,Tryz.f12])
   all_goals(
    rw[kq.out,←hV];simp only[go_sem,iq,ig])
  |true=>
   rw[az (by simp[hk])]at hV
   repeat'(first|(refine dJ.i (wi (b:=gw) (fs:=B) ⟨qQs,qQs,qQs,ae⟩ (fun s hs=>by unfold gw at hs;simp at hs) rfl ?_);rw[hB'])|refine dJ.i (sr (T:=7) (xs:=[enc B']) (cs:=[.i .i64 uses,.i .i64 0]) rfl hrun aj ?_)|apply au|refine rq ?_|simp only[go_sem,hb,hu1',hu2',hl,hk,bt,fg,Tryz.f12])
   all_goals(
    rw[kq.out,←hV];simp only[go_sem,iq])
def Bt (k:Int)(f g:Abs.aH):Abs.aH:= .mk k ⟨[]⟩ [] [f,g]
def Z5:Tbl:=Z4.add 16 (sp3 Bt fun _ _ _=>True)
attribute [go_sem] Z5
theorem hZ5:b9 Tryz.prog GA Z5:=by
 refine oT yf hZ4 fun k f g _ _ _ _=>?_;simp only[Bt];refine rv (N:=12) hm hZ4 16000 qWi yf Tryz.func16 rfl ?_
 repeat'(first|apply au|refine rq ?_|simp only[go_sem,bt,Tryz.f16])
def D0 (k:Int)(x:Str)(f:Abs.aH):Abs.aH:= .mk k x [] [f]
def Z6:Tbl:=Z5.add 15 (sp3 D0 fun _ _ _=>True)
attribute [go_sem] Z6
theorem hZ6:b9 Tryz.prog GA Z6:=by
 refine oT GO hZ5 fun k x f _ _ _ _=>?_;simp only[D0];refine rv (N:=12) hm hZ5 15000 qWi GO Tryz.func15 rfl ?_
 repeat'(first|apply au|refine rq ?_|simp only[go_sem,bt,Tryz.f15])
def Z7:Tbl:=Z6.add 5 (sp0 px)
attribute [go_sem] Z7
theorem hZ7:b9 Tryz.prog GA Z7:=by
 refine S6 hZ6 ?_;have e1:tT oc [exS]=prF oc exS:=rfl;have e2:tT qg [exS]=prF qg exS:=rfl;have e3:tT oc [jQ]=prF oc jQ:=rfl;have e4:Bt 7 (prF oc exS) (prF qg exS)= .mk 7 ⟨[]⟩ [] [prF oc exS,prF qg exS]:=rfl;have e5:D0 8 exS (.mk 7 ⟨[]⟩ [] [prF oc exS,prF qg exS])=sT exS:=rfl;have dM:Str.mk [109,97,110]=oc:=rfl;have dO:Str.mk [109,111,114,116,97,108]=qg:=rfl;have dK:Str.mk [107,105,109]=jQ:=rfl;have dX:Str.mk [120]=exS:=rfl;refine rv (N:=10) hm hZ6 5000 qWi ok5 Tryz.func5 rfl ?_
 repeat'(first|apply au|refine rq ?_|simp only[go_sem,dM,dO,dK,dX,e1,e2,e3,e4,e5,bn,bt,Tryz.f5])
 all_goals(unfold px;simp only[go_sem])
 all_goals trace_state
theorem Xq:iC px nU=(pG,⟨0,0⟩):=by
 have h1:(dB false (sT exS)).code=0:=ah
 have h2:(dB false (prF oc jQ)).code=0:=ah
 have h3:(dB false nU).code=0:=ah
 unfold iC;rw[az (by unfold px;simp),yH px 0 (by unfold px;intro f hf;simp only[aV,aZ,ct]at hf;rcases hf with rfl|rfl<;>assumption),az ai,az (by simp[h3])];unfold jO px;rw[aM,aM,aQ,MS,KY];have e:nc nU=ngg nU:=rfl;rw[e,MT];rfl
theorem WX:jz px nU=pG:=by unfold jz jO px;rw[aM,aM,aQ,MS,KY];have e:nc nU=ngg nU:=rfl;rw[e,MT];rfl
theorem Zi {uses:Int}:lh px nU uses=gQ uses 301 mg 0:=by unfold lh;rw[WX];rfl
theorem yD {ax:List Abs.aH}{g:Abs.aH}{uses:Int}(h:(iC ax g).2.code=0)(h2:¬(uses<0∨5<uses)):jK ax g uses=if(lh ax g uses).lim=true then(ig,false,⟨17, -3⟩)else if(lh ax g uses).ok=false then(ig,false,⟨0,0⟩)else((lh ax g uses).p,true,⟨0,0⟩):=by unfold jK;rw[az (by simp[h]),az h2]
theorem Rw:jK px nU 1=((gQ 1 301 mg 0).p,true,⟨0,0⟩):=by rw[yD (by rw[Xq]) ai,Zi,az (by rw[Et.2.1];simp),az (by rw[Et.1];simp)]
theorem zm {ax:List Abs.aH}{g:Abs.aH}{uses:Int}{p:Prf}{e:iY}(h:jK ax g uses=(p,true,e)):(iC ax g).2.code=0∧¬(uses<0∨5<uses)∧(lh ax g uses).ok=true∧(lh ax g uses).lim=false∧p=(lh ax g uses).p∧e=⟨0,0⟩:=by
 unfold jK at h;by_cases h0:(iC ax g).2.code=0;rotate_left
 ·rw[aF h0]at h;simp at h
 rw[az (by simp[h0])]at h;by_cases hu:uses<0∨5<uses
 ·rw[aF hu]at h;simp at h
 rw[az hu]at h;cases hl:(lh ax g uses).lim with
 |true=>rw[aF hl]at h;simp at h
 |false=>
  rw[az (by simp[hl])]at h;cases hk:(lh ax g uses).ok with
  |false=>rw[aF hk]at h;simp at h
  |true=>rw[az (by simp[hk])]at h;simp only[aY,io]at h;exact⟨h0,hu,rfl,rfl,h.1.symm,h.2.symm⟩
theorem I0 {ax:List Abs.aH}{g:Abs.aH}{uses:Int}{p:Prf}{e:iY}(h:jK ax g uses=(p,true,e))(h5:uses<5):jK ax g (uses+1)=(p,true,⟨0,0⟩):=by
 obtain⟨h0,hu,hk,hl,hp,he⟩:=zm h;have hr:lh ax g (uses+1)=lh ax g uses:=by unfold lh at hk ⊢;exact DF 301 _ 0 (by show(0:Int)≤uses;omega) hk
 rw[yD h0 ae,hr,az (by simp[hl]),az (by simp[hk]),hp]
def o6 (ax:List Abs.aH)(g:Abs.aH):sb×iY:=uo (jK ax g 3) (kP (ax++[eJ g]) 4)
theorem Yk {ax:List Abs.aH}{g:Abs.aH}{uses:Int}(h:(iC ax g).2.code=0)(h2:¬(uses<0∨5<uses)):(jK ax g uses).2.2.code=0∨(jK ax g uses).2.2.code=17:=by
 rw[yD h h2];split
 ·exact .inr rfl
 ·split<;>exact .inl rfl
theorem IX {ax:List Abs.aH}{g:Abs.aH}{uses:Int}(h:(iC ax g).2.code≠0):jK ax g uses=(ig,false,(iC ax g).2):=by unfold jK;rw[aF h]
theorem Nt {ax:List Abs.aH}{g:Abs.aH}{p:Prf}{e:iY}(h:jK ax g 3=(p,true,e)):o6 ax g=(⟨1,p,gi⟩,⟨0,0⟩):=by obtain⟨_,_,_,_,_,he⟩:=zm h;unfold o6 uo;rw[h,he,az ak,aF rfl]
theorem Qw {op:Bool}{f:Abs.aH}{d:Int}{n:Nat}:jV op f d n≠17:=by
 unfold jV
 repeat' split
 all_goals decide
mutual
theorem DX {op:Bool}:∀(f:Abs.aH) (d:Int) (n:Nat),(chk op f d n).1.code≠17
 | .mk k nm w s,d,n=>by
  rw[chk];split
  ·exact Qw
  ·exact Nl s _ _
theorem Nl {op:Bool}:∀(fs:List Abs.aH) (d:Int) (n:Nat),(gX op fs d n).1.code≠17
 |[],d,n=>by rw[gX];simp
 |f::fs,d,n=>by
  rw[gX];split
  ·exact DX f d n
  ·exact Nl fs _ _
end
theorem Nv:∀(l:List Abs.aH) (k:Nat),(nZ l k).code≠17
 |[],k=>by rw[nZ];decide
 |f::l,k=>by
  rw[nZ];split
  ·exact DX f 1 0
  ·exact Nv l _
theorem OA (ax:List Abs.aH)(g:Abs.aH):(iC ax g).2.code≠17:=by
 unfold iC;split
 ·decide
 ·split
  ·exact Nv ax 0
  ·split
   ·exact DX g 1 0
   ·simp
theorem RA {ax:List Abs.aH}{g:Abs.aH}{p:Prf}(h:jK ax g 1=(p,true,⟨0,0⟩)):jK ax g 3=(p,true,⟨0,0⟩):=
 I0 (uses:=2) (I0 (uses:=1) h ai) ai
theorem Qu:∃p,o6 px nU=(⟨1,p,gi⟩,⟨0,0⟩):=⟨_,Nt (RA Rw)⟩
end Go.Proofs.YtnijhilfchekkaaGreatDoor
