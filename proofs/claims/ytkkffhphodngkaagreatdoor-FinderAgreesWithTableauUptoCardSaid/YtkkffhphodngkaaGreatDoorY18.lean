/- several texts of this proof in one; no conditions -/
import Derived.Test.YtkkffhphodngkaaGreatDoorAT
import Derived.Test.YtkkffhphodngkaaGreatDoorY5
import Derived.Test.YtkkffhphodngkaaGreatDoorY17
set_option maxRecDepth 100000
set_option maxHeartbeats 1000000
set_option linter.unusedSimpArgs false
namespace Go.Proofs.YtkkffhphodngkaaGreatDoor
open Go Go.Abs Go.Proofs
def zhF (f:Abs.zab)(name:Str):Abs.zab:=zaD (zbJ f) [⟨f.name,name⟩]
def ztg (f:Abs.zab)(_:Str):Prop:=∃a,f.subs=[a]∧a.fit=true∧a.size≤1000
def zy6:Tv:=(.q 0 (.q 1 (.q 2 (.q 3 (.q 4 (.q 5 (.q 6 (.q 7 (.q 8 (.q 9 (.br [(10,.leaf)])))))))))))
def Y1:Tbl:=N5.add 53 (sp2 zhF ztg)
attribute [go_sem] Y1
theorem hY1:zan Tryz.prog GA Y1:=by
 refine zcx zJ3 hN5 fun f name hp _ _=>?_
 obtain⟨a,ha,h1,h2⟩:=hp
 have e:zhF f name=zaD a [⟨f.name,name⟩]:=by unfold zhF zbJ;rw[ha];rfl
 rw[e]
 have hcp:zkz a [⟨f.name,name⟩]:=⟨h1,h2,by simp⟩
 obtain⟨R,hR⟩:∃R,zaD a [⟨f.name,name⟩]=R:=⟨_,rfl⟩
 rw[hR]
 refine zag (N:=15) hm hN5 53000 (lst [1000001]) zJ3 Tryz.func53 rfl rfl (by simp) (by kernel_rfl) ?_
 repeat'(first|refine zaJ.i ⟨rfl,hcp⟩ fun _=>?_|refine zaJ.i hcp fun _=>?_|refine zaC (id:=1) hm hN5 53000 (lst [1000001]) zy6 (by kernel_rfl) (by kernel_rfl) ?_|refine And.intro ?_ ?_|exact True.intro|refine rq fun _=>?_|simp only[go_sem,ha,hR,zae,zac,zy6,Tryz.f53])
def zoU (q:Abs.zab)(turned:Bool)(name:Str):Abs.zab:=if turned then zob (zhF q name)else zhF q name
def zk7 (q:Abs.zab)(_:Bool)(_:Str):Prop:=∃a,q.subs=[a]∧a.fit=true∧a.size≤800
theorem zrj {q:Abs.zab}{name:Str}(h:∃a,q.subs=[a]∧a.fit=true∧a.size≤800):(zhF q name).fit=true∧(zhF q name).size≤800:=by
 obtain⟨a,ha,h1,h2⟩:=h
 have e:zhF q name=zaD a [⟨q.name,name⟩]:=by unfold zhF zbJ;rw[ha];rfl
 rw[e]
 exact⟨by rw[zgK];exact h1,by rw[zcl];exact h2⟩
def Y2:Tbl:=Y1.add 31 (sp3 zoU zk7)
attribute [go_sem] Y2
theorem hY2:zan Tryz.prog GA Y2:=by
 refine zfk zHE hY1 fun q tn name hp _ _ _=>?_
 have hs:=zrj (name:=name) hp
 have hb:ztg q name:=by obtain⟨a,ha,h1,h2⟩:=hp;exact⟨a,ha,h1,by omega⟩
 have hng:(zhF q name).fit=true∧(zhF q name).size≤900:=⟨hs.1,by omega⟩
 obtain⟨B,hB⟩:∃B,zhF q name=B:=⟨_,rfl⟩
 rw[hB]at hng
 cases tn with
 |true=>
  have e:zoU q true name=zob B:=by unfold zoU;rw[hB];rfl
  rw[e]
  obtain⟨R,hR⟩:∃R,zob B=R:=⟨_,rfl⟩
  rw[hR]
  refine zag (N:=15) hm hY1 31000 (lst []) zHE Tryz.func31 rfl rfl (by simp) (by kernel_rfl) ?_
  repeat'(first|refine zaJ.i hb fun _=>?_|refine zaJ.i hng fun _=>?_|refine And.intro ?_ ?_|exact True.intro|refine rq fun _=>?_|simp only[go_sem,hB,hR,zae,zac,Tryz.f31])
 |false=>
  have e:zoU q false name=B:=by unfold zoU;rw[hB];rfl
  rw[e]
  refine zag (N:=15) hm hY1 31000 (lst []) zHE Tryz.func31 rfl rfl (by simp) (by kernel_rfl) ?_
  repeat'(first|refine zaJ.i hb fun _=>?_|refine zaJ.i hng fun _=>?_|refine And.intro ?_ ?_|exact True.intro|refine rq fun _=>?_|simp only[go_sem,hB,zae,zac,Tryz.f31])
def zy8:Tv:=(.q 0 (.q 1 (.q 2 (.q 3 (.q 4 (.q 6 (.q 7 (.br [(5,(.q 8 (.q 9 (.q 10 (.br [(11,(.q 12 (.q 13 (.q 14 (.q 15 (.br [(16,(.q 17 .leaf))])))))),(13,(.br [(11,(.q 12 (.q 14 (.q 15 (.br [(16,(.q 17 .leaf))])))))]))]))))),(8,(.q 9 (.br [(5,(.q 10 (.br [(11,(.q 12 (.q 13 (.q 14 (.q 15 (.br [(16,(.q 17 .leaf))])))))),(13,(.br [(11,(.q 12 (.q 14 (.q 15 (.br [(16,(.q 17 .leaf))])))))]))]))),(10,(.br [(5,(.br [(11,(.q 12 (.q 13 (.q 14 (.q 15 (.br [(16,(.q 17 .leaf))])))))),(13,(.br [(11,(.q 12 (.q 14 (.q 15 (.br [(16,(.q 17 .leaf))])))))]))])),(13,(.br [(5,(.br [(11,(.q 12 (.q 14 (.q 15 (.br [(16,(.q 17 .leaf))])))))]))]))])),(13,(.br [(5,(.q 10 (.br [(11,(.q 12 (.q 14 (.q 15 (.br [(16,(.q 17 .leaf))])))))]))),(10,(.br [(5,(.br [(11,(.q 12 (.q 14 (.q 15 (.br [(16,(.q 17 .leaf))])))))]))]))]))]))),(13,(.br [(5,(.q 8 (.q 9 (.q 10 (.br [(11,(.q 12 (.q 14 (.q 15 (.br [(16,(.q 17 .leaf))])))))]))))),(8,(.q 9 (.br [(5,(.q 10 (.br [(11,(.q 12 (.q 14 (.q 15 (.br [(16,(.q 17 .leaf))])))))]))),(10,(.br [(5,(.br [(11,(.q 12 (.q 14 (.q 15 (.br [(16,(.q 17 .leaf))])))))]))]))])))]))]))))))))
def zy9:Tv:=(.q 0 (.q 1 (.q 2 (.q 3 (.q 4 (.q 6 (.q 7 (.br [(5,(.q 8 (.q 9 (.q 10 (.br [(11,(.q 12 (.q 13 (.q 14 (.q 15 (.br [(16,(.q 17 .leaf))])))))),(13,(.br [(11,(.q 12 (.q 14 (.q 15 (.br [(16,(.q 17 .leaf))])))))]))]))))),(8,(.q 9 (.br [(5,(.q 10 (.br [(11,(.q 12 (.q 13 (.q 14 (.q 15 (.br [(16,(.q 17 .leaf))])))))),(13,(.br [(11,(.q 12 (.q 14 (.q 15 (.br [(16,(.q 17 .leaf))])))))]))]))),(10,(.br [(5,(.br [(11,(.q 12 (.q 13 (.q 14 (.q 15 (.br [(16,(.q 17 .leaf))])))))),(13,(.br [(11,(.q 12 (.q 14 (.q 15 (.br [(16,(.q 17 .leaf))])))))]))])),(13,(.br [(5,(.br [(11,(.q 12 (.q 14 (.q 15 (.br [(16,(.q 17 .leaf))])))))]))]))])),(13,(.br [(5,(.q 10 (.br [(11,(.q 12 (.q 14 (.q 15 (.br [(16,(.q 17 .leaf))])))))]))),(10,(.br [(5,(.br [(11,(.q 12 (.q 14 (.q 15 (.br [(16,(.q 17 .leaf))])))))]))]))]))]))),(13,(.br [(5,(.q 8 (.q 9 (.q 10 (.br [(11,(.q 12 (.q 14 (.q 15 (.br [(16,(.q 17 .leaf))])))))]))))),(8,(.q 9 (.br [(5,(.q 10 (.br [(11,(.q 12 (.q 14 (.q 15 (.br [(16,(.q 17 .leaf))])))))]))),(10,(.br [(5,(.br [(11,(.q 12 (.q 14 (.q 15 (.br [(16,(.q 17 .leaf))])))))]))]))])))]))]))))))))
def zza:Tv:=(.q 0 (.q 1 (.q 2 (.q 3 (.q 4 (.q 5 (.q 6 (.q 7 (.q 8 (.q 9 (.br [(10,(.q 11 (.q 12 (.q 13 (.q 14 (.br [(15,(.q 16 .leaf))])))))),(12,(.br [(10,(.q 11 (.q 13 (.q 14 (.br [(15,(.q 16 .leaf))])))))]))])))))))))))
def zvt:Tv:=(.q 0 (.q 1 (.q 2 (.br [(3,(.q 4 .leaf))]))))
def zvu:Tv:=(.q 0 (.q 1 (.q 2 (.br [(3,(.q 4 .leaf))]))))
def zvv:Tv:=(.q 0 (.q 1 (.q 2 (.q 3 (.q 4 (.br [(5,(.q 6 (.q 7 (.q 8 (.q 9 (.br [(10,(.q 11 .leaf))])))))),(7,(.br [(5,(.q 6 (.q 8 (.q 9 (.br [(10,(.q 11 .leaf))])))))]))]))))))
def zvw:Tv:=(.q 0 (.q 1 (.q 2 (.q 3 (.q 4 (.q 5 (.q 6 (.q 7 (.q 8 (.q 9 (.q 10 (.q 11 (.q 12 (.q 13 (.br [(14,(.q 15 .leaf))])))))))))))))))
def zvx:Tv:=(.q 0 (.q 1 (.q 2 (.q 3 (.q 4 (.q 5 (.q 6 (.q 7 (.q 8 (.q 9 (.q 10 (.q 11 (.q 12 (.q 13 (.br [(14,(.q 15 .leaf))])))))))))))))))
def zvy:Tv:=(.q 0 (.q 1 (.q 2 (.q 3 (.q 4 (.q 6 (.br [(5,(.q 7 (.q 8 (.q 9 (.q 10 (.q 11 (.q 12 (.q 13 (.q 14 (.br [(15,(.q 16 .leaf))])))))))))),(7,(.q 8 (.br [(5,(.q 9 (.q 10 (.q 11 (.q 12 (.q 13 (.q 14 (.br [(15,(.q 16 .leaf))])))))))),(9,(.br [(5,(.q 10 (.q 11 (.q 12 (.q 13 (.q 14 (.br [(15,(.q 16 .leaf))]))))))),(12,(.br [(5,(.q 10 (.q 11 (.q 13 (.q 14 (.br [(15,(.q 16 .leaf))]))))))]))])),(12,(.br [(5,(.q 9 (.q 10 (.q 11 (.q 13 (.q 14 (.br [(15,(.q 16 .leaf))]))))))),(9,(.br [(5,(.q 10 (.q 11 (.q 13 (.q 14 (.br [(15,(.q 16 .leaf))]))))))]))]))]))),(12,(.br [(5,(.q 7 (.q 8 (.q 9 (.q 10 (.q 11 (.q 13 (.q 14 (.br [(15,(.q 16 .leaf))]))))))))),(7,(.q 8 (.br [(5,(.q 9 (.q 10 (.q 11 (.q 13 (.q 14 (.br [(15,(.q 16 .leaf))]))))))),(9,(.br [(5,(.q 10 (.q 11 (.q 13 (.q 14 (.br [(15,(.q 16 .leaf))]))))))]))])))]))])))))))
def zvz:Tv:=(.q 0 (.q 1 (.q 2 (.br [(3,(.q 4 .leaf))]))))
def zvA:Tv:=(.q 0 (.q 1 (.q 2 (.br [(3,(.q 4 .leaf))]))))
def zlJ:Tv:=(.q 0 (.q 1 (.q 2 (.br [(3,(.q 4 .leaf))]))))
theorem zex {a:Abs.zab}(h:brF a):a.fit=true∧a.size≤1000:=⟨h.ft,by have:=h.s;omega⟩
theorem zfy {a:Abs.zab}(h:brF a):a.fit=true∧a.size≤900:=⟨h.ft,by have:=h.s;omega⟩
def Y3:Tbl:=Y2.add 25 (zD6 zaf brF)
attribute [go_sem] Y3
set_option maxHeartbeats 16000000 in
theorem hY3:zan Tryz.prog GA Y3:=by
 refine zAN zqq hY2 fun f hbr _=>?_
 have zk:za2.kind=0:=rfl
 have zn:za2.name.l=[]:=rfl
 have zw:za2.words=[]:=rfl
 have zs:za2.subs=[]:=rfl
 have hkb:=zbM.1 hbr.v
 have hk1:=hkb.1
 have hk2:=hkb.2.1
 clear hkb
 by_cases k5:f.kind=5
 ·obtain⟨a,b,hab,s0,s1,ha,hb⟩:=zcM hbr (by omega)
  have pa:=zex ha
  have pb:=zex hb
  obtain⟨A,hA⟩:∃A,zaD a []=A:=⟨_,rfl⟩
  obtain⟨B,hB⟩:∃B,zaD b []=B:=⟨_,rfl⟩
  have e:zaf f=(1,[A,B],za2,false):=by
   unfold zaf
   rw[s0,s1,k5,←hA,←hB];rfl
  rw[e]
  clear e s0 s1 ha hb
  refine zag (N:=131) hm hY2 25000 (lst [1000004,1000006,1000008,1000010,1000012,1000017,1000019,1000021,1000023,1000025,1000027,1000028]) zqq Tryz.func25 rfl rfl (by simp) (by kernel_rfl) ?_
  repeat'(first|refine zaJ.i pa fun _=>?_|refine zaJ.i pb fun _=>?_|refine zaC (id:=4) hm hY2 25000 (lst [1000004,1000006,1000008,1000010,1000012,1000017,1000019,1000021,1000023,1000025,1000027,1000028]) zy8 (by kernel_rfl) (by kernel_rfl) ?_|refine And.intro ?_ ?_|exact True.intro|refine rq fun _=>?_|simp only[go_sem,k5,hab,hA,hB,zy8,zk,zn,zw,zs,zac,zaa,Tryz.f25])
 by_cases k6:f.kind=6
 ·obtain⟨a,b,hab,s0,s1,ha,hb⟩:=zcM hbr (by omega)
  have pa:=zex ha
  have pb:=zex hb
  obtain⟨A,hA⟩:∃A,zaD a []=A:=⟨_,rfl⟩
  obtain⟨B,hB⟩:∃B,zaD b []=B:=⟨_,rfl⟩
  have e:zaf f=(2,[A,B],za2,false):=by
   unfold zaf
   rw[s0,s1,k6,←hA,←hB];rfl
  rw[e]
  clear e s0 s1 ha hb
  refine zag (N:=131) hm hY2 25000 (lst [1000004,1000006,1000008,1000010,1000012,1000017,1000019,1000021,1000023,1000025,1000027,1000028]) zqq Tryz.func25 rfl rfl (by simp) (by kernel_rfl) ?_
  repeat'(first|refine zaJ.i pa fun _=>?_|refine zaJ.i pb fun _=>?_|refine zaC (id:=6) hm hY2 25000 (lst [1000004,1000006,1000008,1000010,1000012,1000017,1000019,1000021,1000023,1000025,1000027,1000028]) zy9 (by kernel_rfl) (by kernel_rfl) ?_|refine And.intro ?_ ?_|exact True.intro|refine rq fun _=>?_|simp only[go_sem,k6,hab,hA,hB,zy9,zk,zn,zw,zs,zac,zaa,Tryz.f25])
 by_cases k7:f.kind=7
 ·obtain⟨a,b,hab,s0,s1,ha,hb⟩:=zcM hbr (by omega)
  have pa:=zfy ha
  have pb:=zex hb
  obtain⟨A,hA⟩:∃A,zob a=A:=⟨_,rfl⟩
  obtain⟨B,hB⟩:∃B,zaD b []=B:=⟨_,rfl⟩
  have e:zaf f=(2,[A,B],za2,false):=by
   unfold zaf
   rw[s0,s1,k7,←hA,←hB];rfl
  rw[e]
  clear e s0 s1 ha hb
  refine zag (N:=131) hm hY2 25000 (lst [1000004,1000006,1000008,1000010,1000012,1000017,1000019,1000021,1000023,1000025,1000027,1000028]) zqq Tryz.func25 rfl rfl (by simp) (by kernel_rfl) ?_
  repeat'(first|refine zaJ.i pa fun _=>?_|refine zaJ.i pb fun _=>?_|refine zaC (id:=8) hm hY2 25000 (lst [1000004,1000006,1000008,1000010,1000012,1000017,1000019,1000021,1000023,1000025,1000027,1000028]) zza (by kernel_rfl) (by kernel_rfl) ?_|refine And.intro ?_ ?_|exact True.intro|refine rq fun _=>?_|simp only[go_sem,k7,hab,hA,hB,zza,zk,zn,zw,zs,zac,zaa,Tryz.f25])
 by_cases k8:f.kind=8
 ·have eF:Abs.zab.mk 8 f.name f.words f.subs=f:=by rw[←k8];exact zac
  have e:zaf f=(3,[],f,false):=by
   unfold zaf
   rw[k8];rfl
  rw[e]
  clear e
  refine zag (N:=131) hm hY2 25000 (lst [1000004,1000006,1000008,1000010,1000012,1000017,1000019,1000021,1000023,1000025,1000027,1000028]) zqq Tryz.func25 rfl rfl (by simp) (by kernel_rfl) ?_
  repeat'(first|refine zaC (id:=10) hm hY2 25000 (lst [1000004,1000006,1000008,1000010,1000012,1000017,1000019,1000021,1000023,1000025,1000027,1000028]) zvt (by kernel_rfl) (by kernel_rfl) ?_|refine And.intro ?_ ?_|exact True.intro|refine rq fun _=>?_|simp only[go_sem,k8,eF,zvt,zk,zn,zw,zs,zac,zaa,Tryz.f25])
 by_cases k9:f.kind=9
 ·have eF:Abs.zab.mk 9 f.name f.words f.subs=f:=by rw[←k9];exact zac
  have e:zaf f=(4,[],f,false):=by
   unfold zaf
   rw[k9];rfl
  rw[e]
  clear e
  refine zag (N:=131) hm hY2 25000 (lst [1000004,1000006,1000008,1000010,1000012,1000017,1000019,1000021,1000023,1000025,1000027,1000028]) zqq Tryz.func25 rfl rfl (by simp) (by kernel_rfl) ?_
  repeat'(first|refine zaC (id:=12) hm hY2 25000 (lst [1000004,1000006,1000008,1000010,1000012,1000017,1000019,1000021,1000023,1000025,1000027,1000028]) zvu (by kernel_rfl) (by kernel_rfl) ?_|refine And.intro ?_ ?_|exact True.intro|refine rq fun _=>?_|simp only[go_sem,k9,eF,zvu,zk,zn,zw,zs,zac,zaa,Tryz.f25])
 by_cases k4:f.kind=4
 ·obtain⟨g,hg,s0,hbg⟩:=zcr hbr (.inl k4)
  have hgk:=zbM.1 hbg.v
  have hg1:=hgk.1
  have hg2:=hgk.2.1
  clear hgk
  by_cases j4:g.kind=4
  ·obtain⟨a,ha0,t0,ha⟩:=zcr hbg (.inl j4)
   have pa:=zex ha
   obtain⟨A,hA⟩:∃A,zaD a []=A:=⟨_,rfl⟩
   have e:zaf f=(1,[A],za2,false):=by
    unfold zaf
    rw[s0,t0,k4,j4,←hA];rfl
   rw[e]
   clear e s0 t0 ha
   refine zag (N:=131) hm hY2 25000 (lst [1000004,1000006,1000008,1000010,1000012,1000017,1000019,1000021,1000023,1000025,1000027,1000028]) zqq Tryz.func25 rfl rfl (by simp) (by kernel_rfl) ?_
   repeat'(first|refine zaJ.i pa fun _=>?_|refine zaC (id:=17) hm hY2 25000 (lst [1000004,1000006,1000008,1000010,1000012,1000017,1000019,1000021,1000023,1000025,1000027,1000028]) zvv (by kernel_rfl) (by kernel_rfl) ?_|refine And.intro ?_ ?_|exact True.intro|refine rq fun _=>?_|simp only[go_sem,k4,j4,hg,ha0,hA,zvv,zk,zn,zw,zs,zac,zaa,Tryz.f25])
  by_cases j5:g.kind=5
  ·obtain⟨a,b,hab,t0,t1,ha,hb⟩:=zcM hbg (by omega)
   have pa:=zfy ha
   have pb:=zfy hb
   obtain⟨A,hA⟩:∃A,zob a=A:=⟨_,rfl⟩
   obtain⟨B,hB⟩:∃B,zob b=B:=⟨_,rfl⟩
   have e:zaf f=(2,[A,B],za2,false):=by
    unfold zaf
    rw[s0,t0,t1,k4,j5,←hA,←hB];rfl
   rw[e]
   clear e s0 t0 t1 ha hb
   refine zag (N:=131) hm hY2 25000 (lst [1000004,1000006,1000008,1000010,1000012,1000017,1000019,1000021,1000023,1000025,1000027,1000028]) zqq Tryz.func25 rfl rfl (by simp) (by kernel_rfl) ?_
   repeat'(first|refine zaJ.i pa fun _=>?_|refine zaJ.i pb fun _=>?_|refine zaC (id:=19) hm hY2 25000 (lst [1000004,1000006,1000008,1000010,1000012,1000017,1000019,1000021,1000023,1000025,1000027,1000028]) zvw (by kernel_rfl) (by kernel_rfl) ?_|refine And.intro ?_ ?_|exact True.intro|refine rq fun _=>?_|simp only[go_sem,k4,j5,hg,hab,hA,hB,zvw,zk,zn,zw,zs,zac,zaa,Tryz.f25])
  by_cases j6:g.kind=6
  ·obtain⟨a,b,hab,t0,t1,ha,hb⟩:=zcM hbg (by omega)
   have pa:=zfy ha
   have pb:=zfy hb
   obtain⟨A,hA⟩:∃A,zob a=A:=⟨_,rfl⟩
   obtain⟨B,hB⟩:∃B,zob b=B:=⟨_,rfl⟩
   have e:zaf f=(1,[A,B],za2,false):=by
    unfold zaf
    rw[s0,t0,t1,k4,j6,←hA,←hB];rfl
   rw[e]
   clear e s0 t0 t1 ha hb
   refine zag (N:=131) hm hY2 25000 (lst [1000004,1000006,1000008,1000010,1000012,1000017,1000019,1000021,1000023,1000025,1000027,1000028]) zqq Tryz.func25 rfl rfl (by simp) (by kernel_rfl) ?_
   repeat'(first|refine zaJ.i pa fun _=>?_|refine zaJ.i pb fun _=>?_|refine zaC (id:=21) hm hY2 25000 (lst [1000004,1000006,1000008,1000010,1000012,1000017,1000019,1000021,1000023,1000025,1000027,1000028]) zvx (by kernel_rfl) (by kernel_rfl) ?_|refine And.intro ?_ ?_|exact True.intro|refine rq fun _=>?_|simp only[go_sem,k4,j6,hg,hab,hA,hB,zvx,zk,zn,zw,zs,zac,zaa,Tryz.f25])
  by_cases j7:g.kind=7
  ·obtain⟨a,b,hab,t0,t1,ha,hb⟩:=zcM hbg (by omega)
   have pa:=zex ha
   have pb:=zfy hb
   obtain⟨A,hA⟩:∃A,zaD a []=A:=⟨_,rfl⟩
   obtain⟨B,hB⟩:∃B,zob b=B:=⟨_,rfl⟩
   have e:zaf f=(1,[A,B],za2,false):=by
    unfold zaf
    rw[s0,t0,t1,k4,j7,←hA,←hB];rfl
   rw[e]
   clear e s0 t0 t1 ha hb
   refine zag (N:=131) hm hY2 25000 (lst [1000004,1000006,1000008,1000010,1000012,1000017,1000019,1000021,1000023,1000025,1000027,1000028]) zqq Tryz.func25 rfl rfl (by simp) (by kernel_rfl) ?_
   repeat'(first|refine zaJ.i pa fun _=>?_|refine zaJ.i pb fun _=>?_|refine zaC (id:=23) hm hY2 25000 (lst [1000004,1000006,1000008,1000010,1000012,1000017,1000019,1000021,1000023,1000025,1000027,1000028]) zvy (by kernel_rfl) (by kernel_rfl) ?_|refine And.intro ?_ ?_|exact True.intro|refine rq fun _=>?_|simp only[go_sem,k4,j7,hg,hab,hA,hB,zvy,zk,zn,zw,zs,zac,zaa,Tryz.f25])
  by_cases j8:g.kind=8
  ·have eF:Abs.zab.mk 8 g.name g.words g.subs=g:=by rw[←j8];exact zac
   have e:zaf f=(4,[],g,true):=by
    unfold zaf
    rw[s0,k4,j8];rfl
   rw[e]
   clear e s0
   refine zag (N:=131) hm hY2 25000 (lst [1000004,1000006,1000008,1000010,1000012,1000017,1000019,1000021,1000023,1000025,1000027,1000028]) zqq Tryz.func25 rfl rfl (by simp) (by kernel_rfl) ?_
   repeat'(first|refine zaC (id:=25) hm hY2 25000 (lst [1000004,1000006,1000008,1000010,1000012,1000017,1000019,1000021,1000023,1000025,1000027,1000028]) zvz (by kernel_rfl) (by kernel_rfl) ?_|refine And.intro ?_ ?_|exact True.intro|refine rq fun _=>?_|simp only[go_sem,k4,j8,hg,eF,zvz,zk,zn,zw,zs,zac,zaa,Tryz.f25])
  by_cases j9:g.kind=9
  ·have eF:Abs.zab.mk 9 g.name g.words g.subs=g:=by rw[←j9];exact zac
   have e:zaf f=(3,[],g,true):=by
    unfold zaf
    rw[s0,k4,j9];rfl
   rw[e]
   clear e s0
   refine zag (N:=131) hm hY2 25000 (lst [1000004,1000006,1000008,1000010,1000012,1000017,1000019,1000021,1000023,1000025,1000027,1000028]) zqq Tryz.func25 rfl rfl (by simp) (by kernel_rfl) ?_
   repeat'(first|refine zaC (id:=27) hm hY2 25000 (lst [1000004,1000006,1000008,1000010,1000012,1000017,1000019,1000021,1000023,1000025,1000027,1000028]) zvA (by kernel_rfl) (by kernel_rfl) ?_|refine And.intro ?_ ?_|exact True.intro|refine rq fun _=>?_|simp only[go_sem,k4,j9,hg,eF,zvA,zk,zn,zw,zs,zac,zaa,Tryz.f25])
  have e:zaf f=(0,[],za2,false):=by
   unfold zaf
   rw[s0,k4]
   simp only[j4,j5,j6,j7,j8,j9,if_false]
   rfl
  rw[e]
  clear e s0
  refine zag (N:=131) hm hY2 25000 (lst [1000004,1000006,1000008,1000010,1000012,1000017,1000019,1000021,1000023,1000025,1000027,1000028]) zqq Tryz.func25 rfl rfl (by simp) (by kernel_rfl) ?_
  repeat'(first|refine zaC (id:=28) hm hY2 25000 (lst [1000004,1000006,1000008,1000010,1000012,1000017,1000019,1000021,1000023,1000025,1000027,1000028]) zlJ (by kernel_rfl) (by kernel_rfl) ?_|refine And.intro ?_ ?_|exact True.intro|refine rq fun _=>?_|simp only[go_sem,k4,hg,j4,j5,j6,j7,j8,j9,zlJ,zk,zn,zw,zs,zac,zaa,Tryz.f25])
 have e:zaf f=(0,[],za2,false):=by
  unfold zaf
  simp only[k4,k5,k6,k7,k8,k9,if_false]
 rw[e]
 clear e
 refine zag (N:=131) hm hY2 25000 (lst [1000004,1000006,1000008,1000010,1000012,1000017,1000019,1000021,1000023,1000025,1000027,1000028]) zqq Tryz.func25 rfl rfl (by simp) (by kernel_rfl) ?_
 repeat'(first|refine zaC (id:=28) hm hY2 25000 (lst [1000004,1000006,1000008,1000010,1000012,1000017,1000019,1000021,1000023,1000025,1000027,1000028]) zlJ (by kernel_rfl) (by kernel_rfl) ?_|refine And.intro ?_ ?_|exact True.intro|refine rq fun _=>?_|simp only[go_sem,k4,k5,k6,k7,k8,k9,zlJ,zk,zn,zw,zs,zac,zaa,Tryz.f25])
end Go.Proofs.YtkkffhphodngkaaGreatDoor
namespace Go.Proofs.YtkkffhphodngkaaGreatDoor
open Go Go.Abs Go.Proofs
theorem zsC {f:Abs.zab}(h:(cst f []).isEmpty=true):zaP f=[]:=by
 cases hu:zaP f with
 |nil=>rfl
 |cons x l=>
  have:=(zbm f x).1 (by rw[hu];simp)
  rw[List.isEmpty_iff.1 h]at this
  simp at this
def Y4:Tbl:=Y3.add 48 (sp1 zaP brF)
attribute [go_sem] Y4
theorem hY4:zan Tryz.prog GA Y4:=by
 refine zbE zFz hY3 fun f hp hw=>?_
 have hl:=zd0 hp.ft []
 have hs:=hp.s
 refine zaU (f48 hw (by omega) (by omega)) ?_
 rintro d H n ⟨g,hg,rfl,ho⟩
 obtain⟨U,hU⟩:∃U,zaP f=U:=⟨_,rfl⟩
 have hn:(cst f []).isEmpty=true→U=[]:=fun h=>by rw[←hU];exact zsC h
 rw[hU]at ho ⊢
 refine⟨.fz (.sl (U.map enc)),H0,n,?_,rfl⟩
 have e:H0=hpL []:=rfl
 rw[e]
 refine zbg [] [] [((72024,g),U.map enc)] ?_ ?_ ?_ ?_ ?_<;>simp only[go_sem,ho]
 intro h
 rw[hn h];rfl
def Y5:Tbl:=Y4
attribute [go_sem] Y5
theorem hY5:zan Tryz.prog GA Y5:=hY4
structure zFW (c:List za3)(w0:Str) where
 w:Str
 i:Nat
 j:Nat
 hi:i≤c.length
 hj:j≤c.length
 hr:zaM c w=zaM c w0
 h1:Kp (∀k (hk:k<c.length),k<i→c[k].fr≠w)
 h2:Kp (∀k (hk:k<c.length),k<j→c[k].fr≠w)
def Y6:Tbl:=Y5.add 69 (sp2 zaM fun c _=>wfC c∧c.length≤1000000)
attribute [go_sem] Y6
theorem hY6:zan Tryz.prog GA Y6:=by
 refine zcx zKa hY5 fun c w0 hp _ _=>?_
 obtain⟨hwf,hcl⟩:=hp
 obtain⟨R,hR⟩:∃R,zaM c w0=R:=⟨_,rfl⟩
 rw[hR]
 have kw:=Kp.mk hwf
 clear hwf
 refine zag (N:=25) hm hY5 69000 (lst []) zKa Tryz.func69 rfl rfl (by simp) (by kernel_rfl) ?_
 repeat'(first|refine And.intro ?_ ?_|exact True.intro|refine rq fun _=>?_|simp only[go_sem,Tryz.f69])
 refine zaq hm hY5 69000 (lst []) (ι:=zFW c w0)
  ⟨fun q=>⟨frL [(0,.fz (.sl (c.map enc))),(1,.fz (.s q.w.l)),(5,.fz (.i .i64 q.i))],hpL [],0⟩,fun q=>(c.length-q.j)*(c.length+2)+(c.length-q.i)⟩
  ⟨w0,0,0,by omega,by omega,rfl,⟨fun k hk h=>absurd h (by omega)⟩,⟨fun k hk h=>absurd h (by omega)⟩⟩ (by kernel_rfl) ?_ ?_
 ·refine zaj ?_ ?_ ?_<;>simp only[go_sem]
  all_goals first|done|rfl|omega
 rintro⟨w,i,j,hi,hj,hr,k1,k2⟩
 try simp only at hi hj hr
 rcases Nat.lt_or_ge i c.length with h6|h6
 ·obtain⟨x,hx⟩:∃x,c[i]=x:=⟨_,rfl⟩
  by_cases hm2:x.fr=w
  ·have hml:(x.fr.l=w.l)=True:=eq_true (by rw[hm2])
   have hij:j≤i:=by
    rcases Nat.lt_or_ge i j with h|h
    ·exact absurd (by rw[hx];exact hm2) (k2.out i h6 h)
    ·exact h
   repeat'(first|refine And.intro ?_ ?_|exact True.intro|refine rq fun _=>?_|simp only[go_sem,h6,hx,hml,zaa,zae,Tryz.f69])
   refine⟨⟨x.to,0,i+1,by omega,by omega,?_,⟨fun k hk h=>absurd h (by omega)⟩,⟨fun k hk h=>?_⟩⟩,?_,?_⟩
   ·have:=zsp kw.out h6
    rw[hx,hm2]at this
    rw[←this,hr]
   ·rw[←hx]
    exact kw.out.t i k h6 hk (by omega)
   ·simp only
    have a1:(c.length-(i+1))+1≤c.length-j:=by omega
    have a2:=Nat.mul_le_mul_right (c.length+2) a1
    rw[Nat.succ_mul]at a2
    omega
   refine zaj ?_ ?_ ?_<;>simp only[go_sem]
   all_goals first|done|rfl|omega
  ·have hml:(x.fr.l=w.l)=False:=eq_false fun h=>hm2 (show(⟨x.fr.l⟩:Str)=⟨w.l⟩ by rw[h])
   repeat'(first|refine And.intro ?_ ?_|exact True.intro|refine rq fun _=>?_|simp only[go_sem,h6,hx,hml,zaa,zae,Tryz.f69])
   refine⟨⟨w,i+1,j,by omega,by omega,hr,⟨fun k hk h=>?_⟩,k2⟩,by simp only;omega,?_⟩
   ·rcases Nat.lt_or_ge k i with h7|h7
    ·exact k1.out k hk h7
    ·obtain rfl:k=i:=by omega
     rw[hx];exact hm2
   refine zaj ?_ ?_ ?_<;>simp only[go_sem]
   all_goals first|done|rfl|omega
 obtain rfl:i=c.length:=by omega
 have hw:zaM c w=w:=zgw fun l hl=>by
  obtain⟨k,hk,rfl⟩:=List.getElem_of_mem hl
  exact k1.out k hk hk
 have hwR:w=R:=by rw[←hw,hr,hR]
 subst hwR
 repeat'(first|refine And.intro ?_ ?_|exact True.intro|refine rq fun _=>?_|simp only[go_sem,Nat.lt_irrefl,zae,Tryz.f69])
end Go.Proofs.YtkkffhphodngkaaGreatDoor
namespace Go.Proofs.YtkkffhphodngkaaGreatDoor
open Go Go.Abs Go.Proofs
def Y7:Tbl:=Y6.add 45 (sp1 zfE fun l=>(∀f∈l,brF f)∧l.length≤100000)
attribute [go_sem] Y7
set_option maxHeartbeats 4000000 in
theorem hY7:zan Tryz.prog GA Y7:=by
 refine zbE zJZ hY6 fun l hp _=>?_
 obtain⟨hbr,hsl⟩:=hp
 have kb:=Kp.mk hbr
 clear hbr
 refine zag (N:=40) hm hY6 45000 (lsw [37] []) zJZ Tryz.func45 rfl rfl (by simp) (by kernel_rfl) ?_
 repeat'(first|refine And.intro ?_ ?_|exact True.intro|refine rq fun _=>?_|simp only[go_sem,Tryz.f45])
 refine zaq hm hY6 45000 (lsw [37] []) (ι:=zhC l.length 1 fun _=>True)
  ⟨fun q=>⟨frL [(3,.ow (45037,q.g) 2 ((zfE (l.take q.i)).map enc)),(8,.fz (.sl (l.map enc))),(9,.fz (.i .i64 l.length)),(10,.fz (.i .i64 q.i))],
   hpL [((45037,q.g),some tok)],q.m⟩,fun q=>l.length-q.i⟩
  ⟨0,0,1,by omega,by omega,by omega,trivial⟩ (by kernel_rfl) ?_ ?_
 ·refine zbg [] [(45037,0)] [] ?_ ?_ ?_ ?_ ?_<;>simp only[go_sem,zfE]
  all_goals first|done|rfl|omega
 rintro⟨i,g,m,hi,hg,hm1,_⟩
 try simp only at hi hg hm1
 rcases Nat.lt_or_ge i l.length with h1|h1
 ·obtain⟨x,hx⟩:∃x,l[i]=x:=⟨_,rfl⟩
  have hxb:brF x:=kb.out x (by rw[←hx];exact List.getElem_mem h1)
  have et:zfE (l.take (i+1))=zjs (zfE (l.take i)) x:=by rw[List.take_succ_eq_append_getElem h1,ztw,hx]
  obtain⟨hwf,hcl⟩:=zyB (l.take i)
  rw[List.length_take]at hcl
  obtain⟨c,hc⟩:∃c,zfE (l.take i)=c:=⟨_,rfl⟩
  rw[hc]at et hwf hcl
  have hcp:wfC c∧c.length≤1000000:=⟨hwf,by omega⟩
  by_cases hk:x.kind=3
  ·obtain⟨a,b,hab⟩:∃a b,x.words=[a,b]:=by
    have h2:=(zbM.1 hxb.v).2.2.2.1 hk
    match h:x.words,h2 with
    |[a,b],_=>exact⟨a,b,rfl⟩
   have el:zjs c x=if zaM c a=zaM c b then c else c++[⟨zaM c a,zaM c b⟩]:=by
    unfold zjs
    rw[if_neg (by simp[hk]),hab];rfl
   rw[el]at et
   obtain⟨ra,hra⟩:∃r,zaM c a=r:=⟨_,rfl⟩
   obtain⟨rb,hrb⟩:∃r,zaM c b=r:=⟨_,rfl⟩
   rw[hra,hrb]at et
   clear el hwf hxb
   by_cases hab2:ra=rb
   ·rw[if_pos hab2]at et
    have hl:(ra.l=rb.l)=True:=eq_true (by rw[hab2])
    repeat'(first|refine zaJ.i hcp fun _=>?_|refine And.intro ?_ ?_|exact True.intro|refine rq fun _=>?_|simp only[go_sem,h1,hx,hc,hk,hab,hra,hrb,hl,zaa,zae,zac,Tryz.f45])
    refine⟨⟨i+1,g,m+1,by omega,by omega,by omega,trivial⟩,by simp only;omega,?_⟩
    refine zaj ?_ ?_ ?_<;>simp only[go_sem,et]
    all_goals first|done|rfl|omega
   ·rw[if_neg hab2]at et
    have hl:(ra.l=rb.l)=False:=eq_false fun h=>hab2 (show(⟨ra.l⟩:Str)=⟨rb.l⟩ by rw[h])
    repeat'(first|refine zaJ.i hcp fun _=>?_|refine rf fun _=>?_|refine And.intro ?_ ?_|exact True.intro|refine rq fun _=>?_|simp only[go_sem,h1,hx,hc,hk,hab,hra,hrb,hl,zaa,zae,zac,Tryz.f45])
    refine⟨⟨i+1,m+1,m+2,by omega,by omega,by omega,trivial⟩,by simp only;omega,?_⟩
    refine zaj ?_ ?_ ?_<;>simp only[go_sem,et,List.map_append]
    all_goals first|done|rfl|omega
  ·have el:zjs c x=c:=by unfold zjs;rw[if_pos hk]
   rw[el]at et
   repeat'(first|refine And.intro ?_ ?_|exact True.intro|refine rq fun _=>?_|simp only[go_sem,h1,hx,hc,hk,zaa,zae,zac,Tryz.f45])
   refine⟨⟨i+1,g,m+1,by omega,by omega,by omega,trivial⟩,by simp only;omega,?_⟩
   refine zaj ?_ ?_ ?_<;>simp only[go_sem,et]
   all_goals first|done|rfl|omega
 ·obtain rfl:i=l.length:=by omega
  repeat'(first|refine And.intro ?_ ?_|exact True.intro|refine rq fun _=>?_|simp only[go_sem,Nat.lt_irrefl,List.take_length,Tryz.f45])
theorem f71 {c:List za3}{a b:Str}{id:Abs.Id}{H:zas}{n:Nat}{R:D→zas→Nat→Prop}(_hid:id.2<n)(ho:H id=some ⟨[.fz (.sl (c.map enc))],true,false⟩)(hc:wfC c∧c.length≤1000000)
  (hR:∀n',n≤n'→R (.fz (.b (decide (zaM c a=zaM c b)))) H n'):zau Tryz.prog GA 71 [.fz (.s a.l),.fz (.s b.l),.ptr id 0] H n R:=by
 refine zdx zKc (fun hfr=>?_) hR
 obtain⟨ra,hra⟩:∃r,zaM c a=r:=⟨_,rfl⟩
 obtain⟨rb,hrb⟩:∃r,zaM c b=r:=⟨_,rfl⟩
 rw[hra,hrb]
 obtain⟨Q,hQ⟩:∃Q:D→zas→Nat→Prop,Q=(fun d' H' n'=>d'= .fz (.b (decide (ra=rb)))∧n≤n'∧∀id,id.2<n→H' id=H id):=⟨_,rfl⟩
 rw[←hQ]
 have e:H=hpX [] H:=rfl
 rw[e]
 refine zag (N:=13) hm hY7 71000 (lst []) zKc Tryz.func71 rfl rfl (by simp) (by kernel_rfl) ?_
 repeat'(first|refine zaJ.i hc fun _=>?_|refine And.intro ?_ ?_|exact True.intro|refine rq fun _=>?_|simp only[go_sem,ho,hra,hrb,zae,hpX,Tryz.f71])
 all_goals
  rw[hQ]
  refine⟨?_,by omega,fun id _=>rfl⟩
  by_cases h:ra=rb
  ·simp[h]
  ·have:¬ra.l=rb.l:=fun e=>h (show(⟨ra.l⟩:Str)=⟨rb.l⟩ by rw[e])
   simp[h,this]
set_option maxHeartbeats 4000000 in
theorem f70 {c:List za3}{a b:List Str}{id:Abs.Id}{H:zas}{n:Nat}{R:D→zas→Nat→Prop}(hid:id.2<n)(ho:H id=some ⟨[.fz (.sl (c.map enc))],true,false⟩)(hc:wfC c∧c.length≤1000000)(hal:a.length≤1000000)
  (hR:∀n',n≤n'→R (.fz (.b (decide (a.map (zaM c)=b.map (zaM c))))) H n'):zau Tryz.prog GA 70 [.fz (.sl (a.map enc)),.fz (.sl (b.map enc)),.fn 71 [.ptr id 0]] H n R:=by
 refine zdx zKb (fun hfr=>?_) hR
 obtain⟨Q,hQ⟩:∃Q:D→zas→Nat→Prop,Q=(fun d' H' n'=>d'= .fz (.b (decide (a.map (zaM c)=b.map (zaM c))))∧n≤n'∧∀id,id.2<n→H' id=H id):=⟨_,rfl⟩
 rw[←hQ]
 have hf:a.map (zaM c)≠b.map (zaM c)→∀{n'},n≤n'→Q (.fz (.b false)) H n':=fun h n' hn=>by
  rw[hQ];exact⟨by rw[decide_eq_false h],hn,fun _ _=>rfl⟩
 have ht:a.map (zaM c)=b.map (zaM c)→∀{n'},n≤n'→Q (.fz (.b true)) H n':=fun h n' hn=>by
  rw[hQ];exact⟨by rw[decide_eq_true h],hn,fun _ _=>rfl⟩
 have kf:=Kp.mk @hf
 have kt:=Kp.mk @ht
 clear hf ht hQ
 have e:H=hpX [] H:=rfl
 rw[e]
 refine zag (N:=32) hm hY7 70000 (lst []) zKb Tryz.func70 rfl rfl (by simp) (by kernel_rfl) ?_
 by_cases hl:a.length=b.length
 rotate_left
 ·have hl':((a.length:Int)=b.length)=False:=eq_false (by omega)
  repeat'(first|refine And.intro ?_ ?_|exact True.intro|refine rq fun _=>?_|simp only[go_sem,hl',Tryz.f70])
  all_goals exact kf.out (fun e=>hl (by have:=congrArg List.length e;simpa using this)) (Nat.le_refl _)
 have hl':((a.length:Int)=b.length)=True:=eq_true (by omega)
 repeat'(first|refine And.intro ?_ ?_|exact True.intro|refine rq fun _=>?_|simp only[go_sem,hl',Tryz.f70])
 refine zaq hm hY7 70000 (lst []) (ι:=zd7 a.length n fun i=>(a.take i).map (zaM c)=(b.take i).map (zaM c))
  ⟨fun q=>⟨frL [(1,.fz (.sl (b.map enc))),(2,.fn 71 [.ptr id 0]),(15,.fz (.sl (a.map enc))),(16,.fz (.i .i64 a.length)),(17,.fz (.i .i64 q.i))],hpX [] H,q.m⟩,fun q=>a.length-q.i⟩
  ⟨0,n,by omega,Nat.le_refl _,rfl⟩ (by kernel_rfl) ?_ ?_
 ·refine zaO ?_ ?_ (fun id2 o2 ho2=>?_) ?_
  ·simp only[go_sem]
  ·simp only[go_sem]
  ·exact ho2
  ·first|omega|(simp only[go_sem];done)|(simp only[go_sem];omega)
 rintro⟨i,m,hi,hm1,hp⟩
 try simp only at hi hm1 hp
 rcases Nat.lt_or_ge i a.length with h1|h1
 ·have h2:i<b.length:=by omega
  obtain⟨x,hx⟩:∃x,a[i]=x:=⟨_,rfl⟩
  obtain⟨y,hy⟩:∃y,b[i]=y:=⟨_,rfl⟩
  by_cases hxy:zaM c x=zaM c y
  ·have hd:decide (zaM c x=zaM c y)=true:=decide_eq_true hxy
   repeat'(first|refine zav.i (f71 (c:=c) (a:=x) (b:=y) (by omega) ho hc fun n' hn'=>?_)|refine And.intro ?_ ?_|exact True.intro|refine rq fun _=>?_|simp only[go_sem,h1,h2,hx,hy,hd,zaa,Tryz.f70])
   all_goals
    refine⟨⟨i+1,n',by omega,by omega,?_⟩,by simp only;omega,?_⟩
    ·rw[List.take_succ_eq_append_getElem h1,List.take_succ_eq_append_getElem h2,List.map_append,List.map_append,hp,hx,hy,List.map_cons,List.map_cons,hxy]
    refine zaO ?_ ?_ (fun id2 o2 ho2=>?_) ?_
    ·simp only[go_sem]
    ·simp only[go_sem]
    ·exact ho2
    ·first|omega|(simp only[go_sem];done)|(simp only[go_sem];omega)
  ·have hd:decide (zaM c x=zaM c y)=false:=decide_eq_false hxy
   repeat'(first|refine zav.i (f71 (c:=c) (a:=x) (b:=y) (by omega) ho hc fun n' hn'=>?_)|refine And.intro ?_ ?_|exact True.intro|refine rq fun _=>?_|simp only[go_sem,h1,h2,hx,hy,hd,zaa,Tryz.f70])
   all_goals
    refine kf.out (fun e=>hxy ?_) (by omega)
    have:=congrArg (fun l=>l[i]?) e
    simp only[List.getElem?_map,List.getElem?_eq_getElem h1,List.getElem?_eq_getElem h2,hx,hy,Option.map_some,Option.some.injEq]at this
    exact this
 ·obtain rfl:i=a.length:=by omega
  have h1':¬a.length<a.length:=by omega
  repeat'(first|refine And.intro ?_ ?_|exact True.intro|refine rq fun _=>?_|simp only[go_sem,Nat.lt_irrefl,h1',Tryz.f70])
  all_goals
   refine kt.out ?_ (by omega)
   rw[List.take_length,hl,List.take_length]at hp
   exact hp
end Go.Proofs.YtkkffhphodngkaaGreatDoor
namespace Go.Proofs.YtkkffhphodngkaaGreatDoor
open Go Go.Abs Go.Proofs
def Y8:Tbl:=Y7.add 47 (sp3 zeu fun c f _=>(wfC c∧c.length≤1000000)∧f.fit=true)
attribute [go_sem] Y8
theorem hY8:zan Tryz.prog GA Y8:=by
 refine zfk zDM hY7 fun c f g hp _ _ _=>?_
 obtain⟨hcw,hff⟩:=hp
 have hfw:f.words.length≤1000000:=by have:=(zab.fit_eq hff).1;omega
 clear hff
 by_cases k1:f.kind=2
 rotate_left
 ·have e:zeu c f g=false:=by unfold zeu;simp[k1]
  rw[e]
  refine zag (N:=28) hm hY7 47000 (lst []) zDM Tryz.func47 rfl rfl (by simp) (by kernel_rfl) ?_
  repeat'(first|refine And.intro ?_ ?_|exact True.intro|refine rq fun _=>?_|simp only[go_sem,k1,zae,zac,Tryz.f47])
 by_cases k2:g.kind=2
 rotate_left
 ·have e:zeu c f g=false:=by unfold zeu;simp[k2]
  rw[e]
  refine zag (N:=28) hm hY7 47000 (lst []) zDM Tryz.func47 rfl rfl (by simp) (by kernel_rfl) ?_
  repeat'(first|refine And.intro ?_ ?_|exact True.intro|refine rq fun _=>?_|simp only[go_sem,k1,k2,zae,zac,Tryz.f47])
 by_cases k3:f.name=g.name
 rotate_left
 ·have e:zeu c f g=false:=by unfold zeu;simp[k3]
  have k3':(f.name.l=g.name.l)=False:=eq_false fun h=>k3 (show(⟨f.name.l⟩:Str)=⟨g.name.l⟩ by rw[h])
  rw[e]
  refine zag (N:=28) hm hY7 47000 (lst []) zDM Tryz.func47 rfl rfl (by simp) (by kernel_rfl) ?_
  repeat'(first|refine And.intro ?_ ?_|exact True.intro|refine rq fun _=>?_|simp only[go_sem,k1,k2,k3',zae,zac,Tryz.f47])
 have k3':(f.name.l=g.name.l)=True:=eq_true (by rw[k3])
 have e:zeu c f g=decide (f.words.map (zaM c)=g.words.map (zaM c)):=by unfold zeu;simp[k1,k2,k3]
 rw[e]
 obtain⟨b,hb⟩:∃b,decide (f.words.map (zaM c)=g.words.map (zaM c))=b:=⟨_,rfl⟩
 rw[hb]
 refine zag (N:=28) hm hY7 47000 (lst []) zDM Tryz.func47 rfl rfl (by simp) (by kernel_rfl) ?_
 repeat'(first|refine zav.i (f70 (c:=c) (a:=f.words) (b:=g.words) (by simp only;omega) (by simp only[go_sem]) hcw hfw fun n' hn'=>?_)|refine And.intro ?_ ?_|exact True.intro|refine rq fun _=>?_|simp only[go_sem,k1,k2,k3',hb,zae,zac,Tryz.f47])
def ztD (c:List za3)(f:Abs.zab):Prop:=(wfC c∧c.length≤1000000)∧brF f
def Y9:Tbl:=Y8.add 46 (sp2 zlU ztD)
attribute [go_sem] Y9
theorem hY9:zan Tryz.prog GA Y9:=by
 refine zcx zDL hY8 fun c f hp _ _=>?_
 obtain⟨hcw,hbr⟩:=hp
 by_cases k1:f.kind=4
 rotate_left
 ·have e:zlU c f=false:=by unfold zlU;simp[k1]
  rw[e]
  refine zag (N:=36) hm hY8 46000 (lst []) zDL Tryz.func46 rfl rfl (by simp) (by kernel_rfl) ?_
  repeat'(first|refine And.intro ?_ ?_|exact True.intro|refine rq fun _=>?_|simp only[go_sem,k1,zae,zac,Tryz.f46])
 obtain⟨g,hg,s0,hbg⟩:=zcr hbr (.inl k1)
 by_cases k2:g.kind=1
 ·have e:zlU c f=true:=by unfold zlU;rw[s0];simp[k1,k2]
  rw[e]
  refine zag (N:=36) hm hY8 46000 (lst []) zDL Tryz.func46 rfl rfl (by simp) (by kernel_rfl) ?_
  repeat'(first|refine And.intro ?_ ?_|exact True.intro|refine rq fun _=>?_|simp only[go_sem,k1,hg,k2,zae,zac,Tryz.f46])
 by_cases k3:g.kind=3
 rotate_left
 ·have e:zlU c f=false:=by unfold zlU;rw[s0];simp[k1,k2,k3]
  rw[e]
  refine zag (N:=36) hm hY8 46000 (lst []) zDL Tryz.func46 rfl rfl (by simp) (by kernel_rfl) ?_
  repeat'(first|refine And.intro ?_ ?_|exact True.intro|refine rq fun _=>?_|simp only[go_sem,k1,hg,k2,k3,zae,zac,Tryz.f46])
 obtain⟨a,b,hab⟩:∃a b,g.words=[a,b]:=by
  have h2:=(zbM.1 hbg.v).2.2.2.1 k3
  match h:g.words,h2 with
  |[a,b],_=>exact⟨a,b,rfl⟩
 have e:zlU c f=decide (zaM c a=zaM c b):=by unfold zlU;rw[s0,hab];simp[k1,k3]
 rw[e]
 obtain⟨ra,hra⟩:∃r,zaM c a=r:=⟨_,rfl⟩
 obtain⟨rb,hrb⟩:∃r,zaM c b=r:=⟨_,rfl⟩
 rw[hra,hrb]
 refine zag (N:=36) hm hY8 46000 (lst []) zDL Tryz.func46 rfl rfl (by simp) (by kernel_rfl) ?_
 by_cases hr:ra=rb
 ·have hl:(ra.l=rb.l)=True:=eq_true (by rw[hr])
  rw[decide_eq_true hr]
  repeat'(first|refine zaJ.i hcw fun _=>?_|refine And.intro ?_ ?_|exact True.intro|refine rq fun _=>?_|simp only[go_sem,k1,hg,k3,hab,hra,hrb,hl,zae,zac,Tryz.f46])
 ·have hl:(ra.l=rb.l)=False:=eq_false fun h=>hr (show(⟨ra.l⟩:Str)=⟨rb.l⟩ by rw[h])
  rw[decide_eq_false hr]
  repeat'(first|refine zaJ.i hcw fun _=>?_|refine And.intro ?_ ?_|exact True.intro|refine rq fun _=>?_|simp only[go_sem,k1,hg,k3,hab,hra,hrb,hl,zae,zac,Tryz.f46])
end Go.Proofs.YtkkffhphodngkaaGreatDoor
