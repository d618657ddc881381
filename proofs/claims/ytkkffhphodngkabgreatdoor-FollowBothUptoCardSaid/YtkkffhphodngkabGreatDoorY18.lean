/- several texts of this proof in one; no conditions -/
import Derived.Test.YtkkffhphodngkabGreatDoorAT
import Derived.Test.YtkkffhphodngkabGreatDoorY5
import Derived.Test.YtkkffhphodngkabGreatDoorY17
set_option maxRecDepth 100000
set_option maxHeartbeats 1000000
set_option linter.unusedSimpArgs false
namespace Go.Proofs.YtkkffhphodngkabGreatDoor
open Go Go.Abs Go.Proofs
def zh9 (f:Abs.zac)(name:Str):Abs.zac:=zaC (zb6 f) [⟨f.name,name⟩]
def zt8 (f:Abs.zac)(_:Str):Prop:=∃a,f.subs=[a]∧a.fit=true∧a.size≤1000
def zAf:Tv:=(.q 0 (.q 1 (.q 2 (.q 3 (.q 4 (.q 5 (.q 6 (.q 7 (.q 8 (.q 9 (.br [(10,.leaf)])))))))))))
def Y1:Tbl:=N5.add 114 (sp2 zh9 zt8)
attribute [go_sem] Y1
theorem hY1:zaq Tryz.prog GA Y1:=by
 refine zbC zEQ hN5 fun f name hp _ _=>?_
 obtain⟨a,ha,h1,h2⟩:=hp
 have e:zh9 f name=zaC a [⟨f.name,name⟩]:=by unfold zh9 zb6;rw[ha];rfl
 rw[e]
 have hcp:zif a [⟨f.name,name⟩]:=⟨h1,h2,by simp⟩
 obtain⟨R,hR⟩:∃R,zaC a [⟨f.name,name⟩]=R:=⟨_,rfl⟩
 rw[hR]
 refine zae (N:=15) hm hN5 114000 (lst [1000001]) zEQ Tryz.func114 rfl rfl (by simp) (by kernel_rfl) ?_
 repeat'(first|refine zaA.i ⟨rfl,hcp⟩ fun _=>?_|refine zaA.i hcp fun _=>?_|refine zar (id:=1) hm hN5 114000 (lst [1000001]) zAf (by kernel_rfl) (by kernel_rfl) ?_|refine And.intro ?_ ?_|exact True.intro|refine rq fun _=>?_|simp only[go_sem,ha,hR,zad,zab,zAf,Tryz.f114])
def zlG (q:Abs.zac)(turned:Bool)(name:Str):Abs.zac:=if turned then zlO (zh9 q name)else zh9 q name
def zhq (q:Abs.zac)(_:Bool)(_:Str):Prop:=∃a,q.subs=[a]∧a.fit=true∧a.size≤800
theorem zr1 {q:Abs.zac}{name:Str}(h:∃a,q.subs=[a]∧a.fit=true∧a.size≤800):(zh9 q name).fit=true∧(zh9 q name).size≤800:=by
 obtain⟨a,ha,h1,h2⟩:=h
 have e:zh9 q name=zaC a [⟨q.name,name⟩]:=by unfold zh9 zb6;rw[ha];rfl
 rw[e]
 exact⟨by rw[zhe];exact h1,by rw[zcA];exact h2⟩
def Y2:Tbl:=Y1.add 77 (sp3 zlG zhq)
attribute [go_sem] Y2
theorem hY2:zaq Tryz.prog GA Y2:=by
 refine zf4 zJh hY1 fun q tn name hp _ _ _=>?_
 have hs:=zr1 (name:=name) hp
 have hb:zt8 q name:=by obtain⟨a,ha,h1,h2⟩:=hp;exact⟨a,ha,h1,by omega⟩
 have hng:(zh9 q name).fit=true∧(zh9 q name).size≤900:=⟨hs.1,by omega⟩
 obtain⟨B,hB⟩:∃B,zh9 q name=B:=⟨_,rfl⟩
 rw[hB]at hng
 cases tn with
 |true=>
  have e:zlG q true name=zlO B:=by unfold zlG;rw[hB];rfl
  rw[e]
  obtain⟨R,hR⟩:∃R,zlO B=R:=⟨_,rfl⟩
  rw[hR]
  refine zae (N:=15) hm hY1 77000 (lst []) zJh Tryz.func77 rfl rfl (by simp) (by kernel_rfl) ?_
  repeat'(first|refine zaA.i hb fun _=>?_|refine zaA.i hng fun _=>?_|refine And.intro ?_ ?_|exact True.intro|refine rq fun _=>?_|simp only[go_sem,hB,hR,zad,zab,Tryz.f77])
 |false=>
  have e:zlG q false name=B:=by unfold zlG;rw[hB];rfl
  rw[e]
  refine zae (N:=15) hm hY1 77000 (lst []) zJh Tryz.func77 rfl rfl (by simp) (by kernel_rfl) ?_
  repeat'(first|refine zaA.i hb fun _=>?_|refine zaA.i hng fun _=>?_|refine And.intro ?_ ?_|exact True.intro|refine rq fun _=>?_|simp only[go_sem,hB,zad,zab,Tryz.f77])
def zAi:Tv:=(.q 0 (.q 1 (.q 2 (.q 3 (.q 4 (.q 6 (.q 7 (.br [(5,(.q 8 (.q 9 (.q 10 (.br [(11,(.q 12 (.q 13 (.q 14 (.q 15 (.br [(16,(.q 17 .leaf))])))))),(13,(.br [(11,(.q 12 (.q 14 (.q 15 (.br [(16,(.q 17 .leaf))])))))]))]))))),(8,(.q 9 (.br [(5,(.q 10 (.br [(11,(.q 12 (.q 13 (.q 14 (.q 15 (.br [(16,(.q 17 .leaf))])))))),(13,(.br [(11,(.q 12 (.q 14 (.q 15 (.br [(16,(.q 17 .leaf))])))))]))]))),(10,(.br [(5,(.br [(11,(.q 12 (.q 13 (.q 14 (.q 15 (.br [(16,(.q 17 .leaf))])))))),(13,(.br [(11,(.q 12 (.q 14 (.q 15 (.br [(16,(.q 17 .leaf))])))))]))])),(13,(.br [(5,(.br [(11,(.q 12 (.q 14 (.q 15 (.br [(16,(.q 17 .leaf))])))))]))]))])),(13,(.br [(5,(.q 10 (.br [(11,(.q 12 (.q 14 (.q 15 (.br [(16,(.q 17 .leaf))])))))]))),(10,(.br [(5,(.br [(11,(.q 12 (.q 14 (.q 15 (.br [(16,(.q 17 .leaf))])))))]))]))]))]))),(13,(.br [(5,(.q 8 (.q 9 (.q 10 (.br [(11,(.q 12 (.q 14 (.q 15 (.br [(16,(.q 17 .leaf))])))))]))))),(8,(.q 9 (.br [(5,(.q 10 (.br [(11,(.q 12 (.q 14 (.q 15 (.br [(16,(.q 17 .leaf))])))))]))),(10,(.br [(5,(.br [(11,(.q 12 (.q 14 (.q 15 (.br [(16,(.q 17 .leaf))])))))]))]))])))]))]))))))))
def zAj:Tv:=(.q 0 (.q 1 (.q 2 (.q 3 (.q 4 (.q 6 (.q 7 (.br [(5,(.q 8 (.q 9 (.q 10 (.br [(11,(.q 12 (.q 13 (.q 14 (.q 15 (.br [(16,(.q 17 .leaf))])))))),(13,(.br [(11,(.q 12 (.q 14 (.q 15 (.br [(16,(.q 17 .leaf))])))))]))]))))),(8,(.q 9 (.br [(5,(.q 10 (.br [(11,(.q 12 (.q 13 (.q 14 (.q 15 (.br [(16,(.q 17 .leaf))])))))),(13,(.br [(11,(.q 12 (.q 14 (.q 15 (.br [(16,(.q 17 .leaf))])))))]))]))),(10,(.br [(5,(.br [(11,(.q 12 (.q 13 (.q 14 (.q 15 (.br [(16,(.q 17 .leaf))])))))),(13,(.br [(11,(.q 12 (.q 14 (.q 15 (.br [(16,(.q 17 .leaf))])))))]))])),(13,(.br [(5,(.br [(11,(.q 12 (.q 14 (.q 15 (.br [(16,(.q 17 .leaf))])))))]))]))])),(13,(.br [(5,(.q 10 (.br [(11,(.q 12 (.q 14 (.q 15 (.br [(16,(.q 17 .leaf))])))))]))),(10,(.br [(5,(.br [(11,(.q 12 (.q 14 (.q 15 (.br [(16,(.q 17 .leaf))])))))]))]))]))]))),(13,(.br [(5,(.q 8 (.q 9 (.q 10 (.br [(11,(.q 12 (.q 14 (.q 15 (.br [(16,(.q 17 .leaf))])))))]))))),(8,(.q 9 (.br [(5,(.q 10 (.br [(11,(.q 12 (.q 14 (.q 15 (.br [(16,(.q 17 .leaf))])))))]))),(10,(.br [(5,(.br [(11,(.q 12 (.q 14 (.q 15 (.br [(16,(.q 17 .leaf))])))))]))]))])))]))]))))))))
def zAk:Tv:=(.q 0 (.q 1 (.q 2 (.q 3 (.q 4 (.q 5 (.q 6 (.q 7 (.q 8 (.q 9 (.br [(10,(.q 11 (.q 12 (.q 13 (.q 14 (.br [(15,(.q 16 .leaf))])))))),(12,(.br [(10,(.q 11 (.q 13 (.q 14 (.br [(15,(.q 16 .leaf))])))))]))])))))))))))
def zwp:Tv:=(.q 0 (.q 1 (.q 2 (.br [(3,(.q 4 .leaf))]))))
def zwq:Tv:=(.q 0 (.q 1 (.q 2 (.br [(3,(.q 4 .leaf))]))))
def zwr:Tv:=(.q 0 (.q 1 (.q 2 (.q 3 (.q 4 (.br [(5,(.q 6 (.q 7 (.q 8 (.q 9 (.br [(10,(.q 11 .leaf))])))))),(7,(.br [(5,(.q 6 (.q 8 (.q 9 (.br [(10,(.q 11 .leaf))])))))]))]))))))
def zws:Tv:=(.q 0 (.q 1 (.q 2 (.q 3 (.q 4 (.q 5 (.q 6 (.q 7 (.q 8 (.q 9 (.q 10 (.q 11 (.q 12 (.q 13 (.br [(14,(.q 15 .leaf))])))))))))))))))
def zwt:Tv:=(.q 0 (.q 1 (.q 2 (.q 3 (.q 4 (.q 5 (.q 6 (.q 7 (.q 8 (.q 9 (.q 10 (.q 11 (.q 12 (.q 13 (.br [(14,(.q 15 .leaf))])))))))))))))))
def zwu:Tv:=(.q 0 (.q 1 (.q 2 (.q 3 (.q 4 (.q 6 (.br [(5,(.q 7 (.q 8 (.q 9 (.q 10 (.q 11 (.q 12 (.q 13 (.q 14 (.br [(15,(.q 16 .leaf))])))))))))),(7,(.q 8 (.br [(5,(.q 9 (.q 10 (.q 11 (.q 12 (.q 13 (.q 14 (.br [(15,(.q 16 .leaf))])))))))),(9,(.br [(5,(.q 10 (.q 11 (.q 12 (.q 13 (.q 14 (.br [(15,(.q 16 .leaf))]))))))),(12,(.br [(5,(.q 10 (.q 11 (.q 13 (.q 14 (.br [(15,(.q 16 .leaf))]))))))]))])),(12,(.br [(5,(.q 9 (.q 10 (.q 11 (.q 13 (.q 14 (.br [(15,(.q 16 .leaf))]))))))),(9,(.br [(5,(.q 10 (.q 11 (.q 13 (.q 14 (.br [(15,(.q 16 .leaf))]))))))]))]))]))),(12,(.br [(5,(.q 7 (.q 8 (.q 9 (.q 10 (.q 11 (.q 13 (.q 14 (.br [(15,(.q 16 .leaf))]))))))))),(7,(.q 8 (.br [(5,(.q 9 (.q 10 (.q 11 (.q 13 (.q 14 (.br [(15,(.q 16 .leaf))]))))))),(9,(.br [(5,(.q 10 (.q 11 (.q 13 (.q 14 (.br [(15,(.q 16 .leaf))]))))))]))])))]))])))))))
def zwv:Tv:=(.q 0 (.q 1 (.q 2 (.br [(3,(.q 4 .leaf))]))))
def zww:Tv:=(.q 0 (.q 1 (.q 2 (.br [(3,(.q 4 .leaf))]))))
def zmm:Tv:=(.q 0 (.q 1 (.q 2 (.br [(3,(.q 4 .leaf))]))))
theorem zd0 {a:Abs.zac}(h:brF a):a.fit=true∧a.size≤1000:=⟨h.ft,by have:=h.s;omega⟩
theorem zeT {a:Abs.zac}(h:brF a):a.fit=true∧a.size≤900:=⟨h.ft,by have:=h.s;omega⟩
def Y3:Tbl:=Y2.add 70 (zFu zah brF)
attribute [go_sem] Y3
set_option maxHeartbeats 16000000 in
theorem hY3:zaq Tryz.prog GA Y3:=by
 refine zwb zoM hY2 fun f hbr _=>?_
 have zk:za7.kind=0:=rfl
 have zn:za7.name.l=[]:=rfl
 have zw:za7.words=[]:=rfl
 have zs:za7.subs=[]:=rfl
 have hkb:=zcl.1 hbr.v
 have hk1:=hkb.1
 have hk2:=hkb.2.1
 clear hkb
 by_cases k5:f.kind=5
 ·obtain⟨a,b,hab,s0,s1,ha,hb⟩:=zcZ hbr (by omega)
  have pa:=zd0 ha
  have pb:=zd0 hb
  obtain⟨A,hA⟩:∃A,zaC a []=A:=⟨_,rfl⟩
  obtain⟨B,hB⟩:∃B,zaC b []=B:=⟨_,rfl⟩
  have e:zah f=(1,[A,B],za7,false):=by
   unfold zah
   rw[s0,s1,k5,←hA,←hB];rfl
  rw[e]
  clear e s0 s1 ha hb
  refine zae (N:=131) hm hY2 70000 (lst [1000004,1000006,1000008,1000010,1000012,1000017,1000019,1000021,1000023,1000025,1000027,1000028]) zoM Tryz.func70 rfl rfl (by simp) (by kernel_rfl) ?_
  repeat'(first|refine zaA.i pa fun _=>?_|refine zaA.i pb fun _=>?_|refine zar (id:=4) hm hY2 70000 (lst [1000004,1000006,1000008,1000010,1000012,1000017,1000019,1000021,1000023,1000025,1000027,1000028]) zAi (by kernel_rfl) (by kernel_rfl) ?_|refine And.intro ?_ ?_|exact True.intro|refine rq fun _=>?_|simp only[go_sem,k5,hab,hA,hB,zAi,zk,zn,zw,zs,zab,zaa,Tryz.f70])
 by_cases k6:f.kind=6
 ·obtain⟨a,b,hab,s0,s1,ha,hb⟩:=zcZ hbr (by omega)
  have pa:=zd0 ha
  have pb:=zd0 hb
  obtain⟨A,hA⟩:∃A,zaC a []=A:=⟨_,rfl⟩
  obtain⟨B,hB⟩:∃B,zaC b []=B:=⟨_,rfl⟩
  have e:zah f=(2,[A,B],za7,false):=by
   unfold zah
   rw[s0,s1,k6,←hA,←hB];rfl
  rw[e]
  clear e s0 s1 ha hb
  refine zae (N:=131) hm hY2 70000 (lst [1000004,1000006,1000008,1000010,1000012,1000017,1000019,1000021,1000023,1000025,1000027,1000028]) zoM Tryz.func70 rfl rfl (by simp) (by kernel_rfl) ?_
  repeat'(first|refine zaA.i pa fun _=>?_|refine zaA.i pb fun _=>?_|refine zar (id:=6) hm hY2 70000 (lst [1000004,1000006,1000008,1000010,1000012,1000017,1000019,1000021,1000023,1000025,1000027,1000028]) zAj (by kernel_rfl) (by kernel_rfl) ?_|refine And.intro ?_ ?_|exact True.intro|refine rq fun _=>?_|simp only[go_sem,k6,hab,hA,hB,zAj,zk,zn,zw,zs,zab,zaa,Tryz.f70])
 by_cases k7:f.kind=7
 ·obtain⟨a,b,hab,s0,s1,ha,hb⟩:=zcZ hbr (by omega)
  have pa:=zeT ha
  have pb:=zd0 hb
  obtain⟨A,hA⟩:∃A,zlO a=A:=⟨_,rfl⟩
  obtain⟨B,hB⟩:∃B,zaC b []=B:=⟨_,rfl⟩
  have e:zah f=(2,[A,B],za7,false):=by
   unfold zah
   rw[s0,s1,k7,←hA,←hB];rfl
  rw[e]
  clear e s0 s1 ha hb
  refine zae (N:=131) hm hY2 70000 (lst [1000004,1000006,1000008,1000010,1000012,1000017,1000019,1000021,1000023,1000025,1000027,1000028]) zoM Tryz.func70 rfl rfl (by simp) (by kernel_rfl) ?_
  repeat'(first|refine zaA.i pa fun _=>?_|refine zaA.i pb fun _=>?_|refine zar (id:=8) hm hY2 70000 (lst [1000004,1000006,1000008,1000010,1000012,1000017,1000019,1000021,1000023,1000025,1000027,1000028]) zAk (by kernel_rfl) (by kernel_rfl) ?_|refine And.intro ?_ ?_|exact True.intro|refine rq fun _=>?_|simp only[go_sem,k7,hab,hA,hB,zAk,zk,zn,zw,zs,zab,zaa,Tryz.f70])
 by_cases k8:f.kind=8
 ·have eF:Abs.zac.mk 8 f.name f.words f.subs=f:=by rw[←k8];exact zab
  have e:zah f=(3,[],f,false):=by
   unfold zah
   rw[k8];rfl
  rw[e]
  clear e
  refine zae (N:=131) hm hY2 70000 (lst [1000004,1000006,1000008,1000010,1000012,1000017,1000019,1000021,1000023,1000025,1000027,1000028]) zoM Tryz.func70 rfl rfl (by simp) (by kernel_rfl) ?_
  repeat'(first|refine zar (id:=10) hm hY2 70000 (lst [1000004,1000006,1000008,1000010,1000012,1000017,1000019,1000021,1000023,1000025,1000027,1000028]) zwp (by kernel_rfl) (by kernel_rfl) ?_|refine And.intro ?_ ?_|exact True.intro|refine rq fun _=>?_|simp only[go_sem,k8,eF,zwp,zk,zn,zw,zs,zab,zaa,Tryz.f70])
 by_cases k9:f.kind=9
 ·have eF:Abs.zac.mk 9 f.name f.words f.subs=f:=by rw[←k9];exact zab
  have e:zah f=(4,[],f,false):=by
   unfold zah
   rw[k9];rfl
  rw[e]
  clear e
  refine zae (N:=131) hm hY2 70000 (lst [1000004,1000006,1000008,1000010,1000012,1000017,1000019,1000021,1000023,1000025,1000027,1000028]) zoM Tryz.func70 rfl rfl (by simp) (by kernel_rfl) ?_
  repeat'(first|refine zar (id:=12) hm hY2 70000 (lst [1000004,1000006,1000008,1000010,1000012,1000017,1000019,1000021,1000023,1000025,1000027,1000028]) zwq (by kernel_rfl) (by kernel_rfl) ?_|refine And.intro ?_ ?_|exact True.intro|refine rq fun _=>?_|simp only[go_sem,k9,eF,zwq,zk,zn,zw,zs,zab,zaa,Tryz.f70])
 by_cases k4:f.kind=4
 ·obtain⟨g,hg,s0,hbg⟩:=zcr hbr (.inl k4)
  have hgk:=zcl.1 hbg.v
  have hg1:=hgk.1
  have hg2:=hgk.2.1
  clear hgk
  by_cases j4:g.kind=4
  ·obtain⟨a,ha0,t0,ha⟩:=zcr hbg (.inl j4)
   have pa:=zd0 ha
   obtain⟨A,hA⟩:∃A,zaC a []=A:=⟨_,rfl⟩
   have e:zah f=(1,[A],za7,false):=by
    unfold zah
    rw[s0,t0,k4,j4,←hA];rfl
   rw[e]
   clear e s0 t0 ha
   refine zae (N:=131) hm hY2 70000 (lst [1000004,1000006,1000008,1000010,1000012,1000017,1000019,1000021,1000023,1000025,1000027,1000028]) zoM Tryz.func70 rfl rfl (by simp) (by kernel_rfl) ?_
   repeat'(first|refine zaA.i pa fun _=>?_|refine zar (id:=17) hm hY2 70000 (lst [1000004,1000006,1000008,1000010,1000012,1000017,1000019,1000021,1000023,1000025,1000027,1000028]) zwr (by kernel_rfl) (by kernel_rfl) ?_|refine And.intro ?_ ?_|exact True.intro|refine rq fun _=>?_|simp only[go_sem,k4,j4,hg,ha0,hA,zwr,zk,zn,zw,zs,zab,zaa,Tryz.f70])
  by_cases j5:g.kind=5
  ·obtain⟨a,b,hab,t0,t1,ha,hb⟩:=zcZ hbg (by omega)
   have pa:=zeT ha
   have pb:=zeT hb
   obtain⟨A,hA⟩:∃A,zlO a=A:=⟨_,rfl⟩
   obtain⟨B,hB⟩:∃B,zlO b=B:=⟨_,rfl⟩
   have e:zah f=(2,[A,B],za7,false):=by
    unfold zah
    rw[s0,t0,t1,k4,j5,←hA,←hB];rfl
   rw[e]
   clear e s0 t0 t1 ha hb
   refine zae (N:=131) hm hY2 70000 (lst [1000004,1000006,1000008,1000010,1000012,1000017,1000019,1000021,1000023,1000025,1000027,1000028]) zoM Tryz.func70 rfl rfl (by simp) (by kernel_rfl) ?_
   repeat'(first|refine zaA.i pa fun _=>?_|refine zaA.i pb fun _=>?_|refine zar (id:=19) hm hY2 70000 (lst [1000004,1000006,1000008,1000010,1000012,1000017,1000019,1000021,1000023,1000025,1000027,1000028]) zws (by kernel_rfl) (by kernel_rfl) ?_|refine And.intro ?_ ?_|exact True.intro|refine rq fun _=>?_|simp only[go_sem,k4,j5,hg,hab,hA,hB,zws,zk,zn,zw,zs,zab,zaa,Tryz.f70])
  by_cases j6:g.kind=6
  ·obtain⟨a,b,hab,t0,t1,ha,hb⟩:=zcZ hbg (by omega)
   have pa:=zeT ha
   have pb:=zeT hb
   obtain⟨A,hA⟩:∃A,zlO a=A:=⟨_,rfl⟩
   obtain⟨B,hB⟩:∃B,zlO b=B:=⟨_,rfl⟩
   have e:zah f=(1,[A,B],za7,false):=by
    unfold zah
    rw[s0,t0,t1,k4,j6,←hA,←hB];rfl
   rw[e]
   clear e s0 t0 t1 ha hb
   refine zae (N:=131) hm hY2 70000 (lst [1000004,1000006,1000008,1000010,1000012,1000017,1000019,1000021,1000023,1000025,1000027,1000028]) zoM Tryz.func70 rfl rfl (by simp) (by kernel_rfl) ?_
   repeat'(first|refine zaA.i pa fun _=>?_|refine zaA.i pb fun _=>?_|refine zar (id:=21) hm hY2 70000 (lst [1000004,1000006,1000008,1000010,1000012,1000017,1000019,1000021,1000023,1000025,1000027,1000028]) zwt (by kernel_rfl) (by kernel_rfl) ?_|refine And.intro ?_ ?_|exact True.intro|refine rq fun _=>?_|simp only[go_sem,k4,j6,hg,hab,hA,hB,zwt,zk,zn,zw,zs,zab,zaa,Tryz.f70])
  by_cases j7:g.kind=7
  ·obtain⟨a,b,hab,t0,t1,ha,hb⟩:=zcZ hbg (by omega)
   have pa:=zd0 ha
   have pb:=zeT hb
   obtain⟨A,hA⟩:∃A,zaC a []=A:=⟨_,rfl⟩
   obtain⟨B,hB⟩:∃B,zlO b=B:=⟨_,rfl⟩
   have e:zah f=(1,[A,B],za7,false):=by
    unfold zah
    rw[s0,t0,t1,k4,j7,←hA,←hB];rfl
   rw[e]
   clear e s0 t0 t1 ha hb
   refine zae (N:=131) hm hY2 70000 (lst [1000004,1000006,1000008,1000010,1000012,1000017,1000019,1000021,1000023,1000025,1000027,1000028]) zoM Tryz.func70 rfl rfl (by simp) (by kernel_rfl) ?_
   repeat'(first|refine zaA.i pa fun _=>?_|refine zaA.i pb fun _=>?_|refine zar (id:=23) hm hY2 70000 (lst [1000004,1000006,1000008,1000010,1000012,1000017,1000019,1000021,1000023,1000025,1000027,1000028]) zwu (by kernel_rfl) (by kernel_rfl) ?_|refine And.intro ?_ ?_|exact True.intro|refine rq fun _=>?_|simp only[go_sem,k4,j7,hg,hab,hA,hB,zwu,zk,zn,zw,zs,zab,zaa,Tryz.f70])
  by_cases j8:g.kind=8
  ·have eF:Abs.zac.mk 8 g.name g.words g.subs=g:=by rw[←j8];exact zab
   have e:zah f=(4,[],g,true):=by
    unfold zah
    rw[s0,k4,j8];rfl
   rw[e]
   clear e s0
   refine zae (N:=131) hm hY2 70000 (lst [1000004,1000006,1000008,1000010,1000012,1000017,1000019,1000021,1000023,1000025,1000027,1000028]) zoM Tryz.func70 rfl rfl (by simp) (by kernel_rfl) ?_
   repeat'(first|refine zar (id:=25) hm hY2 70000 (lst [1000004,1000006,1000008,1000010,1000012,1000017,1000019,1000021,1000023,1000025,1000027,1000028]) zwv (by kernel_rfl) (by kernel_rfl) ?_|refine And.intro ?_ ?_|exact True.intro|refine rq fun _=>?_|simp only[go_sem,k4,j8,hg,eF,zwv,zk,zn,zw,zs,zab,zaa,Tryz.f70])
  by_cases j9:g.kind=9
  ·have eF:Abs.zac.mk 9 g.name g.words g.subs=g:=by rw[←j9];exact zab
   have e:zah f=(3,[],g,true):=by
    unfold zah
    rw[s0,k4,j9];rfl
   rw[e]
   clear e s0
   refine zae (N:=131) hm hY2 70000 (lst [1000004,1000006,1000008,1000010,1000012,1000017,1000019,1000021,1000023,1000025,1000027,1000028]) zoM Tryz.func70 rfl rfl (by simp) (by kernel_rfl) ?_
   repeat'(first|refine zar (id:=27) hm hY2 70000 (lst [1000004,1000006,1000008,1000010,1000012,1000017,1000019,1000021,1000023,1000025,1000027,1000028]) zww (by kernel_rfl) (by kernel_rfl) ?_|refine And.intro ?_ ?_|exact True.intro|refine rq fun _=>?_|simp only[go_sem,k4,j9,hg,eF,zww,zk,zn,zw,zs,zab,zaa,Tryz.f70])
  have e:zah f=(0,[],za7,false):=by
   unfold zah
   rw[s0,k4]
   simp only[j4,j5,j6,j7,j8,j9,if_false]
   rfl
  rw[e]
  clear e s0
  refine zae (N:=131) hm hY2 70000 (lst [1000004,1000006,1000008,1000010,1000012,1000017,1000019,1000021,1000023,1000025,1000027,1000028]) zoM Tryz.func70 rfl rfl (by simp) (by kernel_rfl) ?_
  repeat'(first|refine zar (id:=28) hm hY2 70000 (lst [1000004,1000006,1000008,1000010,1000012,1000017,1000019,1000021,1000023,1000025,1000027,1000028]) zmm (by kernel_rfl) (by kernel_rfl) ?_|refine And.intro ?_ ?_|exact True.intro|refine rq fun _=>?_|simp only[go_sem,k4,hg,j4,j5,j6,j7,j8,j9,zmm,zk,zn,zw,zs,zab,zaa,Tryz.f70])
 have e:zah f=(0,[],za7,false):=by
  unfold zah
  simp only[k4,k5,k6,k7,k8,k9,if_false]
 rw[e]
 clear e
 refine zae (N:=131) hm hY2 70000 (lst [1000004,1000006,1000008,1000010,1000012,1000017,1000019,1000021,1000023,1000025,1000027,1000028]) zoM Tryz.func70 rfl rfl (by simp) (by kernel_rfl) ?_
 repeat'(first|refine zar (id:=28) hm hY2 70000 (lst [1000004,1000006,1000008,1000010,1000012,1000017,1000019,1000021,1000023,1000025,1000027,1000028]) zmm (by kernel_rfl) (by kernel_rfl) ?_|refine And.intro ?_ ?_|exact True.intro|refine rq fun _=>?_|simp only[go_sem,k4,k5,k6,k7,k8,k9,zmm,zk,zn,zw,zs,zab,zaa,Tryz.f70])
end Go.Proofs.YtkkffhphodngkabGreatDoor
namespace Go.Proofs.YtkkffhphodngkabGreatDoor
open Go Go.Abs Go.Proofs
theorem ztp {f:Abs.zac}(h:(cst f []).isEmpty=true):zaP f=[]:=by
 cases hu:zaP f with
 |nil=>rfl
 |cons x l=>
  have:=(za9 f x).1 (by rw[hu];simp)
  rw[List.isEmpty_iff.1 h]at this
  simp at this
def Y4:Tbl:=Y3.add 87 (sp1 zaP brF)
attribute [go_sem] Y4
theorem hY4:zaq Tryz.prog GA Y4:=by
 refine zb3 zG2 hY3 fun f hp hw=>?_
 have hl:=zdJ hp.ft []
 have hs:=hp.s
 refine zaU (f87 hw (by omega) (by omega)) ?_
 rintro d H n ⟨g,hg,rfl,ho⟩
 obtain⟨U,hU⟩:∃U,zaP f=U:=⟨_,rfl⟩
 have hn:(cst f []).isEmpty=true→U=[]:=fun h=>by rw[←hU];exact ztp h
 rw[hU]at ho ⊢
 refine⟨.fz (.sl (U.map enc)),H0,n,?_,rfl⟩
 have e:H0=hpL []:=rfl
 rw[e]
 refine zbm [] [] [((123024,g),U.map enc)] ?_ ?_ ?_ ?_ ?_<;>simp only[go_sem,ho]
 intro h
 rw[hn h];rfl
def zEG (l:List Abs.zac)(name:Str):Bool:=l.any fun f=>decide (name∈zaP f)
def Y5:Tbl:=Y4.add 78 (sp2 zEG fun l _=>∀f∈l,brF f)
attribute [go_sem] Y5
theorem hY5:zaq Tryz.prog GA Y5:=by
 refine zbC zLl hY4 fun l name hbr hwl _=>?_
 have hsl:l.length≤zbe:=by
  have:=zdf hwl
  simpa using this
 unfold zbe at hsl
 have kb:=Kp.mk hbr
 clear hbr hwl
 refine zae (N:=18) hm hY4 78000 (lst []) zLl Tryz.func78 rfl rfl (by simp) (by kernel_rfl) ?_
 repeat'(first|refine And.intro ?_ ?_|exact True.intro|refine rq fun _=>?_|simp only[go_sem,Tryz.f78])
 refine zat hm hY4 78000 (lst []) (ι:=zcW l.length 0 fun i=>(l.take i).any (fun f=>decide (name∈zaP f))=false)
  ⟨fun q=>⟨frL [(1,.fz (.s name.l)),(7,.fz (.sl (l.map enc))),(8,.fz (.i .i64 l.length)),(9,.fz (.i .i64 q.i))],hpL [],q.m⟩,fun q=>l.length-q.i⟩
  ⟨0,0,by omega,by omega,by simp⟩ (by kernel_rfl) ?_ ?_
 ·refine zaj ?_ ?_ ?_<;>simp only[go_sem]
  all_goals first|done|rfl|omega
 rintro⟨i,m,hi,_,hp⟩
 try simp only at hi hp
 rcases Nat.lt_or_ge i l.length with h1|h1
 ·obtain⟨x,hx⟩:∃x,l[i]=x:=⟨_,rfl⟩
  have hxb:brF x:=kb.out x (by rw[←hx];exact List.getElem_mem h1)
  obtain⟨U,hU⟩:∃U,zaP x=U:=⟨_,rfl⟩
  by_cases hin:name∈U
  ·have e:zEG l name=true:=by
    unfold zEG
    rw[List.any_eq_true]
    exact⟨l[i],List.getElem_mem _,by rw[hx,hU];simpa using hin⟩
   rw[e]
   repeat'(first|refine zaA.i hxb fun _=>?_|refine And.intro ?_ ?_|exact True.intro|refine rq fun _=>?_|simp only[go_sem,h1,hx,hU,hin,zaa,zad,zab,Tryz.f78])
  ·have hin':(name∈U)=False:=eq_false hin
   repeat'(first|refine zaA.i hxb fun _=>?_|refine And.intro ?_ ?_|exact True.intro|refine rq fun _=>?_|simp only[go_sem,h1,hx,hU,hin',zaa,zad,zab,Tryz.f78])
   refine⟨⟨i+1,m+1,by omega,by omega,?_⟩,by simp only;omega,?_⟩
   ·rw[List.take_succ_eq_append_getElem h1,List.any_append,hp,hx,List.any_cons,hU];simp[hin]
   refine zaj ?_ ?_ ?_<;>simp only[go_sem]
   all_goals first|done|rfl|omega
 obtain rfl:i=l.length:=by omega
 rw[List.take_length]at hp
 have e:zEG l name=false:=hp
 rw[e]
 repeat'(first|refine And.intro ?_ ?_|exact True.intro|refine rq fun _=>?_|simp only[go_sem,Nat.lt_irrefl,Tryz.f78])
structure zHo (c:List za4)(w0:Str) where
 w:Str
 i:Nat
 j:Nat
 hi:i≤c.length
 hj:j≤c.length
 hr:zaX c w=zaX c w0
 h1:Kp (∀k (hk:k<c.length),k<i→c[k].fr≠w)
 h2:Kp (∀k (hk:k<c.length),k<j→c[k].fr≠w)
def Y6:Tbl:=Y5.add 110 (sp2 zaX fun c _=>wfC c∧c.length≤1000000)
attribute [go_sem] Y6
theorem hY6:zaq Tryz.prog GA Y6:=by
 refine zbC zEM hY5 fun c w0 hp _ _=>?_
 obtain⟨hwf,hcl⟩:=hp
 obtain⟨R,hR⟩:∃R,zaX c w0=R:=⟨_,rfl⟩
 rw[hR]
 have kw:=Kp.mk hwf
 clear hwf
 refine zae (N:=25) hm hY5 110000 (lst []) zEM Tryz.func110 rfl rfl (by simp) (by kernel_rfl) ?_
 repeat'(first|refine And.intro ?_ ?_|exact True.intro|refine rq fun _=>?_|simp only[go_sem,Tryz.f110])
 refine zat hm hY5 110000 (lst []) (ι:=zHo c w0)
  ⟨fun q=>⟨frL [(0,.fz (.sl (c.map enc))),(1,.fz (.s q.w.l)),(5,.fz (.i .i64 q.i))],hpL [],0⟩,fun q=>(c.length-q.j)*(c.length+2)+(c.length-q.i)⟩
  ⟨w0,0,0,by omega,by omega,rfl,⟨fun k hk h=>absurd h (by omega)⟩,⟨fun k hk h=>absurd h (by omega)⟩⟩ (by kernel_rfl) ?_ ?_
 ·refine zaj ?_ ?_ ?_<;>simp only[go_sem]
  all_goals first|done|rfl|omega
 rintro⟨w,i,j,hi,hj,hr,k1,k2⟩
 try simp only at hi hj hr
 rcases Nat.lt_or_ge i c.length with h6|h6
 ·obtain⟨x,hx⟩:∃x,c[i]=x:=⟨_,rfl⟩
  by_cases hm2:x.fr=w
  ·have hml:(x.fr.l=w.l)=True:=eq_true (by rw[hm2])
   have hij:j≤i:=by
    rcases Nat.lt_or_ge i j with h|h
    ·exact absurd (by rw[hx];exact hm2) (k2.out i h6 h)
    ·exact h
   repeat'(first|refine And.intro ?_ ?_|exact True.intro|refine rq fun _=>?_|simp only[go_sem,h6,hx,hml,zaa,zad,Tryz.f110])
   refine⟨⟨x.to,0,i+1,by omega,by omega,?_,⟨fun k hk h=>absurd h (by omega)⟩,⟨fun k hk h=>?_⟩⟩,?_,?_⟩
   ·have:=ztb kw.out h6
    rw[hx,hm2]at this
    rw[←this,hr]
   ·rw[←hx]
    exact kw.out.t i k h6 hk (by omega)
   ·simp only
    have a1:(c.length-(i+1))+1≤c.length-j:=by omega
    have a2:=Nat.mul_le_mul_right (c.length+2) a1
    rw[Nat.succ_mul]at a2
    omega
   refine zaj ?_ ?_ ?_<;>simp only[go_sem]
   all_goals first|done|rfl|omega
  ·have hml:(x.fr.l=w.l)=False:=eq_false fun h=>hm2 (show(⟨x.fr.l⟩:Str)=⟨w.l⟩ by rw[h])
   repeat'(first|refine And.intro ?_ ?_|exact True.intro|refine rq fun _=>?_|simp only[go_sem,h6,hx,hml,zaa,zad,Tryz.f110])
   refine⟨⟨w,i+1,j,by omega,by omega,hr,⟨fun k hk h=>?_⟩,k2⟩,by simp only;omega,?_⟩
   ·rcases Nat.lt_or_ge k i with h7|h7
    ·exact k1.out k hk h7
    ·obtain rfl:k=i:=by omega
     rw[hx];exact hm2
   refine zaj ?_ ?_ ?_<;>simp only[go_sem]
   all_goals first|done|rfl|omega
 obtain rfl:i=c.length:=by omega
 have hw:zaX c w=w:=zgV fun l hl=>by
  obtain⟨k,hk,rfl⟩:=List.getElem_of_mem hl
  exact k1.out k hk hk
 have hwR:w=R:=by rw[←hw,hr,hR]
 subst hwR
 repeat'(first|refine And.intro ?_ ?_|exact True.intro|refine rq fun _=>?_|simp only[go_sem,Nat.lt_irrefl,zad,Tryz.f110])
end Go.Proofs.YtkkffhphodngkabGreatDoor
namespace Go.Proofs.YtkkffhphodngkabGreatDoor
open Go Go.Abs Go.Proofs
def Y7:Tbl:=Y6.add 73 (sp1 zgx fun l=>(∀f∈l,brF f)∧l.length≤100000)
attribute [go_sem] Y7
set_option maxHeartbeats 4000000 in
theorem hY7:zaq Tryz.prog GA Y7:=by
 refine zb3 zLi hY6 fun l hp _=>?_
 obtain⟨hbr,hsl⟩:=hp
 have kb:=Kp.mk hbr
 clear hbr
 refine zae (N:=40) hm hY6 73000 (lsw [37] []) zLi Tryz.func73 rfl rfl (by simp) (by kernel_rfl) ?_
 repeat'(first|refine And.intro ?_ ?_|exact True.intro|refine rq fun _=>?_|simp only[go_sem,Tryz.f73])
 refine zat hm hY6 73000 (lsw [37] []) (ι:=zh6 l.length 1 fun _=>True)
  ⟨fun q=>⟨frL [(3,.ow (73037,q.g) 2 ((zgx (l.take q.i)).map enc)),(8,.fz (.sl (l.map enc))),(9,.fz (.i .i64 l.length)),(10,.fz (.i .i64 q.i))],
   hpL [((73037,q.g),some tok)],q.m⟩,fun q=>l.length-q.i⟩
  ⟨0,0,1,by omega,by omega,by omega,trivial⟩ (by kernel_rfl) ?_ ?_
 ·refine zbm [] [(73037,0)] [] ?_ ?_ ?_ ?_ ?_<;>simp only[go_sem,zgx]
  all_goals first|done|rfl|omega
 rintro⟨i,g,m,hi,hg,hm1,_⟩
 try simp only at hi hg hm1
 rcases Nat.lt_or_ge i l.length with h1|h1
 ·obtain⟨x,hx⟩:∃x,l[i]=x:=⟨_,rfl⟩
  have hxb:brF x:=kb.out x (by rw[←hx];exact List.getElem_mem h1)
  have et:zgx (l.take (i+1))=zpG (zgx (l.take i)) x:=by rw[List.take_succ_eq_append_getElem h1,zup,hx]
  obtain⟨hwf,hcl⟩:=zuq (l.take i)
  rw[List.length_take]at hcl
  obtain⟨c,hc⟩:∃c,zgx (l.take i)=c:=⟨_,rfl⟩
  rw[hc]at et hwf hcl
  have hcp:wfC c∧c.length≤1000000:=⟨hwf,by omega⟩
  by_cases hk:x.kind=3
  ·obtain⟨a,b,hab⟩:∃a b,x.words=[a,b]:=by
    have h2:=(zcl.1 hxb.v).2.2.2.1 hk
    match h:x.words,h2 with
    |[a,b],_=>exact⟨a,b,rfl⟩
   have el:zpG c x=if zaX c a=zaX c b then c else c++[⟨zaX c a,zaX c b⟩]:=by
    unfold zpG
    rw[if_neg (by simp[hk]),hab];rfl
   rw[el]at et
   obtain⟨ra,hra⟩:∃r,zaX c a=r:=⟨_,rfl⟩
   obtain⟨rb,hrb⟩:∃r,zaX c b=r:=⟨_,rfl⟩
   rw[hra,hrb]at et
   clear el hwf hxb
   by_cases hab2:ra=rb
   ·rw[if_pos hab2]at et
    have hl:(ra.l=rb.l)=True:=eq_true (by rw[hab2])
    repeat'(first|refine zaA.i hcp fun _=>?_|refine And.intro ?_ ?_|exact True.intro|refine rq fun _=>?_|simp only[go_sem,h1,hx,hc,hk,hab,hra,hrb,hl,zaa,zad,zab,Tryz.f73])
    refine⟨⟨i+1,g,m+1,by omega,by omega,by omega,trivial⟩,by simp only;omega,?_⟩
    refine zaj ?_ ?_ ?_<;>simp only[go_sem,et]
    all_goals first|done|rfl|omega
   ·rw[if_neg hab2]at et
    have hl:(ra.l=rb.l)=False:=eq_false fun h=>hab2 (show(⟨ra.l⟩:Str)=⟨rb.l⟩ by rw[h])
    repeat'(first|refine zaA.i hcp fun _=>?_|refine rf fun _=>?_|refine And.intro ?_ ?_|exact True.intro|refine rq fun _=>?_|simp only[go_sem,h1,hx,hc,hk,hab,hra,hrb,hl,zaa,zad,zab,Tryz.f73])
    refine⟨⟨i+1,m+1,m+2,by omega,by omega,by omega,trivial⟩,by simp only;omega,?_⟩
    refine zaj ?_ ?_ ?_<;>simp only[go_sem,et,List.map_append]
    all_goals first|done|rfl|omega
  ·have el:zpG c x=c:=by unfold zpG;rw[if_pos hk]
   rw[el]at et
   repeat'(first|refine And.intro ?_ ?_|exact True.intro|refine rq fun _=>?_|simp only[go_sem,h1,hx,hc,hk,zaa,zad,zab,Tryz.f73])
   refine⟨⟨i+1,g,m+1,by omega,by omega,by omega,trivial⟩,by simp only;omega,?_⟩
   refine zaj ?_ ?_ ?_<;>simp only[go_sem,et]
   all_goals first|done|rfl|omega
 ·obtain rfl:i=l.length:=by omega
  repeat'(first|refine And.intro ?_ ?_|exact True.intro|refine rq fun _=>?_|simp only[go_sem,Nat.lt_irrefl,List.take_length,Tryz.f73])
theorem f113 {c:List za4}{a b:Str}{id:Abs.Id}{H:zav}{n:Nat}{R:D→zav→Nat→Prop}(_hid:id.2<n)(ho:H id=some ⟨[.fz (.sl (c.map enc))],true,false⟩)(hc:wfC c∧c.length≤1000000)
  (hR:∀n',n≤n'→R (.fz (.b (decide (zaX c a=zaX c b)))) H n'):zaw Tryz.prog GA 113 [.fz (.s a.l),.fz (.s b.l),.ptr id 0] H n R:=by
 refine zby zEP (fun hfr=>?_) hR
 obtain⟨ra,hra⟩:∃r,zaX c a=r:=⟨_,rfl⟩
 obtain⟨rb,hrb⟩:∃r,zaX c b=r:=⟨_,rfl⟩
 rw[hra,hrb]
 obtain⟨Q,hQ⟩:∃Q:D→zav→Nat→Prop,Q=(fun d' H' n'=>d'= .fz (.b (decide (ra=rb)))∧n≤n'∧∀id,id.2<n→H' id=H id):=⟨_,rfl⟩
 rw[←hQ]
 have e:H=hpX [] H:=rfl
 rw[e]
 refine zae (N:=13) hm hY7 113000 (lst []) zEP Tryz.func113 rfl rfl (by simp) (by kernel_rfl) ?_
 repeat'(first|refine zaA.i hc fun _=>?_|refine And.intro ?_ ?_|exact True.intro|refine rq fun _=>?_|simp only[go_sem,ho,hra,hrb,zad,hpX,Tryz.f113])
 all_goals
  rw[hQ]
  refine⟨?_,by omega,fun id _=>rfl⟩
  by_cases h:ra=rb
  ·simp[h]
  ·have:¬ra.l=rb.l:=fun e=>h (show(⟨ra.l⟩:Str)=⟨rb.l⟩ by rw[e])
   simp[h,this]
set_option maxHeartbeats 4000000 in
theorem f112 {c:List za4}{a b:List Str}{id:Abs.Id}{H:zav}{n:Nat}{R:D→zav→Nat→Prop}(hid:id.2<n)(ho:H id=some ⟨[.fz (.sl (c.map enc))],true,false⟩)(hc:wfC c∧c.length≤1000000)(hal:a.length≤1000000)
  (hR:∀n',n≤n'→R (.fz (.b (decide (a.map (zaX c)=b.map (zaX c))))) H n'):zaw Tryz.prog GA 112 [.fz (.sl (a.map enc)),.fz (.sl (b.map enc)),.fn 113 [.ptr id 0]] H n R:=by
 refine zby zEO (fun hfr=>?_) hR
 obtain⟨Q,hQ⟩:∃Q:D→zav→Nat→Prop,Q=(fun d' H' n'=>d'= .fz (.b (decide (a.map (zaX c)=b.map (zaX c))))∧n≤n'∧∀id,id.2<n→H' id=H id):=⟨_,rfl⟩
 rw[←hQ]
 have hf:a.map (zaX c)≠b.map (zaX c)→∀{n'},n≤n'→Q (.fz (.b false)) H n':=fun h n' hn=>by
  rw[hQ];exact⟨by rw[decide_eq_false h],hn,fun _ _=>rfl⟩
 have ht:a.map (zaX c)=b.map (zaX c)→∀{n'},n≤n'→Q (.fz (.b true)) H n':=fun h n' hn=>by
  rw[hQ];exact⟨by rw[decide_eq_true h],hn,fun _ _=>rfl⟩
 have kf:=Kp.mk @hf
 have kt:=Kp.mk @ht
 clear hf ht hQ
 have e:H=hpX [] H:=rfl
 rw[e]
 refine zae (N:=32) hm hY7 112000 (lst []) zEO Tryz.func112 rfl rfl (by simp) (by kernel_rfl) ?_
 by_cases hl:a.length=b.length
 rotate_left
 ·have hl':((a.length:Int)=b.length)=False:=eq_false (by omega)
  repeat'(first|refine And.intro ?_ ?_|exact True.intro|refine rq fun _=>?_|simp only[go_sem,hl',Tryz.f112])
  all_goals exact kf.out (fun e=>hl (by have:=congrArg List.length e;simpa using this)) (Nat.le_refl _)
 have hl':((a.length:Int)=b.length)=True:=eq_true (by omega)
 repeat'(first|refine And.intro ?_ ?_|exact True.intro|refine rq fun _=>?_|simp only[go_sem,hl',Tryz.f112])
 refine zat hm hY7 112000 (lst []) (ι:=zcW a.length n fun i=>(a.take i).map (zaX c)=(b.take i).map (zaX c))
  ⟨fun q=>⟨frL [(1,.fz (.sl (b.map enc))),(2,.fn 113 [.ptr id 0]),(15,.fz (.sl (a.map enc))),(16,.fz (.i .i64 a.length)),(17,.fz (.i .i64 q.i))],hpX [] H,q.m⟩,fun q=>a.length-q.i⟩
  ⟨0,n,by omega,Nat.le_refl _,rfl⟩ (by kernel_rfl) ?_ ?_
 ·refine zaO ?_ ?_ (fun id2 o2 ho2=>?_) ?_
  ·simp only[go_sem]
  ·simp only[go_sem]
  ·exact ho2
  ·first|omega|(simp only[go_sem];done)|(simp only[go_sem];omega)
 rintro⟨i,m,hi,hm1,hp⟩
 try simp only at hi hm1 hp
 rcases Nat.lt_or_ge i a.length with h1|h1
 ·have h2:i<b.length:=by omega
  obtain⟨x,hx⟩:∃x,a[i]=x:=⟨_,rfl⟩
  obtain⟨y,hy⟩:∃y,b[i]=y:=⟨_,rfl⟩
  by_cases hxy:zaX c x=zaX c y
  ·have hd:decide (zaX c x=zaX c y)=true:=decide_eq_true hxy
   repeat'(first|refine zak.i (f113 (c:=c) (a:=x) (b:=y) (by omega) ho hc fun n' hn'=>?_)|refine And.intro ?_ ?_|exact True.intro|refine rq fun _=>?_|simp only[go_sem,h1,h2,hx,hy,hd,zaa,Tryz.f112])
   all_goals
    refine⟨⟨i+1,n',by omega,by omega,?_⟩,by simp only;omega,?_⟩
    ·rw[List.take_succ_eq_append_getElem h1,List.take_succ_eq_append_getElem h2,List.map_append,List.map_append,hp,hx,hy,List.map_cons,List.map_cons,hxy]
    refine zaO ?_ ?_ (fun id2 o2 ho2=>?_) ?_
    ·simp only[go_sem]
    ·simp only[go_sem]
    ·exact ho2
    ·first|omega|(simp only[go_sem];done)|(simp only[go_sem];omega)
  ·have hd:decide (zaX c x=zaX c y)=false:=decide_eq_false hxy
   repeat'(first|refine zak.i (f113 (c:=c) (a:=x) (b:=y) (by omega) ho hc fun n' hn'=>?_)|refine And.intro ?_ ?_|exact True.intro|refine rq fun _=>?_|simp only[go_sem,h1,h2,hx,hy,hd,zaa,Tryz.f112])
   all_goals
    refine kf.out (fun e=>hxy ?_) (by omega)
    have:=congrArg (fun l=>l[i]?) e
    simp only[List.getElem?_map,List.getElem?_eq_getElem h1,List.getElem?_eq_getElem h2,hx,hy,Option.map_some,Option.some.injEq]at this
    exact this
 ·obtain rfl:i=a.length:=by omega
  have h1':¬a.length<a.length:=by omega
  repeat'(first|refine And.intro ?_ ?_|exact True.intro|refine rq fun _=>?_|simp only[go_sem,Nat.lt_irrefl,h1',Tryz.f112])
  all_goals
   refine kt.out ?_ (by omega)
   rw[List.take_length,hl,List.take_length]at hp
   exact hp
end Go.Proofs.YtkkffhphodngkabGreatDoor
namespace Go.Proofs.YtkkffhphodngkabGreatDoor
open Go Go.Abs Go.Proofs
def Y8:Tbl:=Y7.add 75 (sp3 zeI fun c f _=>(wfC c∧c.length≤1000000)∧f.fit=true)
attribute [go_sem] Y8
theorem hY8:zaq Tryz.prog GA Y8:=by
 refine zf4 zE7 hY7 fun c f g hp _ _ _=>?_
 obtain⟨hcw,hff⟩:=hp
 have hfw:f.words.length≤1000000:=by have:=(zac.fit_eq hff).1;omega
 clear hff
 by_cases k1:f.kind=2
 rotate_left
 ·have e:zeI c f g=false:=by unfold zeI;simp[k1]
  rw[e]
  refine zae (N:=28) hm hY7 75000 (lst []) zE7 Tryz.func75 rfl rfl (by simp) (by kernel_rfl) ?_
  repeat'(first|refine And.intro ?_ ?_|exact True.intro|refine rq fun _=>?_|simp only[go_sem,k1,zad,zab,Tryz.f75])
 by_cases k2:g.kind=2
 rotate_left
 ·have e:zeI c f g=false:=by unfold zeI;simp[k2]
  rw[e]
  refine zae (N:=28) hm hY7 75000 (lst []) zE7 Tryz.func75 rfl rfl (by simp) (by kernel_rfl) ?_
  repeat'(first|refine And.intro ?_ ?_|exact True.intro|refine rq fun _=>?_|simp only[go_sem,k1,k2,zad,zab,Tryz.f75])
 by_cases k3:f.name=g.name
 rotate_left
 ·have e:zeI c f g=false:=by unfold zeI;simp[k3]
  have k3':(f.name.l=g.name.l)=False:=eq_false fun h=>k3 (show(⟨f.name.l⟩:Str)=⟨g.name.l⟩ by rw[h])
  rw[e]
  refine zae (N:=28) hm hY7 75000 (lst []) zE7 Tryz.func75 rfl rfl (by simp) (by kernel_rfl) ?_
  repeat'(first|refine And.intro ?_ ?_|exact True.intro|refine rq fun _=>?_|simp only[go_sem,k1,k2,k3',zad,zab,Tryz.f75])
 have k3':(f.name.l=g.name.l)=True:=eq_true (by rw[k3])
 have e:zeI c f g=decide (f.words.map (zaX c)=g.words.map (zaX c)):=by unfold zeI;simp[k1,k2,k3]
 rw[e]
 obtain⟨b,hb⟩:∃b,decide (f.words.map (zaX c)=g.words.map (zaX c))=b:=⟨_,rfl⟩
 rw[hb]
 refine zae (N:=28) hm hY7 75000 (lst []) zE7 Tryz.func75 rfl rfl (by simp) (by kernel_rfl) ?_
 repeat'(first|refine zak.i (f112 (c:=c) (a:=f.words) (b:=g.words) (by simp only;omega) (by simp only[go_sem]) hcw hfw fun n' hn'=>?_)|refine And.intro ?_ ?_|exact True.intro|refine rq fun _=>?_|simp only[go_sem,k1,k2,k3',hb,zad,zab,Tryz.f75])
def zpa (c:List za4)(f:Abs.zac):Prop:=(wfC c∧c.length≤1000000)∧brF f
def Y9:Tbl:=Y8.add 72 (sp2 zmx zpa)
attribute [go_sem] Y9
theorem hY9:zaq Tryz.prog GA Y9:=by
 refine zbC zE6 hY8 fun c f hp _ _=>?_
 obtain⟨hcw,hbr⟩:=hp
 by_cases k1:f.kind=4
 rotate_left
 ·have e:zmx c f=false:=by unfold zmx;simp[k1]
  rw[e]
  refine zae (N:=36) hm hY8 72000 (lst []) zE6 Tryz.func72 rfl rfl (by simp) (by kernel_rfl) ?_
  repeat'(first|refine And.intro ?_ ?_|exact True.intro|refine rq fun _=>?_|simp only[go_sem,k1,zad,zab,Tryz.f72])
 obtain⟨g,hg,s0,hbg⟩:=zcr hbr (.inl k1)
 by_cases k2:g.kind=1
 ·have e:zmx c f=true:=by unfold zmx;rw[s0];simp[k1,k2]
  rw[e]
  refine zae (N:=36) hm hY8 72000 (lst []) zE6 Tryz.func72 rfl rfl (by simp) (by kernel_rfl) ?_
  repeat'(first|refine And.intro ?_ ?_|exact True.intro|refine rq fun _=>?_|simp only[go_sem,k1,hg,k2,zad,zab,Tryz.f72])
 by_cases k3:g.kind=3
 rotate_left
 ·have e:zmx c f=false:=by unfold zmx;rw[s0];simp[k1,k2,k3]
  rw[e]
  refine zae (N:=36) hm hY8 72000 (lst []) zE6 Tryz.func72 rfl rfl (by simp) (by kernel_rfl) ?_
  repeat'(first|refine And.intro ?_ ?_|exact True.intro|refine rq fun _=>?_|simp only[go_sem,k1,hg,k2,k3,zad,zab,Tryz.f72])
 obtain⟨a,b,hab⟩:∃a b,g.words=[a,b]:=by
  have h2:=(zcl.1 hbg.v).2.2.2.1 k3
  match h:g.words,h2 with
  |[a,b],_=>exact⟨a,b,rfl⟩
 have e:zmx c f=decide (zaX c a=zaX c b):=by unfold zmx;rw[s0,hab];simp[k1,k3]
 rw[e]
 obtain⟨ra,hra⟩:∃r,zaX c a=r:=⟨_,rfl⟩
 obtain⟨rb,hrb⟩:∃r,zaX c b=r:=⟨_,rfl⟩
 rw[hra,hrb]
 refine zae (N:=36) hm hY8 72000 (lst []) zE6 Tryz.func72 rfl rfl (by simp) (by kernel_rfl) ?_
 by_cases hr:ra=rb
 ·have hl:(ra.l=rb.l)=True:=eq_true (by rw[hr])
  rw[decide_eq_true hr]
  repeat'(first|refine zaA.i hcw fun _=>?_|refine And.intro ?_ ?_|exact True.intro|refine rq fun _=>?_|simp only[go_sem,k1,hg,k3,hab,hra,hrb,hl,zad,zab,Tryz.f72])
 ·have hl:(ra.l=rb.l)=False:=eq_false fun h=>hr (show(⟨ra.l⟩:Str)=⟨rb.l⟩ by rw[h])
  rw[decide_eq_false hr]
  repeat'(first|refine zaA.i hcw fun _=>?_|refine And.intro ?_ ?_|exact True.intro|refine rq fun _=>?_|simp only[go_sem,k1,hg,k3,hab,hra,hrb,hl,zad,zab,Tryz.f72])
theorem f71 {l fs:List Abs.zac}{id:Abs.Id}{H:zav}{n:Nat}{R:D→zav→Nat→Prop}{d:D}(hd:d= .full (fs.map enc)∨d= .fz (.sl (fs.map enc)))(_hid:id.2<n)(ho:H id=some ⟨[.fz (.sl (l.map enc))],true,false⟩)(h1:l.length≤1000000)(h2:fs.length≤1000000)
  (hR:∀n',n≤n'→R (.fz (.sl ((l++fs).map enc))) H n'):zaw Tryz.prog GA 71 [d,.ptr id 0] H n R:=by
 refine zby zLh (fun hfr=>?_) hR
 obtain⟨Q,hQ⟩:∃Q:D→zav→Nat→Prop,Q=(fun d' H' n'=>d'= .fz (.sl ((l++fs).map enc))∧n≤n'∧∀id,id.2<n→H' id=H id):=⟨_,rfl⟩
 rw[←hQ]
 have e:H=hpX [] H:=rfl
 rw[e]
 rcases hd with rfl|rfl
 all_goals
  refine zae (N:=12) hm hY9 71000 (lst []) zLh Tryz.func71 rfl rfl (by simp) (by kernel_rfl) ?_
  repeat'(first|refine rf fun _=>?_|refine And.intro ?_ ?_|exact True.intro|refine rq fun _=>?_|simp only[go_sem,ho,hpX,Tryz.f71,List.map_append])
  all_goals
   rw[hQ]
   exact⟨by rw[List.map_append],Nat.le_refl _,fun id _=>rfl⟩
end Go.Proofs.YtkkffhphodngkabGreatDoor
