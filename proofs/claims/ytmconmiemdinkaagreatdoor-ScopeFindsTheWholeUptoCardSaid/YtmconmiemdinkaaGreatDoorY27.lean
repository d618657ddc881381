/- several texts of this proof in one; no conditions -/
import Derived.Test.YtmconmiemdinkaaGreatDoorAT
import Derived.Test.YtmconmiemdinkaaGreatDoorY4
import Derived.Test.YtmconmiemdinkaaGreatDoorY20
import Derived.Test.YtmconmiemdinkaaGreatDoorY25
import Derived.Test.YtmconmiemdinkaaGreatDoorY21
set_option maxRecDepth 100000
set_option maxHeartbeats 1000000
set_option linter.unusedSimpArgs false
namespace Go.Proofs.YtmconmiemdinkaaGreatDoor
open Go Go.Abs Go.Proofs
def X34:Tbl:=X33
attribute [go_sem] X34
theorem zsm:zai Tryz.prog GA X34:=zFI
end Go.Proofs.YtmconmiemdinkaaGreatDoor
namespace Go.Proofs.YtmconmiemdinkaaGreatDoor
open Go Go.Abs Go.Proofs
def zhl (i:Nat):Str:=⟨zbm i⟩
def zhW (f:Abs.zab):Abs.zao×zg2:=
 if(zaX false f).code≠0 then(ziQ,zaX false f)
 else if(zaZ (zpK zhl (zat f []))).code≠0 then(ziQ,⟨(zaZ (zpK zhl (zat f []))).code, -1⟩)else(zpK zhl (zat f []),⟨0,0⟩)
def zkV:Tv:=(.q 0 (.q 1 (.q 2 (.q 3 (.q 4 (.q 5 (.q 6 (.q 7 (.q 8 (.q 9 (.q 10 (.br [(11,(.br [(12,.leaf)]))]))))))))))))
def ztt:Tv:=(.q 0 (.q 1 (.q 2 (.q 3 (.q 4 (.q 5 (.q 6 (.q 7 (.br [(8,(.q 9 (.br [(10,.leaf)])))])))))))))
def zkW:Tv:=(.q 0 (.q 1 (.br [(2,(.q 3 (.br [(4,(.br [(5,.leaf)]))]))),(4,(.q 2 (.q 3 (.br [(5,.leaf)]))))])))
structure CI where
 c:Abs.zab
 P:List zbD
 W:List Str
 g1:Nat
 g2:Nat
 m:Nat
structure zHp (num:Nat→Str)(c0:Abs.zab)(n0:Nat)(q:CI):Prop where
 hi:q.P.length≤5
 h1:q.g1<q.m
 h2:q.g2<q.m
 hm:n0≤q.m
 hW:q.W.length=q.P.length
 hs:shF q.c
 hc:(q.P++(zcT num (5-q.P.length) q.P.length q.c).1,q.W++(zcT num (5-q.P.length) q.P.length q.c).2.1,(zcT num (5-q.P.length) q.P.length q.c).2.2)=zcT num 5 0 c0
theorem zfj (k:Nat):zxy (k:Int)=zhl k:=by show _=(⟨zbm k⟩:Str);rw[←zh1]
theorem zoS {k:Nat}(h:k≤5):(zhl k).l.length=1:=by show(zbm k).length=1;rw[zlA (by omega)];rfl
theorem zzp {num:Nat→Str}{i:Nat}:(lN num i).l=108::(num i).l:=rfl
theorem zDH {num:Nat→Str}{i:Nat}:(hN num i).l=104::(num i).l:=rfl
theorem zoy {α:Type}[Enc α]{l:List α}{x:FD}:dec (α:=List α) (.sl (l.map enc++[x]))=l++[dec x]:=by
 show(l.map enc++[x]).map dec=_
 rw[List.map_append,zbE];rfl
def X35:Tbl:=X34.add 20 (ztk zhW fun _=>True)
attribute [go_sem] X35
set_option maxHeartbeats 8000000 in
theorem zIo:zai Tryz.prog GA X35:=by
  refine zgu zE0 zsm fun f _ hw=>?_
  by_cases hc1:¬(zaX false f).code=0
  · have e1:zhW f=(ziQ,zaX false f):=by unfold zhW;rw[if_pos hc1]
    simp only[e1,ziQ]
    refine zam (N:=139) hm zsm 20000 (lsw [86,93,117,126] [1000003,1000011,1000020,1000025]) zE0 Tryz.func20 rfl rfl (by simp) (by kernel_rfl) ?_
    repeat'(first|refine zch hm zsm 20000 (lsw [86,93,117,126] [1000003,1000011,1000020,1000025]) zkU (by kernel_rfl) (by kernel_rfl) ?_|refine And.intro ?_ ?_|exact True.intro|refine rq fun _=>?_|refine zaA.i (zaE (by first|omega|(simp only[List.length_map,List.length_append,List.length_cons,List.length_nil,List.length_range];omega)) (by decide)) fun _=>?_|refine rq fun _=>?_|simp only[go_sem,hc1,zkU,zad,zac,Tryz.f20])
  have hc1:=Decidable.not_not.1 hc1
  have hck:=zfa hc1
  have hsz:=zbo hc1
  have hpc:f.fit=true∧f.size≤1000:=⟨zcZ hc1,by omega⟩
  have hsh:=zpB (env:=[]) (zpD hc1)
  obtain⟨c0,hc0⟩:∃c0,zat f []=c0:=⟨_,rfl⟩
  rw[hc0]at hsh
  have e1:zhW f=if(zaZ (zpK zhl c0)).code≠0 then(ziQ,⟨(zaZ (zpK zhl c0)).code, -1⟩)else(zpK zhl c0,⟨0,0⟩):=by unfold zhW;rw[if_neg (by simp[hc1]),hc0]
  refine zam (N:=139) hm zsm 20000 (lsw [86,93,117,126] [1000003,1000011,1000020,1000025]) zE0 Tryz.func20 rfl rfl (by simp) (by kernel_rfl) ?_
  repeat'(first|refine zaA.i hpc fun _=>?_|refine And.intro ?_ ?_|exact True.intro|refine rq fun _=>?_|refine zaA.i (zaE (by first|omega|(simp only[List.length_map,List.length_append,List.length_cons,List.length_nil,List.length_range];omega)) (by decide)) fun _=>?_|refine rq fun _=>?_|simp only[go_sem,hc1,hck,hc0,zad,zac,Tryz.f20])
  clear hc1 hck hsz hpc hc0 hw
  refine zaJ hm zsm 20000 (lsw [86,93,117,126] [1000003,1000011,1000020,1000025]) (ι:={q:CI // zHp zhl c0 8 q})
    ⟨fun q=>⟨frL [(2,.ptr (20002,1) 0),(3,.ptr (20003,2) 0),(5,.ptr (20005,4) 0),(6,.ptr (20006,5) 0)],
      hpL [((20005,4),some ⟨[.fz (.i .i64 q.1.c.kind),.fz (.s q.1.c.name.l),.fz (.sl (q.1.c.words.map enc)),.fz (.sl (q.1.c.subs.map enc))],true,false⟩),((20006,5),some ⟨[.ow (20086,q.1.g1) 5 (q.1.P.map enc),.full [],.ow (20093,q.1.g2) 1 (q.1.W.map enc)],true,false⟩),((20086,q.1.g1),some tok),((20093,q.1.g2),some tok),((20003,2),some ⟨[.fz (.i .i64 0),.fz (.i .i64 0)],true,false⟩),((20002,1),some ⟨[.full [],.full [],.full []],true,false⟩)],q.1.m⟩,fun q=>5-q.1.P.length⟩
    ⟨⟨c0,[],[],6,7,8⟩,⟨by simp,by simp only;omega,by simp only;omega,by simp only;omega,rfl,hsh,by simp⟩⟩ (by kernel_rfl) ?_ ?_
  · refine zei [] [(20086,6),(20093,7)] [] ?_ ?_ ?_ ?_ ?_<;>simp only[go_sem,List.map_nil]
    all_goals first|done|rfl
  rintro⟨⟨c,P,W,g1,g2,m⟩,kp⟩
  obtain⟨hi,hg1,hg2,hm1,hW,hs,hcl⟩:=kp
  try simp only at hi hg1 hg2 hm1 hW hs hcl
  have hnl:=zoS hi
  have hall:=zrU zhl hs hi hcl
  rcases hall with⟨h5,g,a,b,hsub,hgs,hk,hg,hsb,epk,hnx⟩|⟨h5,g,a,b,hsub,hgs,hk,hg,hsb,epk,hnx⟩|⟨hfin,h5,g,hsub,hkA,hg⟩|⟨hfin,h5,g,hsub,hkB,hg⟩|⟨hfin,h5,hk8,hkC⟩|⟨hfin,hD⟩
  · have h5':(((P.length:Nat):Int)<5)=True:=eq_true (by omega)
    obtain⟨p,hp⟩:∃p,zd8 zhl P.length c=p:=⟨_,rfl⟩
    rw[hp]at epk hnx
    repeat'(first|refine zch hm zsm 20000 (lsw [86,93,117,126] [1000003,1000011,1000020,1000025]) zkV (by kernel_rfl) (by kernel_rfl) ?_|refine And.intro ?_ ?_|exact True.intro|refine rq fun _=>?_|refine zaA.i (zaE (by first|omega|(simp only[List.length_map,List.length_append,List.length_cons,List.length_nil,List.length_range];omega)) (by decide)) fun _=>?_|refine rq fun _=>?_|simp only[go_sem,zkV,h5',hsub,hgs,hk,hg,zfj,zad,zac,Tryz.f20])
    refine⟨⟨⟨b,P++[p],W++[c.name],m+2,m+3,m+4⟩,⟨by simp only[List.length_append,List.length_singleton];omega,by simp only;omega,by simp only;omega,by simp only;omega,by simp only[List.length_append,List.length_singleton];omega,hsb,by simp only[List.length_append,List.length_singleton];exact hnx⟩⟩,by simp only[List.length_append,List.length_singleton];omega,?_⟩
    refine zau ?_ ?_ ?_<;>simp only[go_sem,epk,List.map_append,zzp,zDH]
    all_goals first|done|rfl
  · have h5':(((P.length:Nat):Int)<5)=True:=eq_true (by omega)
    obtain⟨p,hp⟩:∃p,zd8 zhl P.length c=p:=⟨_,rfl⟩
    rw[hp]at epk hnx
    repeat'(first|refine zch hm zsm 20000 (lsw [86,93,117,126] [1000003,1000011,1000020,1000025]) zkV (by kernel_rfl) (by kernel_rfl) ?_|refine And.intro ?_ ?_|exact True.intro|refine rq fun _=>?_|refine zaA.i (zaE (by first|omega|(simp only[List.length_map,List.length_append,List.length_cons,List.length_nil,List.length_range];omega)) (by decide)) fun _=>?_|refine rq fun _=>?_|simp only[go_sem,zkV,h5',hsub,hgs,hk,hg,zfj,zad,zac,Tryz.f20])
    refine⟨⟨⟨b,P++[p],W++[c.name],m+2,m+3,m+4⟩,⟨by simp only[List.length_append,List.length_singleton];omega,by simp only;omega,by simp only;omega,by simp only;omega,by simp only[List.length_append,List.length_singleton];omega,hsb,by simp only[List.length_append,List.length_singleton];exact hnx⟩⟩,by simp only[List.length_append,List.length_singleton];omega,?_⟩
    refine zau ?_ ?_ ?_<;>simp only[go_sem,epk,List.map_append,zzp,zDH]
    all_goals first|done|rfl
  all_goals first
    |(have hg':=eq_false hg
      have hkA:=hkA
      have h5':(((P.length:Nat):Int)<5)=True:=eq_true (by omega)
      repeat'(first|refine And.intro ?_ ?_|exact True.intro|refine rq fun _=>?_|refine zaA.i (zaE (by first|omega|(simp only[List.length_map,List.length_append,List.length_cons,List.length_nil,List.length_range];omega)) (by decide)) fun _=>?_|refine rq fun _=>?_|simp only[go_sem,h5',hsub,hkA,hg',zfj,zad,zac,Tryz.f20]))
    |(have hg':=eq_false hg
      have hkB:=hkB
      have h5':(((P.length:Nat):Int)<5)=True:=eq_true (by omega)
      repeat'(first|refine And.intro ?_ ?_|exact True.intro|refine rq fun _=>?_|refine zaA.i (zaE (by first|omega|(simp only[List.length_map,List.length_append,List.length_cons,List.length_nil,List.length_range];omega)) (by decide)) fun _=>?_|refine rq fun _=>?_|simp only[go_sem,h5',hsub,hkB,hg',zfj,zad,zac,Tryz.f20]))
    |(have hk8:=eq_false hk8
      have hkC:=eq_false hkC
      have h5':(((P.length:Nat):Int)<5)=True:=eq_true (by omega)
      repeat'(first|refine And.intro ?_ ?_|exact True.intro|refine rq fun _=>?_|refine zaA.i (zaE (by first|omega|(simp only[List.length_map,List.length_append,List.length_cons,List.length_nil,List.length_range];omega)) (by decide)) fun _=>?_|refine rq fun _=>?_|simp only[go_sem,h5',hk8,hkC,zfj,zad,zac,Tryz.f20]))
    |(have h5':(((P.length:Nat):Int)<5)=False:=eq_false (by have:=hD;omega)
      repeat'(first|refine And.intro ?_ ?_|exact True.intro|refine rq fun _=>?_|refine zaA.i (zaE (by first|omega|(simp only[List.length_map,List.length_append,List.length_cons,List.length_nil,List.length_range];omega)) (by decide)) fun _=>?_|refine rq fun _=>?_|simp only[go_sem,h5',zfj,zad,zac,Tryz.f20]))
  all_goals
    refine zaJ hm zsm 20000 (lsw [86,93,117,126] [1000003,1000011,1000020,1000025]) (ι:=zg3 P.length m fun _=>True)
      ⟨fun q=>⟨frL [(2,.ptr (20002,1) 0),(3,.ptr (20003,2) 0),(5,.ptr (20005,4) 0),(6,.ptr (20006,5) 0),(12,.fz (.s (108::(zhl P.length).l))),(105,.fz (.i .i64 P.length)),(106,.fz (.i .i64 q.i))],
        hpL [((20005,4),some ⟨[.fz (.i .i64 c.kind),.fz (.s c.name.l),.fz (.sl (c.words.map enc)),.fz (.sl (c.subs.map enc))],true,false⟩),((20006,5),some ⟨[.ow (20086,g1) 5 (P.map enc),.ow (20117,q.g) 2 ((ovL zhl P.length q.i).map enc),.ow (20093,g2) 1 (W.map enc)],true,false⟩),((20086,g1),some tok),((20093,g2),some tok),((20117,q.g),some tok),((20003,2),some ⟨[.fz (.i .i64 0),.fz (.i .i64 0)],true,false⟩),((20002,1),some ⟨[.full [],.full [],.full []],true,false⟩)],q.m⟩,fun q=>P.length-q.i⟩
      ⟨0,m,m+1,by omega,by omega,by omega,trivial⟩ (by kernel_rfl) ?_ ?_
    · refine zei [] [(20117,m)] [] ?_ ?_ ?_ ?_ ?_<;>first|(simp only[go_sem,hsub,hkA,zkq,List.map_nil];first|done|rfl|omega)|(simp only[go_sem,hsub,hkB,zkq,List.map_nil];first|done|rfl|omega)|(simp only[go_sem,zkq,List.map_nil];first|done|rfl|omega)|rfl
    rintro⟨j,g3,m2,hj,hg3,hm2,_⟩
    try simp only at hj hg3 hm2
    rcases Nat.lt_or_ge j P.length with h2|h2
    · have hnj:=zoS (k:=j) (by omega)
      repeat'(first|refine zch hm zsm 20000 (lsw [86,93,117,126] [1000003,1000011,1000020,1000025]) ztt (by kernel_rfl) (by kernel_rfl) ?_|refine And.intro ?_ ?_|exact True.intro|refine rq fun _=>?_|refine zaA.i (zaE (by first|omega|(simp only[List.length_map,List.length_append,List.length_cons,List.length_nil,List.length_range];omega)) (by decide)) fun _=>?_|refine rq fun _=>?_|simp only[go_sem,h2,zfj,zsX,ztt,zad,zac,Tryz.f20])
      refine⟨⟨j+1,m2,m2+1,by omega,by omega,by omega,trivial⟩,by simp only;omega,?_⟩
      refine zau ?_ ?_ ?_<;>simp only[go_sem,zvk,List.map_append,zx7,zzp,zDH]
      all_goals first|done|rfl
    obtain rfl:j=P.length:=by omega
    have ecut:zpK zhl c0=⟨P++[⟨lN zhl P.length,c⟩],ovL zhl P.length P.length,W⟩:=by unfold zpK;rw[←hfin];rfl
    have hOl:=zsX zhl (n:=P.length) (i:=P.length)
    obtain⟨O,hO⟩:∃O,ovL zhl P.length P.length=O:=⟨_,rfl⟩
    simp only[hO]at ecut ⊢
    rw[ecut]at e1
    have ecut2:(⟨P++[⟨⟨108::(zhl P.length).l⟩,c⟩],O,W⟩:Abs.zao)=⟨P++[⟨lN zhl P.length,c⟩],O,W⟩:=rfl
    obtain⟨sc,hsc⟩:∃sc,zaZ ⟨P++[⟨lN zhl P.length,c⟩],O,W⟩=sc:=⟨_,rfl⟩
    rw[hsc]at e1
    by_cases hz:sc.code=0
    · rw[if_neg (by simp[hz])]at e1
      repeat'(first|refine zch hm zsm 20000 (lsw [86,93,117,126] [1000003,1000011,1000020,1000025]) zkW (by kernel_rfl) (by kernel_rfl) ?_|refine And.intro ?_ ?_|exact True.intro|refine rq fun _=>?_|refine zaA.i (zaE (by first|omega|(simp only[List.length_map,List.length_append,List.length_cons,List.length_nil,List.length_range];omega)) (by decide)) fun _=>?_|refine rq fun _=>?_|simp only[go_sem,Nat.lt_irrefl,Int.lt_irrefl,zoy,ecut2,zzp,hsc,hz,zkW,zad,zac,Tryz.f20])
      rw[e1]
      simp only[go_sem,List.map_append,List.map_cons,List.map_nil,zzp]
    · have hz':=eq_false hz
      rw[if_pos hz]at e1
      repeat'(first|refine zch hm zsm 20000 (lsw [86,93,117,126] [1000003,1000011,1000020,1000025]) zkW (by kernel_rfl) (by kernel_rfl) ?_|refine And.intro ?_ ?_|exact True.intro|refine rq fun _=>?_|refine zaA.i (zaE (by first|omega|(simp only[List.length_map,List.length_append,List.length_cons,List.length_nil,List.length_range];omega)) (by decide)) fun _=>?_|refine rq fun _=>?_|simp only[go_sem,Nat.lt_irrefl,Int.lt_irrefl,zoy,ecut2,zzp,hsc,hz',e1,ziQ,zkW,zad,zac,Tryz.f20])
end Go.Proofs.YtmconmiemdinkaaGreatDoor
namespace Go.Proofs.YtmconmiemdinkaaGreatDoor
open Go Go.Abs Go.Proofs
def Rf0:Tbl:=Tbl.or Re3 X35
theorem zB6:zai Tryz.prog GA Rf0:=zhc zIf zIo
def zhC (f:Abs.zab):Abs.zab×zg2:=if(zaX false f).code≠0 then(zfq,zaX false f)else(zat f [],⟨0,0⟩)
def Rf1:Tbl:=Rf0.add 21 (ztk zhC fun _=>True)
theorem zIg:zai Tryz.prog GA Rf1:=by
 refine zgu zE1 zB6 fun f _ hw=>?_
 by_cases hc1:¬(zaX false f).code=0
 ·have e1:zhC f=(zfq,zaX false f):=by unfold zhC;rw[if_pos hc1]
  simp only[e1,zfq]
  refine zam (N:=15) Go.Proofs.YtmconmiemdinkaaGreatDoor.hm zB6 21000 (lst [1000003]) zE1 Tryz.func21 rfl rfl (by simp) (by kernel_rfl) ?_
  repeat'(first|refine zch Go.Proofs.YtmconmiemdinkaaGreatDoor.hm zB6 21000 (lst [1000003]) zkU (by kernel_rfl) (by kernel_rfl) ?_|refine And.intro ?_ ?_|exact True.intro|refine rq fun _=>?_|refine rf fun _=>?_|simp only[go_sem,hc1,zkU,zac,zad,zak,zap,zaN,zaa,Tryz.f21,Rf0,X35,X34,Re3,Re2,Re1,Rd1,Rd0,Sc6,Sc5,Sc4,Su4,Su3,Su2,Su1,Sc3,Sc2,Sc1,Sc0])
  all_goals first|done|rfl|omega
 ·have hc1:=Decidable.not_not.1 hc1
  have hck:=zfa hc1
  have e1:zhC f=(zat f [],⟨0,0⟩):=by unfold zhC;rw[if_neg (by simp[hc1])]
  have hpr:f.fit=true∧f.size≤1000:=⟨zcZ hc1,by have:=zbo hc1;omega⟩
  obtain⟨c,hc⟩:∃c,zat f []=c:=⟨_,rfl⟩
  simp only[e1,hc]
  refine zam (N:=15) Go.Proofs.YtmconmiemdinkaaGreatDoor.hm zB6 21000 (lst [1000003]) zE1 Tryz.func21 rfl rfl (by simp) (by kernel_rfl) ?_
  repeat'(first|refine zaA.i hpr fun _=>?_|refine And.intro ?_ ?_|exact True.intro|refine rq fun _=>?_|refine rf fun _=>?_|simp only[go_sem,hc1,hck,hc,zac,zad,zak,zap,zaN,zaa,Tryz.f21,Rf0,X35,X34,Re3,Re2,Re1,Rd1,Rd0,Sc6,Sc5,Sc4,Su4,Su3,Su2,Su1,Sc3,Sc2,Sc1,Sc0])
  all_goals first|done|rfl|omega
set_option maxHeartbeats 8000000 in
theorem zu9 (hT:zai Tryz.prog GA Rf1)(f:Abs.zab)(_:(enc f).Wf):zaH Tryz.prog GA 6 [.fz (enc f)] (hpL []) 0 (fun d _ _=>d= .fz (.b true)):=by
 have ho1:zmo ⟨[⟨⟨[97]⟩,zmk ⟨[100,111,103]⟩ [⟨[107,105,109]⟩]⟩],[],[]⟩=(zcV zC1,⟨0,0⟩):=zoW (s:=zC1) (by rw[zBm])
 by_cases h0:(zaX false f).code=0
 case neg=>
  have h0':((zaX false f).code=0)=False:=eq_false h0
  have hr:zhW f=(ziQ,zaX false f):=by unfold zhW;rw[if_pos h0]
  refine zam (N:=67) Go.Proofs.YtmconmiemdinkaaGreatDoor.hm hT 6000 (lst []) ok6 Tryz.func6 rfl rfl (by simp) (by kernel_rfl) ?_
  repeat'(first|refine And.intro ?_ ?_|exact True.intro|refine rq fun _=>?_|refine rf fun _=>?_|simp only[go_sem,hr,ziQ,h0',ho1,zid,zac,zad,zak,zap,zaN,zaa,GA,Tryz.f6,Rf1,Rf0,X35,X34,Re3,Re2,Re1,Rd1,Rd0,Sc6,Sc5,Sc4,Su4,Su3,Su2,Su1,Sc3,Sc2,Sc1,Sc0])
  all_goals first|done|rfl|omega
 obtain⟨S,hS⟩:∃S,zpK zhl (zat f [])=S:=⟨_,rfl⟩
 by_cases h1:(zaZ S).code=0
 case neg=>
  have hr:zhW f=(ziQ,⟨(zaZ S).code, -1⟩):=by unfold zhW;rw[if_neg (by simp[h0]),hS,if_pos h1]
  refine zam (N:=67) Go.Proofs.YtmconmiemdinkaaGreatDoor.hm hT 6000 (lst []) ok6 Tryz.func6 rfl rfl (by simp) (by kernel_rfl) ?_
  repeat'(first|refine And.intro ?_ ?_|exact True.intro|refine rq fun _=>?_|refine rf fun _=>?_|simp only[go_sem,hr,ziQ,ho1,zid,zac,zad,zak,zap,zaN,zaa,GA,Tryz.f6,Rf1,Rf0,X35,X34,Re3,Re2,Re1,Rd1,Rd0,Sc6,Sc5,Sc4,Su4,Su3,Su2,Su1,Sc3,Sc2,Sc1,Sc0])
  all_goals first|done|rfl|omega
 have hr:zhW f=(S,⟨0,0⟩):=by unfold zhW;rw[if_neg (by simp[h0]),hS,if_neg (by simp[h1])]
 have hrd:=zoW h1
 have hcp:zhC f=(zat f [],⟨0,0⟩):=by unfold zhC;rw[if_neg (by simp[h0])]
 have hin:=zqi zhl h0 (by rw[hS];exact h1)
 rw[hS]at hin
 obtain⟨C,hC⟩:∃C,zat f []=C:=⟨_,rfl⟩
 rw[hC]at hcp hin
 have hfew:=zvu (zkH h1)
 obtain⟨R,hR⟩:∃R,zcV S=R:=⟨_,rfl⟩
 rw[hR]at hin hrd hfew
 obtain⟨N,hN⟩:∃N,R.length=N:=⟨_,rfl⟩
 have kin:=Kp.mk hin
 clear hin
 refine zam (N:=67) Go.Proofs.YtmconmiemdinkaaGreatDoor.hm hT 6000 (lst []) ok6 Tryz.func6 rfl rfl (by simp) (by kernel_rfl) ?_
 repeat'(first|refine And.intro ?_ ?_|exact True.intro|refine rq fun _=>?_|refine rf fun _=>?_|simp only[go_sem,hr,hrd,hcp,ho1,zid,zac,zad,zak,zap,zaN,zaa,GA,Tryz.f6,Rf1,Rf0,X35,X34,Re3,Re2,Re1,Rd1,Rd0,Sc6,Sc5,Sc4,Su4,Su3,Su2,Su1,Sc3,Sc2,Sc1,Sc0])
 refine zaJ Go.Proofs.YtmconmiemdinkaaGreatDoor.hm hT 6000 (lst []) (ι:=zjB N 7 fun i=>C∉R.take i)
  ⟨fun q=>⟨frL [(7,.fz (.sl (R.map enc))),(9,.ptr (6009,5) 0),(56,.fz (.i .i64 N)),(57,.fz (.i .i64 q.i))],hpL [((6009,5),some ⟨[.fz (.i .i64 C.kind),.fz (.s C.name.l),.fz (.sl (C.words.map enc)),.fz (.sl (C.subs.map enc))],true,false⟩)],q.m⟩,fun q=>N-q.i⟩
  ⟨0,7,by omega,by omega,by simp⟩ (by kernel_rfl) ?_ ?_
 ·refine zau ?_ ?_ ?_<;>simp only[go_sem,hN]
  all_goals first|done|rfl|omega
 rintro⟨k,m,hk,hm3,hp⟩
 try simp only at hk hm3 hp
 rcases Nat.lt_or_ge k N with h2|h2
 ·have h2':k<R.length:=by omega
  obtain⟨x,hx⟩:∃x,R[k]=x:=⟨_,rfl⟩
  by_cases hxc:x=C
  ·repeat'(first|refine And.intro ?_ ?_|exact True.intro|refine rq fun _=>?_|refine rf fun _=>?_|simp only[go_sem,h2,h2',hx,eq_true hxc,ho1,zid,zac,zad,zak,zap,zaN,zaa,GA,Tryz.f6,Rf1,Rf0,X35,X34,Re3,Re2,Re1,Rd1,Rd0,Sc6,Sc5,Sc4,Su4,Su3,Su2,Su1,Sc3,Sc2,Sc1,Sc0])
   all_goals first|done|rfl|omega
  ·repeat'(first|refine And.intro ?_ ?_|exact True.intro|refine rq fun _=>?_|refine rf fun _=>?_|simp only[go_sem,h2,h2',hx,eq_false hxc,ho1,zid,zac,zad,zak,zap,zaN,zaa,GA,Tryz.f6,Rf1,Rf0,X35,X34,Re3,Re2,Re1,Rd1,Rd0,Sc6,Sc5,Sc4,Su4,Su3,Su2,Su1,Sc3,Sc2,Sc1,Sc0])
   refine⟨⟨k+1,m,by omega,by omega,?_⟩,by simp only;omega,?_⟩
   ·rw[List.take_succ_eq_append_getElem h2',hx]
    intro h3
    rcases List.mem_append.1 h3 with h3|h3
    ·exact hp h3
    ·exact hxc (List.mem_singleton.1 h3).symm
   refine zau ?_ ?_ ?_<;>simp only[go_sem]
   all_goals first|done|rfl|omega
 ·obtain rfl:k=N:=by omega
  refine absurd kin.out ?_
  rw[←hN,List.take_length]at hp
  exact hp
end Go.Proofs.YtmconmiemdinkaaGreatDoor
