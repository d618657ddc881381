/- several texts of this proof in one; no conditions -/
import Derived.Test.YtmconmiemdinkaaGreatDoorAT
import Derived.Test.YtmconmiemdinkaaGreatDoorY22
import Derived.Test.YtmconmiemdinkaaGreatDoorY10
import Derived.Test.YtmconmiemdinkaaGreatDoorY1
import Derived.Test.YtmconmiemdinkaaGreatDoorY17
import Derived.Test.YtmconmiemdinkaaGreatDoorY18
set_option maxRecDepth 100000
set_option maxHeartbeats 1000000
set_option linter.unusedSimpArgs false
namespace Go.Proofs.YtmconmiemdinkaaGreatDoor
open Go Go.Abs Go.Proofs
theorem ziy:∀xs:List FD,D.toFDs (xs.map .fz)=some xs
 |[]=>rfl
 |x::xs=>by rw[List.map_cons,D.toFDs,ziy xs];rfl
theorem zDy {l:List Bool}{id:Abs.Id}{v:Bool}{len:Nat}{H:zaw}{n:Nat}{R:D→zaw→Nat→Prop}(ho:H id=some ⟨zaf (l.map enc),false,v⟩)(hv:v=true→l=[])(hl:len=l.length)
  (hR:R (.fz (enc (decide (false∈l)))) (zaI H id none) n):zaH Tryz.prog GA 82 [.arr id 1 0 len,.fz (.b false)] H n R:=by
 subst hl
 rw[zbw]at ho
 refine zk4 id (l.map enc) ho (fun h=>by rw[hv h];rfl) (by rw[show(l.map fun a=>D.fz (enc a))=(l.map enc).map .fz by rw[List.map_map];rfl];exact ziy _) (fun x hx=>by obtain⟨y,_,rfl⟩:=List.mem_map.1 hx;rfl) (args':=[.fz (.sl (l.map enc)),.fz (.b false)]) ?_ ?_
 ·simp only[zsj,fzD,List.length_map,and_self,if_true]
 ·refine zrq zFH (xs:=[enc l,enc false]) (by simp[Su4,Su3,Tbl.add];rfl) rfl zu8 ?_ ?_
  ·exact⟨by rw[dec_enc],by rw[dec_enc],by rw[dec_enc]⟩
  ·rw[dec_enc,dec_enc];exact hR
def HL (p:zed)(s:zao)(seen:List Bool):List (Abs.Id×Option O):=
  [((54002,0),some ⟨[.fz (.sl (p.holes.map enc)),.fz (.sl (p.pieces.map enc)),.fz (.i .i64 p.top)],true,false⟩),((54003,1),some ⟨[.fz (.sl (s.pieces.map enc)),.fz (.sl (s.overs.map enc)),.fz (.sl (s.vars.map enc))],true,false⟩),((54010,2),some ⟨zaf (seen.map enc),false,false⟩),
   ((54005,3),some ⟨[.arr (54010,2) 1 0 (nP s)],true,false⟩),((54006,4),some ⟨[.fn 81 [.ptr (54005,3) 0,.ptr (54003,1) 0,.ptr (54006,4) 0,.ptr (54002,0) 0]],true,false⟩)]
set_option maxHeartbeats 8000000 in
theorem f81 {p:zed}{s:zao}(hp:onP p s):∀(k:Nat) (seen:List Bool) (i m:Nat),seen.length=nP s→i<nP s→zgj seen<k→4<m→
  zaH Tryz.prog GA 81 [.fz (.i .i64 i),.ptr (54005,3) 0,.ptr (54003,1) 0,.ptr (54006,4) 0,.ptr (54002,0) 0] (hpL (HL p s seen)) m
   (fun d' H' n'=>d'= .tup []∧m≤n'∧ze0 H' (HL p s (zg6 (zbc s (zaC p.pieces)) k seen i))):=by
 intro k
 induction k with
 |zero=>intro seen i m _ _ h;omega
 |succ k ih=>
  intro seen i m hsl hi hf hm4
  obtain⟨Q,hQ⟩:∃Q:D→zaw→Nat→Prop,Q=(fun d' H' n'=>d'= .tup []∧m≤n'∧ze0 H' (HL p s (zg6 (zbc s (zaC p.pieces)) (k+1) seen i))):=⟨_,rfl⟩
  rw[←hQ]
  have hlb:(zaf (seen.map enc)).length=seen.length:=by rw[zhU (zdn (f:=enc) (k:=1) (fun _=>rfl) _),List.length_map]
  have hgd:(zaf (seen.map enc)).getD i D.junk=D.fz (.b (seen.getD i false)):=by
   rw[zbw,List.getD_eq_getElem?_getD,List.getElem?_map,List.getD_eq_getElem?_getD,List.getElem?_eq_getElem (by omega)];rfl
  have hset:(zaf (seen.map enc)).set i (.fz (.b true))=zaf ((seen.set i true).map enc):=zoH
  have hn6:=hp.c.n6
  have hI:i<s.pieces.length:=hi
  obtain⟨pc,hpc⟩:∃pc,s.pieces[i]=pc:=⟨_,rfl⟩
  have hho:zb0 s i=zas pc.form:=by unfold zb0;rw[List.getElem?_eq_getElem hI,hpc]
  have hfz:pc.form.size≤1000:=by have:=zbo (hp.c.chk pc (by rw[←hpc];exact List.getElem_mem hI));omega
  have hin:∀x∈zas pc.form,(x∈p.holes∧p.pieces.length=p.holes.length)∧inQ p x=((inP s (zaC p.pieces) x:Nat):Int)∧inP s (zaC p.pieces) x<nP s:=fun x hx=>by
   have hxa:x∈zbt s.pieces:=zdX (i:=i) (by rw[hho];exact hx)
   have h1:p.holes=zbt s.pieces:=by rw[hp.e];rfl
   have h2:=zke hp.l hxa
   rw[←hp.e]at h2
   have h3:p.pieces.length=(zaC p.pieces).length:=by unfold zaC;rw[List.length_map]
   exact⟨⟨by rw[h1];exact hxa,by rw[h1,h3];exact hp.l.e⟩,h2,zqm hp.l hxa⟩
  cases hs:seen.getD i false with
  |true=>
   have hd:zg6 (zbc s (zaC p.pieces)) (k+1) seen i=seen:=by rw[zg6,if_pos hs]
   rw[hd]at hQ
   rw[hs]at hgd
   have kQ:=Kp.mk hQ
   clear hQ ih hin
   refine zam (N:=33) Go.Proofs.YtmconmiemdinkaaGreatDoor.hm zAl 81000 (lsw [] []) zG5 Tryz.func81 rfl rfl (by simp) (by kernel_rfl) ?_
   repeat'(first|refine And.intro ?_ ?_|exact True.intro|refine rq fun _=>?_|refine rf fun _=>?_|simp only[go_sem,HL,hgd,hlb,hsl,hi,Tryz.f81])
   all_goals
    rw[kQ.out]
    refine⟨rfl,by omega,?_⟩
    simp only[go_sem,HL]
  |false=>
   rw[hs]at hgd
   have hfs:=zhV (seen:=seen) (i:=i) (by omega) hs
   obtain⟨A,hA⟩:∃A:Nat→List Bool,A=fun j=>((zas pc.form).take j).foldl (fun sn x=>zg6 (zbc s (zaC p.pieces)) k sn (inP s (zaC p.pieces) x)) (seen.set i true):=⟨_,rfl⟩
   have hA0:A 0=seen.set i true:=by rw[hA];rfl
   have hAs:∀j (h:j<(zas pc.form).length),A (j+1)=zg6 (zbc s (zaC p.pieces)) k (A j) (inP s (zaC p.pieces) (zas pc.form)[j]):=fun j h=>by
    rw[hA];simp only
    rw[List.take_succ_eq_append_getElem h,List.foldl_append]
    rfl
   have hAe:zg6 (zbc s (zaC p.pieces)) (k+1) seen i=A (zas pc.form).length:=by
    rw[zg6,if_neg (by rw[hs];decide),hA]
    simp only[List.take_length]
    unfold zbc
    rw[hho,List.foldl_map]
   have hAl:∀j,j≤(zas pc.form).length→(A j).length=nP s∧zgj (A j)<k:=by
    intro j
    induction j with
    |zero=>intro _;rw[hA0,List.length_set];exact⟨hsl,by omega⟩
    |succ j ihj=>
     intro hj
     obtain⟨g1,g2⟩:=ihj (by omega)
     have g3:=zhf hp.l.g k (A j) (inP s (zaC p.pieces) (zas pc.form)[j]) g1 (hin _ (List.getElem_mem (by omega))).2.2 g2
     rw[←hAs j (by omega)]at g3
     exact⟨g3.l,by have:=zgk (by rw[g1,g3.l];rfl) g3.u;omega⟩
   rw[hAe]at hQ
   have kQ:=Kp.mk hQ
   have kI:=Kp.mk ih
   have kA:=Kp.mk hAs
   have kL:=Kp.mk hAl
   have kN:=Kp.mk hin
   clear hQ ih hAs hAl hAe hA hin
   obtain⟨L,hL⟩:∃L,(zas pc.form).length=L:=⟨_,rfl⟩
   have hLb:L≤1000:=by have:=zdG pc.form;omega
   refine zam (N:=33) Go.Proofs.YtmconmiemdinkaaGreatDoor.hm zAl 81000 (lsw [] []) zG5 Tryz.func81 rfl rfl (by simp) (by kernel_rfl) ?_
   repeat'(first|refine And.intro ?_ ?_|exact True.intro|refine rq fun _=>?_|refine rf fun _=>?_|simp only[go_sem,HL,hgd,hset,hlb,hsl,hi,hI,hpc,hL,zac,zad,zaM,zak,zap,zaa,Tryz.f81,Sc3,Sc2,Sc1,Sc0])
   refine zaJ Go.Proofs.YtmconmiemdinkaaGreatDoor.hm zAl 81000 (lsw [] []) (ι:=zjB L m fun _=>True)
    ⟨fun q=>⟨frL [(1,.ptr (54005,3) 0),(2,.ptr (54003,1) 0),(3,.ptr (54006,4) 0),(4,.ptr (54002,0) 0),(21,.fz (.sl ((zas pc.form).map enc))),(22,.fz (.i .i64 L)),(23,.fz (.i .i64 q.i))],hpL (HL p s (A q.i)),q.m⟩,fun q=>L-q.i⟩
    ⟨0,m,by omega,Nat.le_refl _,trivial⟩ (by kernel_rfl) ?_ ?_
   ·refine zau ?_ ?_ ?_<;>(try simp only[go_sem,HL,hA0,hset])
    all_goals first|done|rfl|omega
   rintro⟨j,m2,hj,hm2,_⟩
   try simp only at hj hm2
   rcases Nat.lt_or_ge j L with h1|h1
   ·have h1':j<(zas pc.form).length:=by omega
    have h9:((j:Int)<(L:Int))=True:=eq_true (by omega)
    obtain⟨x,hx⟩:∃x,(zas pc.form)[j]=x:=⟨_,rfl⟩
    obtain⟨hi1,hi2,hi3⟩:=kN.out x (by rw[←hx];exact List.getElem_mem h1')
    have hbs:=kA.out j h1'
    rw[hx]at hbs
    obtain⟨hl1,hl2⟩:=kL.out j (by omega)
    have ih2:=kI.out (A j) (inP s (zaC p.pieces) x) m2 hl1 hi3 hl2 (by omega)
    repeat'(first|refine zaA.i hi1 fun _=>?_|refine And.intro ?_ ?_|exact True.intro|refine rq fun _=>?_|refine rf fun _=>?_|simp only[go_sem,HL,h9,h1',hx,hi2,zac,zad,zaM,zak,zap,zaa,Tryz.f81,Sc3,Sc2,Sc1,Sc0])
    refine zaV.i (zaK ih2 ?_)
    rintro d' H' n' ⟨rfl,e1,e2⟩
    rw[←hbs]at e2
    simp only[go_sem,HL]at e2
    obtain⟨b1,b2,b3,b4,b5⟩:=e2
    rw[show H'=hpX [] H' from rfl]
    repeat'(first|refine And.intro ?_ ?_|exact True.intro|refine rq fun _=>?_|refine rf fun _=>?_|simp only[go_sem,HL,Tryz.f81,Sc3,Sc2,Sc1,Sc0])
    refine⟨⟨j+1,n',by omega,by omega,trivial⟩,by simp only;omega,?_⟩
    refine zau ?_ ?_ ?_
    ·simp only[go_sem]
    ·simp only[go_sem,HL,b1,b2,b3,b4,b5]
    ·simp only[go_sem]
   obtain rfl:j=L:=by omega
   repeat'(first|refine And.intro ?_ ?_|exact True.intro|refine rq fun _=>?_|refine rf fun _=>?_|simp only[go_sem,HL,Nat.lt_irrefl,Int.lt_irrefl,hL,Tryz.f81,Sc3,Sc2,Sc1,Sc0])
   all_goals
    rw[kQ.out]
    refine⟨rfl,by omega,?_⟩
    simp only[go_sem,HL,hL]
end Go.Proofs.YtmconmiemdinkaaGreatDoor
namespace Go.Proofs.YtmconmiemdinkaaGreatDoor
open Go Go.Abs Go.Proofs
theorem zx1 {n:Nat}{d:D}:(List.range n).map (fun j=>[d].getD (j % 1) .junk)=List.replicate n d:=by
 simp[Nat.mod_one,List.map_const']
theorem zih {n:Nat}:List.replicate n (D.fz (.b false))=zaf ((List.replicate n false).map enc):=by
 rw[zbw];simp[zus]
theorem zvM {p:zed}{s:zao}(h:onP p s):decide (false∈zg6 (zbc s (zaC p.pieces)) (nP s+1) (List.replicate (nP s) false) (zeG (nP s) (zaC p.pieces)))= !zcX s (zaC p.pieces):=by
 have h1:=zvN h.l.g h.l.t.1
 have e:decide (false∈zg6 (zbc s (zaC p.pieces)) (nP s+1) (List.replicate (nP s) false) (zeG (nP s) (zaC p.pieces)))=(zg6 (zbc s (zaC p.pieces)) (nP s+1) (List.replicate (nP s) false) (zeG (nP s) (zaC p.pieces))).contains false:=by
  rw[List.contains_eq_mem]
 rw[e]
 have h2:zcX s (zaC p.pieces)=true↔(∀j,j<nP s→zki (zm1 s (zaC p.pieces)) (zeG (nP s) (zaC p.pieces)) (nP s+1) j=true):=by
  unfold zcX
  rw[List.all_eq_true]
  exact⟨fun g j hj=>g j (List.mem_range.2 hj),fun g j hj=>g j (List.mem_range.1 hj)⟩
 have h3:=h1.trans h2.symm
 unfold nP at h3 ⊢
 cases ha:(zg6 (zbc s (zaC p.pieces)) (s.pieces.length+1) (List.replicate s.pieces.length false) (zeG s.pieces.length (zaC p.pieces))).contains false with
 |false=>rw[h3.1 ha];rfl
 |true=>
  cases hb:zcX s (zaC p.pieces)with
  |false=>rfl
  |true=>rw[h3.2 hb]at ha;cases ha
def Sc4:Tbl:=Tbl.or Sc3 Su4
theorem zIj:zai Tryz.prog GA Sc4:=zhc zAl zFH
def Sc5:Tbl:=Sc4.add 54 (sp2 (fun p s=> !zcX s (zaC p.pieces)) onP)
set_option maxHeartbeats 4000000 in
theorem zq4:zai Tryz.prog GA Sc5:=by
 refine zbC zGQ zIj fun p s hp _ _=>?_
 have htop:p.top=(zeG (nP s) (zaC p.pieces):Nat):=by
  have:=congrArg zed.top hp.e
  exact this
 have htd:=zvM hp
 have hn6:=hp.c.n6
 have hnp:s.pieces.length=nP s:=rfl
 have hrun:=f81 hp (nP s+1) (List.replicate (nP s) false) (zeG (nP s) (zaC p.pieces)) 5 (List.length_replicate ..) hp.l.t.1 (by rw[zfM];omega) (by omega)
 have hlen:=(zhf hp.l.g (nP s+1) (List.replicate (nP s) false) (zeG (nP s) (zaC p.pieces)) (List.length_replicate ..) hp.l.t.1 (by rw[zfM];omega)).l
 obtain⟨r,hr⟩:∃r,zg6 (zbc s (zaC p.pieces)) (nP s+1) (List.replicate (nP s) false) (zeG (nP s) (zaC p.pieces))=r:=⟨_,rfl⟩
 rw[hr]at hrun hlen htd
 have hlen2:nP s=r.length:=hlen.symm
 have hr1:1≤nP s:=hp.c.n1
 obtain⟨t,ht⟩:∃t,zeG (nP s) (zaC p.pieces)=t:=⟨_,rfl⟩
 rw[ht]at htop hrun
 have krun:=Kp.mk hrun
 clear hrun hr ht
 refine zam (N:=18) Go.Proofs.YtmconmiemdinkaaGreatDoor.hm zAl 54000 (lsw [] []) zGQ Tryz.func54 rfl rfl (by simp) (by kernel_rfl) ?_
 repeat'(first|refine And.intro ?_ ?_|exact True.intro|refine rq fun _=>?_|refine rf fun _=>?_|simp only[go_sem,htop,hnp,zx1,zih,zac,zad,zaM,zak,zap,zaa,Tryz.f54,Sc3,Sc2,Sc1,Sc0])
 refine zaV.i (zdC (by rfl) (zau ?_ ?_ ?_) (zaK krun.out ?_))
 ·simp only[go_sem,zgE]
 ·simp only[go_sem,HL,hnp,htop,zx1,zih]
 ·simp only[go_sem]
 rintro d' H' n' ⟨rfl,e1,e2⟩
 simp only[go_sem,HL]at e2
 obtain⟨b1,b2,b3,b4,b5⟩:=e2
 rw[show H'=hpX [] H' from rfl]
 repeat'(first|refine zaV.i (zDy (l:=r) b3 (fun h=>by cases h) hlen2 ?_)|refine And.intro ?_ ?_|exact True.intro|refine rq fun _=>?_|refine rf fun _=>?_|simp only[go_sem,b1,b2,b3,b4,b5,htd,Tryz.f54,Sc3,Sc2,Sc1,Sc0])
 all_goals first|done|rfl|omega
end Go.Proofs.YtmconmiemdinkaaGreatDoor
namespace Go.Proofs.YtmconmiemdinkaaGreatDoor
open Go Go.Abs Go.Proofs
theorem f56 {y:zbD}{x:Str}{z:D}{id:Abs.Id}{H:zaw}{n:Nat}{R:D→zaw→Nat→Prop}(hid0:id.2<n)(ho:H id=some ⟨[z,.fz (.s x.l)],true,false⟩)
  (hR:∀n',n≤n'→R (.fz (.b (decide (y.label=x)))) H n'):zaH Tryz.prog GA 56 [.fz (enc y),.ptr id 0] H n R:=by
 refine zeJ zGS (fun hfr=>?_) hR
 obtain⟨Q,hQ⟩:∃Q:D→zaw→Nat→Prop,Q=(fun d' H' n'=>d'= .fz (.b (decide (y.label=x)))∧n≤n'∧∀id,id.2<n→H' id=H id):=⟨_,rfl⟩
 rw[←hQ]
 have e:H=hpX [] H:=rfl
 rw[e]
 have hn0:∀id:Abs.Id,id.2<n→id≠(56002,n):=fun id h e=>by rw[e]at h;simp at h
 have hne:(id=(56002,n))=False:=eq_false (hn0 id hid0)
 have h1':(y.label.l=x.l)=(y.label=x):=by
  apply propext
  constructor
  ·intro e
   cases h:y.label
   cases h2:x
   rw[h,h2]at e
   exact congrArg Str.mk e
  ·intro e;rw[e]
 refine zam (N:=9) hm zcL 56000 (lst []) zGS Tryz.func56 rfl rfl (by simp) (by kernel_rfl) ?_
 repeat'(first|refine And.intro ?_ ?_|exact True.intro|refine rq fun _=>?_|refine rf fun _=>?_|simp only[go_sem,ho,h1',hne,Tryz.f56])
 all_goals
  rw[hQ]
  refine⟨?_,by omega,fun id hid=>?_⟩
  ·first|rfl|(simp only[h1'];done)
  ·simp only[go_sem,hn0 id hid]
set_option maxHeartbeats 4000000 in
theorem f55 {ps:List zbD}{x:Str}{F:FuncId}{id:Abs.Id}{H:zaw}{n:Nat}{R:D→zaw→Nat→Prop}(hl:ps.length≤1000000)
  (hcl:∀(y:zbD) (m:Nat) (R:D→zaw→Nat→Prop),n≤m→(∀n',m≤n'→R (.fz (.b (decide (y.label=x)))) H n')→zaH Tryz.prog GA F [.fz (enc y),.ptr id 0] H m R)
  (hR:∀n',n≤n'→R (.fz (.i .i64 (idx (zaS ps) x))) H n'):zaH Tryz.prog GA 55 [.fz (enc ps),.fn F [.ptr id 0]] H n R:=by
 refine zeJ zGR (fun hfr=>?_) hR
 obtain⟨Q,hQ⟩:∃Q:D→zaw→Nat→Prop,Q=(fun d' H' n'=>d'= .fz (.i .i64 (idx (zaS ps) x))∧n≤n'∧∀id,id.2<n→H' id=H id):=⟨_,rfl⟩
 rw[←hQ]
 have kq:=Kp.mk hQ
 have kc:=Kp.mk hcl
 clear hQ hcl
 have e:H=hpX [] H:=rfl
 rw[e]
 have hll:(zaS ps).length=ps.length:=by unfold zaS;rw[List.length_map]
 obtain⟨L,hL⟩:∃L,ps.length=L:=⟨_,rfl⟩
 refine zam (N:=19) hm zcL 55000 (lst []) zGR Tryz.func55 rfl rfl (by simp) (by kernel_rfl) ?_
 repeat'(first|refine And.intro ?_ ?_|exact True.intro|refine rq fun _=>?_|refine rf fun _=>?_|simp only[go_sem,hL,zap,Tryz.f55])
 refine zaJ hm zcL 55000 (lst []) (ι:=zjB L n fun i=>x∉(zaS ps).take i)
  ⟨fun q=>⟨frL [(0,.fz (.sl (ps.map enc))),(1,.fn F [.ptr id 0]),(7,.fz (.i .i64 L)),(8,.fz (.i .i64 q.i))],hpX [] H,q.m⟩,fun q=>L-q.i⟩
  ⟨0,n,by omega,Nat.le_refl _,by simp⟩ (by kernel_rfl) ?_ ?_
 ·refine zaP ?_ ?_ (fun id2 o2 ho2=>?_) ?_
  ·simp only[go_sem]
  ·simp only[go_sem]
  ·exact ho2
  ·first|omega|(simp only[go_sem];done)|(simp only[go_sem];omega)
 rintro⟨i,m,hi,hm1,hp⟩
 try simp only at hi hm1 hp
 rcases Nat.lt_or_ge i L with h1|h1
 ·have h1':i<ps.length:=by omega
  have h9:((i:Int)<(L:Int))=True:=eq_true (by omega)
  obtain⟨y,hy⟩:∃y,ps[i]=y:=⟨_,rfl⟩
  have hlab:(zaS ps)[i]'(by omega)=y.label:=by simp only[zaS,List.getElem_map,hy]
  have h1b:i<(zaS ps).length:=by omega
  by_cases hyp:y.label=x
  ·have hd:decide (y.label=x)=true:=decide_eq_true hyp
   repeat'(first|refine zaV.i (kc.out y _ _ (by omega) fun n' hn'=>?_)|refine And.intro ?_ ?_|exact True.intro|refine rq fun _=>?_|refine rf fun _=>?_|simp only[go_sem,h9,h1',hy,hd,zap,zaa,Tryz.f55])
   all_goals
    rw[kq.out]
    refine⟨?_,by omega,fun _ _=>rfl⟩
    have hin:x∈zaS ps:=by rw[←hyp,←hlab];exact List.getElem_mem h1b
    unfold idx
    rw[if_pos hin,zst h1b hp (hlab.trans hyp)]
  ·have hd:decide (y.label=x)=false:=decide_eq_false hyp
   repeat'(first|refine zaV.i (kc.out y _ _ (by omega) fun n' hn'=>?_)|refine And.intro ?_ ?_|exact True.intro|refine rq fun _=>?_|refine rf fun _=>?_|simp only[go_sem,h9,h1',hy,hd,zap,zaa,Tryz.f55])
   all_goals
    refine⟨⟨i+1,n',by omega,by omega,zdI h1b hp (by rw[hlab];exact hyp)⟩,by simp only;omega,?_⟩
    refine zaP ?_ ?_ (fun id2 o2 ho2=>?_) ?_
    ·simp only[go_sem]
    ·simp only[go_sem]
    ·exact ho2
    ·first|omega|(simp only[go_sem];done)|(simp only[go_sem];omega)
 have h9:((i:Int)<(L:Int))=False:=eq_false (by omega)
 repeat'(first|refine And.intro ?_ ?_|exact True.intro|refine rq fun _=>?_|refine rf fun _=>?_|simp only[go_sem,h9,Tryz.f55])
 all_goals
  rw[kq.out]
  refine⟨?_,by omega,fun _ _=>rfl⟩
  unfold idx
  rw[if_neg (zey (by omega) hp)]
end Go.Proofs.YtmconmiemdinkaaGreatDoor
namespace Go.Proofs.YtmconmiemdinkaaGreatDoor
open Go Go.Abs Go.Proofs
section
variable {P:Program} {G:Nat→List FD}
theorem zpu {f:FuncId}{args:List D}{xs cs:List FD}{H:zaw}{n t es len:Nat}{v:Bool}{R:D→zaw→Nat→Prop}(ha:D.toFDs args=some xs)
  (h:zaH P G f (xs.map .fz) H0 0 (fun d H1 n1=>∃g,g<n1∧d= .arr (t,g) es 0 len∧H1 (t,g)=some ⟨cs.map .fz,false,v⟩))(hR:∀g n',n≤g→g<n'→R (.arr (t,g) es 0 len) (hpX [((t,g),some ⟨cs.map .fz,false,v⟩)] H) n'):zaH P G f args H n R:=by
 refine ze8 h.1 fun hfr=>zcr (zk5 ha h) ?_
 rintro d H' n' ⟨d1,H1,n1,⟨g,hg,rfl,ho⟩,rfl,rfl,rfl⟩
 have hm:∀l:List FD,zqN n (l.map .fz)=l.map .fz:=fun l=>by
  rw[zeT,List.map_map]
  exact List.map_congr_left fun x _=>rfl
 have hsh:shH n H H1 (t,g+n)=some ⟨cs.map .fz,false,v⟩:=by
  unfold shH
  rw[if_pos (by simp),show(t,g+n-n)=(t,g) by rw[Nat.add_sub_cancel],ho]
  simp only[Option.map_some,shO,hm]
 refine⟨.arr (t,g+n) es 0 len,hpX [((t,g+n),some ⟨cs.map .fz,false,v⟩)] H,n+n1,zeK ?_ (fun id o hid=>?_) (Nat.le_refl _),hR (g+n) (n+n1) (by omega) (by omega)⟩
 ·exact⟨rfl,trivial⟩
 ·simp only[hpX]at hid
  split at hid
  ·rename_i e;subst e;rw[←hid];exact hsh
  ·have hlt:id.2<n:=by
    rcases Nat.lt_or_ge id.2 n with h3|h3
    ·exact h3
    ·rw[hfr id h3]at hid;cases hid
   show shH n H H1 id=some o
   unfold shH
   rw[if_neg (by omega)]
   exact hid
end
theorem zw3 {l:List Bool}(hl:l.length≤1000000):zaH Tryz.prog GA 52 [.fz (.sl (l.map enc))] H0 0 (fun d H n=>∃g,g<n∧d= .arr (52007,g) 1 0 l.length∧H (52007,g)=some ⟨(l.map enc).map .fz,false,l.isEmpty⟩):=by
 rw[zft]
 have hfl:zaf (l.map enc)=(l.map enc).map .fz:=by
  unfold zaf
  rw[List.map_map,List.flatMap_map]
  induction l with
  |nil=>rfl
  |cons x l ih=>rw[List.flatMap_cons,List.map_cons,ih (by simp at hl;omega)];rfl
 obtain⟨Q,hQ⟩:∃Q:D→zaw→Nat→Prop,Q=(fun d H n=>(d= .full []∧l=[]∧n=0∧H=hpL [])∨∃g,g<n∧d= .arr (52007,g) 1 0 l.length∧H (52007,g)=some ⟨(l.map enc).map .fz,false,l.isEmpty⟩):=⟨_,rfl⟩
 have key:zaH Tryz.prog GA 52 [.fz (.sl (l.map enc))] (hpL []) 0 Q:=by
  refine zam (N:=8) hm zcL 52000 (lst [7]) zIN Tryz.func52 rfl rfl (by simp) (by kernel_rfl) ?_
  simp only[go_sem]
  refine zv2.i fun b hb=>?_
  cases b
  ·repeat'(first|refine And.intro ?_ ?_|exact True.intro|refine rq fun _=>?_|refine rf fun _=>?_|simp only[go_sem,Tryz.f52])
   rw[hQ]
   refine .inr ⟨0,by omega,by simp only[go_sem],?_⟩
   simp only[go_sem,←hfl]
   all_goals trace_state
  ·have:l=[]:=List.eq_nil_of_length_eq_zero (hb rfl)
   subst this
   repeat'(first|refine And.intro ?_ ?_|exact True.intro|refine rq fun _=>?_|refine rf fun _=>?_|simp only[go_sem,Tryz.f52])
   rw[hQ]
   exact .inl ⟨rfl,rfl,rfl,rfl⟩
 refine zcr key ?_
 rw[hQ]
 rintro d H n (⟨rfl,rfl,rfl,rfl⟩|⟨g,hg,rfl,ho⟩)
 ·refine⟨.arr (52007,0) 1 0 0,hpL [((52007,0),some ⟨[],false,true⟩)],1,?_,0,by omega,rfl,by simp only[go_sem]⟩
  refine zei [] [(52007,0)] [] ?_ ?_ ?_ ?_ ?_<;>simp only[go_sem]
  all_goals first|done|rfl
 ·exact⟨_,H,n,zeK ⟨rfl,trivial⟩ (fun _ _ h=>h) (Nat.le_refl _),g,hg,rfl,ho⟩
def zpb:Tv:=(.q 0 (.q 1 (.q 2 (.q 3 (.q 4 (.br [(5,(.br [(6,.leaf)]))]))))))
def HQ (s:zao)(m0:Nat)(U:List zed)(g:Nat):List (Abs.Id×Option O):=
  [((25001,0),some ⟨[.fz (.sl (s.pieces.map enc)),.fz (.sl (s.overs.map enc)),.fz (.sl (s.vars.map enc))],true,false⟩),((25003,1),some ⟨[.fz (.sl ((zbt s.pieces).map enc))],true,false⟩),((25006,m0),some ⟨[.fz (.i .i64 (nP s))],true,false⟩),
   ((25007,m0+1),some ⟨[.ow (51105,g) 3 (U.map enc)],true,false⟩),((25008,m0+2),some ⟨[.fn 51 [.ptr (25003,1) 0,.ptr (25006,m0) 0,.ptr (25008,m0+2) 0,.ptr (25001,0) 0,.ptr (25007,m0+1) 0]],true,false⟩),((51105,g),some tok)]
def zn7 (s:zao)(m0 m:Nat)(U:List zed)(d':D)(H':zaw)(n':Nat):Prop:=d'= .tup []∧m≤n'∧∃g',g'<n'∧ze0 H' (HQ s m0 U g')
set_option maxHeartbeats 8000000 in
theorem znT {s:zao}{used:List Bool}{l:List Nat}{U:List zed}{g m m0:Nat}(hs:zg9 s)(hu:(zbt s.pieces).length+1=nP s)(hi:ztT s used l)(hl:l.length=(zbt s.pieces).length)(hO:U.length+1≤1000000)(hg:g<m):
  zaH Tryz.prog GA 51 [.fz (.sl (used.map enc)),.fz (.sl ((zcn l).map enc)),.ptr (25003,1) 0,.ptr (25006,m0) 0,.ptr (25008,m0+2) 0,.ptr (25001,0) 0,.ptr (25007,m0+1) 0] (hpL (HQ s m0 U g)) m (zn7 s m0 m (U++(zd4 s 0 used l).map (zcN s))):=by
 obtain⟨Q,hQ⟩:∃Q:D→zaw→Nat→Prop,Q=zn7 s m0 m (U++(zd4 s 0 used l).map (zcN s)):=⟨_,rfl⟩
 rw[←hQ]
 have hk:=hi.ok hs hl hu
 have hon:=zwC hs hk
 obtain⟨ht1,ht2⟩:=hi.top hk
 have hix:zm0 used false=((zeG (nP s) l:Nat):Int):=by unfold zm0;rw[if_pos ht1,ht2]
 obtain⟨N,hN⟩:∃N,zbt s.pieces=N:=⟨_,rfl⟩
 have hil:(zcn l).length=l.length:=by unfold zcn;rw[List.length_map]
 have htl:zeG (nP s) l<s.pieces.length:=hk.t.1
 obtain⟨t,hte⟩:∃t,zeG (nP s) l=t:=⟨_,rfl⟩
 have hPe:zcN s l=⟨zbt s.pieces,zcn l,((zeG (nP s) l:Nat):Int)⟩:=rfl
 obtain⟨P,hP⟩:∃P,zcN s l=P:=⟨_,rfl⟩
 rw[hP,hte,hN]at hPe
 have hPh:P.holes=N:=by rw[hPe]
 have hPp:P.pieces=zcn l:=by rw[hPe]
 have hPt:P.top=(t:Int):=by rw[hPe]
 obtain⟨pc,hpc⟩:∃pc,s.pieces[t]'(by rw[←hte];exact htl)=pc:=⟨_,rfl⟩
 have hfo:zbH s t=pc.form:=by unfold zbH;rw[List.getElem?_eq_getElem (by rw[←hte];exact htl),hpc]
 have hres0:okS s l=false→∀{n':Nat} {H':zaw},m≤n'→ze0 H' (HQ s m0 U g)→Q (.tup []) H' n':=fun h n' H' h1 h2=>by
  rw[hQ,zd4,h]
  exact⟨rfl,h1,g,by omega,by simpa using h2⟩
 have hres1:okS s l=true→∀{n' g':Nat} {H':zaw},m≤n'→g'<n'→ze0 H' (HQ s m0 (U++[P]) g')→Q (.tup []) H' n':=fun h n' g' H' h1 h2 h3=>by
  rw[hQ,zd4,h,if_pos rfl]
  exact⟨rfl,h1,g',h2,by rw[←hP]at h3;exact h3⟩
 have hnl:((l.length:Int)<(N.length:Int))=False:=eq_false (by rw[←hN];omega)
 rw[hP]at hon
 have hnat:zaC P.pieces=l:=by rw[←hP];exact zfU
 have hov:∀o∈s.overs,(o.hole∈P.holes∧P.pieces.length=P.holes.length)∧inQ P o.hole=((inP s l o.hole:Nat):Int)∧idx (zaS s.pieces) o.label=((zww s o.label:Nat):Int)∧inP s l o.hole<nP s:=fun o ho=>by
  obtain⟨h1,h2⟩:=hs.ovs o ho
  refine⟨⟨by rw[hPh,←hN];exact h1,by rw[hPp,hPh,hil,hl,←hN]⟩,by rw[←hP];exact zke hk h1,?_,zqm hk h1⟩
  unfold idx
  rw[if_pos h2];rfl
 have hod:∀o∈s.overs,decide (((zww s o.label:Nat):Int)∈zdk P s ((inP s l o.hole:Nat):Int))=zkr s l o:=fun o ho=>by rw[←hP];exact zvl hs hk ho
 have hreq:FD.agg [FD.sl (N.map enc),FD.sl ((zcn l).map enc),FD.i .i64 t]=FD.agg [FD.sl (P.holes.map enc),FD.sl (P.pieces.map enc),FD.i .i64 P.top]∧onP P s:=⟨by rw[hPh,hPp,hPt],hon⟩
 have hn6:=hs.n6
 have hpl:s.pieces.length≤1000000:=by have:s.pieces.length=nP s:=rfl;omega
 have hovl:=hs.ov
 have hvl:=hs.vs
 have hnp:s.pieces.length=nP s:=rfl
 clear hQ
 by_cases hT:zcX s l=true
 case neg=>
  have hT:zcX s l=false:=by simpa using hT
  have hT':zcX s (zaC P.pieces)=false:=by rw[hnat];exact hT
  have hok:okS s l=false:=by unfold okS;rw[hT];rfl
  have kr:=Kp.mk (@hres0 hok)
  clear hres0 hres1 hov hod
  refine zam (N:=106) Go.Proofs.YtmconmiemdinkaaGreatDoor.hm zq4 51000 (lsw [105] [1000009]) zE5 Tryz.func51 rfl rfl (by simp) (by kernel_rfl) ?_
  repeat'(first|refine zch Go.Proofs.YtmconmiemdinkaaGreatDoor.hm zq4 51000 (lsw [105] [1000009]) zpb (by kernel_rfl) (by kernel_rfl) ?_|refine zaA.i hreq fun _=>?_|refine And.intro ?_ ?_|exact True.intro|refine rq fun _=>?_|refine rf fun _=>?_|simp only[go_sem,zpb,HQ,hN,hil,hnl,hix,hte,←hPe,hT',zac,zad,zaM,zak,zap,zaN,zaa,Tryz.f51,Sc5,Sc4,Su4,Su3,Su2,Su1,Sc3,Sc2,Sc1,Sc0])
  all_goals
   refine kr.out ?_ ?_
   ·omega
   ·simp only[go_sem,HQ,hN]
 have hT':zcX s (zaC P.pieces)=true:=by rw[hnat];exact hT
 have hpos:nP s≤6:=hn6
 have hwf:=zjv hk hT
 have hws:=zde hs hk hT
 rw[hP,hte,hfo]at hwf
 obtain⟨W,hW⟩:∃W,zcS s l=W:=⟨_,rfl⟩
 rw[hW]at hwf hws
 have hinT:inT P s:=⟨hon,hT'⟩
 have hok:okS s l=(s.overs.all (zkr s l)&&s.vars.all (zyB s l)):=by unfold okS;rw[hT,Bool.true_and]
 obtain⟨ov,hove⟩:∃ov,s.overs=ov:=⟨_,rfl⟩
 obtain⟨vr,hvre⟩:∃vr,s.vars=vr:=⟨_,rfl⟩
 have hvar:∀v,zyB s l v= !decide (v∈zbX W):=fun v=>by
  unfold zyB
  rw[hW]
  congr 1
  exact decide_eq_decide.2 (zcE W v).symm
 have hfop:zfL P s pc.form:=⟨hinT,fun h hh=>zdX (i:=t) (by rw[zbQ,hfo];exact hh),by
  have:=zbo (hs.chk pc (by rw[←hpc];exact List.getElem_mem _));omega⟩
 have hcw:(cst W []).length≤1000000∧W.size≤1000000:=⟨by rw[←hW];exact ztL hs hk hT,by omega⟩
 have hbel:∀o∈s.overs,zhz P s ((inP s l o.hole:Nat):Int):=fun o ho=>⟨hinT,by omega,by rw[Int.toNat_natCast];exact(hov o ho).2.2.2⟩
 have h0:=Kp.mk @hres0
 have h1:=Kp.mk @hres1
 have kov:=Kp.mk hov
 have kod:=Kp.mk hod
 have kbe:=Kp.mk hbel
 have kva:=Kp.mk hvar
 have kok:=Kp.mk hok
 clear hres0 hres1 hov hod hok hbel hvar
 obtain⟨Lo,hLo⟩:∃Lo,s.overs.length=Lo:=⟨_,rfl⟩
 obtain⟨Lv,hLv⟩:∃Lv,s.vars.length=Lv:=⟨_,rfl⟩
 rw[hLo]at hovl
 rw[hLv]at hvl
 refine zam (N:=106) Go.Proofs.YtmconmiemdinkaaGreatDoor.hm zq4 51000 (lsw [105] [1000009]) zE5 Tryz.func51 rfl rfl (by simp) (by kernel_rfl) ?_
 repeat'(first|refine zch Go.Proofs.YtmconmiemdinkaaGreatDoor.hm zq4 51000 (lsw [105] [1000009]) zpb (by kernel_rfl) (by kernel_rfl) ?_|refine zaA.i hreq fun _=>?_|refine And.intro ?_ ?_|exact True.intro|refine rq fun _=>?_|refine rf fun _=>?_|simp only[go_sem,zpb,HQ,hN,hil,hnl,hix,hte,←hPe,hT',hLo,zac,zad,zaM,zak,zap,zaN,zaa,Tryz.f51,Sc5,Sc4,Su4,Su3,Su2,Su1,Sc3,Sc2,Sc1,Sc0])
 refine zaJ Go.Proofs.YtmconmiemdinkaaGreatDoor.hm zq4 51000 (lsw [105] [1000009]) (ι:=zjB Lo (m+1) fun i=>(s.overs.take i).all (zkr s l)=true)
  ⟨fun q=>⟨frL [(5,.ptr (25001,0) 0),(6,.ptr (25007,m0+1) 0),(11,.ptr (51011,m) 0),(59,.fz (.sl (s.overs.map enc))),(60,.fz (.i .i64 Lo)),(61,.fz (.i .i64 q.i))],
   hpL (((51011,m),some ⟨[.fz (.sl (P.holes.map enc)),.fz (.sl (P.pieces.map enc)),.fz (.i .i64 P.top)],true,false⟩)::HQ s m0 U g),q.m⟩,fun q=>Lo-q.i⟩
  ⟨0,m+1,by omega,Nat.le_refl _,by simp⟩ (by kernel_rfl) ?_ ?_
 ·refine zau ?_ ?_ ?_<;>(try simp only[go_sem,HQ,hN,hPh,hPp,hPt])
  all_goals first|done|rfl|omega
 rintro⟨j,m2,hj,hm2,hall⟩
 try simp only at hj hm2 hall
 rcases Nat.lt_or_ge j Lo with h2|h2
 ·have h2':j<s.overs.length:=by omega
  have h9:((j:Int)<(Lo:Int))=True:=eq_true (by omega)
  obtain⟨ob,hob⟩:∃ob,s.overs[j]=ob:=⟨_,rfl⟩
  have hmem:ob∈s.overs:=by rw[←hob];exact List.getElem_mem h2'
  obtain⟨g1,g2,g3,g4⟩:=kov.out ob hmem
  have gb:=kbe.out ob hmem
  have gd:=kod.out ob hmem
  have hts:=List.take_succ_eq_append_getElem h2'
  rw[hob]at hts
  cases hb:zkr s l ob with
  |false=>
   rw[hb]at gd
   have hbad:okS s l=false:=by
    rw[kok.out,Bool.and_eq_false_iff]
    refine .inl ?_
    rw[Bool.eq_false_iff]
    intro h
    have:=List.all_eq_true.1 h ob hmem
    rw[hb]at this;cases this
   repeat'(first|refine zaV.i (f55 (x:=ob.label) hpl (fun y m3 R3 h3 h4=>f56 (x:=ob.label) (z:= .fz (.s ob.hole.l)) (by simp only;omega) (by simp only[go_sem]) h4) fun n' hn'=>?_)|refine zaA.i g1 fun _=>?_|refine zaA.i gb fun _=>?_|refine And.intro ?_ ?_|exact True.intro|refine rq fun _=>?_|refine rf fun _=>?_|simp only[go_sem,HQ,h9,h2',hob,g2,g3,gd,zac,zad,zaM,zak,zap,zaN,zaa,Tryz.f51,Sc5,Sc4,Su4,Su3,Su2,Su1,Sc3,Sc2,Sc1,Sc0])
   all_goals
    refine h0.out hbad ?_ ?_
    ·omega
    ·simp only[go_sem,HQ,hN]
  |true=>
   rw[hb]at gd
   repeat'(first|refine zaV.i (f55 (x:=ob.label) hpl (fun y m3 R3 h3 h4=>f56 (x:=ob.label) (z:= .fz (.s ob.hole.l)) (by simp only;omega) (by simp only[go_sem]) h4) fun n' hn'=>?_)|refine zaA.i g1 fun _=>?_|refine zaA.i gb fun _=>?_|refine And.intro ?_ ?_|exact True.intro|refine rq fun _=>?_|refine rf fun _=>?_|simp only[go_sem,HQ,h9,h2',hob,g2,g3,gd,zac,zad,zaM,zak,zap,zaN,zaa,Tryz.f51,Sc5,Sc4,Su4,Su3,Su2,Su1,Sc3,Sc2,Sc1,Sc0])
   refine⟨⟨j+1,n',by omega,by omega,by rw[hts,List.all_append,hall];simp[hb]⟩,by simp only;omega,?_⟩
   refine zau ?_ ?_ ?_<;>(try simp only[go_sem,HQ,hN])
   all_goals first|done|rfl|omega
 obtain rfl:j=Lo:=by omega
 rw[List.take_of_length_le (by omega)]at hall
 have hok2:okS s l=s.vars.all (zyB s l):=by rw[kok.out,hall,Bool.true_and]
 clear kok kov kod kbe
 have htl2:t<s.pieces.length:=by omega
 have hpe2:(zed.mk P.holes P.pieces (t:Int))=P:=by rw[←hPt]
 repeat'(first|refine zaA.i hfop fun _=>?_|refine zaA.i hcw fun _=>?_|refine And.intro ?_ ?_|exact True.intro|refine rq fun _=>?_|refine rf fun _=>?_|simp only[go_sem,HQ,Nat.lt_irrefl,Int.lt_irrefl,hPt,hpe2,htl2,hpc,hwf,hLv,zac,zad,zaM,zak,zap,zaN,zaa,Tryz.f51,Sc5,Sc4,Su4,Su3,Su2,Su1,Sc3,Sc2,Sc1,Sc0])
 refine zaJ Go.Proofs.YtmconmiemdinkaaGreatDoor.hm zq4 51000 (lsw [105] [1000009]) (ι:=zjB Lv (m+1) fun i=>(s.vars.take i).all (zyB s l)=true)
  ⟨fun q=>⟨frL [(6,.ptr (25007,m0+1) 0),(11,.ptr (51011,m) 0),(15,.fz (.sl ((zbX W).map enc))),(92,.fz (.sl (s.vars.map enc))),(93,.fz (.i .i64 Lv)),(94,.fz (.i .i64 q.i))],
   hpL (((51011,m),some ⟨[.fz (.sl (P.holes.map enc)),.fz (.sl (P.pieces.map enc)),.fz (.i .i64 P.top)],true,false⟩)::HQ s m0 U g),q.m⟩,fun q=>Lv-q.i⟩
  ⟨0,m2,by omega,by omega,by simp⟩ (by kernel_rfl) ?_ ?_
 ·refine zau ?_ ?_ ?_<;>(try simp only[go_sem,HQ,hN,hPh,hPp,hPt])
  all_goals first|done|rfl|omega
 rintro⟨k,m3,hk3,hm3,hall2⟩
 try simp only at hk3 hm3 hall2
 rcases Nat.lt_or_ge k Lv with h2|h2
 ·have h2':k<s.vars.length:=by omega
  have h9:((k:Int)<(Lv:Int))=True:=eq_true (by omega)
  obtain⟨v,hv⟩:∃v,s.vars[k]=v:=⟨_,rfl⟩
  have hmem:v∈s.vars:=by rw[←hv];exact List.getElem_mem h2'
  have gv:=kva.out v
  have hts:=List.take_succ_eq_append_getElem h2'
  rw[hv]at hts
  cases hb:decide (v∈zbX W)with
  |true=>
   rw[hb]at gv
   have hbad:okS s l=false:=by
    rw[hok2,Bool.eq_false_iff]
    intro h
    have:=List.all_eq_true.1 h v hmem
    rw[gv]at this;cases this
   repeat'(first|refine And.intro ?_ ?_|exact True.intro|refine rq fun _=>?_|refine rf fun _=>?_|simp only[go_sem,HQ,h9,h2',hv,hb,zac,zad,zaM,zak,zap,zaN,zaa,Tryz.f51,Sc5,Sc4,Su4,Su3,Su2,Su1,Sc3,Sc2,Sc1,Sc0])
   all_goals
    refine h0.out hbad ?_ ?_
    ·omega
    ·simp only[go_sem,HQ,hN]
  |false=>
   rw[hb]at gv
   repeat'(first|refine And.intro ?_ ?_|exact True.intro|refine rq fun _=>?_|refine rf fun _=>?_|simp only[go_sem,HQ,h9,h2',hv,hb,zac,zad,zaM,zak,zap,zaN,zaa,Tryz.f51,Sc5,Sc4,Su4,Su3,Su2,Su1,Sc3,Sc2,Sc1,Sc0])
   refine⟨⟨k+1,m3,by omega,by omega,by rw[hts,List.all_append,hall2];simp[gv]⟩,by simp only;omega,?_⟩
   refine zau ?_ ?_ ?_<;>(try simp only[go_sem,HQ,hN])
   all_goals first|done|rfl|omega
 obtain rfl:k=Lv:=by omega
 rw[List.take_of_length_le (by omega)]at hall2
 have hok3:okS s l=true:=by rw[hok2,hall2]
 repeat'(first|refine And.intro ?_ ?_|exact True.intro|refine rq fun _=>?_|refine rf fun _=>?_|simp only[go_sem,HQ,Nat.lt_irrefl,Int.lt_irrefl,zac,zad,zaM,zak,zap,zaN,zaa,Tryz.f51,Sc5,Sc4,Su4,Su3,Su2,Su1,Sc3,Sc2,Sc1,Sc0])
 all_goals
  refine h1.out hok3 (g':=m3) ?_ ?_ ?_
  ·omega
  ·omega
  ·simp only[go_sem,HQ,hN,List.map_append,List.map_cons,List.map_nil]
end Go.Proofs.YtmconmiemdinkaaGreatDoor
namespace Go.Proofs.YtmconmiemdinkaaGreatDoor
open Go Go.Abs Go.Proofs
set_option maxHeartbeats 8000000 in
theorem f51 {s:zao}{m0:Nat}(hs:zg9 s)(hu:(zbt s.pieces).length+1=nP s):∀(r:Nat) (used:List Bool) (l:List Nat) (U:List zed) (g m:Nat),ztT s used l→l.length+r=(zbt s.pieces).length→U.length+nP s^r≤1000000→g<m→m0+3≤m→
  zaH Tryz.prog GA 51 [.fz (.sl (used.map enc)),.fz (.sl ((zcn l).map enc)),.ptr (25003,1) 0,.ptr (25006,m0) 0,.ptr (25008,m0+2) 0,.ptr (25001,0) 0,.ptr (25007,m0+1) 0] (hpL (HQ s m0 U g)) m (zn7 s m0 m (U++(zd4 s r used l).map (zcN s))):=by
 intro r
 induction r with
 |zero=>intro used l U g m hi hl hU hg hm0;exact znT hs hu hi (by omega) (by simpa using hU) hg
 |succ r ih=>
  intro used l U g m hi hl hU hg hm0
  obtain⟨Q,hQ⟩:∃Q:D→zaw→Nat→Prop,Q=zn7 s m0 m (U++(zd4 s (r+1) used l).map (zcN s)):=⟨_,rfl⟩
  rw[←hQ]
  have hn1:=hs.n1
  have hn6:=hs.n6
  have hul:=hi.len
  obtain⟨Wl,hWl⟩:∃Wl:Nat→List (List Nat),Wl=fun i=>if used.getD i false=true then[]else zd4 s r (used.set i true) (l++[i]):=⟨_,rfl⟩
  obtain⟨A,hA⟩:∃A:Nat→List zed,A=fun j=>U++((List.range j).flatMap Wl).map (zcN s):=⟨_,rfl⟩
  have hA0:A 0=U:=by rw[hA];simp
  have hAs:∀j,A (j+1)=A j++(Wl j).map (zcN s):=fun j=>by
   rw[hA];simp only
   rw[List.range_succ,List.flatMap_append,List.map_append,List.append_assoc]
   simp
  have hAe:U++(zd4 s (r+1) used l).map (zcN s)=A (nP s):=by rw[hA,zd4,hWl]
  have hWb:∀j,(Wl j).length≤nP s^r:=fun j=>by
   rw[hWl];simp only
   split
   ·simp
   ·exact ziC r _ _
  have hAl:∀j,(A j).length≤U.length+j*nP s^r:=fun j=>by
   rw[hA];simp only
   rw[List.length_append,List.length_map]
   have:=zny hWb j
   omega
  have hAb:∀j,j<nP s→(A j).length+nP s^r≤1000000:=fun j hj=>by
   have h1:=hAl j
   have h2:(j+1)*nP s^r≤nP s*nP s^r:=Nat.mul_le_mul_right _ hj
   rw[Nat.add_mul,Nat.one_mul]at h2
   rw[Nat.pow_succ,Nat.mul_comm]at hU
   omega
  have hAt:∀j,used.getD j false=true→A (j+1)=A j:=fun j h=>by
   rw[hAs,hWl];simp only;rw[if_pos h];simp
  have hAf:∀j,used.getD j false=false→A (j+1)=A j++(zd4 s r (used.set j true) (l++[j])).map (zcN s):=fun j h=>by
   rw[hAs,hWl];simp only;rw[if_neg (by rw[h];decide)]
  rw[hAe]at hQ
  have hil:(zcn l).length=l.length:=by unfold zcn;rw[List.length_map]
  have hnl:((l.length:Int)<((zbt s.pieces).length:Int))=True:=eq_true (by omega)
  have hll:l.length≤6:=by omega
  have hue:used.isEmpty=false:=by
   cases used with
   |nil=>simp at hul;omega
   |cons _ _=>rfl
  have kI:=Kp.mk ih
  have kAt:=Kp.mk hAt
  have kAf:=Kp.mk hAf
  have kAb:=Kp.mk hAb
  have kQ:=Kp.mk hQ
  clear ih hAt hAf hAb hAl hWb hAs hAe hA hQ hWl
  refine zam (N:=106) Go.Proofs.YtmconmiemdinkaaGreatDoor.hm zq4 51000 (lsw [105] [1000009]) zE5 Tryz.func51 rfl rfl (by simp) (by kernel_rfl) ?_
  repeat'(first|refine And.intro ?_ ?_|exact True.intro|refine rq fun _=>?_|refine rf fun _=>?_|simp only[go_sem,HQ,hil,hnl,zac,zad,zaM,zak,zap,zaN,zaa,Tryz.f51,Sc5,Sc4,Su4,Su3,Su2,Su1,Sc3,Sc2,Sc1,Sc0])
  refine zaJ Go.Proofs.YtmconmiemdinkaaGreatDoor.hm zq4 51000 (lsw [105] [1000009]) (ι:=zg3 (nP s) m fun _=>True)
   ⟨fun q=>⟨frL [(0,.fz (.sl (used.map enc))),(1,.fz (.sl ((zcn l).map enc))),(2,.ptr (25003,1) 0),(3,.ptr (25006,m0) 0),(4,.ptr (25008,m0+2) 0),(5,.ptr (25001,0) 0),(6,.ptr (25007,m0+1) 0),(23,.fz (.i .i64 (nP s))),(24,.fz (.i .i64 q.i))],
    hpL (HQ s m0 (A q.i) q.g),q.m⟩,fun q=>nP s-q.i⟩
   ⟨0,g,m,by omega,by omega,by omega,trivial⟩ (by kernel_rfl) ?_ ?_
  ·refine zau ?_ ?_ ?_<;>(try simp only[go_sem,HQ,hA0])
   all_goals first|done|rfl|omega
  rintro⟨j,g2,m2,hj,hg2,hm2,_⟩
  try simp only at hj hg2 hm2
  rcases Nat.lt_or_ge j (nP s)with h1|h1
  ·have h1':j<used.length:=by omega
   have h9:((j:Int)<(nP s:Int))=True:=eq_true (by omega)
   have hgb:=zDv h1'
   cases hb:used.getD j false with
   |true=>
    rw[hb]at hgb
    have hgb:=hgb.symm
    have hst:=kAt.out j hb
    repeat'(first|refine And.intro ?_ ?_|exact True.intro|refine rq fun _=>?_|refine rf fun _=>?_|simp only[go_sem,HQ,h9,h1',hgb,zac,zad,zaM,zak,zap,zaN,zaa,Tryz.f51,Sc5,Sc4,Su4,Su3,Su2,Su1,Sc3,Sc2,Sc1,Sc0])
    refine⟨⟨j+1,g2,m2,by omega,by omega,by omega,trivial⟩,by simp only;omega,?_⟩
    refine zau ?_ ?_ ?_<;>(try simp only[go_sem,HQ,hst])
    all_goals first|done|rfl|omega
   |false=>
    rw[hb]at hgb
    have hgb:=hgb.symm
    have hst:=kAf.out j hb
    have hsn:=hi.step (i:=j) (by omega) hb
    have hab:=kAb.out j (by omega)
    have hcell:((used.map enc).getD j FD.nilf).cells.length=1:=by rw[List.getD_eq_getElem?_getD,List.getElem?_map,List.getElem?_eq_getElem h1'];rfl
    have hset:((used.map enc).map D.fz).set j (.fz (.b true))=((used.set j true).map enc).map D.fz:=by rw[List.map_set,List.map_set];rfl
    have hla:(zcn l).map enc++[FD.i .i64 (j:Int)]=(zcn (l++[j])).map enc:=by unfold zcn;simp;rfl
    repeat'(first|refine zaA.i hcell fun _=>?_|refine zaV.i (zpu rfl (zw3 (l:=used) (by omega)) fun g3 n3 hg3 hg4=>?_)|refine And.intro ?_ ?_|exact True.intro|refine rq fun _=>?_|refine rf fun _=>?_|simp only[go_sem,HQ,h9,h1',hgb,hue,hset,hil,hla,zac,zad,zaM,zak,zap,zaN,zaa,Tryz.f51,Sc5,Sc4,Su4,Su3,Su2,Su1,Sc3,Sc2,Sc1,Sc0])
    have hce:(used.map (D.fz∘enc)).set j (D.fz (.b true))=((used.set j true).map enc).map D.fz:=by
     rw[List.map_map,List.map_set];rfl
    have htk:List.take l.length (zcn l)=zcn l:=List.take_of_length_le (by omega)
    refine zaV.i (zk4 (52007,g3) ((used.set j true).map enc) (o:=⟨(used.map (D.fz∘enc)).set j (D.fz (.b true)),false,false⟩) (by rw[zBO,if_pos rfl]) (fun h=>by cases h) (by rw[hce];exact ziy _) (fun x hx=>by obtain⟨y,_,rfl⟩:=List.mem_map.1 hx;rfl) rfl (zdC (by rfl) (zau ?_ ?_ ?_) (zaK (kI.out (used.set j true) (l++[j]) (A j) g2 n3 hsn (by simp;omega) hab (by omega) (by omega)) ?_)))
    ·simp only[go_sem,zgE,zsj,fzD,htk,hla,List.length_map,List.length_set]
    ·simp only[go_sem,HQ]
    ·simp only[go_sem]
    intro d' H' n' hq
    obtain⟨rfl,e1,g4,hg4,e2⟩:=hq
    rw[←hst]at e2
    simp only[go_sem,HQ]at e2
    obtain⟨b1,b2,b3,b4,b5,b6⟩:=e2
    rw[show H'=hpX [] H' from rfl]
    repeat'(first|refine And.intro ?_ ?_|exact True.intro|refine rq fun _=>?_|refine rf fun _=>?_|simp only[go_sem,Tryz.f51,Sc5,Sc4,Su4,Su3,Su2,Su1,Sc3,Sc2,Sc1,Sc0])
    refine⟨⟨j+1,g4,n',by omega,by omega,by omega,trivial⟩,by simp only;omega,?_⟩
    refine zau ?_ ?_ ?_<;>(try simp only[go_sem,HQ,b1,b2,b3,b4,b5,b6])
    all_goals first|done|rfl|omega
  obtain rfl:j=nP s:=by omega
  repeat'(first|refine And.intro ?_ ?_|exact True.intro|refine rq fun _=>?_|refine rf fun _=>?_|simp only[go_sem,HQ,Nat.lt_irrefl,Int.lt_irrefl,Tryz.f51,Sc5,Sc4,Su4,Su3,Su2,Su1,Sc3,Sc2,Sc1,Sc0])
  all_goals
   rw[kQ.out]
   refine⟨rfl,by omega,g2,by omega,?_⟩
   simp only[go_sem,HQ]
end Go.Proofs.YtmconmiemdinkaaGreatDoor
namespace Go.Proofs.YtmconmiemdinkaaGreatDoor
open Go Go.Abs Go.Proofs
def zts:Tv:=(.q 1 (.br [(0,(.br [(2,(.br [(3,.leaf)]))])),(2,(.q 0 (.br [(3,.leaf)])))]))
def zeB (s:zao):List zed:=(zda s).map (zcN s)
def Sc6:Tbl:=Sc5.add 25 (sp1 zeB fun s=>zg9 s)
set_option maxHeartbeats 8000000 in
theorem zIk:zai Tryz.prog GA Sc6:=by
 refine zdd zGE zq4 fun s hs _=>?_
 have hn1:=hs.n1
 have hn6:=hs.n6
 have hnp:s.pieces.length=nP s:=rfl
 obtain⟨A,hA⟩:∃A:Nat→List Str,A=fun j=>zbt (s.pieces.take j):=⟨_,rfl⟩
 have hA0:A 0=[]:=by rw[hA];rfl
 have hAs:∀j (h:j<s.pieces.length),A (j+1)=A j++zas s.pieces[j].form:=fun j h=>by
  rw[hA];simp only
  unfold zbt
  rw[List.take_succ_eq_append_getElem h,List.flatMap_append]
  simp
 have hAe:zbt s.pieces=A s.pieces.length:=by rw[hA];simp only[List.take_length]
 have hhz:∀x∈s.pieces,x.form.size≤1000∧(zas x.form).length≤1000:=fun x hx=>by
  have h1:=zbo (hs.chk x hx)
  have h2:=zdG x.form
  exact⟨by omega,by omega⟩
 have hAl:∀j,j≤s.pieces.length→(A j).length≤1000*j:=by
  intro j
  induction j with
  |zero=>intro _;rw[hA0];simp
  |succ j ih=>
   intro hj
   rw[hAs j hj,List.length_append]
   have h1:=ih (by omega)
   have h2:=(hhz _ (List.getElem_mem hj)).2
   omega
 have kA:=Kp.mk hAs
 have kL:=Kp.mk hAl
 have kz:=Kp.mk hhz
 clear hAs hAl hhz hA
 obtain⟨L,hL⟩:∃L,s.pieces.length=L:=⟨_,rfl⟩
 refine zam (N:=36) Go.Proofs.YtmconmiemdinkaaGreatDoor.hm zq4 25000 (lsw [20] [1000013]) zGE Tryz.func25 rfl rfl (by simp) (by kernel_rfl) ?_
 repeat'(first|refine And.intro ?_ ?_|exact True.intro|refine rq fun _=>?_|refine rf fun _=>?_|simp only[go_sem,hL,zac,zad,zaM,zak,zap,zaN,zaa,Tryz.f25,Sc5,Sc4,Su4,Su3,Su2,Su1,Sc3,Sc2,Sc1,Sc0])
 refine zaJ Go.Proofs.YtmconmiemdinkaaGreatDoor.hm zq4 25000 (lsw [20] [1000013]) (ι:=zg3 L 3 fun _=>True)
  ⟨fun q=>⟨frL [(1,.ptr (25001,0) 0),(3,.ptr (25003,1) 0),(10,.fz (.sl (s.pieces.map enc))),(11,.fz (.i .i64 L)),(12,.fz (.i .i64 q.i))],
   hpL [((25001,0),some ⟨[.fz (.sl (s.pieces.map enc)),.fz (.sl (s.overs.map enc)),.fz (.sl (s.vars.map enc))],true,false⟩),((25003,1),some ⟨[.ow (25020,q.g) 1 ((A q.i).map enc)],true,false⟩),((25020,q.g),some tok)],q.m⟩,fun q=>L-q.i⟩
  ⟨0,2,3,by omega,by omega,by omega,trivial⟩ (by kernel_rfl) ?_ ?_
 ·refine zei [] [(25020,2)] [] ?_ ?_ ?_ ?_ ?_<;>(try simp only[go_sem,hA0,List.map_cons,List.map_nil])
  all_goals first|done|rfl|omega
 rintro⟨j,g,m,hj,hg,hm2,_⟩
 try simp only at hj hg hm2
 have hl1:=kL.out j (by omega)
 rcases Nat.lt_or_ge j L with h1|h1
 ·have h1':j<s.pieces.length:=by omega
  have h9:((j:Int)<(L:Int))=True:=eq_true (by omega)
  obtain⟨x,hx⟩:∃x,s.pieces[j]=x:=⟨_,rfl⟩
  obtain⟨hz1,hz2⟩:=kz.out x (by rw[←hx];exact List.getElem_mem h1')
  have hbs:=kA.out j h1'
  rw[hx]at hbs
  have hbl:=congrArg List.length hbs
  rw[List.length_append]at hbl
  repeat'(first|refine And.intro ?_ ?_|exact True.intro|refine rq fun _=>?_|refine rf fun _=>?_|simp only[go_sem,h9,h1',hx,zac,zad,zaM,zak,zap,zaN,zaa,Tryz.f25,Sc5,Sc4,Su4,Su3,Su2,Su1,Sc3,Sc2,Sc1,Sc0])
  refine⟨⟨j+1,m+1,m+1+1,by omega,by omega,by omega,trivial⟩,by simp only;omega,?_⟩
  refine zau ?_ ?_ ?_<;>(try simp only[go_sem,hbs,List.map_append,List.map_cons,List.map_nil,List.cons_append])
  all_goals first|done|rfl|omega
 obtain rfl:j=L:=by omega
 have hall:A j=zbt s.pieces:=by rw[hAe,hL]
 rw[hall]at hl1
 have hbN:(zbt s.pieces).length≤6000:=by omega
 by_cases hu:(zbt s.pieces).length+1=nP s
 case neg=>
  have hne:(((zbt s.pieces).length:Int)=(j:Int)-1)=False:=eq_false (by omega)
  have hres:zeB s=[]:=by unfold zeB zda;rw[if_pos hu];rfl
  repeat'(first|refine And.intro ?_ ?_|exact True.intro|refine rq fun _=>?_|refine rf fun _=>?_|simp only[go_sem,Nat.lt_irrefl,Int.lt_irrefl,hall,hL,hne,hres,zac,zad,zaM,zak,zap,zaN,zaa,Tryz.f25,Sc5,Sc4,Su4,Su3,Su2,Su1,Sc3,Sc2,Sc1,Sc0])
  all_goals first|done|rfl|omega
 have hne:(((zbt s.pieces).length:Int)=(j:Int)-1)=True:=eq_true (by omega)
 have hres:zeB s=(zd4 s (zbt s.pieces).length (List.replicate (nP s) false) []).map (zcN s):=by unfold zeB zda;rw[if_neg (by omega)]
 have hpw:nP s^(zbt s.pieces).length≤1000000:=by
  have h5:(zbt s.pieces).length≤5:=by omega
  exact Nat.le_trans (Nat.le_trans (Nat.pow_le_pow_left hn6 _) (Nat.pow_le_pow_right (by omega) h5)) (by decide)
 have hrun:=fun g m m0=>f51 hs hu (zbt s.pieces).length (List.replicate (nP s) false) [] [] g m (m0:=m0) zsu (by simp) (by simpa using hpw)
 rw[←hres]at hrun
 have krun:=Kp.mk hrun
 clear hrun
 have hjn:j=nP s:=by omega
 repeat'(first|refine zch Go.Proofs.YtmconmiemdinkaaGreatDoor.hm zq4 25000 (lsw [20] [1000013]) zts (by kernel_rfl) (by kernel_rfl) ?_|refine And.intro ?_ ?_|exact True.intro|refine rq fun _=>?_|refine rf fun _=>?_|simp only[go_sem,Nat.lt_irrefl,Int.lt_irrefl,hall,hL,hne,zts,zx1,zih,zac,zad,zaM,zak,zap,zaN,zaa,Tryz.f25,Sc5,Sc4,Su4,Su3,Su2,Su1,Sc3,Sc2,Sc1,Sc0])
 all_goals
  subst hjn
  refine zaV.i (zjE (args':=[.fz (.sl ((List.replicate (nP s) false).map enc)),.fz (.sl ((zcn []).map enc)),.ptr (25003,1) 0,.ptr (25006,m) 0,.ptr (25008,m+2) 0,.ptr (25001,0) 0,.ptr (25007,m+1) 0])
   (hl:=HQ s m [] (m+4)) (n':=m+5) [] [(51105,m+4)] [((25033,m+1+1+1),(List.replicate (nP s) false).map enc)] rfl ?_ ?_ ?_ ?_ ?_ (zaK (krun.out (m+4) (m+5) m (by omega) (by omega)) ?_))
  case _=>omega
  case _=>simp only[go_sem,List.length_replicate];(first|done|rfl|((repeat' apply And.intro)<;>omega))
  case _=>simp only[go_sem,HQ,List.length_replicate];(first|done|rfl|((repeat' apply And.intro)<;>omega))
  case _=>simp only[go_sem,HQ];(first|done|rfl|((repeat' apply And.intro)<;>omega))
  case _=>simp only[go_sem,List.length_replicate,zcn];(first|done|rfl|((repeat' apply And.intro)<;>omega))
  intro d' H' n' hq
  obtain⟨rfl,e1,g4,hg4,e2⟩:=hq
  rw[List.nil_append]at e2
  simp only[go_sem,HQ]at e2
  obtain⟨b1,b2,b3,b4,b5,b6⟩:=e2
  rw[show H'=hpX [] H' from rfl]
  repeat'(first|refine And.intro ?_ ?_|exact True.intro|refine rq fun _=>?_|refine rf fun _=>?_|simp only[go_sem,b4,b6,Tryz.f25,Sc5,Sc4,Su4,Su3,Su2,Su1,Sc3,Sc2,Sc1,Sc0])
  all_goals first|done|rfl|omega
end Go.Proofs.YtmconmiemdinkaaGreatDoor
