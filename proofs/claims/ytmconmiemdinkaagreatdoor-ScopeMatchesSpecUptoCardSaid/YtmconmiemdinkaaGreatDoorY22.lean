/- several texts of this proof in one; no conditions -/
import Derived.Test.YtmconmiemdinkaaGreatDoorAT
import Derived.Test.YtmconmiemdinkaaGreatDoorY21
import Derived.Test.YtmconmiemdinkaaGreatDoorY10
import Derived.Test.YtmconmiemdinkaaGreatDoorY1
import Derived.Test.YtmconmiemdinkaaGreatDoorY17
import Derived.Test.YtmconmiemdinkaaGreatDoorY18
set_option maxRecDepth 100000
set_option maxHeartbeats 1000000
set_option linter.unusedSimpArgs false
namespace Go.Proofs.YtmconmiemdinkaaGreatDoor
open Go Go.Abs Go.Proofs
theorem zjh:∀xs:List FD,D.toFDs (xs.map .fz)=some xs
 |[]=>rfl
 |x::xs=>by rw[List.map_cons,D.toFDs,zjh xs];rfl
theorem zE3 {l:List Bool}{id:Abs.Id}{v:Bool}{len:Nat}{H:zax}{n:Nat}{R:D→zax→Nat→Prop}(ho:H id=some ⟨zaf (l.map enc),false,v⟩)(hv:v=true→l=[])(hl:len=l.length)
  (hR:R (.fz (enc (decide (false∈l)))) (zaM H id none) n):zaH Tryz.prog GA 82 [.arr id 1 0 len,.fz (.b false)] H n R:=by
 subst hl
 rw[zbi]at ho
 refine zlY id (l.map enc) ho (fun h=>by rw[hv h];rfl) (by rw[show(l.map fun a=>D.fz (enc a))=(l.map enc).map .fz by rw[List.map_map];rfl];exact zjh _) (fun x hx=>by obtain⟨y,_,rfl⟩:=List.mem_map.1 hx;rfl) (args':=[.fz (.sl (l.map enc)),.fz (.b false)]) ?_ ?_
 ·simp only[zth,fzD,List.length_map,and_self,if_true]
 ·refine zso zHj (xs:=[enc l,enc false]) (by simp[Su4,Su3,Tbl.add];rfl) rfl zwq ?_ ?_
  ·exact⟨by rw[dec_enc],by rw[dec_enc],by rw[dec_enc]⟩
  ·rw[dec_enc,dec_enc];exact hR
def HL (p:zeE)(s:zar)(seen:List Bool):List (Abs.Id×Option O):=
  [((54002,0),some ⟨[.fz (.sl (p.holes.map enc)),.fz (.sl (p.pieces.map enc)),.fz (.i .i64 p.top)],true,false⟩),((54003,1),some ⟨[.fz (.sl (s.pieces.map enc)),.fz (.sl (s.overs.map enc)),.fz (.sl (s.vars.map enc))],true,false⟩),((54010,2),some ⟨zaf (seen.map enc),false,false⟩),
   ((54005,3),some ⟨[.arr (54010,2) 1 0 (nP s)],true,false⟩),((54006,4),some ⟨[.fn 81 [.ptr (54005,3) 0,.ptr (54003,1) 0,.ptr (54006,4) 0,.ptr (54002,0) 0]],true,false⟩)]
set_option maxHeartbeats 8000000 in
theorem f81 {p:zeE}{s:zar}(hp:onP p s):∀(k:Nat) (seen:List Bool) (i m:Nat),seen.length=nP s→i<nP s→zgT seen<k→4<m→
  zaH Tryz.prog GA 81 [.fz (.i .i64 i),.ptr (54005,3) 0,.ptr (54003,1) 0,.ptr (54006,4) 0,.ptr (54002,0) 0] (hpL (HL p s seen)) m
   (fun d' H' n'=>d'= .tup []∧m≤n'∧zeF H' (HL p s (zhJ (zbr s (zaD p.pieces)) k seen i))):=by
 intro k
 induction k with
 |zero=>intro seen i m _ _ h;omega
 |succ k ih=>
  intro seen i m hsl hi hf hm4
  obtain⟨Q,hQ⟩:∃Q:D→zax→Nat→Prop,Q=(fun d' H' n'=>d'= .tup []∧m≤n'∧zeF H' (HL p s (zhJ (zbr s (zaD p.pieces)) (k+1) seen i))):=⟨_,rfl⟩
  rw[←hQ]
  have hlb:(zaf (seen.map enc)).length=seen.length:=by rw[zdw (zcf (f:=enc) (k:=1) (fun _=>rfl) _),List.length_map]
  have hgd:(zaf (seen.map enc)).getD i D.junk=D.fz (.b (seen.getD i false)):=by
   rw[zbi,List.getD_eq_getElem?_getD,List.getElem?_map,List.getD_eq_getElem?_getD,List.getElem?_eq_getElem (by omega)];rfl
  have hset:(zaf (seen.map enc)).set i (.fz (.b true))=zaf ((seen.set i true).map enc):=zhV
  have hn6:=hp.c.n6
  have hI:i<s.pieces.length:=hi
  obtain⟨pc,hpc⟩:∃pc,s.pieces[i]=pc:=⟨_,rfl⟩
  have hho:zcn s i=zau pc.form:=by unfold zcn;rw[List.getElem?_eq_getElem hI,hpc]
  have hfz:pc.form.size≤1000:=by have:=za3 (hp.c.chk pc (by rw[←hpc];exact List.getElem_mem hI));omega
  have hin:∀x∈zau pc.form,(x∈p.holes∧p.pieces.length=p.holes.length)∧inQ p x=((inP s (zaD p.pieces) x:Nat):Int)∧inP s (zaD p.pieces) x<nP s:=fun x hx=>by
   have hxa:x∈za5 s.pieces:=zdK (i:=i) (by rw[hho];exact hx)
   have h1:p.holes=za5 s.pieces:=by rw[hp.e];rfl
   have h2:=zlb hp.l hxa
   rw[←hp.e]at h2
   have h3:p.pieces.length=(zaD p.pieces).length:=by unfold zaD;rw[List.length_map]
   exact⟨⟨by rw[h1];exact hxa,by rw[h1,h3];exact hp.l.e⟩,h2,zoG hp.l hxa⟩
  cases hs:seen.getD i false with
  |true=>
   have hd:zhJ (zbr s (zaD p.pieces)) (k+1) seen i=seen:=by rw[zhJ,if_pos hs]
   rw[hd]at hQ
   rw[hs]at hgd
   have kQ:=Kp.mk hQ
   clear hQ ih hin
   refine zaj (N:=33) Go.Proofs.YtmconmiemdinkaaGreatDoor.hm zBI 81000 (lsw [] []) zIQ Tryz.func81 rfl rfl (by simp) (by kernel_rfl) ?_
   repeat'(first|refine And.intro ?_ ?_|exact True.intro|refine rq fun _=>?_|refine rf fun _=>?_|simp only[go_sem,HL,hgd,hlb,hsl,hi,Tryz.f81])
   all_goals
    rw[kQ.out]
    refine⟨rfl,by omega,?_⟩
    simp only[go_sem,HL]
  |false=>
   rw[hs]at hgd
   have hfs:=ziB (seen:=seen) (i:=i) (by omega) hs
   obtain⟨A,hA⟩:∃A:Nat→List Bool,A=fun j=>((zau pc.form).take j).foldl (fun sn x=>zhJ (zbr s (zaD p.pieces)) k sn (inP s (zaD p.pieces) x)) (seen.set i true):=⟨_,rfl⟩
   have hA0:A 0=seen.set i true:=by rw[hA];rfl
   have hAs:∀j (h:j<(zau pc.form).length),A (j+1)=zhJ (zbr s (zaD p.pieces)) k (A j) (inP s (zaD p.pieces) (zau pc.form)[j]):=fun j h=>by
    rw[hA];simp only
    rw[List.take_succ_eq_append_getElem h,List.foldl_append]
    rfl
   have hAe:zhJ (zbr s (zaD p.pieces)) (k+1) seen i=A (zau pc.form).length:=by
    rw[zhJ,if_neg (by rw[hs];decide),hA]
    simp only[List.take_length]
    unfold zbr
    rw[hho,List.foldl_map]
   have hAl:∀j,j≤(zau pc.form).length→(A j).length=nP s∧zgT (A j)<k:=by
    intro j
    induction j with
    |zero=>intro _;rw[hA0,List.length_set];exact⟨hsl,by omega⟩
    |succ j ihj=>
     intro hj
     obtain⟨g1,g2⟩:=ihj (by omega)
     have g3:=zhT hp.l.g k (A j) (inP s (zaD p.pieces) (zau pc.form)[j]) g1 (hin _ (List.getElem_mem (by omega))).2.2 g2
     rw[←hAs j (by omega)]at g3
     exact⟨g3.l,by have:=zgU (by rw[g1,g3.l];rfl) g3.u;omega⟩
   rw[hAe]at hQ
   have kQ:=Kp.mk hQ
   have kI:=Kp.mk ih
   have kA:=Kp.mk hAs
   have kL:=Kp.mk hAl
   have kN:=Kp.mk hin
   clear hQ ih hAs hAl hAe hA hin
   obtain⟨L,hL⟩:∃L,(zau pc.form).length=L:=⟨_,rfl⟩
   have hLb:L≤1000:=by have:=zbM pc.form;omega
   refine zaj (N:=33) Go.Proofs.YtmconmiemdinkaaGreatDoor.hm zBI 81000 (lsw [] []) zIQ Tryz.func81 rfl rfl (by simp) (by kernel_rfl) ?_
   repeat'(first|refine And.intro ?_ ?_|exact True.intro|refine rq fun _=>?_|refine rf fun _=>?_|simp only[go_sem,HL,hgd,hset,hlb,hsl,hi,hI,hpc,hL,zab,zad,zaO,zae,zag,zaa,Tryz.f81,Sc3,Sc2,Sc1,Sc0])
   refine zam Go.Proofs.YtmconmiemdinkaaGreatDoor.hm zBI 81000 (lsw [] []) (ι:=zeC L m fun _=>True)
    ⟨fun q=>⟨frL [(1,.ptr (54005,3) 0),(2,.ptr (54003,1) 0),(3,.ptr (54006,4) 0),(4,.ptr (54002,0) 0),(21,.fz (.sl ((zau pc.form).map enc))),(22,.fz (.i .i64 L)),(23,.fz (.i .i64 q.i))],hpL (HL p s (A q.i)),q.m⟩,fun q=>L-q.i⟩
    ⟨0,m,by omega,Nat.le_refl _,trivial⟩ (by kernel_rfl) ?_ ?_
   ·refine zah ?_ ?_ ?_<;>(try simp only[go_sem,HL,hA0,hset])
    all_goals first|done|rfl|omega
   rintro⟨j,m2,hj,hm2,_⟩
   try simp only at hj hm2
   rcases Nat.lt_or_ge j L with h1|h1
   ·have h1':j<(zau pc.form).length:=by omega
    have h9:((j:Int)<(L:Int))=True:=eq_true (by omega)
    obtain⟨x,hx⟩:∃x,(zau pc.form)[j]=x:=⟨_,rfl⟩
    obtain⟨hi1,hi2,hi3⟩:=kN.out x (by rw[←hx];exact List.getElem_mem h1')
    have hbs:=kA.out j h1'
    rw[hx]at hbs
    obtain⟨hl1,hl2⟩:=kL.out j (by omega)
    have ih2:=kI.out (A j) (inP s (zaD p.pieces) x) m2 hl1 hi3 hl2 (by omega)
    repeat'(first|refine zaq.i hi1 fun _=>?_|refine And.intro ?_ ?_|exact True.intro|refine rq fun _=>?_|refine rf fun _=>?_|simp only[go_sem,HL,h9,h1',hx,hi2,zab,zad,zaO,zae,zag,zaa,Tryz.f81,Sc3,Sc2,Sc1,Sc0])
    refine zaQ.i (zaL ih2 ?_)
    rintro d' H' n' ⟨rfl,e1,e2⟩
    rw[←hbs]at e2
    simp only[go_sem,HL]at e2
    obtain⟨b1,b2,b3,b4,b5⟩:=e2
    rw[show H'=hpX [] H' from rfl]
    repeat'(first|refine And.intro ?_ ?_|exact True.intro|refine rq fun _=>?_|refine rf fun _=>?_|simp only[go_sem,HL,Tryz.f81,Sc3,Sc2,Sc1,Sc0])
    refine⟨⟨j+1,n',by omega,by omega,trivial⟩,by simp only;omega,?_⟩
    refine zah ?_ ?_ ?_
    ·simp only[go_sem]
    ·simp only[go_sem,HL,b1,b2,b3,b4,b5]
    ·simp only[go_sem]
   obtain rfl:j=L:=by omega
   repeat'(first|refine And.intro ?_ ?_|exact True.intro|refine rq fun _=>?_|refine rf fun _=>?_|simp only[go_sem,HL,Nat.lt_irrefl,Int.lt_irrefl,hL,Tryz.f81,Sc3,Sc2,Sc1,Sc0])
   all_goals
    rw[kQ.out]
    refine⟨rfl,by omega,?_⟩
    simp only[go_sem,HL,hL]
end Go.Proofs.YtmconmiemdinkaaGreatDoor
namespace Go.Proofs.YtmconmiemdinkaaGreatDoor
open Go Go.Abs Go.Proofs
theorem zzj {n:Nat}{d:D}:(List.range n).map (fun j=>[d].getD (j % 1) .junk)=List.replicate n d:=by
 simp[Nat.mod_one,List.map_const']
theorem zi0 {n:Nat}:List.replicate n (D.fz (.b false))=zaf ((List.replicate n false).map enc):=by
 rw[zbi];simp[zvH]
theorem zwZ {p:zeE}{s:zar}(h:onP p s):decide (false∈zhJ (zbr s (zaD p.pieces)) (nP s+1) (List.replicate (nP s) false) (zdE (nP s) (zaD p.pieces)))= !zcx s (zaD p.pieces):=by
 have h1:=zw0 h.l.g h.l.t.1
 have e:decide (false∈zhJ (zbr s (zaD p.pieces)) (nP s+1) (List.replicate (nP s) false) (zdE (nP s) (zaD p.pieces)))=(zhJ (zbr s (zaD p.pieces)) (nP s+1) (List.replicate (nP s) false) (zdE (nP s) (zaD p.pieces))).contains false:=by
  rw[List.contains_eq_mem]
 rw[e]
 have h2:zcx s (zaD p.pieces)=true↔(∀j,j<nP s→zfP (zjl s (zaD p.pieces)) (zdE (nP s) (zaD p.pieces)) (nP s+1) j=true):=by
  unfold zcx
  rw[List.all_eq_true]
  exact⟨fun g j hj=>g j (List.mem_range.2 hj),fun g j hj=>g j (List.mem_range.1 hj)⟩
 have h3:=h1.trans h2.symm
 unfold nP at h3 ⊢
 cases ha:(zhJ (zbr s (zaD p.pieces)) (s.pieces.length+1) (List.replicate s.pieces.length false) (zdE s.pieces.length (zaD p.pieces))).contains false with
 |false=>rw[h3.1 ha];rfl
 |true=>
  cases hb:zcx s (zaD p.pieces)with
  |false=>rfl
  |true=>rw[h3.2 hb]at ha;cases ha
def Sc4:Tbl:=Tbl.or Sc3 Su4
theorem zJ1:zan Tryz.prog GA Sc4:=zf0 zBI zHj
def Sc5:Tbl:=Sc4.add 54 (sp2 (fun p s=> !zcx s (zaD p.pieces)) onP)
set_option maxHeartbeats 4000000 in
theorem zr1:zan Tryz.prog GA Sc5:=by
 refine zbI zIx zJ1 fun p s hp _ _=>?_
 have htop:p.top=(zdE (nP s) (zaD p.pieces):Nat):=by
  have:=congrArg zeE.top hp.e
  exact this
 have htd:=zwZ hp
 have hn6:=hp.c.n6
 have hnp:s.pieces.length=nP s:=rfl
 have hrun:=f81 hp (nP s+1) (List.replicate (nP s) false) (zdE (nP s) (zaD p.pieces)) 5 (List.length_replicate ..) hp.l.t.1 (by rw[zgh];omega) (by omega)
 have hlen:=(zhT hp.l.g (nP s+1) (List.replicate (nP s) false) (zdE (nP s) (zaD p.pieces)) (List.length_replicate ..) hp.l.t.1 (by rw[zgh];omega)).l
 obtain⟨r,hr⟩:∃r,zhJ (zbr s (zaD p.pieces)) (nP s+1) (List.replicate (nP s) false) (zdE (nP s) (zaD p.pieces))=r:=⟨_,rfl⟩
 rw[hr]at hrun hlen htd
 have hlen2:nP s=r.length:=hlen.symm
 have hr1:1≤nP s:=hp.c.n1
 obtain⟨t,ht⟩:∃t,zdE (nP s) (zaD p.pieces)=t:=⟨_,rfl⟩
 rw[ht]at htop hrun
 have krun:=Kp.mk hrun
 clear hrun hr ht
 refine zaj (N:=18) Go.Proofs.YtmconmiemdinkaaGreatDoor.hm zBI 54000 (lsw [] []) zIx Tryz.func54 rfl rfl (by simp) (by kernel_rfl) ?_
 repeat'(first|refine And.intro ?_ ?_|exact True.intro|refine rq fun _=>?_|refine rf fun _=>?_|simp only[go_sem,htop,hnp,zzj,zi0,zab,zad,zaO,zae,zag,zaa,Tryz.f54,Sc3,Sc2,Sc1,Sc0])
 refine zaQ.i (zd1 (by rfl) (zah ?_ ?_ ?_) (zaL krun.out ?_))
 ·simp only[go_sem,zgJ]
 ·simp only[go_sem,HL,hnp,htop,zzj,zi0]
 ·simp only[go_sem]
 rintro d' H' n' ⟨rfl,e1,e2⟩
 simp only[go_sem,HL]at e2
 obtain⟨b1,b2,b3,b4,b5⟩:=e2
 rw[show H'=hpX [] H' from rfl]
 repeat'(first|refine zaQ.i (zE3 (l:=r) b3 (fun h=>by cases h) hlen2 ?_)|refine And.intro ?_ ?_|exact True.intro|refine rq fun _=>?_|refine rf fun _=>?_|simp only[go_sem,b1,b2,b3,b4,b5,htd,Tryz.f54,Sc3,Sc2,Sc1,Sc0])
 all_goals first|done|rfl|omega
end Go.Proofs.YtmconmiemdinkaaGreatDoor
namespace Go.Proofs.YtmconmiemdinkaaGreatDoor
open Go Go.Abs Go.Proofs
theorem f56 {y:zb8}{x:Str}{z:D}{id:Abs.Id}{H:zax}{n:Nat}{R:D→zax→Nat→Prop}(hid0:id.2<n)(ho:H id=some ⟨[z,.fz (.s x.l)],true,false⟩)
  (hR:∀n',n≤n'→R (.fz (.b (decide (y.label=x)))) H n'):zaH Tryz.prog GA 56 [.fz (enc y),.ptr id 0] H n R:=by
 refine zcH zIz (fun hfr=>?_) hR
 obtain⟨Q,hQ⟩:∃Q:D→zax→Nat→Prop,Q=(fun d' H' n'=>d'= .fz (.b (decide (y.label=x)))∧n≤n'∧∀id,id.2<n→H' id=H id):=⟨_,rfl⟩
 rw[←hQ]
 have e:H=hpX [] H:=rfl
 rw[e]
 have hn0:∀id:Abs.Id,id.2<n→id≠(56002,n):=fun id h e=>by rw[e]at h;simp at h
 have hne:(id=(56002,n))=False:=eq_false (hn0 id hid0)
 have h1':(y.label.l=x.l)=(y.label=x):=by
  apply propext
  constructor
  ·intro e
   cases h:y.label
   cases h2:x
   rw[h,h2]at e
   exact congrArg Str.mk e
  ·intro e;rw[e]
 refine zaj (N:=9) hm zcF 56000 (lst []) zIz Tryz.func56 rfl rfl (by simp) (by kernel_rfl) ?_
 repeat'(first|refine And.intro ?_ ?_|exact True.intro|refine rq fun _=>?_|refine rf fun _=>?_|simp only[go_sem,ho,h1',hne,Tryz.f56])
 all_goals
  rw[hQ]
  refine⟨?_,by omega,fun id hid=>?_⟩
  ·first|rfl|(simp only[h1'];done)
  ·simp only[go_sem,hn0 id hid]
set_option maxHeartbeats 4000000 in
theorem f55 {ps:List zb8}{x:Str}{F:FuncId}{id:Abs.Id}{H:zax}{n:Nat}{R:D→zax→Nat→Prop}(hl:ps.length≤1000000)
  (hcl:∀(y:zb8) (m:Nat) (R:D→zax→Nat→Prop),n≤m→(∀n',m≤n'→R (.fz (.b (decide (y.label=x)))) H n')→zaH Tryz.prog GA F [.fz (enc y),.ptr id 0] H m R)
  (hR:∀n',n≤n'→R (.fz (.i .i64 (idx (zaK ps) x))) H n'):zaH Tryz.prog GA 55 [.fz (enc ps),.fn F [.ptr id 0]] H n R:=by
 refine zcH zIy (fun hfr=>?_) hR
 obtain⟨Q,hQ⟩:∃Q:D→zax→Nat→Prop,Q=(fun d' H' n'=>d'= .fz (.i .i64 (idx (zaK ps) x))∧n≤n'∧∀id,id.2<n→H' id=H id):=⟨_,rfl⟩
 rw[←hQ]
 have kq:=Kp.mk hQ
 have kc:=Kp.mk hcl
 clear hQ hcl
 have e:H=hpX [] H:=rfl
 rw[e]
 have hll:(zaK ps).length=ps.length:=by unfold zaK;rw[List.length_map]
 obtain⟨L,hL⟩:∃L,ps.length=L:=⟨_,rfl⟩
 refine zaj (N:=19) hm zcF 55000 (lst []) zIy Tryz.func55 rfl rfl (by simp) (by kernel_rfl) ?_
 repeat'(first|refine And.intro ?_ ?_|exact True.intro|refine rq fun _=>?_|refine rf fun _=>?_|simp only[go_sem,hL,zag,Tryz.f55])
 refine zam hm zcF 55000 (lst []) (ι:=zeC L n fun i=>x∉(zaK ps).take i)
  ⟨fun q=>⟨frL [(0,.fz (.sl (ps.map enc))),(1,.fn F [.ptr id 0]),(7,.fz (.i .i64 L)),(8,.fz (.i .i64 q.i))],hpX [] H,q.m⟩,fun q=>L-q.i⟩
  ⟨0,n,by omega,Nat.le_refl _,by simp⟩ (by kernel_rfl) ?_ ?_
 ·refine zay ?_ ?_ (fun id2 o2 ho2=>?_) ?_
  ·simp only[go_sem]
  ·simp only[go_sem]
  ·exact ho2
  ·first|omega|(simp only[go_sem];done)|(simp only[go_sem];omega)
 rintro⟨i,m,hi,hm1,hp⟩
 try simp only at hi hm1 hp
 rcases Nat.lt_or_ge i L with h1|h1
 ·have h1':i<ps.length:=by omega
  have h9:((i:Int)<(L:Int))=True:=eq_true (by omega)
  obtain⟨y,hy⟩:∃y,ps[i]=y:=⟨_,rfl⟩
  have hlab:(zaK ps)[i]'(by omega)=y.label:=by simp only[zaK,List.getElem_map,hy]
  have h1b:i<(zaK ps).length:=by omega
  by_cases hyp:y.label=x
  ·have hd:decide (y.label=x)=true:=decide_eq_true hyp
   repeat'(first|refine zaQ.i (kc.out y _ _ (by omega) fun n' hn'=>?_)|refine And.intro ?_ ?_|exact True.intro|refine rq fun _=>?_|refine rf fun _=>?_|simp only[go_sem,h9,h1',hy,hd,zag,zaa,Tryz.f55])
   all_goals
    rw[kq.out]
    refine⟨?_,by omega,fun _ _=>rfl⟩
    have hin:x∈zaK ps:=by rw[←hyp,←hlab];exact List.getElem_mem h1b
    unfold idx
    rw[if_pos hin,zts h1b hp (hlab.trans hyp)]
  ·have hd:decide (y.label=x)=false:=decide_eq_false hyp
   repeat'(first|refine zaQ.i (kc.out y _ _ (by omega) fun n' hn'=>?_)|refine And.intro ?_ ?_|exact True.intro|refine rq fun _=>?_|refine rf fun _=>?_|simp only[go_sem,h9,h1',hy,hd,zag,zaa,Tryz.f55])
   all_goals
    refine⟨⟨i+1,n',by omega,by omega,zcP h1b hp (by rw[hlab];exact hyp)⟩,by simp only;omega,?_⟩
    refine zay ?_ ?_ (fun id2 o2 ho2=>?_) ?_
    ·simp only[go_sem]
    ·simp only[go_sem]
    ·exact ho2
    ·first|omega|(simp only[go_sem];done)|(simp only[go_sem];omega)
 have h9:((i:Int)<(L:Int))=False:=eq_false (by omega)
 repeat'(first|refine And.intro ?_ ?_|exact True.intro|refine rq fun _=>?_|refine rf fun _=>?_|simp only[go_sem,h9,Tryz.f55])
 all_goals
  rw[kq.out]
  refine⟨?_,by omega,fun _ _=>rfl⟩
  unfold idx
  rw[if_neg (zee (by omega) hp)]
end Go.Proofs.YtmconmiemdinkaaGreatDoor
namespace Go.Proofs.YtmconmiemdinkaaGreatDoor
open Go Go.Abs Go.Proofs
section
variable {P:Program} {G:Nat→List FD}
theorem zqz {f:FuncId}{args:List D}{xs cs:List FD}{H:zax}{n t es len:Nat}{v:Bool}{R:D→zax→Nat→Prop}(ha:D.toFDs args=some xs)
  (h:zaH P G f (xs.map .fz) H0 0 (fun d H1 n1=>∃g,g<n1∧d= .arr (t,g) es 0 len∧H1 (t,g)=some ⟨cs.map .fz,false,v⟩))(hR:∀g n',n≤g→g<n'→R (.arr (t,g) es 0 len) (hpX [((t,g),some ⟨cs.map .fz,false,v⟩)] H) n'):zaH P G f args H n R:=by
 refine zfE h.1 fun hfr=>zb1 (zlZ ha h) ?_
 rintro d H' n' ⟨d1,H1,n1,⟨g,hg,rfl,ho⟩,rfl,rfl,rfl⟩
 have hm:∀l:List FD,zrL n (l.map .fz)=l.map .fz:=fun l=>by
  rw[zfp,List.map_map]
  exact List.map_congr_left fun x _=>rfl
 have hsh:shH n H H1 (t,g+n)=some ⟨cs.map .fz,false,v⟩:=by
  unfold shH
  rw[if_pos (by simp),show(t,g+n-n)=(t,g) by rw[Nat.add_sub_cancel],ho]
  simp only[Option.map_some,shO,hm]
 refine⟨.arr (t,g+n) es 0 len,hpX [((t,g+n),some ⟨cs.map .fz,false,v⟩)] H,n+n1,zff ?_ (fun id o hid=>?_) (Nat.le_refl _),hR (g+n) (n+n1) (by omega) (by omega)⟩
 ·exact⟨rfl,trivial⟩
 ·simp only[hpX]at hid
  split at hid
  ·rename_i e;subst e;rw[←hid];exact hsh
  ·have hlt:id.2<n:=by
    rcases Nat.lt_or_ge id.2 n with h3|h3
    ·exact h3
    ·rw[hfr id h3]at hid;cases hid
   show shH n H H1 id=some o
   unfold shH
   rw[if_neg (by omega)]
   exact hid
end
theorem zyj {l:List Bool}(hl:l.length≤1000000):zaH Tryz.prog GA 52 [.fz (.sl (l.map enc))] H0 0 (fun d H n=>∃g,g<n∧d= .arr (52007,g) 1 0 l.length∧H (52007,g)=some ⟨(l.map enc).map .fz,false,l.isEmpty⟩):=by
 rw[zfD]
 have hfl:zaf (l.map enc)=(l.map enc).map .fz:=by
  unfold zaf
  rw[List.map_map,List.flatMap_map]
  induction l with
  |nil=>rfl
  |cons x l ih=>rw[List.flatMap_cons,List.map_cons,ih (by simp at hl;omega)];rfl
 obtain⟨Q,hQ⟩:∃Q:D→zax→Nat→Prop,Q=(fun d H n=>(d= .full []∧l=[]∧n=0∧H=hpL [])∨∃g,g<n∧d= .arr (52007,g) 1 0 l.length∧H (52007,g)=some ⟨(l.map enc).map .fz,false,l.isEmpty⟩):=⟨_,rfl⟩
 have key:zaH Tryz.prog GA 52 [.fz (.sl (l.map enc))] (hpL []) 0 Q:=by
  refine zaj (N:=8) hm zcF 52000 (lst [7]) zKx Tryz.func52 rfl rfl (by simp) (by kernel_rfl) ?_
  simp only[go_sem]
  refine zxd.i fun b hb=>?_
  cases b
  ·repeat'(first|refine And.intro ?_ ?_|exact True.intro|refine rq fun _=>?_|refine rf fun _=>?_|simp only[go_sem,Tryz.f52])
   rw[hQ]
   refine .inr ⟨0,by omega,by simp only[go_sem],?_⟩
   simp only[go_sem,←hfl]
   all_goals trace_state
  ·have:l=[]:=List.eq_nil_of_length_eq_zero (hb rfl)
   subst this
   repeat'(first|refine And.intro ?_ ?_|exact True.intro|refine rq fun _=>?_|refine rf fun _=>?_|simp only[go_sem,Tryz.f52])
   rw[hQ]
   exact .inl ⟨rfl,rfl,rfl,rfl⟩
 refine zb1 key ?_
 rw[hQ]
 rintro d H n (⟨rfl,rfl,rfl,rfl⟩|⟨g,hg,rfl,ho⟩)
 ·refine⟨.arr (52007,0) 1 0 0,hpL [((52007,0),some ⟨[],false,true⟩)],1,?_,0,by omega,rfl,by simp only[go_sem]⟩
  refine zb6 [] [(52007,0)] [] ?_ ?_ ?_ ?_ ?_<;>simp only[go_sem]
  all_goals first|done|rfl
 ·exact⟨_,H,n,zff ⟨rfl,trivial⟩ (fun _ _ h=>h) (Nat.le_refl _),g,hg,rfl,ho⟩
def zqj:Tv:=(.q 0 (.q 1 (.q 2 (.q 3 (.q 4 (.br [(5,(.br [(6,.leaf)]))]))))))
def HQ (s:zar)(m0:Nat)(U:List zeE)(g:Nat):List (Abs.Id×Option O):=
  [((25001,0),some ⟨[.fz (.sl (s.pieces.map enc)),.fz (.sl (s.overs.map enc)),.fz (.sl (s.vars.map enc))],true,false⟩),((25003,1),some ⟨[.fz (.sl ((za5 s.pieces).map enc))],true,false⟩),((25006,m0),some ⟨[.fz (.i .i64 (nP s))],true,false⟩),
   ((25007,m0+1),some ⟨[.ow (51105,g) 3 (U.map enc)],true,false⟩),((25008,m0+2),some ⟨[.fn 51 [.ptr (25003,1) 0,.ptr (25006,m0) 0,.ptr (25008,m0+2) 0,.ptr (25001,0) 0,.ptr (25007,m0+1) 0]],true,false⟩),((51105,g),some tok)]
def zo7 (s:zar)(m0 m:Nat)(U:List zeE)(d':D)(H':zax)(n':Nat):Prop:=d'= .tup []∧m≤n'∧∃g',g'<n'∧zeF H' (HQ s m0 U g')
set_option maxHeartbeats 8000000 in
theorem zoQ {s:zar}{used:List Bool}{l:List Nat}{U:List zeE}{g m m0:Nat}(hs:ze3 s)(hu:(za5 s.pieces).length+1=nP s)(hi:zu4 s used l)(hl:l.length=(za5 s.pieces).length)(hO:U.length+1≤1000000)(hg:g<m):
  zaH Tryz.prog GA 51 [.fz (.sl (used.map enc)),.fz (.sl ((zaF l).map enc)),.ptr (25003,1) 0,.ptr (25006,m0) 0,.ptr (25008,m0+2) 0,.ptr (25001,0) 0,.ptr (25007,m0+1) 0] (hpL (HQ s m0 U g)) m (zo7 s m0 m (U++(zex s 0 used l).map (zbY s))):=by
 obtain⟨Q,hQ⟩:∃Q:D→zax→Nat→Prop,Q=zo7 s m0 m (U++(zex s 0 used l).map (zbY s)):=⟨_,rfl⟩
 rw[←hQ]
 have hk:=hi.ok hs hl hu
 have hon:=ztY hs hk
 obtain⟨ht1,ht2⟩:=hi.top hk
 have hix:znZ used false=((zdE (nP s) l:Nat):Int):=by unfold znZ;rw[if_pos ht1,ht2]
 obtain⟨N,hN⟩:∃N,za5 s.pieces=N:=⟨_,rfl⟩
 have hil:(zaF l).length=l.length:=by unfold zaF;rw[List.length_map]
 have htl:zdE (nP s) l<s.pieces.length:=hk.t.1
 obtain⟨t,hte⟩:∃t,zdE (nP s) l=t:=⟨_,rfl⟩
 have hPe:zbY s l=⟨za5 s.pieces,zaF l,((zdE (nP s) l:Nat):Int)⟩:=rfl
 obtain⟨P,hP⟩:∃P,zbY s l=P:=⟨_,rfl⟩
 rw[hP,hte,hN]at hPe
 have hPh:P.holes=N:=by rw[hPe]
 have hPp:P.pieces=zaF l:=by rw[hPe]
 have hPt:P.top=(t:Int):=by rw[hPe]
 obtain⟨pc,hpc⟩:∃pc,s.pieces[t]'(by rw[←hte];exact htl)=pc:=⟨_,rfl⟩
 have hfo:zbH s t=pc.form:=by unfold zbH;rw[List.getElem?_eq_getElem (by rw[←hte];exact htl),hpc]
 have hres0:okS s l=false→∀{n':Nat} {H':zax},m≤n'→zeF H' (HQ s m0 U g)→Q (.tup []) H' n':=fun h n' H' h1 h2=>by
  rw[hQ,zex,h]
  exact⟨rfl,h1,g,by omega,by simpa using h2⟩
 have hres1:okS s l=true→∀{n' g':Nat} {H':zax},m≤n'→g'<n'→zeF H' (HQ s m0 (U++[P]) g')→Q (.tup []) H' n':=fun h n' g' H' h1 h2 h3=>by
  rw[hQ,zex,h,if_pos rfl]
  exact⟨rfl,h1,g',h2,by rw[←hP]at h3;exact h3⟩
 have hnl:((l.length:Int)<(N.length:Int))=False:=eq_false (by rw[←hN];omega)
 rw[hP]at hon
 have hnat:zaD P.pieces=l:=by rw[←hP];exact zec
 have hov:∀o∈s.overs,(o.hole∈P.holes∧P.pieces.length=P.holes.length)∧inQ P o.hole=((inP s l o.hole:Nat):Int)∧idx (zaK s.pieces) o.label=((zAI s o.label:Nat):Int)∧inP s l o.hole<nP s:=fun o ho=>by
  obtain⟨h1,h2⟩:=hs.ovs o ho
  refine⟨⟨by rw[hPh,←hN];exact h1,by rw[hPp,hPh,hil,hl,←hN]⟩,by rw[←hP];exact zlb hk h1,?_,zoG hk h1⟩
  unfold idx
  rw[if_pos h2];rfl
 have hod:∀o∈s.overs,decide (((zAI s o.label:Nat):Int)∈zdI P s ((inP s l o.hole:Nat):Int))=zgX s l o:=fun o ho=>by rw[←hP];exact zwy hs hk ho
 have hreq:FD.agg [FD.sl (N.map enc),FD.sl ((zaF l).map enc),FD.i .i64 t]=FD.agg [FD.sl (P.holes.map enc),FD.sl (P.pieces.map enc),FD.i .i64 P.top]∧onP P s:=⟨by rw[hPh,hPp,hPt],hon⟩
 have hn6:=hs.n6
 have hpl:s.pieces.length≤1000000:=by have:s.pieces.length=nP s:=rfl;omega
 have hovl:=hs.ov
 have hvl:=hs.vs
 have hnp:s.pieces.length=nP s:=rfl
 clear hQ
 by_cases hT:zcx s l=true
 case neg=>
  have hT:zcx s l=false:=by simpa using hT
  have hT':zcx s (zaD P.pieces)=false:=by rw[hnat];exact hT
  have hok:okS s l=false:=by unfold okS;rw[hT];rfl
  have kr:=Kp.mk (@hres0 hok)
  clear hres0 hres1 hov hod
  refine zaj (N:=106) Go.Proofs.YtmconmiemdinkaaGreatDoor.hm zr1 51000 (lsw [105] [1000009]) zGC Tryz.func51 rfl rfl (by simp) (by kernel_rfl) ?_
  repeat'(first|refine zbk Go.Proofs.YtmconmiemdinkaaGreatDoor.hm zr1 51000 (lsw [105] [1000009]) zqj (by kernel_rfl) (by kernel_rfl) ?_|refine zaq.i hreq fun _=>?_|refine And.intro ?_ ?_|exact True.intro|refine rq fun _=>?_|refine rf fun _=>?_|simp only[go_sem,zqj,HQ,hN,hil,hnl,hix,hte,←hPe,hT',zab,zad,zaO,zae,zag,zai,zaa,Tryz.f51,Sc5,Sc4,Su4,Su3,Su2,Su1,Sc3,Sc2,Sc1,Sc0])
  all_goals
   refine kr.out ?_ ?_
   ·omega
   ·simp only[go_sem,HQ,hN]
 have hT':zcx s (zaD P.pieces)=true:=by rw[hnat];exact hT
 have hpos:nP s≤6:=hn6
 have hwf:=zhc hk hT
 have hws:=zck hs hk hT
 rw[hP,hte,hfo]at hwf
 obtain⟨W,hW⟩:∃W,zcz s l=W:=⟨_,rfl⟩
 rw[hW]at hwf hws
 have hinT:inT P s:=⟨hon,hT'⟩
 have hok:okS s l=(s.overs.all (zgX s l)&&s.vars.all (zvc s l)):=by unfold okS;rw[hT,Bool.true_and]
 obtain⟨ov,hove⟩:∃ov,s.overs=ov:=⟨_,rfl⟩
 obtain⟨vr,hvre⟩:∃vr,s.vars=vr:=⟨_,rfl⟩
 have hvar:∀v,zvc s l v= !decide (v∈zcy W):=fun v=>by
  unfold zvc
  rw[hW]
  congr 1
  exact decide_eq_decide.2 (ze2 W v).symm
 have hfop:zeA P s pc.form:=⟨hinT,fun h hh=>zdK (i:=t) (by rw[zbV,hfo];exact hh),by
  have:=za3 (hs.chk pc (by rw[←hpc];exact List.getElem_mem _));omega⟩
 have hcw:(cst W []).length≤1000000∧W.size≤1000000:=⟨by rw[←hW];exact zuX hs hk hT,by omega⟩
 have hbel:∀o∈s.overs,zie P s ((inP s l o.hole:Nat):Int):=fun o ho=>⟨hinT,by omega,by rw[Int.toNat_natCast];exact(hov o ho).2.2.2⟩
 have h0:=Kp.mk @hres0
 have h1:=Kp.mk @hres1
 have kov:=Kp.mk hov
 have kod:=Kp.mk hod
 have kbe:=Kp.mk hbel
 have kva:=Kp.mk hvar
 have kok:=Kp.mk hok
 clear hres0 hres1 hov hod hok hbel hvar
 obtain⟨Lo,hLo⟩:∃Lo,s.overs.length=Lo:=⟨_,rfl⟩
 obtain⟨Lv,hLv⟩:∃Lv,s.vars.length=Lv:=⟨_,rfl⟩
 rw[hLo]at hovl
 rw[hLv]at hvl
 refine zaj (N:=106) Go.Proofs.YtmconmiemdinkaaGreatDoor.hm zr1 51000 (lsw [105] [1000009]) zGC Tryz.func51 rfl rfl (by simp) (by kernel_rfl) ?_
 repeat'(first|refine zbk Go.Proofs.YtmconmiemdinkaaGreatDoor.hm zr1 51000 (lsw [105] [1000009]) zqj (by kernel_rfl) (by kernel_rfl) ?_|refine zaq.i hreq fun _=>?_|refine And.intro ?_ ?_|exact True.intro|refine rq fun _=>?_|refine rf fun _=>?_|simp only[go_sem,zqj,HQ,hN,hil,hnl,hix,hte,←hPe,hT',hLo,zab,zad,zaO,zae,zag,zai,zaa,Tryz.f51,Sc5,Sc4,Su4,Su3,Su2,Su1,Sc3,Sc2,Sc1,Sc0])
 refine zam Go.Proofs.YtmconmiemdinkaaGreatDoor.hm zr1 51000 (lsw [105] [1000009]) (ι:=zeC Lo (m+1) fun i=>(s.overs.take i).all (zgX s l)=true)
  ⟨fun q=>⟨frL [(5,.ptr (25001,0) 0),(6,.ptr (25007,m0+1) 0),(11,.ptr (51011,m) 0),(59,.fz (.sl (s.overs.map enc))),(60,.fz (.i .i64 Lo)),(61,.fz (.i .i64 q.i))],
   hpL (((51011,m),some ⟨[.fz (.sl (P.holes.map enc)),.fz (.sl (P.pieces.map enc)),.fz (.i .i64 P.top)],true,false⟩)::HQ s m0 U g),q.m⟩,fun q=>Lo-q.i⟩
  ⟨0,m+1,by omega,Nat.le_refl _,by simp⟩ (by kernel_rfl) ?_ ?_
 ·refine zah ?_ ?_ ?_<;>(try simp only[go_sem,HQ,hN,hPh,hPp,hPt])
  all_goals first|done|rfl|omega
 rintro⟨j,m2,hj,hm2,hall⟩
 try simp only at hj hm2 hall
 rcases Nat.lt_or_ge j Lo with h2|h2
 ·have h2':j<s.overs.length:=by omega
  have h9:((j:Int)<(Lo:Int))=True:=eq_true (by omega)
  obtain⟨ob,hob⟩:∃ob,s.overs[j]=ob:=⟨_,rfl⟩
  have hmem:ob∈s.overs:=by rw[←hob];exact List.getElem_mem h2'
  obtain⟨g1,g2,g3,g4⟩:=kov.out ob hmem
  have gb:=kbe.out ob hmem
  have gd:=kod.out ob hmem
  have hts:=List.take_succ_eq_append_getElem h2'
  rw[hob]at hts
  cases hb:zgX s l ob with
  |false=>
   rw[hb]at gd
   have hbad:okS s l=false:=by
    rw[kok.out,Bool.and_eq_false_iff]
    refine .inl ?_
    rw[Bool.eq_false_iff]
    intro h
    have:=List.all_eq_true.1 h ob hmem
    rw[hb]at this;cases this
   repeat'(first|refine zaQ.i (f55 (x:=ob.label) hpl (fun y m3 R3 h3 h4=>f56 (x:=ob.label) (z:= .fz (.s ob.hole.l)) (by simp only;omega) (by simp only[go_sem]) h4) fun n' hn'=>?_)|refine zaq.i g1 fun _=>?_|refine zaq.i gb fun _=>?_|refine And.intro ?_ ?_|exact True.intro|refine rq fun _=>?_|refine rf fun _=>?_|simp only[go_sem,HQ,h9,h2',hob,g2,g3,gd,zab,zad,zaO,zae,zag,zai,zaa,Tryz.f51,Sc5,Sc4,Su4,Su3,Su2,Su1,Sc3,Sc2,Sc1,Sc0])
   all_goals
    refine h0.out hbad ?_ ?_
    ·omega
    ·simp only[go_sem,HQ,hN]
  |true=>
   rw[hb]at gd
   repeat'(first|refine zaQ.i (f55 (x:=ob.label) hpl (fun y m3 R3 h3 h4=>f56 (x:=ob.label) (z:= .fz (.s ob.hole.l)) (by simp only;omega) (by simp only[go_sem]) h4) fun n' hn'=>?_)|refine zaq.i g1 fun _=>?_|refine zaq.i gb fun _=>?_|refine And.intro ?_ ?_|exact True.intro|refine rq fun _=>?_|refine rf fun _=>?_|simp only[go_sem,HQ,h9,h2',hob,g2,g3,gd,zab,zad,zaO,zae,zag,zai,zaa,Tryz.f51,Sc5,Sc4,Su4,Su3,Su2,Su1,Sc3,Sc2,Sc1,Sc0])
   refine⟨⟨j+1,n',by omega,by omega,by rw[hts,List.all_append,hall];simp[hb]⟩,by simp only;omega,?_⟩
   refine zah ?_ ?_ ?_<;>(try simp only[go_sem,HQ,hN])
   all_goals first|done|rfl|omega
 obtain rfl:j=Lo:=by omega
 rw[List.take_of_length_le (by omega)]at hall
 have hok2:okS s l=s.vars.all (zvc s l):=by rw[kok.out,hall,Bool.true_and]
 clear kok kov kod kbe
 have htl2:t<s.pieces.length:=by omega
 have hpe2:(zeE.mk P.holes P.pieces (t:Int))=P:=by rw[←hPt]
 repeat'(first|refine zaq.i hfop fun _=>?_|refine zaq.i hcw fun _=>?_|refine And.intro ?_ ?_|exact True.intro|refine rq fun _=>?_|refine rf fun _=>?_|simp only[go_sem,HQ,Nat.lt_irrefl,Int.lt_irrefl,hPt,hpe2,htl2,hpc,hwf,hLv,zab,zad,zaO,zae,zag,zai,zaa,Tryz.f51,Sc5,Sc4,Su4,Su3,Su2,Su1,Sc3,Sc2,Sc1,Sc0])
 refine zam Go.Proofs.YtmconmiemdinkaaGreatDoor.hm zr1 51000 (lsw [105] [1000009]) (ι:=zeC Lv (m+1) fun i=>(s.vars.take i).all (zvc s l)=true)
  ⟨fun q=>⟨frL [(6,.ptr (25007,m0+1) 0),(11,.ptr (51011,m) 0),(15,.fz (.sl ((zcy W).map enc))),(92,.fz (.sl (s.vars.map enc))),(93,.fz (.i .i64 Lv)),(94,.fz (.i .i64 q.i))],
   hpL (((51011,m),some ⟨[.fz (.sl (P.holes.map enc)),.fz (.sl (P.pieces.map enc)),.fz (.i .i64 P.top)],true,false⟩)::HQ s m0 U g),q.m⟩,fun q=>Lv-q.i⟩
  ⟨0,m2,by omega,by omega,by simp⟩ (by kernel_rfl) ?_ ?_
 ·refine zah ?_ ?_ ?_<;>(try simp only[go_sem,HQ,hN,hPh,hPp,hPt])
  all_goals first|done|rfl|omega
 rintro⟨k,m3,hk3,hm3,hall2⟩
 try simp only at hk3 hm3 hall2
 rcases Nat.lt_or_ge k Lv with h2|h2
 ·have h2':k<s.vars.length:=by omega
  have h9:((k:Int)<(Lv:Int))=True:=eq_true (by omega)
  obtain⟨v,hv⟩:∃v,s.vars[k]=v:=⟨_,rfl⟩
  have hmem:v∈s.vars:=by rw[←hv];exact List.getElem_mem h2'
  have gv:=kva.out v
  have hts:=List.take_succ_eq_append_getElem h2'
  rw[hv]at hts
  cases hb:decide (v∈zcy W)with
  |true=>
   rw[hb]at gv
   have hbad:okS s l=false:=by
    rw[hok2,Bool.eq_false_iff]
    intro h
    have:=List.all_eq_true.1 h v hmem
    rw[gv]at this;cases this
   repeat'(first|refine And.intro ?_ ?_|exact True.intro|refine rq fun _=>?_|refine rf fun _=>?_|simp only[go_sem,HQ,h9,h2',hv,hb,zab,zad,zaO,zae,zag,zai,zaa,Tryz.f51,Sc5,Sc4,Su4,Su3,Su2,Su1,Sc3,Sc2,Sc1,Sc0])
   all_goals
    refine h0.out hbad ?_ ?_
    ·omega
    ·simp only[go_sem,HQ,hN]
  |false=>
   rw[hb]at gv
   repeat'(first|refine And.intro ?_ ?_|exact True.intro|refine rq fun _=>?_|refine rf fun _=>?_|simp only[go_sem,HQ,h9,h2',hv,hb,zab,zad,zaO,zae,zag,zai,zaa,Tryz.f51,Sc5,Sc4,Su4,Su3,Su2,Su1,Sc3,Sc2,Sc1,Sc0])
   refine⟨⟨k+1,m3,by omega,by omega,by rw[hts,List.all_append,hall2];simp[gv]⟩,by simp only;omega,?_⟩
   refine zah ?_ ?_ ?_<;>(try simp only[go_sem,HQ,hN])
   all_goals first|done|rfl|omega
 obtain rfl:k=Lv:=by omega
 rw[List.take_of_length_le (by omega)]at hall2
 have hok3:okS s l=true:=by rw[hok2,hall2]
 repeat'(first|refine And.intro ?_ ?_|exact True.intro|refine rq fun _=>?_|refine rf fun _=>?_|simp only[go_sem,HQ,Nat.lt_irrefl,Int.lt_irrefl,zab,zad,zaO,zae,zag,zai,zaa,Tryz.f51,Sc5,Sc4,Su4,Su3,Su2,Su1,Sc3,Sc2,Sc1,Sc0])
 all_goals
  refine h1.out hok3 (g':=m3) ?_ ?_ ?_
  ·omega
  ·omega
  ·simp only[go_sem,HQ,hN,List.map_append,List.map_cons,List.map_nil]
end Go.Proofs.YtmconmiemdinkaaGreatDoor
namespace Go.Proofs.YtmconmiemdinkaaGreatDoor
open Go Go.Abs Go.Proofs
set_option maxHeartbeats 8000000 in
theorem f51 {s:zar}{m0:Nat}(hs:ze3 s)(hu:(za5 s.pieces).length+1=nP s):∀(r:Nat) (used:List Bool) (l:List Nat) (U:List zeE) (g m:Nat),zu4 s used l→l.length+r=(za5 s.pieces).length→U.length+nP s^r≤1000000→g<m→m0+3≤m→
  zaH Tryz.prog GA 51 [.fz (.sl (used.map enc)),.fz (.sl ((zaF l).map enc)),.ptr (25003,1) 0,.ptr (25006,m0) 0,.ptr (25008,m0+2) 0,.ptr (25001,0) 0,.ptr (25007,m0+1) 0] (hpL (HQ s m0 U g)) m (zo7 s m0 m (U++(zex s r used l).map (zbY s))):=by
 intro r
 induction r with
 |zero=>intro used l U g m hi hl hU hg hm0;exact zoQ hs hu hi (by omega) (by simpa using hU) hg
 |succ r ih=>
  intro used l U g m hi hl hU hg hm0
  obtain⟨Q,hQ⟩:∃Q:D→zax→Nat→Prop,Q=zo7 s m0 m (U++(zex s (r+1) used l).map (zbY s)):=⟨_,rfl⟩
  rw[←hQ]
  have hn1:=hs.n1
  have hn6:=hs.n6
  have hul:=hi.len
  obtain⟨Wl,hWl⟩:∃Wl:Nat→List (List Nat),Wl=fun i=>if used.getD i false=true then[]else zex s r (used.set i true) (l++[i]):=⟨_,rfl⟩
  obtain⟨A,hA⟩:∃A:Nat→List zeE,A=fun j=>U++((List.range j).flatMap Wl).map (zbY s):=⟨_,rfl⟩
  have hA0:A 0=U:=by rw[hA];simp
  have hAs:∀j,A (j+1)=A j++(Wl j).map (zbY s):=fun j=>by
   rw[hA];simp only
   rw[List.range_succ,List.flatMap_append,List.map_append,List.append_assoc]
   simp
  have hAe:U++(zex s (r+1) used l).map (zbY s)=A (nP s):=by rw[hA,zex,hWl]
  have hWb:∀j,(Wl j).length≤nP s^r:=fun j=>by
   rw[hWl];simp only
   split
   ·simp
   ·exact zjk r _ _
  have hAl:∀j,(A j).length≤U.length+j*nP s^r:=fun j=>by
   rw[hA];simp only
   rw[List.length_append,List.length_map]
   have:=zoy hWb j
   omega
  have hAb:∀j,j<nP s→(A j).length+nP s^r≤1000000:=fun j hj=>by
   have h1:=hAl j
   have h2:(j+1)*nP s^r≤nP s*nP s^r:=Nat.mul_le_mul_right _ hj
   rw[Nat.add_mul,Nat.one_mul]at h2
   rw[Nat.pow_succ,Nat.mul_comm]at hU
   omega
  have hAt:∀j,used.getD j false=true→A (j+1)=A j:=fun j h=>by
   rw[hAs,hWl];simp only;rw[if_pos h];simp
  have hAf:∀j,used.getD j false=false→A (j+1)=A j++(zex s r (used.set j true) (l++[j])).map (zbY s):=fun j h=>by
   rw[hAs,hWl];simp only;rw[if_neg (by rw[h];decide)]
  rw[hAe]at hQ
  have hil:(zaF l).length=l.length:=by unfold zaF;rw[List.length_map]
  have hnl:((l.length:Int)<((za5 s.pieces).length:Int))=True:=eq_true (by omega)
  have hll:l.length≤6:=by omega
  have hue:used.isEmpty=false:=by
   cases used with
   |nil=>simp at hul;omega
   |cons _ _=>rfl
  have kI:=Kp.mk ih
  have kAt:=Kp.mk hAt
  have kAf:=Kp.mk hAf
  have kAb:=Kp.mk hAb
  have kQ:=Kp.mk hQ
  clear ih hAt hAf hAb hAl hWb hAs hAe hA hQ hWl
  refine zaj (N:=106) Go.Proofs.YtmconmiemdinkaaGreatDoor.hm zr1 51000 (lsw [105] [1000009]) zGC Tryz.func51 rfl rfl (by simp) (by kernel_rfl) ?_
  repeat'(first|refine And.intro ?_ ?_|exact True.intro|refine rq fun _=>?_|refine rf fun _=>?_|simp only[go_sem,HQ,hil,hnl,zab,zad,zaO,zae,zag,zai,zaa,Tryz.f51,Sc5,Sc4,Su4,Su3,Su2,Su1,Sc3,Sc2,Sc1,Sc0])
  refine zam Go.Proofs.YtmconmiemdinkaaGreatDoor.hm zr1 51000 (lsw [105] [1000009]) (ι:=zdR (nP s) m fun _=>True)
   ⟨fun q=>⟨frL [(0,.fz (.sl (used.map enc))),(1,.fz (.sl ((zaF l).map enc))),(2,.ptr (25003,1) 0),(3,.ptr (25006,m0) 0),(4,.ptr (25008,m0+2) 0),(5,.ptr (25001,0) 0),(6,.ptr (25007,m0+1) 0),(23,.fz (.i .i64 (nP s))),(24,.fz (.i .i64 q.i))],
    hpL (HQ s m0 (A q.i) q.g),q.m⟩,fun q=>nP s-q.i⟩
   ⟨0,g,m,by omega,by omega,by omega,trivial⟩ (by kernel_rfl) ?_ ?_
  ·refine zah ?_ ?_ ?_<;>(try simp only[go_sem,HQ,hA0])
   all_goals first|done|rfl|omega
  rintro⟨j,g2,m2,hj,hg2,hm2,_⟩
  try simp only at hj hg2 hm2
  rcases Nat.lt_or_ge j (nP s)with h1|h1
  ·have h1':j<used.length:=by omega
   have h9:((j:Int)<(nP s:Int))=True:=eq_true (by omega)
   have hgb:=zEZ h1'
   cases hb:used.getD j false with
   |true=>
    rw[hb]at hgb
    have hgb:=hgb.symm
    have hst:=kAt.out j hb
    repeat'(first|refine And.intro ?_ ?_|exact True.intro|refine rq fun _=>?_|refine rf fun _=>?_|simp only[go_sem,HQ,h9,h1',hgb,zab,zad,zaO,zae,zag,zai,zaa,Tryz.f51,Sc5,Sc4,Su4,Su3,Su2,Su1,Sc3,Sc2,Sc1,Sc0])
    refine⟨⟨j+1,g2,m2,by omega,by omega,by omega,trivial⟩,by simp only;omega,?_⟩
    refine zah ?_ ?_ ?_<;>(try simp only[go_sem,HQ,hst])
    all_goals first|done|rfl|omega
   |false=>
    rw[hb]at hgb
    have hgb:=hgb.symm
    have hst:=kAf.out j hb
    have hsn:=hi.step (i:=j) (by omega) hb
    have hab:=kAb.out j (by omega)
    have hcell:((used.map enc).getD j FD.nilf).cells.length=1:=by rw[List.getD_eq_getElem?_getD,List.getElem?_map,List.getElem?_eq_getElem h1'];rfl
    have hset:((used.map enc).map D.fz).set j (.fz (.b true))=((used.set j true).map enc).map D.fz:=by rw[List.map_set,List.map_set];rfl
    have hla:(zaF l).map enc++[FD.i .i64 (j:Int)]=(zaF (l++[j])).map enc:=by unfold zaF;simp;rfl
    repeat'(first|refine zaq.i hcell fun _=>?_|refine zaQ.i (zqz rfl (zyj (l:=used) (by omega)) fun g3 n3 hg3 hg4=>?_)|refine And.intro ?_ ?_|exact True.intro|refine rq fun _=>?_|refine rf fun _=>?_|simp only[go_sem,HQ,h9,h1',hgb,hue,hset,hil,hla,zab,zad,zaO,zae,zag,zai,zaa,Tryz.f51,Sc5,Sc4,Su4,Su3,Su2,Su1,Sc3,Sc2,Sc1,Sc0])
    have hce:(used.map (D.fz∘enc)).set j (D.fz (.b true))=((used.set j true).map enc).map D.fz:=by
     rw[List.map_map,List.map_set];rfl
    have htk:List.take l.length (zaF l)=zaF l:=List.take_of_length_le (by omega)
    refine zaQ.i (zlY (52007,g3) ((used.set j true).map enc) (o:=⟨(used.map (D.fz∘enc)).set j (D.fz (.b true)),false,false⟩) (by rw[zDg,if_pos rfl]) (fun h=>by cases h) (by rw[hce];exact zjh _) (fun x hx=>by obtain⟨y,_,rfl⟩:=List.mem_map.1 hx;rfl) rfl (zd1 (by rfl) (zah ?_ ?_ ?_) (zaL (kI.out (used.set j true) (l++[j]) (A j) g2 n3 hsn (by simp;omega) hab (by omega) (by omega)) ?_)))
    ·simp only[go_sem,zgJ,zth,fzD,htk,hla,List.length_map,List.length_set]
    ·simp only[go_sem,HQ]
    ·simp only[go_sem]
    intro d' H' n' hq
    obtain⟨rfl,e1,g4,hg4,e2⟩:=hq
    rw[←hst]at e2
    simp only[go_sem,HQ]at e2
    obtain⟨b1,b2,b3,b4,b5,b6⟩:=e2
    rw[show H'=hpX [] H' from rfl]
    repeat'(first|refine And.intro ?_ ?_|exact True.intro|refine rq fun _=>?_|refine rf fun _=>?_|simp only[go_sem,Tryz.f51,Sc5,Sc4,Su4,Su3,Su2,Su1,Sc3,Sc2,Sc1,Sc0])
    refine⟨⟨j+1,g4,n',by omega,by omega,by omega,trivial⟩,by simp only;omega,?_⟩
    refine zah ?_ ?_ ?_<;>(try simp only[go_sem,HQ,b1,b2,b3,b4,b5,b6])
    all_goals first|done|rfl|omega
  obtain rfl:j=nP s:=by omega
  repeat'(first|refine And.intro ?_ ?_|exact True.intro|refine rq fun _=>?_|refine rf fun _=>?_|simp only[go_sem,HQ,Nat.lt_irrefl,Int.lt_irrefl,Tryz.f51,Sc5,Sc4,Su4,Su3,Su2,Su1,Sc3,Sc2,Sc1,Sc0])
  all_goals
   rw[kQ.out]
   refine⟨rfl,by omega,g2,by omega,?_⟩
   simp only[go_sem,HQ]
end Go.Proofs.YtmconmiemdinkaaGreatDoor
namespace Go.Proofs.YtmconmiemdinkaaGreatDoor
open Go Go.Abs Go.Proofs
def zuE:Tv:=(.q 1 (.br [(0,(.br [(2,(.br [(3,.leaf)]))])),(2,(.q 0 (.br [(3,.leaf)])))]))
def ze5 (s:zar):List zeE:=(zdy s).map (zbY s)
def Sc6:Tbl:=Sc5.add 25 (sp1 ze5 fun s=>ze3 s)
set_option maxHeartbeats 8000000 in
theorem zJ2:zan Tryz.prog GA Sc6:=by
 refine zbR zIh zr1 fun s hs _=>?_
 have hn1:=hs.n1
 have hn6:=hs.n6
 have hnp:s.pieces.length=nP s:=rfl
 obtain⟨A,hA⟩:∃A:Nat→List Str,A=fun j=>za5 (s.pieces.take j):=⟨_,rfl⟩
 have hA0:A 0=[]:=by rw[hA];rfl
 have hAs:∀j (h:j<s.pieces.length),A (j+1)=A j++zau s.pieces[j].form:=fun j h=>by
  rw[hA];simp only
  unfold za5
  rw[List.take_succ_eq_append_getElem h,List.flatMap_append]
  simp
 have hAe:za5 s.pieces=A s.pieces.length:=by rw[hA];simp only[List.take_length]
 have hhz:∀x∈s.pieces,x.form.size≤1000∧(zau x.form).length≤1000:=fun x hx=>by
  have h1:=za3 (hs.chk x hx)
  have h2:=zbM x.form
  exact⟨by omega,by omega⟩
 have hAl:∀j,j≤s.pieces.length→(A j).length≤1000*j:=by
  intro j
  induction j with
  |zero=>intro _;rw[hA0];simp
  |succ j ih=>
   intro hj
   rw[hAs j hj,List.length_append]
   have h1:=ih (by omega)
   have h2:=(hhz _ (List.getElem_mem hj)).2
   omega
 have kA:=Kp.mk hAs
 have kL:=Kp.mk hAl
 have kz:=Kp.mk hhz
 clear hAs hAl hhz hA
 obtain⟨L,hL⟩:∃L,s.pieces.length=L:=⟨_,rfl⟩
 refine zaj (N:=36) Go.Proofs.YtmconmiemdinkaaGreatDoor.hm zr1 25000 (lsw [20] [1000013]) zIh Tryz.func25 rfl rfl (by simp) (by kernel_rfl) ?_
 repeat'(first|refine And.intro ?_ ?_|exact True.intro|refine rq fun _=>?_|refine rf fun _=>?_|simp only[go_sem,hL,zab,zad,zaO,zae,zag,zai,zaa,Tryz.f25,Sc5,Sc4,Su4,Su3,Su2,Su1,Sc3,Sc2,Sc1,Sc0])
 refine zam Go.Proofs.YtmconmiemdinkaaGreatDoor.hm zr1 25000 (lsw [20] [1000013]) (ι:=zdR L 3 fun _=>True)
  ⟨fun q=>⟨frL [(1,.ptr (25001,0) 0),(3,.ptr (25003,1) 0),(10,.fz (.sl (s.pieces.map enc))),(11,.fz (.i .i64 L)),(12,.fz (.i .i64 q.i))],
   hpL [((25001,0),some ⟨[.fz (.sl (s.pieces.map enc)),.fz (.sl (s.overs.map enc)),.fz (.sl (s.vars.map enc))],true,false⟩),((25003,1),some ⟨[.ow (25020,q.g) 1 ((A q.i).map enc)],true,false⟩),((25020,q.g),some tok)],q.m⟩,fun q=>L-q.i⟩
  ⟨0,2,3,by omega,by omega,by omega,trivial⟩ (by kernel_rfl) ?_ ?_
 ·refine zb6 [] [(25020,2)] [] ?_ ?_ ?_ ?_ ?_<;>(try simp only[go_sem,hA0,List.map_cons,List.map_nil])
  all_goals first|done|rfl|omega
 rintro⟨j,g,m,hj,hg,hm2,_⟩
 try simp only at hj hg hm2
 have hl1:=kL.out j (by omega)
 rcases Nat.lt_or_ge j L with h1|h1
 ·have h1':j<s.pieces.length:=by omega
  have h9:((j:Int)<(L:Int))=True:=eq_true (by omega)
  obtain⟨x,hx⟩:∃x,s.pieces[j]=x:=⟨_,rfl⟩
  obtain⟨hz1,hz2⟩:=kz.out x (by rw[←hx];exact List.getElem_mem h1')
  have hbs:=kA.out j h1'
  rw[hx]at hbs
  have hbl:=congrArg List.length hbs
  rw[List.length_append]at hbl
  repeat'(first|refine And.intro ?_ ?_|exact True.intro|refine rq fun _=>?_|refine rf fun _=>?_|simp only[go_sem,h9,h1',hx,zab,zad,zaO,zae,zag,zai,zaa,Tryz.f25,Sc5,Sc4,Su4,Su3,Su2,Su1,Sc3,Sc2,Sc1,Sc0])
  refine⟨⟨j+1,m+1,m+1+1,by omega,by omega,by omega,trivial⟩,by simp only;omega,?_⟩
  refine zah ?_ ?_ ?_<;>(try simp only[go_sem,hbs,List.map_append,List.map_cons,List.map_nil,List.cons_append])
  all_goals first|done|rfl|omega
 obtain rfl:j=L:=by omega
 have hall:A j=za5 s.pieces:=by rw[hAe,hL]
 rw[hall]at hl1
 have hbN:(za5 s.pieces).length≤6000:=by omega
 by_cases hu:(za5 s.pieces).length+1=nP s
 case neg=>
  have hne:(((za5 s.pieces).length:Int)=(j:Int)-1)=False:=eq_false (by omega)
  have hres:ze5 s=[]:=by unfold ze5 zdy;rw[if_pos hu];rfl
  repeat'(first|refine And.intro ?_ ?_|exact True.intro|refine rq fun _=>?_|refine rf fun _=>?_|simp only[go_sem,Nat.lt_irrefl,Int.lt_irrefl,hall,hL,hne,hres,zab,zad,zaO,zae,zag,zai,zaa,Tryz.f25,Sc5,Sc4,Su4,Su3,Su2,Su1,Sc3,Sc2,Sc1,Sc0])
  all_goals first|done|rfl|omega
 have hne:(((za5 s.pieces).length:Int)=(j:Int)-1)=True:=eq_true (by omega)
 have hres:ze5 s=(zex s (za5 s.pieces).length (List.replicate (nP s) false) []).map (zbY s):=by unfold ze5 zdy;rw[if_neg (by omega)]
 have hpw:nP s^(za5 s.pieces).length≤1000000:=by
  have h5:(za5 s.pieces).length≤5:=by omega
  exact Nat.le_trans (Nat.le_trans (Nat.pow_le_pow_left hn6 _) (Nat.pow_le_pow_right (by omega) h5)) (by decide)
 have hrun:=fun g m m0=>f51 hs hu (za5 s.pieces).length (List.replicate (nP s) false) [] [] g m (m0:=m0) ztu (by simp) (by simpa using hpw)
 rw[←hres]at hrun
 have krun:=Kp.mk hrun
 clear hrun
 have hjn:j=nP s:=by omega
 repeat'(first|refine zbk Go.Proofs.YtmconmiemdinkaaGreatDoor.hm zr1 25000 (lsw [20] [1000013]) zuE (by kernel_rfl) (by kernel_rfl) ?_|refine And.intro ?_ ?_|exact True.intro|refine rq fun _=>?_|refine rf fun _=>?_|simp only[go_sem,Nat.lt_irrefl,Int.lt_irrefl,hall,hL,hne,zuE,zzj,zi0,zab,zad,zaO,zae,zag,zai,zaa,Tryz.f25,Sc5,Sc4,Su4,Su3,Su2,Su1,Sc3,Sc2,Sc1,Sc0])
 all_goals
  subst hjn
  refine zaQ.i (zky (args':=[.fz (.sl ((List.replicate (nP s) false).map enc)),.fz (.sl ((zaF []).map enc)),.ptr (25003,1) 0,.ptr (25006,m) 0,.ptr (25008,m+2) 0,.ptr (25001,0) 0,.ptr (25007,m+1) 0])
   (hl:=HQ s m [] (m+4)) (n':=m+5) [] [(51105,m+4)] [((25033,m+1+1+1),(List.replicate (nP s) false).map enc)] rfl ?_ ?_ ?_ ?_ ?_ (zaL (krun.out (m+4) (m+5) m (by omega) (by omega)) ?_))
  case _=>omega
  case _=>simp only[go_sem,List.length_replicate];(first|done|rfl|((repeat' apply And.intro)<;>omega))
  case _=>simp only[go_sem,HQ,List.length_replicate];(first|done|rfl|((repeat' apply And.intro)<;>omega))
  case _=>simp only[go_sem,HQ];(first|done|rfl|((repeat' apply And.intro)<;>omega))
  case _=>simp only[go_sem,List.length_replicate,zaF];(first|done|rfl|((repeat' apply And.intro)<;>omega))
  intro d' H' n' hq
  obtain⟨rfl,e1,g4,hg4,e2⟩:=hq
  rw[List.nil_append]at e2
  simp only[go_sem,HQ]at e2
  obtain⟨b1,b2,b3,b4,b5,b6⟩:=e2
  rw[show H'=hpX [] H' from rfl]
  repeat'(first|refine And.intro ?_ ?_|exact True.intro|refine rq fun _=>?_|refine rf fun _=>?_|simp only[go_sem,b4,b6,Tryz.f25,Sc5,Sc4,Su4,Su3,Su2,Su1,Sc3,Sc2,Sc1,Sc0])
  all_goals first|done|rfl|omega
end Go.Proofs.YtmconmiemdinkaaGreatDoor
