/- several texts of this proof in one; no conditions -/
import Derived.Test.YtmconmiemdinkaaDoorAT
import Derived.Test.YtmconmiemdinkaaDoorY18
import Derived.Test.YtmconmiemdinkaaDoorY10
import Derived.Test.YtmconmiemdinkaaDoorY1
import Derived.Test.YtmconmiemdinkaaDoorY15
import Derived.Test.YtmconmiemdinkaaDoorY16
set_option maxRecDepth 100000
set_option maxHeartbeats 1000000
set_option linter.unusedSimpArgs false
namespace Go.Proofs.YtmconmiemdinkaaDoor
open Go Go.Abs Go.Proofs
theorem zhR:∀xs:List FD,D.toFDs (xs.map .fz)=some xs
 |[]=>rfl
 |x::xs=>by rw[List.map_cons,D.toFDs,zhR xs];rfl
theorem zzA {l:List Bool}{id:Abs.Id}{v:Bool}{len:Nat}{H:zau}{n:Nat}{R:D→zau→Nat→Prop}(ho:H id=some ⟨zag (l.map enc),false,v⟩)(hv:v=true→l=[])(hl:len=l.length)
  (hR:R (.fz (enc (decide (false∈l)))) (zaK H id none) n):zaE Tryd.prog GA 53 [.arr id 1 0 len,.fz (.b false)] H n R:=by
 subst hl
 rw[za0]at ho
 refine zjW id (l.map enc) ho (fun h=>by rw[hv h];rfl) (by rw[show(l.map fun a=>D.fz (enc a))=(l.map enc).map .fz by rw[List.map_map];rfl];exact zhR _) (fun x hx=>by obtain⟨y,_,rfl⟩:=List.mem_map.1 hx;rfl) (args':=[.fz (.sl (l.map enc)),.fz (.b false)]) ?_ ?_
 ·simp only[zpV,fzD,List.length_map,and_self,if_true]
 ·refine zo5 zBF (xs:=[enc l,enc false]) (by simp[Su4,Su3,Tbl.add];rfl) rfl zw1 ?_ ?_
  ·exact⟨by rw[dec_enc],by rw[dec_enc],by rw[dec_enc]⟩
  ·rw[dec_enc,dec_enc];exact hR
def HL (p:zd2)(s:zal)(seen:List Bool):List (Abs.Id×Option O):=
  [((39002,0),some ⟨[.fz (.sl (p.holes.map enc)),.fz (.sl (p.pieces.map enc)),.fz (.i .i64 p.top)],true,false⟩),((39003,1),some ⟨[.fz (.sl (s.pieces.map enc)),.fz (.sl (s.overs.map enc)),.fz (.sl (s.vars.map enc))],true,false⟩),((39010,2),some ⟨zag (seen.map enc),false,false⟩),
   ((39005,3),some ⟨[.arr (39010,2) 1 0 (nP s)],true,false⟩),((39006,4),some ⟨[.fn 52 [.ptr (39005,3) 0,.ptr (39003,1) 0,.ptr (39006,4) 0,.ptr (39002,0) 0]],true,false⟩)]
set_option maxHeartbeats 8000000 in
theorem f52 {p:zd2}{s:zal}(hp:onP p s):∀(k:Nat) (seen:List Bool) (i m:Nat),seen.length=nP s→i<nP s→zfV seen<k→4<m→
  zaE Tryd.prog GA 52 [.fz (.i .i64 i),.ptr (39005,3) 0,.ptr (39003,1) 0,.ptr (39006,4) 0,.ptr (39002,0) 0] (hpL (HL p s seen)) m
   (fun d' H' n'=>d'= .tup []∧m≤n'∧zfO H' (HL p s (zgz (za3 s (zaz p.pieces)) k seen i))):=by
 intro k
 induction k with
 |zero=>intro seen i m _ _ h;omega
 |succ k ih=>
  intro seen i m hsl hi hf hm4
  obtain⟨Q,hQ⟩:∃Q:D→zau→Nat→Prop,Q=(fun d' H' n'=>d'= .tup []∧m≤n'∧zfO H' (HL p s (zgz (za3 s (zaz p.pieces)) (k+1) seen i))):=⟨_,rfl⟩
  rw[←hQ]
  have hlb:(zag (seen.map enc)).length=seen.length:=by rw[zc1 (zbR (f:=enc) (k:=1) (fun _=>rfl) _),List.length_map]
  have hgd:(zag (seen.map enc)).getD i D.junk=D.fz (.b (seen.getD i false)):=by
   rw[za0,List.getD_eq_getElem?_getD,List.getElem?_map,List.getD_eq_getElem?_getD,List.getElem?_eq_getElem (by omega)];rfl
  have hset:(zag (seen.map enc)).set i (.fz (.b true))=zag ((seen.set i true).map enc):=zjm
  have hn6:=hp.c.n6
  have hI:i<s.pieces.length:=hi
  obtain⟨pc,hpc⟩:∃pc,s.pieces[i]=pc:=⟨_,rfl⟩
  have hho:zbZ s i=zar pc.form:=by unfold zbZ;rw[List.getElem?_eq_getElem hI,hpc]
  have hfz:pc.form.size≤1000:=by have:=zaV (hp.c.chk pc (by rw[←hpc];exact List.getElem_mem hI));omega
  have hin:∀x∈zar pc.form,(x∈p.holes∧p.pieces.length=p.holes.length)∧inQ p x=((inP s (zaz p.pieces) x:Nat):Int)∧inP s (zaz p.pieces) x<nP s:=fun x hx=>by
   have hxa:x∈zaU s.pieces:=zdP (i:=i) (by rw[hho];exact hx)
   have h1:p.holes=zaU s.pieces:=by rw[hp.e];rfl
   have h2:=zjx hp.l hxa
   rw[←hp.e]at h2
   have h3:p.pieces.length=(zaz p.pieces).length:=by unfold zaz;rw[List.length_map]
   exact⟨⟨by rw[h1];exact hxa,by rw[h1,h3];exact hp.l.e⟩,h2,zmd hp.l hxa⟩
  cases hs:seen.getD i false with
  |true=>
   have hd:zgz (za3 s (zaz p.pieces)) (k+1) seen i=seen:=by rw[zgz,if_pos hs]
   rw[hd]at hQ
   rw[hs]at hgd
   have kQ:=Kp.mk hQ
   clear hQ ih hin
   refine zak (N:=33) Go.Proofs.YtmconmiemdinkaaDoor.hm zws 52000 (lsw [] []) zCY Tryd.func52 rfl rfl (by simp) (by kernel_rfl) ?_
   repeat'(first|refine And.intro ?_ ?_|exact True.intro|refine rq fun _=>?_|refine rf fun _=>?_|simp only[go_sem,HL,hgd,hlb,hsl,hi,Tryd.f52])
   all_goals
    rw[kQ.out]
    refine⟨rfl,by omega,?_⟩
    simp only[go_sem,HL]
  |false=>
   rw[hs]at hgd
   have hfs:=zhi (seen:=seen) (i:=i) (by omega) hs
   obtain⟨A,hA⟩:∃A:Nat→List Bool,A=fun j=>((zar pc.form).take j).foldl (fun sn x=>zgz (za3 s (zaz p.pieces)) k sn (inP s (zaz p.pieces) x)) (seen.set i true):=⟨_,rfl⟩
   have hA0:A 0=seen.set i true:=by rw[hA];rfl
   have hAs:∀j (h:j<(zar pc.form).length),A (j+1)=zgz (za3 s (zaz p.pieces)) k (A j) (inP s (zaz p.pieces) (zar pc.form)[j]):=fun j h=>by
    rw[hA];simp only
    rw[List.take_succ_eq_append_getElem h,List.foldl_append]
    rfl
   have hAe:zgz (za3 s (zaz p.pieces)) (k+1) seen i=A (zar pc.form).length:=by
    rw[zgz,if_neg (by rw[hs];decide),hA]
    simp only[List.take_length]
    unfold za3
    rw[hho,List.foldl_map]
   have hAl:∀j,j≤(zar pc.form).length→(A j).length=nP s∧zfV (A j)<k:=by
    intro j
    induction j with
    |zero=>intro _;rw[hA0,List.length_set];exact⟨hsl,by omega⟩
    |succ j ihj=>
     intro hj
     obtain⟨g1,g2⟩:=ihj (by omega)
     have g3:=zgI hp.l.g k (A j) (inP s (zaz p.pieces) (zar pc.form)[j]) g1 (hin _ (List.getElem_mem (by omega))).2.2 g2
     rw[←hAs j (by omega)]at g3
     exact⟨g3.l,by have:=zfW (by rw[g1,g3.l];rfl) g3.u;omega⟩
   rw[hAe]at hQ
   have kQ:=Kp.mk hQ
   have kI:=Kp.mk ih
   have kA:=Kp.mk hAs
   have kL:=Kp.mk hAl
   have kN:=Kp.mk hin
   clear hQ ih hAs hAl hAe hA hin
   obtain⟨L,hL⟩:∃L,(zar pc.form).length=L:=⟨_,rfl⟩
   have hLb:L≤1000:=by have:=zbr pc.form;omega
   refine zak (N:=33) Go.Proofs.YtmconmiemdinkaaDoor.hm zws 52000 (lsw [] []) zCY Tryd.func52 rfl rfl (by simp) (by kernel_rfl) ?_
   repeat'(first|refine And.intro ?_ ?_|exact True.intro|refine rq fun _=>?_|refine rf fun _=>?_|simp only[go_sem,HL,hgd,hset,hlb,hsl,hi,hI,hpc,hL,zac,zae,zaD,zad,zaf,zaa,Tryd.f52,Sc3,Sc2,Sc1,Sc0])
   refine zap Go.Proofs.YtmconmiemdinkaaDoor.hm zws 52000 (lsw [] []) (ι:=zdI L m fun _=>True)
    ⟨fun q=>⟨frL [(1,.ptr (39005,3) 0),(2,.ptr (39003,1) 0),(3,.ptr (39006,4) 0),(4,.ptr (39002,0) 0),(21,.fz (.sl ((zar pc.form).map enc))),(22,.fz (.i .i64 L)),(23,.fz (.i .i64 q.i))],hpL (HL p s (A q.i)),q.m⟩,fun q=>L-q.i⟩
    ⟨0,m,by omega,Nat.le_refl _,trivial⟩ (by kernel_rfl) ?_ ?_
   ·refine zai ?_ ?_ ?_<;>(try simp only[go_sem,HL,hA0,hset])
    all_goals first|done|rfl|omega
   rintro⟨j,m2,hj,hm2,_⟩
   try simp only at hj hm2
   rcases Nat.lt_or_ge j L with h1|h1
   ·have h1':j<(zar pc.form).length:=by omega
    have h9:((j:Int)<(L:Int))=True:=eq_true (by omega)
    obtain⟨x,hx⟩:∃x,(zar pc.form)[j]=x:=⟨_,rfl⟩
    obtain⟨hi1,hi2,hi3⟩:=kN.out x (by rw[←hx];exact List.getElem_mem h1')
    have hbs:=kA.out j h1'
    rw[hx]at hbs
    obtain⟨hl1,hl2⟩:=kL.out j (by omega)
    have ih2:=kI.out (A j) (inP s (zaz p.pieces) x) m2 hl1 hi3 hl2 (by omega)
    repeat'(first|refine zaG.i hi1 fun _=>?_|refine And.intro ?_ ?_|exact True.intro|refine rq fun _=>?_|refine rf fun _=>?_|simp only[go_sem,HL,h9,h1',hx,hi2,zac,zae,zaD,zad,zaf,zaa,Tryd.f52,Sc3,Sc2,Sc1,Sc0])
    refine zaF.i (zaQ ih2 ?_)
    rintro d' H' n' ⟨rfl,e1,e2⟩
    rw[←hbs]at e2
    simp only[go_sem,HL]at e2
    obtain⟨b1,b2,b3,b4,b5⟩:=e2
    rw[show H'=hpX [] H' from rfl]
    repeat'(first|refine And.intro ?_ ?_|exact True.intro|refine rq fun _=>?_|refine rf fun _=>?_|simp only[go_sem,HL,Tryd.f52,Sc3,Sc2,Sc1,Sc0])
    refine⟨⟨j+1,n',by omega,by omega,trivial⟩,by simp only;omega,?_⟩
    refine zai ?_ ?_ ?_
    ·simp only[go_sem]
    ·simp only[go_sem,HL,b1,b2,b3,b4,b5]
    ·simp only[go_sem]
   obtain rfl:j=L:=by omega
   repeat'(first|refine And.intro ?_ ?_|exact True.intro|refine rq fun _=>?_|refine rf fun _=>?_|simp only[go_sem,HL,Nat.lt_irrefl,Int.lt_irrefl,hL,Tryd.f52,Sc3,Sc2,Sc1,Sc0])
   all_goals
    rw[kQ.out]
    refine⟨rfl,by omega,?_⟩
    simp only[go_sem,HL,hL]
end Go.Proofs.YtmconmiemdinkaaDoor
namespace Go.Proofs.YtmconmiemdinkaaDoor
open Go Go.Abs Go.Proofs
theorem zuw {n:Nat}{d:D}:(List.range n).map (fun j=>[d].getD (j % 1) .junk)=List.replicate n d:=by
 simp[Nat.mod_one,List.map_const']
theorem zhF {n:Nat}:List.replicate n (D.fz (.b false))=zag ((List.replicate n false).map enc):=by
 rw[za0];simp[zrE]
theorem zsH {p:zd2}{s:zal}(h:onP p s):decide (false∈zgz (za3 s (zaz p.pieces)) (nP s+1) (List.replicate (nP s) false) (zdT (nP s) (zaz p.pieces)))= !zcO s (zaz p.pieces):=by
 have h1:=zsI h.l.g h.l.t.1
 have e:decide (false∈zgz (za3 s (zaz p.pieces)) (nP s+1) (List.replicate (nP s) false) (zdT (nP s) (zaz p.pieces)))=(zgz (za3 s (zaz p.pieces)) (nP s+1) (List.replicate (nP s) false) (zdT (nP s) (zaz p.pieces))).contains false:=by
  rw[List.contains_eq_mem]
 rw[e]
 have h2:zcO s (zaz p.pieces)=true↔(∀j,j<nP s→zdZ (zgO s (zaz p.pieces)) (zdT (nP s) (zaz p.pieces)) (nP s+1) j=true):=by
  unfold zcO
  rw[List.all_eq_true]
  exact⟨fun g j hj=>g j (List.mem_range.2 hj),fun g j hj=>g j (List.mem_range.1 hj)⟩
 have h3:=h1.trans h2.symm
 unfold nP at h3 ⊢
 cases ha:(zgz (za3 s (zaz p.pieces)) (s.pieces.length+1) (List.replicate s.pieces.length false) (zdT s.pieces.length (zaz p.pieces))).contains false with
 |false=>rw[h3.1 ha];rfl
 |true=>
  cases hb:zcO s (zaz p.pieces)with
  |false=>rfl
  |true=>rw[h3.2 hb]at ha;cases ha
def Sc4:Tbl:=Tbl.or Sc3 Su4
theorem zD5:zam Tryd.prog GA Sc4:=zgH zws zBF
def Sc5:Tbl:=Sc4.add 39 (sp2 (fun p s=> !zcO s (zaz p.pieces)) onP)
set_option maxHeartbeats 4000000 in
theorem zoQ:zam Tryd.prog GA Sc5:=by
 refine zc7 zCP zD5 fun p s hp _ _=>?_
 have htop:p.top=(zdT (nP s) (zaz p.pieces):Nat):=by
  have:=congrArg zd2.top hp.e
  exact this
 have htd:=zsH hp
 have hn6:=hp.c.n6
 have hnp:s.pieces.length=nP s:=rfl
 have hrun:=f52 hp (nP s+1) (List.replicate (nP s) false) (zdT (nP s) (zaz p.pieces)) 5 (List.length_replicate ..) hp.l.t.1 (by rw[zfl];omega) (by omega)
 have hlen:=(zgI hp.l.g (nP s+1) (List.replicate (nP s) false) (zdT (nP s) (zaz p.pieces)) (List.length_replicate ..) hp.l.t.1 (by rw[zfl];omega)).l
 obtain⟨r,hr⟩:∃r,zgz (za3 s (zaz p.pieces)) (nP s+1) (List.replicate (nP s) false) (zdT (nP s) (zaz p.pieces))=r:=⟨_,rfl⟩
 rw[hr]at hrun hlen htd
 have hlen2:nP s=r.length:=hlen.symm
 have hr1:1≤nP s:=hp.c.n1
 obtain⟨t,ht⟩:∃t,zdT (nP s) (zaz p.pieces)=t:=⟨_,rfl⟩
 rw[ht]at htop hrun
 have krun:=Kp.mk hrun
 clear hrun hr ht
 refine zak (N:=18) Go.Proofs.YtmconmiemdinkaaDoor.hm zws 39000 (lsw [] []) zCP Tryd.func39 rfl rfl (by simp) (by kernel_rfl) ?_
 repeat'(first|refine And.intro ?_ ?_|exact True.intro|refine rq fun _=>?_|refine rf fun _=>?_|simp only[go_sem,htop,hnp,zuw,zhF,zac,zae,zaD,zad,zaf,zaa,Tryd.f39,Sc3,Sc2,Sc1,Sc0])
 refine zaF.i (zdp (by rfl) (zai ?_ ?_ ?_) (zaQ krun.out ?_))
 ·simp only[go_sem,zg1]
 ·simp only[go_sem,HL,hnp,htop,zuw,zhF]
 ·simp only[go_sem]
 rintro d' H' n' ⟨rfl,e1,e2⟩
 simp only[go_sem,HL]at e2
 obtain⟨b1,b2,b3,b4,b5⟩:=e2
 rw[show H'=hpX [] H' from rfl]
 repeat'(first|refine zaF.i (zzA (l:=r) b3 (fun h=>by cases h) hlen2 ?_)|refine And.intro ?_ ?_|exact True.intro|refine rq fun _=>?_|refine rf fun _=>?_|simp only[go_sem,b1,b2,b3,b4,b5,htd,Tryd.f39,Sc3,Sc2,Sc1,Sc0])
 all_goals first|done|rfl|omega
end Go.Proofs.YtmconmiemdinkaaDoor
namespace Go.Proofs.YtmconmiemdinkaaDoor
open Go Go.Abs Go.Proofs
theorem f40 {y:zbB}{x:Str}{z:D}{id:Abs.Id}{H:zau}{n:Nat}{R:D→zau→Nat→Prop}(hid0:id.2<n)(ho:H id=some ⟨[z,.fz (.s x.l)],true,false⟩)
  (hR:∀n',n≤n'→R (.fz (.b (decide (y.label=x)))) H n'):zaE Tryd.prog GA 40 [.fz (enc y),.ptr id 0] H n R:=by
 refine zbC zCQ (fun hfr=>?_) hR
 obtain⟨Q,hQ⟩:∃Q:D→zau→Nat→Prop,Q=(fun d' H' n'=>d'= .fz (.b (decide (y.label=x)))∧n≤n'∧∀id,id.2<n→H' id=H id):=⟨_,rfl⟩
 rw[←hQ]
 have e:H=hpX [] H:=rfl
 rw[e]
 have hn0:∀id:Abs.Id,id.2<n→id≠(40002,n):=fun id h e=>by rw[e]at h;simp at h
 have hne:(id=(40002,n))=False:=eq_false (hn0 id hid0)
 have h1':(y.label.l=x.l)=(y.label=x):=by
  apply propext
  constructor
  ·intro e
   cases h:y.label
   cases h2:x
   rw[h,h2]at e
   exact congrArg Str.mk e
  ·intro e;rw[e]
 refine zak (N:=9) hm zdJ 40000 (lst []) zCQ Tryd.func40 rfl rfl (by simp) (by kernel_rfl) ?_
 repeat'(first|refine And.intro ?_ ?_|exact True.intro|refine rq fun _=>?_|refine rf fun _=>?_|simp only[go_sem,ho,h1',hne,Tryd.f40])
 all_goals
  rw[hQ]
  refine⟨?_,by omega,fun id hid=>?_⟩
  ·first|rfl|(simp only[h1'];done)
  ·simp only[go_sem,hn0 id hid]
theorem f12 {y:zbB}{x:Str}{id:Abs.Id}{H:zau}{n:Nat}{R:D→zau→Nat→Prop}(hid0:id.2<n)(ho:H id=some ⟨[.fz (.s x.l)],true,false⟩)
  (hR:∀n',n≤n'→R (.fz (.b (decide (y.label=x)))) H n'):zaE Tryd.prog GA 12 [.fz (enc y),.ptr id 0] H n R:=by
 refine zbC zCw (fun hfr=>?_) hR
 obtain⟨Q,hQ⟩:∃Q:D→zau→Nat→Prop,Q=(fun d' H' n'=>d'= .fz (.b (decide (y.label=x)))∧n≤n'∧∀id,id.2<n→H' id=H id):=⟨_,rfl⟩
 rw[←hQ]
 have e:H=hpX [] H:=rfl
 rw[e]
 have hn0:∀id:Abs.Id,id.2<n→id≠(12002,n):=fun id h e=>by rw[e]at h;simp at h
 have hne:(id=(12002,n))=False:=eq_false (hn0 id hid0)
 have h1':(y.label.l=x.l)=(y.label=x):=by
  apply propext
  constructor
  ·intro e
   cases h:y.label
   cases h2:x
   rw[h,h2]at e
   exact congrArg Str.mk e
  ·intro e;rw[e]
 refine zak (N:=8) hm zdJ 12000 (lst []) zCw Tryd.func12 rfl rfl (by simp) (by kernel_rfl) ?_
 repeat'(first|refine And.intro ?_ ?_|exact True.intro|refine rq fun _=>?_|refine rf fun _=>?_|simp only[go_sem,ho,h1',hne,Tryd.f12])
 all_goals
  rw[hQ]
  refine⟨?_,by omega,fun id hid=>?_⟩
  ·first|rfl|(simp only[h1'];done)
  ·simp only[go_sem,hn0 id hid]
set_option maxHeartbeats 4000000 in
theorem f11 {ps:List zbB}{x:Str}{F:FuncId}{id:Abs.Id}{H:zau}{n:Nat}{R:D→zau→Nat→Prop}(hl:ps.length≤1000000)
  (hcl:∀(y:zbB) (m:Nat) (R:D→zau→Nat→Prop),n≤m→(∀n',m≤n'→R (.fz (.b (decide (y.label=x)))) H n')→zaE Tryd.prog GA F [.fz (enc y),.ptr id 0] H m R)
  (hR:∀n',n≤n'→R (.fz (.i .i64 (idx (zan ps) x))) H n'):zaE Tryd.prog GA 11 [.fz (enc ps),.fn F [.ptr id 0]] H n R:=by
 refine zbC zCv (fun hfr=>?_) hR
 obtain⟨Q,hQ⟩:∃Q:D→zau→Nat→Prop,Q=(fun d' H' n'=>d'= .fz (.i .i64 (idx (zan ps) x))∧n≤n'∧∀id,id.2<n→H' id=H id):=⟨_,rfl⟩
 rw[←hQ]
 have kq:=Kp.mk hQ
 have kc:=Kp.mk hcl
 clear hQ hcl
 have e:H=hpX [] H:=rfl
 rw[e]
 have hll:(zan ps).length=ps.length:=by unfold zan;rw[List.length_map]
 obtain⟨L,hL⟩:∃L,ps.length=L:=⟨_,rfl⟩
 refine zak (N:=19) hm zdJ 11000 (lst []) zCv Tryd.func11 rfl rfl (by simp) (by kernel_rfl) ?_
 repeat'(first|refine And.intro ?_ ?_|exact True.intro|refine rq fun _=>?_|refine rf fun _=>?_|simp only[go_sem,hL,zaf,Tryd.f11])
 refine zap hm zdJ 11000 (lst []) (ι:=zdI L n fun i=>x∉(zan ps).take i)
  ⟨fun q=>⟨frL [(0,.fz (.sl (ps.map enc))),(1,.fn F [.ptr id 0]),(7,.fz (.i .i64 L)),(8,.fz (.i .i64 q.i))],hpX [] H,q.m⟩,fun q=>L-q.i⟩
  ⟨0,n,by omega,Nat.le_refl _,by simp⟩ (by kernel_rfl) ?_ ?_
 ·refine zaL ?_ ?_ (fun id2 o2 ho2=>?_) ?_
  ·simp only[go_sem]
  ·simp only[go_sem]
  ·exact ho2
  ·first|omega|(simp only[go_sem];done)|(simp only[go_sem];omega)
 rintro⟨i,m,hi,hm1,hp⟩
 try simp only at hi hm1 hp
 rcases Nat.lt_or_ge i L with h1|h1
 ·have h1':i<ps.length:=by omega
  have h9:((i:Int)<(L:Int))=True:=eq_true (by omega)
  obtain⟨y,hy⟩:∃y,ps[i]=y:=⟨_,rfl⟩
  have hlab:(zan ps)[i]'(by omega)=y.label:=by simp only[zan,List.getElem_map,hy]
  have h1b:i<(zan ps).length:=by omega
  by_cases hyp:y.label=x
  ·have hd:decide (y.label=x)=true:=decide_eq_true hyp
   repeat'(first|refine zaF.i (kc.out y _ _ (by omega) fun n' hn'=>?_)|refine And.intro ?_ ?_|exact True.intro|refine rq fun _=>?_|refine rf fun _=>?_|simp only[go_sem,h9,h1',hy,hd,zaf,zaa,Tryd.f11])
   all_goals
    rw[kq.out]
    refine⟨?_,by omega,fun _ _=>rfl⟩
    have hin:x∈zan ps:=by rw[←hyp,←hlab];exact List.getElem_mem h1b
    unfold idx
    rw[if_pos hin,zp4 h1b hp (hlab.trans hyp)]
  ·have hd:decide (y.label=x)=false:=decide_eq_false hyp
   repeat'(first|refine zaF.i (kc.out y _ _ (by omega) fun n' hn'=>?_)|refine And.intro ?_ ?_|exact True.intro|refine rq fun _=>?_|refine rf fun _=>?_|simp only[go_sem,h9,h1',hy,hd,zaf,zaa,Tryd.f11])
   all_goals
    refine⟨⟨i+1,n',by omega,by omega,zb1 h1b hp (by rw[hlab];exact hyp)⟩,by simp only;omega,?_⟩
    refine zaL ?_ ?_ (fun id2 o2 ho2=>?_) ?_
    ·simp only[go_sem]
    ·simp only[go_sem]
    ·exact ho2
    ·first|omega|(simp only[go_sem];done)|(simp only[go_sem];omega)
 have h9:((i:Int)<(L:Int))=False:=eq_false (by omega)
 repeat'(first|refine And.intro ?_ ?_|exact True.intro|refine rq fun _=>?_|refine rf fun _=>?_|simp only[go_sem,h9,Tryd.f11])
 all_goals
  rw[kq.out]
  refine⟨?_,by omega,fun _ _=>rfl⟩
  unfold idx
  rw[if_neg (zc5 (by omega) hp)]
end Go.Proofs.YtmconmiemdinkaaDoor
namespace Go.Proofs.YtmconmiemdinkaaDoor
open Go Go.Abs Go.Proofs
section
variable {P:Program} {G:Nat→List FD}
theorem znz {f:FuncId}{args:List D}{xs cs:List FD}{H:zau}{n t es len:Nat}{v:Bool}{R:D→zau→Nat→Prop}(ha:D.toFDs args=some xs)
  (h:zaE P G f (xs.map .fz) H0 0 (fun d H1 n1=>∃g,g<n1∧d= .arr (t,g) es 0 len∧H1 (t,g)=some ⟨cs.map .fz,false,v⟩))(hR:∀g n',n≤g→g<n'→R (.arr (t,g) es 0 len) (hpX [((t,g),some ⟨cs.map .fz,false,v⟩)] H) n'):zaE P G f args H n R:=by
 refine zgW h.1 fun hfr=>zdo (zo4 ha h) ?_
 rintro d H' n' ⟨d1,H1,n1,⟨g,hg,rfl,ho⟩,rfl,rfl,rfl⟩
 have hm:∀l:List FD,zoT n (l.map .fz)=l.map .fz:=fun l=>by
  rw[zfz,List.map_map]
  exact List.map_congr_left fun x _=>rfl
 have hsh:shH n H H1 (t,g+n)=some ⟨cs.map .fz,false,v⟩:=by
  unfold shH
  rw[if_pos (by simp),show(t,g+n-n)=(t,g) by rw[Nat.add_sub_cancel],ho]
  simp only[Option.map_some,shO,hm]
 refine⟨.arr (t,g+n) es 0 len,hpX [((t,g+n),some ⟨cs.map .fz,false,v⟩)] H,n+n1,ze6 ?_ (fun id o hid=>?_) (Nat.le_refl _),hR (g+n) (n+n1) (by omega) (by omega)⟩
 ·exact⟨rfl,trivial⟩
 ·simp only[hpX]at hid
  split at hid
  ·rename_i e;subst e;rw[←hid];exact hsh
  ·have hlt:id.2<n:=by
    rcases Nat.lt_or_ge id.2 n with h3|h3
    ·exact h3
    ·rw[hfr id h3]at hid;cases hid
   show shH n H H1 id=some o
   unfold shH
   rw[if_neg (by omega)]
   exact hid
end
theorem ztD {l:List Bool}(hl:l.length≤1000000):zaE Tryd.prog GA 37 [.fz (.sl (l.map enc))] H0 0 (fun d H n=>∃g,g<n∧d= .arr (37007,g) 1 0 l.length∧H (37007,g)=some ⟨(l.map enc).map .fz,false,l.isEmpty⟩):=by
 rw[zfN]
 have hfl:zag (l.map enc)=(l.map enc).map .fz:=by
  unfold zag
  rw[List.map_map,List.flatMap_map]
  induction l with
  |nil=>rfl
  |cons x l ih=>rw[List.flatMap_cons,List.map_cons,ih (by simp at hl;omega)];rfl
 obtain⟨Q,hQ⟩:∃Q:D→zau→Nat→Prop,Q=(fun d H n=>(d= .full []∧l=[]∧n=0∧H=hpL [])∨∃g,g<n∧d= .arr (37007,g) 1 0 l.length∧H (37007,g)=some ⟨(l.map enc).map .fz,false,l.isEmpty⟩):=⟨_,rfl⟩
 have key:zaE Tryd.prog GA 37 [.fz (.sl (l.map enc))] (hpL []) 0 Q:=by
  refine zak (N:=8) hm zdJ 37000 (lst [7]) zEB Tryd.func37 rfl rfl (by simp) (by kernel_rfl) ?_
  simp only[go_sem]
  refine zsP.i fun b hb=>?_
  cases b
  ·repeat'(first|refine And.intro ?_ ?_|exact True.intro|refine rq fun _=>?_|refine rf fun _=>?_|simp only[go_sem,Tryd.f37])
   rw[hQ]
   refine .inr ⟨0,by omega,by simp only[go_sem],?_⟩
   simp only[go_sem,←hfl]
   all_goals trace_state
  ·have:l=[]:=List.eq_nil_of_length_eq_zero (hb rfl)
   subst this
   repeat'(first|refine And.intro ?_ ?_|exact True.intro|refine rq fun _=>?_|refine rf fun _=>?_|simp only[go_sem,Tryd.f37])
   rw[hQ]
   exact .inl ⟨rfl,rfl,rfl,rfl⟩
 refine zdo key ?_
 rw[hQ]
 rintro d H n (⟨rfl,rfl,rfl,rfl⟩|⟨g,hg,rfl,ho⟩)
 ·refine⟨.arr (37007,0) 1 0 0,hpL [((37007,0),some ⟨[],false,true⟩)],1,?_,0,by omega,rfl,by simp only[go_sem]⟩
  refine zcV [] [(37007,0)] [] ?_ ?_ ?_ ?_ ?_<;>simp only[go_sem]
  all_goals first|done|rfl
 ·exact⟨_,H,n,ze6 ⟨rfl,trivial⟩ (fun _ _ h=>h) (Nat.le_refl _),g,hg,rfl,ho⟩
def zno:Tv:=(.q 0 (.q 1 (.q 2 (.q 3 (.q 4 (.br [(5,(.br [(6,.leaf)]))]))))))
def HQ (s:zal)(m0:Nat)(U:List zd2)(g:Nat):List (Abs.Id×Option O):=
  [((13001,0),some ⟨[.fz (.sl (s.pieces.map enc)),.fz (.sl (s.overs.map enc)),.fz (.sl (s.vars.map enc))],true,false⟩),((13003,1),some ⟨[.fz (.sl ((zaU s.pieces).map enc))],true,false⟩),((13006,m0),some ⟨[.fz (.i .i64 (nP s))],true,false⟩),
   ((13007,m0+1),some ⟨[.ow (36105,g) 3 (U.map enc)],true,false⟩),((13008,m0+2),some ⟨[.fn 36 [.ptr (13003,1) 0,.ptr (13006,m0) 0,.ptr (13008,m0+2) 0,.ptr (13001,0) 0,.ptr (13007,m0+1) 0]],true,false⟩),((36105,g),some tok)]
def zmw (s:zal)(m0 m:Nat)(U:List zd2)(d':D)(H':zau)(n':Nat):Prop:=d'= .tup []∧m≤n'∧∃g',g'<n'∧zfO H' (HQ s m0 U g')
set_option maxHeartbeats 8000000 in
theorem zmm {s:zal}{used:List Bool}{l:List Nat}{U:List zd2}{g m m0:Nat}(hs:zhx s)(hu:(zaU s.pieces).length+1=nP s)(hi:zrd s used l)(hl:l.length=(zaU s.pieces).length)(hO:U.length+1≤1000000)(hg:g<m):
  zaE Tryd.prog GA 36 [.fz (.sl (used.map enc)),.fz (.sl ((zay l).map enc)),.ptr (13003,1) 0,.ptr (13006,m0) 0,.ptr (13008,m0+2) 0,.ptr (13001,0) 0,.ptr (13007,m0+1) 0] (hpL (HQ s m0 U g)) m (zmw s m0 m (U++(zdV s 0 used l).map (zbV s))):=by
 obtain⟨Q,hQ⟩:∃Q:D→zau→Nat→Prop,Q=zmw s m0 m (U++(zdV s 0 used l).map (zbV s)):=⟨_,rfl⟩
 rw[←hQ]
 have hk:=hi.ok hs hl hu
 have hon:=zqq hs hk
 obtain⟨ht1,ht2⟩:=hi.top hk
 have hix:zlz used false=((zdT (nP s) l:Nat):Int):=by unfold zlz;rw[if_pos ht1,ht2]
 obtain⟨N,hN⟩:∃N,zaU s.pieces=N:=⟨_,rfl⟩
 have hil:(zay l).length=l.length:=by unfold zay;rw[List.length_map]
 have htl:zdT (nP s) l<s.pieces.length:=hk.t.1
 obtain⟨t,hte⟩:∃t,zdT (nP s) l=t:=⟨_,rfl⟩
 have hPe:zbV s l=⟨zaU s.pieces,zay l,((zdT (nP s) l:Nat):Int)⟩:=rfl
 obtain⟨P,hP⟩:∃P,zbV s l=P:=⟨_,rfl⟩
 rw[hP,hte,hN]at hPe
 have hPh:P.holes=N:=by rw[hPe]
 have hPp:P.pieces=zay l:=by rw[hPe]
 have hPt:P.top=(t:Int):=by rw[hPe]
 obtain⟨pc,hpc⟩:∃pc,s.pieces[t]'(by rw[←hte];exact htl)=pc:=⟨_,rfl⟩
 have hfo:zbE s t=pc.form:=by unfold zbE;rw[List.getElem?_eq_getElem (by rw[←hte];exact htl),hpc]
 have hres0:okS s l=false→∀{n':Nat} {H':zau},m≤n'→zfO H' (HQ s m0 U g)→Q (.tup []) H' n':=fun h n' H' h1 h2=>by
  rw[hQ,zdV,h]
  exact⟨rfl,h1,g,by omega,by simpa using h2⟩
 have hres1:okS s l=true→∀{n' g':Nat} {H':zau},m≤n'→g'<n'→zfO H' (HQ s m0 (U++[P]) g')→Q (.tup []) H' n':=fun h n' g' H' h1 h2 h3=>by
  rw[hQ,zdV,h,if_pos rfl]
  exact⟨rfl,h1,g',h2,by rw[←hP]at h3;exact h3⟩
 have hnl:((l.length:Int)<(N.length:Int))=False:=eq_false (by rw[←hN];omega)
 rw[hP]at hon
 have hnat:zaz P.pieces=l:=by rw[←hP];exact zc4
 have hov:∀o∈s.overs,(o.hole∈P.holes∧P.pieces.length=P.holes.length)∧inQ P o.hole=((inP s l o.hole:Nat):Int)∧idx (zan s.pieces) o.label=((zek s o.label:Nat):Int)∧inP s l o.hole<nP s:=fun o ho=>by
  obtain⟨h1,h2⟩:=hs.ovs o ho
  refine⟨⟨by rw[hPh,←hN];exact h1,by rw[hPp,hPh,hil,hl,←hN]⟩,by rw[←hP];exact zjx hk h1,?_,zmd hk h1⟩
  unfold idx
  rw[if_pos h2];rfl
 have hod:∀o∈s.overs,decide (((zek s o.label:Nat):Int)∈zbN P s ((inP s l o.hole:Nat):Int))=zfY s l o:=fun o ho=>by rw[←hP];exact zsn hs hk ho
 have hreq:FD.agg [FD.sl (N.map enc),FD.sl ((zay l).map enc),FD.i .i64 t]=FD.agg [FD.sl (P.holes.map enc),FD.sl (P.pieces.map enc),FD.i .i64 P.top]∧onP P s:=⟨by rw[hPh,hPp,hPt],hon⟩
 have hn6:=hs.n6
 have hpl:s.pieces.length≤1000000:=by have:s.pieces.length=nP s:=rfl;omega
 have hovl:=hs.ov
 have hvl:=hs.vs
 have hnp:s.pieces.length=nP s:=rfl
 clear hQ
 by_cases hT:zcO s l=true
 case neg=>
  have hT:zcO s l=false:=by simpa using hT
  have hT':zcO s (zaz P.pieces)=false:=by rw[hnat];exact hT
  have hok:okS s l=false:=by unfold okS;rw[hT];rfl
  have kr:=Kp.mk (@hres0 hok)
  clear hres0 hres1 hov hod
  refine zak (N:=106) Go.Proofs.YtmconmiemdinkaaDoor.hm zoQ 36000 (lsw [105] [1000009]) zA1 Tryd.func36 rfl rfl (by simp) (by kernel_rfl) ?_
  repeat'(first|refine zdc Go.Proofs.YtmconmiemdinkaaDoor.hm zoQ 36000 (lsw [105] [1000009]) zno (by kernel_rfl) (by kernel_rfl) ?_|refine zaG.i hreq fun _=>?_|refine And.intro ?_ ?_|exact True.intro|refine rq fun _=>?_|refine rf fun _=>?_|simp only[go_sem,zno,HQ,hN,hil,hnl,hix,hte,←hPe,hT',zac,zae,zaD,zad,zaf,zah,zaa,Tryd.f36,Sc5,Sc4,Su4,Su3,Su2,Su1,Sc3,Sc2,Sc1,Sc0])
  all_goals
   refine kr.out ?_ ?_
   ·omega
   ·simp only[go_sem,HQ,hN]
 have hT':zcO s (zaz P.pieces)=true:=by rw[hnat];exact hT
 have hpos:nP s≤6:=hn6
 have hwf:=ziT hk hT
 have hws:=zeZ hs hk hT
 rw[hP,hte,hfo]at hwf
 obtain⟨W,hW⟩:∃W,zdG s l=W:=⟨_,rfl⟩
 rw[hW]at hwf hws
 have hinT:inT P s:=⟨hon,hT'⟩
 have hok:okS s l=(s.overs.all (zfY s l)&&s.vars.all (zrj s l)):=by unfold okS;rw[hT,Bool.true_and]
 obtain⟨ov,hove⟩:∃ov,s.overs=ov:=⟨_,rfl⟩
 obtain⟨vr,hvre⟩:∃vr,s.vars=vr:=⟨_,rfl⟩
 have hvar:∀v,zrj s l v= !decide (v∈zcw W):=fun v=>by
  unfold zrj
  rw[hW]
  congr 1
  exact decide_eq_decide.2 (zhq W v).symm
 have hfop:zeg P s pc.form:=⟨hinT,fun h hh=>zdP (i:=t) (by rw[zce,hfo];exact hh),by
  have:=zaV (hs.chk pc (by rw[←hpc];exact List.getElem_mem _));omega⟩
 have hcw:(cst W []).length≤1000000∧W.size≤1000000:=⟨by rw[←hW];exact zq9 hs hk hT,by omega⟩
 have hbel:∀o∈s.overs,zgd P s ((inP s l o.hole:Nat):Int):=fun o ho=>⟨hinT,by omega,by rw[Int.toNat_natCast];exact(hov o ho).2.2.2⟩
 have h0:=Kp.mk @hres0
 have h1:=Kp.mk @hres1
 have kov:=Kp.mk hov
 have kod:=Kp.mk hod
 have kbe:=Kp.mk hbel
 have kva:=Kp.mk hvar
 have kok:=Kp.mk hok
 clear hres0 hres1 hov hod hok hbel hvar
 obtain⟨Lo,hLo⟩:∃Lo,s.overs.length=Lo:=⟨_,rfl⟩
 obtain⟨Lv,hLv⟩:∃Lv,s.vars.length=Lv:=⟨_,rfl⟩
 rw[hLo]at hovl
 rw[hLv]at hvl
 refine zak (N:=106) Go.Proofs.YtmconmiemdinkaaDoor.hm zoQ 36000 (lsw [105] [1000009]) zA1 Tryd.func36 rfl rfl (by simp) (by kernel_rfl) ?_
 repeat'(first|refine zdc Go.Proofs.YtmconmiemdinkaaDoor.hm zoQ 36000 (lsw [105] [1000009]) zno (by kernel_rfl) (by kernel_rfl) ?_|refine zaG.i hreq fun _=>?_|refine And.intro ?_ ?_|exact True.intro|refine rq fun _=>?_|refine rf fun _=>?_|simp only[go_sem,zno,HQ,hN,hil,hnl,hix,hte,←hPe,hT',hLo,zac,zae,zaD,zad,zaf,zah,zaa,Tryd.f36,Sc5,Sc4,Su4,Su3,Su2,Su1,Sc3,Sc2,Sc1,Sc0])
 refine zap Go.Proofs.YtmconmiemdinkaaDoor.hm zoQ 36000 (lsw [105] [1000009]) (ι:=zdI Lo (m+1) fun i=>(s.overs.take i).all (zfY s l)=true)
  ⟨fun q=>⟨frL [(5,.ptr (13001,0) 0),(6,.ptr (13007,m0+1) 0),(11,.ptr (36011,m) 0),(59,.fz (.sl (s.overs.map enc))),(60,.fz (.i .i64 Lo)),(61,.fz (.i .i64 q.i))],
   hpL (((36011,m),some ⟨[.fz (.sl (P.holes.map enc)),.fz (.sl (P.pieces.map enc)),.fz (.i .i64 P.top)],true,false⟩)::HQ s m0 U g),q.m⟩,fun q=>Lo-q.i⟩
  ⟨0,m+1,by omega,Nat.le_refl _,by simp⟩ (by kernel_rfl) ?_ ?_
 ·refine zai ?_ ?_ ?_<;>(try simp only[go_sem,HQ,hN,hPh,hPp,hPt])
  all_goals first|done|rfl|omega
 rintro⟨j,m2,hj,hm2,hall⟩
 try simp only at hj hm2 hall
 rcases Nat.lt_or_ge j Lo with h2|h2
 ·have h2':j<s.overs.length:=by omega
  have h9:((j:Int)<(Lo:Int))=True:=eq_true (by omega)
  obtain⟨ob,hob⟩:∃ob,s.overs[j]=ob:=⟨_,rfl⟩
  have hmem:ob∈s.overs:=by rw[←hob];exact List.getElem_mem h2'
  obtain⟨g1,g2,g3,g4⟩:=kov.out ob hmem
  have gb:=kbe.out ob hmem
  have gd:=kod.out ob hmem
  have hts:=List.take_succ_eq_append_getElem h2'
  rw[hob]at hts
  cases hb:zfY s l ob with
  |false=>
   rw[hb]at gd
   have hbad:okS s l=false:=by
    rw[kok.out,Bool.and_eq_false_iff]
    refine .inl ?_
    rw[Bool.eq_false_iff]
    intro h
    have:=List.all_eq_true.1 h ob hmem
    rw[hb]at this;cases this
   repeat'(first|refine zaF.i (f11 (x:=ob.label) hpl (fun y m3 R3 h3 h4=>f40 (x:=ob.label) (z:= .fz (.s ob.hole.l)) (by simp only;omega) (by simp only[go_sem]) h4) fun n' hn'=>?_)|refine zaG.i g1 fun _=>?_|refine zaG.i gb fun _=>?_|refine And.intro ?_ ?_|exact True.intro|refine rq fun _=>?_|refine rf fun _=>?_|simp only[go_sem,HQ,h9,h2',hob,g2,g3,gd,zac,zae,zaD,zad,zaf,zah,zaa,Tryd.f36,Sc5,Sc4,Su4,Su3,Su2,Su1,Sc3,Sc2,Sc1,Sc0])
   all_goals
    refine h0.out hbad ?_ ?_
    ·omega
    ·simp only[go_sem,HQ,hN]
  |true=>
   rw[hb]at gd
   repeat'(first|refine zaF.i (f11 (x:=ob.label) hpl (fun y m3 R3 h3 h4=>f40 (x:=ob.label) (z:= .fz (.s ob.hole.l)) (by simp only;omega) (by simp only[go_sem]) h4) fun n' hn'=>?_)|refine zaG.i g1 fun _=>?_|refine zaG.i gb fun _=>?_|refine And.intro ?_ ?_|exact True.intro|refine rq fun _=>?_|refine rf fun _=>?_|simp only[go_sem,HQ,h9,h2',hob,g2,g3,gd,zac,zae,zaD,zad,zaf,zah,zaa,Tryd.f36,Sc5,Sc4,Su4,Su3,Su2,Su1,Sc3,Sc2,Sc1,Sc0])
   refine⟨⟨j+1,n',by omega,by omega,by rw[hts,List.all_append,hall];simp[hb]⟩,by simp only;omega,?_⟩
   refine zai ?_ ?_ ?_<;>(try simp only[go_sem,HQ,hN])
   all_goals first|done|rfl|omega
 obtain rfl:j=Lo:=by omega
 rw[List.take_of_length_le (by omega)]at hall
 have hok2:okS s l=s.vars.all (zrj s l):=by rw[kok.out,hall,Bool.true_and]
 clear kok kov kod kbe
 have htl2:t<s.pieces.length:=by omega
 have hpe2:(zd2.mk P.holes P.pieces (t:Int))=P:=by rw[←hPt]
 repeat'(first|refine zaG.i hfop fun _=>?_|refine zaG.i hcw fun _=>?_|refine And.intro ?_ ?_|exact True.intro|refine rq fun _=>?_|refine rf fun _=>?_|simp only[go_sem,HQ,Nat.lt_irrefl,Int.lt_irrefl,hPt,hpe2,htl2,hpc,hwf,hLv,zac,zae,zaD,zad,zaf,zah,zaa,Tryd.f36,Sc5,Sc4,Su4,Su3,Su2,Su1,Sc3,Sc2,Sc1,Sc0])
 refine zap Go.Proofs.YtmconmiemdinkaaDoor.hm zoQ 36000 (lsw [105] [1000009]) (ι:=zdI Lv (m+1) fun i=>(s.vars.take i).all (zrj s l)=true)
  ⟨fun q=>⟨frL [(6,.ptr (13007,m0+1) 0),(11,.ptr (36011,m) 0),(15,.fz (.sl ((zcw W).map enc))),(92,.fz (.sl (s.vars.map enc))),(93,.fz (.i .i64 Lv)),(94,.fz (.i .i64 q.i))],
   hpL (((36011,m),some ⟨[.fz (.sl (P.holes.map enc)),.fz (.sl (P.pieces.map enc)),.fz (.i .i64 P.top)],true,false⟩)::HQ s m0 U g),q.m⟩,fun q=>Lv-q.i⟩
  ⟨0,m2,by omega,by omega,by simp⟩ (by kernel_rfl) ?_ ?_
 ·refine zai ?_ ?_ ?_<;>(try simp only[go_sem,HQ,hN,hPh,hPp,hPt])
  all_goals first|done|rfl|omega
 rintro⟨k,m3,hk3,hm3,hall2⟩
 try simp only at hk3 hm3 hall2
 rcases Nat.lt_or_ge k Lv with h2|h2
 ·have h2':k<s.vars.length:=by omega
  have h9:((k:Int)<(Lv:Int))=True:=eq_true (by omega)
  obtain⟨v,hv⟩:∃v,s.vars[k]=v:=⟨_,rfl⟩
  have hmem:v∈s.vars:=by rw[←hv];exact List.getElem_mem h2'
  have gv:=kva.out v
  have hts:=List.take_succ_eq_append_getElem h2'
  rw[hv]at hts
  cases hb:decide (v∈zcw W)with
  |true=>
   rw[hb]at gv
   have hbad:okS s l=false:=by
    rw[hok2,Bool.eq_false_iff]
    intro h
    have:=List.all_eq_true.1 h v hmem
    rw[gv]at this;cases this
   repeat'(first|refine And.intro ?_ ?_|exact True.intro|refine rq fun _=>?_|refine rf fun _=>?_|simp only[go_sem,HQ,h9,h2',hv,hb,zac,zae,zaD,zad,zaf,zah,zaa,Tryd.f36,Sc5,Sc4,Su4,Su3,Su2,Su1,Sc3,Sc2,Sc1,Sc0])
   all_goals
    refine h0.out hbad ?_ ?_
    ·omega
    ·simp only[go_sem,HQ,hN]
  |false=>
   rw[hb]at gv
   repeat'(first|refine And.intro ?_ ?_|exact True.intro|refine rq fun _=>?_|refine rf fun _=>?_|simp only[go_sem,HQ,h9,h2',hv,hb,zac,zae,zaD,zad,zaf,zah,zaa,Tryd.f36,Sc5,Sc4,Su4,Su3,Su2,Su1,Sc3,Sc2,Sc1,Sc0])
   refine⟨⟨k+1,m3,by omega,by omega,by rw[hts,List.all_append,hall2];simp[gv]⟩,by simp only;omega,?_⟩
   refine zai ?_ ?_ ?_<;>(try simp only[go_sem,HQ,hN])
   all_goals first|done|rfl|omega
 obtain rfl:k=Lv:=by omega
 rw[List.take_of_length_le (by omega)]at hall2
 have hok3:okS s l=true:=by rw[hok2,hall2]
 repeat'(first|refine And.intro ?_ ?_|exact True.intro|refine rq fun _=>?_|refine rf fun _=>?_|simp only[go_sem,HQ,Nat.lt_irrefl,Int.lt_irrefl,zac,zae,zaD,zad,zaf,zah,zaa,Tryd.f36,Sc5,Sc4,Su4,Su3,Su2,Su1,Sc3,Sc2,Sc1,Sc0])
 all_goals
  refine h1.out hok3 (g':=m3) ?_ ?_ ?_
  ·omega
  ·omega
  ·simp only[go_sem,HQ,hN,List.map_append,List.map_cons,List.map_nil]
end Go.Proofs.YtmconmiemdinkaaDoor
namespace Go.Proofs.YtmconmiemdinkaaDoor
open Go Go.Abs Go.Proofs
set_option maxHeartbeats 8000000 in
theorem f36 {s:zal}{m0:Nat}(hs:zhx s)(hu:(zaU s.pieces).length+1=nP s):∀(r:Nat) (used:List Bool) (l:List Nat) (U:List zd2) (g m:Nat),zrd s used l→l.length+r=(zaU s.pieces).length→U.length+nP s^r≤1000000→g<m→m0+3≤m→
  zaE Tryd.prog GA 36 [.fz (.sl (used.map enc)),.fz (.sl ((zay l).map enc)),.ptr (13003,1) 0,.ptr (13006,m0) 0,.ptr (13008,m0+2) 0,.ptr (13001,0) 0,.ptr (13007,m0+1) 0] (hpL (HQ s m0 U g)) m (zmw s m0 m (U++(zdV s r used l).map (zbV s))):=by
 intro r
 induction r with
 |zero=>intro used l U g m hi hl hU hg hm0;exact zmm hs hu hi (by omega) (by simpa using hU) hg
 |succ r ih=>
  intro used l U g m hi hl hU hg hm0
  obtain⟨Q,hQ⟩:∃Q:D→zau→Nat→Prop,Q=zmw s m0 m (U++(zdV s (r+1) used l).map (zbV s)):=⟨_,rfl⟩
  rw[←hQ]
  have hn1:=hs.n1
  have hn6:=hs.n6
  have hul:=hi.len
  obtain⟨Wl,hWl⟩:∃Wl:Nat→List (List Nat),Wl=fun i=>if used.getD i false=true then[]else zdV s r (used.set i true) (l++[i]):=⟨_,rfl⟩
  obtain⟨A,hA⟩:∃A:Nat→List zd2,A=fun j=>U++((List.range j).flatMap Wl).map (zbV s):=⟨_,rfl⟩
  have hA0:A 0=U:=by rw[hA];simp
  have hAs:∀j,A (j+1)=A j++(Wl j).map (zbV s):=fun j=>by
   rw[hA];simp only
   rw[List.range_succ,List.flatMap_append,List.map_append,List.append_assoc]
   simp
  have hAe:U++(zdV s (r+1) used l).map (zbV s)=A (nP s):=by rw[hA,zdV,hWl]
  have hWb:∀j,(Wl j).length≤nP s^r:=fun j=>by
   rw[hWl];simp only
   split
   ·simp
   ·exact zhU r _ _
  have hAl:∀j,(A j).length≤U.length+j*nP s^r:=fun j=>by
   rw[hA];simp only
   rw[List.length_append,List.length_map]
   have:=zl6 hWb j
   omega
  have hAb:∀j,j<nP s→(A j).length+nP s^r≤1000000:=fun j hj=>by
   have h1:=hAl j
   have h2:(j+1)*nP s^r≤nP s*nP s^r:=Nat.mul_le_mul_right _ hj
   rw[Nat.add_mul,Nat.one_mul]at h2
   rw[Nat.pow_succ,Nat.mul_comm]at hU
   omega
  have hAt:∀j,used.getD j false=true→A (j+1)=A j:=fun j h=>by
   rw[hAs,hWl];simp only;rw[if_pos h];simp
  have hAf:∀j,used.getD j false=false→A (j+1)=A j++(zdV s r (used.set j true) (l++[j])).map (zbV s):=fun j h=>by
   rw[hAs,hWl];simp only;rw[if_neg (by rw[h];decide)]
  rw[hAe]at hQ
  have hil:(zay l).length=l.length:=by unfold zay;rw[List.length_map]
  have hnl:((l.length:Int)<((zaU s.pieces).length:Int))=True:=eq_true (by omega)
  have hll:l.length≤6:=by omega
  have hue:used.isEmpty=false:=by
   cases used with
   |nil=>simp at hul;omega
   |cons _ _=>rfl
  have kI:=Kp.mk ih
  have kAt:=Kp.mk hAt
  have kAf:=Kp.mk hAf
  have kAb:=Kp.mk hAb
  have kQ:=Kp.mk hQ
  clear ih hAt hAf hAb hAl hWb hAs hAe hA hQ hWl
  refine zak (N:=106) Go.Proofs.YtmconmiemdinkaaDoor.hm zoQ 36000 (lsw [105] [1000009]) zA1 Tryd.func36 rfl rfl (by simp) (by kernel_rfl) ?_
  repeat'(first|refine And.intro ?_ ?_|exact True.intro|refine rq fun _=>?_|refine rf fun _=>?_|simp only[go_sem,HQ,hil,hnl,zac,zae,zaD,zad,zaf,zah,zaa,Tryd.f36,Sc5,Sc4,Su4,Su3,Su2,Su1,Sc3,Sc2,Sc1,Sc0])
  refine zap Go.Proofs.YtmconmiemdinkaaDoor.hm zoQ 36000 (lsw [105] [1000009]) (ι:=zeF (nP s) m fun _=>True)
   ⟨fun q=>⟨frL [(0,.fz (.sl (used.map enc))),(1,.fz (.sl ((zay l).map enc))),(2,.ptr (13003,1) 0),(3,.ptr (13006,m0) 0),(4,.ptr (13008,m0+2) 0),(5,.ptr (13001,0) 0),(6,.ptr (13007,m0+1) 0),(23,.fz (.i .i64 (nP s))),(24,.fz (.i .i64 q.i))],
    hpL (HQ s m0 (A q.i) q.g),q.m⟩,fun q=>nP s-q.i⟩
   ⟨0,g,m,by omega,by omega,by omega,trivial⟩ (by kernel_rfl) ?_ ?_
  ·refine zai ?_ ?_ ?_<;>(try simp only[go_sem,HQ,hA0])
   all_goals first|done|rfl|omega
  rintro⟨j,g2,m2,hj,hg2,hm2,_⟩
  try simp only at hj hg2 hm2
  rcases Nat.lt_or_ge j (nP s)with h1|h1
  ·have h1':j<used.length:=by omega
   have h9:((j:Int)<(nP s:Int))=True:=eq_true (by omega)
   have hgb:=zzx h1'
   cases hb:used.getD j false with
   |true=>
    rw[hb]at hgb
    have hgb:=hgb.symm
    have hst:=kAt.out j hb
    repeat'(first|refine And.intro ?_ ?_|exact True.intro|refine rq fun _=>?_|refine rf fun _=>?_|simp only[go_sem,HQ,h9,h1',hgb,zac,zae,zaD,zad,zaf,zah,zaa,Tryd.f36,Sc5,Sc4,Su4,Su3,Su2,Su1,Sc3,Sc2,Sc1,Sc0])
    refine⟨⟨j+1,g2,m2,by omega,by omega,by omega,trivial⟩,by simp only;omega,?_⟩
    refine zai ?_ ?_ ?_<;>(try simp only[go_sem,HQ,hst])
    all_goals first|done|rfl|omega
   |false=>
    rw[hb]at hgb
    have hgb:=hgb.symm
    have hst:=kAf.out j hb
    have hsn:=hi.step (i:=j) (by omega) hb
    have hab:=kAb.out j (by omega)
    have hcell:((used.map enc).getD j FD.nilf).cells.length=1:=by rw[List.getD_eq_getElem?_getD,List.getElem?_map,List.getElem?_eq_getElem h1'];rfl
    have hset:((used.map enc).map D.fz).set j (.fz (.b true))=((used.set j true).map enc).map D.fz:=by rw[List.map_set,List.map_set];rfl
    have hla:(zay l).map enc++[FD.i .i64 (j:Int)]=(zay (l++[j])).map enc:=by unfold zay;simp;rfl
    repeat'(first|refine zaG.i hcell fun _=>?_|refine zaF.i (znz rfl (ztD (l:=used) (by omega)) fun g3 n3 hg3 hg4=>?_)|refine And.intro ?_ ?_|exact True.intro|refine rq fun _=>?_|refine rf fun _=>?_|simp only[go_sem,HQ,h9,h1',hgb,hue,hset,hil,hla,zac,zae,zaD,zad,zaf,zah,zaa,Tryd.f36,Sc5,Sc4,Su4,Su3,Su2,Su1,Sc3,Sc2,Sc1,Sc0])
    have hce:(used.map (D.fz∘enc)).set j (D.fz (.b true))=((used.set j true).map enc).map D.fz:=by
     rw[List.map_map,List.map_set];rfl
    have htk:List.take l.length (zay l)=zay l:=List.take_of_length_le (by omega)
    refine zaF.i (zjW (37007,g3) ((used.set j true).map enc) (o:=⟨(used.map (D.fz∘enc)).set j (D.fz (.b true)),false,false⟩) (by rw[zxR,if_pos rfl]) (fun h=>by cases h) (by rw[hce];exact zhR _) (fun x hx=>by obtain⟨y,_,rfl⟩:=List.mem_map.1 hx;rfl) rfl (zdp (by rfl) (zai ?_ ?_ ?_) (zaQ (kI.out (used.set j true) (l++[j]) (A j) g2 n3 hsn (by simp;omega) hab (by omega) (by omega)) ?_)))
    ·simp only[go_sem,zg1,zpV,fzD,htk,hla,List.length_map,List.length_set]
    ·simp only[go_sem,HQ]
    ·simp only[go_sem]
    intro d' H' n' hq
    obtain⟨rfl,e1,g4,hg4,e2⟩:=hq
    rw[←hst]at e2
    simp only[go_sem,HQ]at e2
    obtain⟨b1,b2,b3,b4,b5,b6⟩:=e2
    rw[show H'=hpX [] H' from rfl]
    repeat'(first|refine And.intro ?_ ?_|exact True.intro|refine rq fun _=>?_|refine rf fun _=>?_|simp only[go_sem,Tryd.f36,Sc5,Sc4,Su4,Su3,Su2,Su1,Sc3,Sc2,Sc1,Sc0])
    refine⟨⟨j+1,g4,n',by omega,by omega,by omega,trivial⟩,by simp only;omega,?_⟩
    refine zai ?_ ?_ ?_<;>(try simp only[go_sem,HQ,b1,b2,b3,b4,b5,b6])
    all_goals first|done|rfl|omega
  obtain rfl:j=nP s:=by omega
  repeat'(first|refine And.intro ?_ ?_|exact True.intro|refine rq fun _=>?_|refine rf fun _=>?_|simp only[go_sem,HQ,Nat.lt_irrefl,Int.lt_irrefl,Tryd.f36,Sc5,Sc4,Su4,Su3,Su2,Su1,Sc3,Sc2,Sc1,Sc0])
  all_goals
   rw[kQ.out]
   refine⟨rfl,by omega,g2,by omega,?_⟩
   simp only[go_sem,HQ]
end Go.Proofs.YtmconmiemdinkaaDoor
namespace Go.Proofs.YtmconmiemdinkaaDoor
open Go Go.Abs Go.Proofs
def zqU:Tv:=(.q 1 (.br [(0,(.br [(2,(.br [(3,.leaf)]))])),(2,(.q 0 (.br [(3,.leaf)])))]))
def zbP (s:zal):List zd2:=(zdz s).map (zbV s)
def Sc6:Tbl:=Sc5.add 13 (sp1 zbP fun s=>zhx s)
set_option maxHeartbeats 8000000 in
theorem zwt:zam Tryd.prog GA Sc6:=by
 refine zcu zCx zoQ fun s hs _=>?_
 have hn1:=hs.n1
 have hn6:=hs.n6
 have hnp:s.pieces.length=nP s:=rfl
 obtain⟨A,hA⟩:∃A:Nat→List Str,A=fun j=>zaU (s.pieces.take j):=⟨_,rfl⟩
 have hA0:A 0=[]:=by rw[hA];rfl
 have hAs:∀j (h:j<s.pieces.length),A (j+1)=A j++zar s.pieces[j].form:=fun j h=>by
  rw[hA];simp only
  unfold zaU
  rw[List.take_succ_eq_append_getElem h,List.flatMap_append]
  simp
 have hAe:zaU s.pieces=A s.pieces.length:=by rw[hA];simp only[List.take_length]
 have hhz:∀x∈s.pieces,x.form.size≤1000∧(zar x.form).length≤1000:=fun x hx=>by
  have h1:=zaV (hs.chk x hx)
  have h2:=zbr x.form
  exact⟨by omega,by omega⟩
 have hAl:∀j,j≤s.pieces.length→(A j).length≤1000*j:=by
  intro j
  induction j with
  |zero=>intro _;rw[hA0];simp
  |succ j ih=>
   intro hj
   rw[hAs j hj,List.length_append]
   have h1:=ih (by omega)
   have h2:=(hhz _ (List.getElem_mem hj)).2
   omega
 have kA:=Kp.mk hAs
 have kL:=Kp.mk hAl
 have kz:=Kp.mk hhz
 clear hAs hAl hhz hA
 obtain⟨L,hL⟩:∃L,s.pieces.length=L:=⟨_,rfl⟩
 refine zak (N:=36) Go.Proofs.YtmconmiemdinkaaDoor.hm zoQ 13000 (lsw [20] [1000013]) zCx Tryd.func13 rfl rfl (by simp) (by kernel_rfl) ?_
 repeat'(first|refine And.intro ?_ ?_|exact True.intro|refine rq fun _=>?_|refine rf fun _=>?_|simp only[go_sem,hL,zac,zae,zaD,zad,zaf,zah,zaa,Tryd.f13,Sc5,Sc4,Su4,Su3,Su2,Su1,Sc3,Sc2,Sc1,Sc0])
 refine zap Go.Proofs.YtmconmiemdinkaaDoor.hm zoQ 13000 (lsw [20] [1000013]) (ι:=zeF L 3 fun _=>True)
  ⟨fun q=>⟨frL [(1,.ptr (13001,0) 0),(3,.ptr (13003,1) 0),(10,.fz (.sl (s.pieces.map enc))),(11,.fz (.i .i64 L)),(12,.fz (.i .i64 q.i))],
   hpL [((13001,0),some ⟨[.fz (.sl (s.pieces.map enc)),.fz (.sl (s.overs.map enc)),.fz (.sl (s.vars.map enc))],true,false⟩),((13003,1),some ⟨[.ow (13020,q.g) 1 ((A q.i).map enc)],true,false⟩),((13020,q.g),some tok)],q.m⟩,fun q=>L-q.i⟩
  ⟨0,2,3,by omega,by omega,by omega,trivial⟩ (by kernel_rfl) ?_ ?_
 ·refine zcV [] [(13020,2)] [] ?_ ?_ ?_ ?_ ?_<;>(try simp only[go_sem,hA0,List.map_cons,List.map_nil])
  all_goals first|done|rfl|omega
 rintro⟨j,g,m,hj,hg,hm2,_⟩
 try simp only at hj hg hm2
 have hl1:=kL.out j (by omega)
 rcases Nat.lt_or_ge j L with h1|h1
 ·have h1':j<s.pieces.length:=by omega
  have h9:((j:Int)<(L:Int))=True:=eq_true (by omega)
  obtain⟨x,hx⟩:∃x,s.pieces[j]=x:=⟨_,rfl⟩
  obtain⟨hz1,hz2⟩:=kz.out x (by rw[←hx];exact List.getElem_mem h1')
  have hbs:=kA.out j h1'
  rw[hx]at hbs
  have hbl:=congrArg List.length hbs
  rw[List.length_append]at hbl
  repeat'(first|refine And.intro ?_ ?_|exact True.intro|refine rq fun _=>?_|refine rf fun _=>?_|simp only[go_sem,h9,h1',hx,zac,zae,zaD,zad,zaf,zah,zaa,Tryd.f13,Sc5,Sc4,Su4,Su3,Su2,Su1,Sc3,Sc2,Sc1,Sc0])
  refine⟨⟨j+1,m+1,m+1+1,by omega,by omega,by omega,trivial⟩,by simp only;omega,?_⟩
  refine zai ?_ ?_ ?_<;>(try simp only[go_sem,hbs,List.map_append,List.map_cons,List.map_nil,List.cons_append])
  all_goals first|done|rfl|omega
 obtain rfl:j=L:=by omega
 have hall:A j=zaU s.pieces:=by rw[hAe,hL]
 rw[hall]at hl1
 have hbN:(zaU s.pieces).length≤6000:=by omega
 by_cases hu:(zaU s.pieces).length+1=nP s
 case neg=>
  have hne:(((zaU s.pieces).length:Int)=(j:Int)-1)=False:=eq_false (by omega)
  have hres:zbP s=[]:=by unfold zbP zdz;rw[if_pos hu];rfl
  repeat'(first|refine And.intro ?_ ?_|exact True.intro|refine rq fun _=>?_|refine rf fun _=>?_|simp only[go_sem,Nat.lt_irrefl,Int.lt_irrefl,hall,hL,hne,hres,zac,zae,zaD,zad,zaf,zah,zaa,Tryd.f13,Sc5,Sc4,Su4,Su3,Su2,Su1,Sc3,Sc2,Sc1,Sc0])
  all_goals first|done|rfl|omega
 have hne:(((zaU s.pieces).length:Int)=(j:Int)-1)=True:=eq_true (by omega)
 have hres:zbP s=(zdV s (zaU s.pieces).length (List.replicate (nP s) false) []).map (zbV s):=by unfold zbP zdz;rw[if_neg (by omega)]
 have hpw:nP s^(zaU s.pieces).length≤1000000:=by
  have h5:(zaU s.pieces).length≤5:=by omega
  exact Nat.le_trans (Nat.le_trans (Nat.pow_le_pow_left hn6 _) (Nat.pow_le_pow_right (by omega) h5)) (by decide)
 have hrun:=fun g m m0=>f36 hs hu (zaU s.pieces).length (List.replicate (nP s) false) [] [] g m (m0:=m0) zp6 (by simp) (by simpa using hpw)
 rw[←hres]at hrun
 have krun:=Kp.mk hrun
 clear hrun
 have hjn:j=nP s:=by omega
 repeat'(first|refine zdc Go.Proofs.YtmconmiemdinkaaDoor.hm zoQ 13000 (lsw [20] [1000013]) zqU (by kernel_rfl) (by kernel_rfl) ?_|refine And.intro ?_ ?_|exact True.intro|refine rq fun _=>?_|refine rf fun _=>?_|simp only[go_sem,Nat.lt_irrefl,Int.lt_irrefl,hall,hL,hne,zqU,zuw,zhF,zac,zae,zaD,zad,zaf,zah,zaa,Tryd.f13,Sc5,Sc4,Su4,Su3,Su2,Su1,Sc3,Sc2,Sc1,Sc0])
 all_goals
  subst hjn
  refine zaF.i (zlD (args':=[.fz (.sl ((List.replicate (nP s) false).map enc)),.fz (.sl ((zay []).map enc)),.ptr (13003,1) 0,.ptr (13006,m) 0,.ptr (13008,m+2) 0,.ptr (13001,0) 0,.ptr (13007,m+1) 0])
   (hl:=HQ s m [] (m+4)) (n':=m+5) [] [(36105,m+4)] [((13033,m+1+1+1),(List.replicate (nP s) false).map enc)] rfl ?_ ?_ ?_ ?_ ?_ (zaQ (krun.out (m+4) (m+5) m (by omega) (by omega)) ?_))
  case _=>omega
  case _=>simp only[go_sem,List.length_replicate];(first|done|rfl|((repeat' apply And.intro)<;>omega))
  case _=>simp only[go_sem,HQ,List.length_replicate];(first|done|rfl|((repeat' apply And.intro)<;>omega))
  case _=>simp only[go_sem,HQ];(first|done|rfl|((repeat' apply And.intro)<;>omega))
  case _=>simp only[go_sem,List.length_replicate,zay];(first|done|rfl|((repeat' apply And.intro)<;>omega))
  intro d' H' n' hq
  obtain⟨rfl,e1,g4,hg4,e2⟩:=hq
  rw[List.nil_append]at e2
  simp only[go_sem,HQ]at e2
  obtain⟨b1,b2,b3,b4,b5,b6⟩:=e2
  rw[show H'=hpX [] H' from rfl]
  repeat'(first|refine And.intro ?_ ?_|exact True.intro|refine rq fun _=>?_|refine rf fun _=>?_|simp only[go_sem,b4,b6,Tryd.f13,Sc5,Sc4,Su4,Su3,Su2,Su1,Sc3,Sc2,Sc1,Sc0])
  all_goals first|done|rfl|omega
end Go.Proofs.YtmconmiemdinkaaDoor
namespace Go.Proofs.YtmconmiemdinkaaDoor
open Go Go.Abs Go.Proofs
set_option maxHeartbeats 4000000 in
theorem f10 {s:zal}{x:Str}{id:Abs.Id}{H:zau}{n:Nat}{R:D→zau→Nat→Prop}(hid0:id.2<n)(ho:H id=some ⟨[.fz (.sl (s.pieces.map enc)),.fz (.sl (s.overs.map enc)),.fz (.sl (s.vars.map enc))],true,false⟩)(hl:s.pieces.length≤1000000)
  (hR:∀n',n≤n'→R (.fz (.i .i64 (idx (zan s.pieces) x))) H n'):zaE Tryd.prog GA 10 [.fz (.s x.l),.ptr id 0] H n R:=by
 refine zbC zCu (fun hfr=>?_) hR
 obtain⟨Q,hQ⟩:∃Q:D→zau→Nat→Prop,Q=(fun d' H' n'=>d'= .fz (.i .i64 (idx (zan s.pieces) x))∧n≤n'∧∀id,id.2<n→H' id=H id):=⟨_,rfl⟩
 rw[←hQ]
 have e:H=hpX [] H:=rfl
 rw[e]
 have hn0:∀id:Abs.Id,id.2<n→id≠(10002,n):=fun id h e=>by rw[e]at h;simp at h
 have hne:(id=(10002,n))=False:=eq_false (hn0 id hid0)
 refine zak (N:=8) Go.Proofs.YtmconmiemdinkaaDoor.hm zwt 10000 (lst []) zCu Tryd.func10 rfl rfl (by simp) (by kernel_rfl) ?_
 repeat'(first|refine zaF.i (f11 (x:=x) hl (fun y m3 R3 h3 h4=>f12 (x:=x) (by simp only;omega) (by simp only[go_sem]) h4) fun n' hn'=>?_)|refine And.intro ?_ ?_|exact True.intro|refine rq fun _=>?_|refine rf fun _=>?_|simp only[go_sem,ho,hne,zac,zae,zaD,zad,zaf,zah,zaa,Tryd.f10,Sc6,Sc5,Sc4,Su4,Su3,Su2,Su1,Sc3,Sc2,Sc1,Sc0])
 all_goals
  rw[hQ]
  refine⟨?_,by omega,fun id hid=>?_⟩
  ·first|rfl
  ·simp only[go_sem,hn0 id hid]
def zhX (s:zal)(a b:Str):Bool×zgV:=
 if(za9 s).code≠0 then(false,za9 s)else if a∉zan s.pieces then(false,⟨6, -2⟩)else if b∉zan s.pieces then(false,⟨6, -3⟩)
 else if zbP s=[]then(false,⟨8, -1⟩)else((zbP s).all fun p=>decide (((zek s b:Nat):Int)∈zbN p s ((zek s a:Nat):Int)),⟨0,0⟩)
theorem zqt {s:zal}(hs:zhx s){p:zd2}(hp:p∈zbP s):inT p s:=by
 unfold zbP at hp
 obtain⟨l,hl,rfl⟩:=List.mem_map.1 hp
 obtain⟨h1,h2,h3,h4,h5⟩:=zem.1 hl
 have hk:okL s l:=⟨hs.hol,h3,h2,by rw[h2];exact h1,h4⟩
 refine⟨zqq hs hk,?_⟩
 rw[zc4]
 unfold okS at h5
 rw[Bool.and_eq_true,Bool.and_eq_true]at h5
 exact h5.1.1
def Sc7:Tbl:=Sc6.add 4 (zze zhX fun _ _ _=>True)
set_option maxHeartbeats 8000000 in
theorem zD6:zam Tryd.prog GA Sc7:=by
 refine zuG ok4 zwt fun s a b _ _ _ _=>?_
 obtain⟨Q,hQ⟩:∃Q:D→zau→Nat→Prop,Q=(fun d _ _=>D.val d=some (.tup [.fz (enc (zhX s a b).1),.fz (enc (zhX s a b).2)])):=⟨_,rfl⟩
 rw[←hQ]
 have hres:∀{r:Bool} {c i:Int} {d:D} {H':zau} {n':Nat},zhX s a b=(r,⟨c,i⟩)→D.val d=some (.tup [.fz (.b r),.fz (.agg [.i .i64 c,.i .i64 i])])→Q d H' n':=fun e e2=>by
  rw[hQ,e];exact e2
 have kr:=Kp.mk @hres
 clear hres hQ
 by_cases h0:(za9 s).code=0
 case neg=>
  have h0':((za9 s).code=0)=False:=eq_false h0
  refine zak (N:=56) Go.Proofs.YtmconmiemdinkaaDoor.hm zwt 4000 (lsw [] []) ok4 Tryd.func4 rfl rfl (by simp) (by kernel_rfl) ?_
  repeat'(first|refine And.intro ?_ ?_|exact True.intro|refine rq fun _=>?_|refine rf fun _=>?_|simp only[go_sem,h0',zac,zae,zaD,zad,zaf,zah,zaa,Tryd.f4,Sc6,Sc5,Sc4,Su4,Su3,Su2,Su1,Sc3,Sc2,Sc1,Sc0])
  all_goals
   refine kr.out (by unfold zhX;rw[if_pos h0]) ?_
   simp only[go_sem]
  all_goals trace_state
 have hs:=zng h0
 have hpl:s.pieces.length≤1000000:=by have h6:=hs.n6;have:s.pieces.length=nP s:=rfl;omega
 have h0':((za9 s).code=0)=True:=eq_true h0
 have hlab:∀x,x∈zan s.pieces→idx (zan s.pieces) x=((zek s x:Nat):Int)∧zek s x<nP s:=fun x hx=>by
  refine⟨by unfold idx;rw[if_pos hx];rfl,?_⟩
  have:=List.idxOf_lt_length_of_mem hx
  unfold zan at this
  rw[List.length_map]at this
  exact this
 have hno:∀x,x∉zan s.pieces→idx (zan s.pieces) x= -1:=fun x hx=>by unfold idx;rw[if_neg hx]
 refine zak (N:=56) Go.Proofs.YtmconmiemdinkaaDoor.hm zwt 4000 (lsw [] []) ok4 Tryd.func4 rfl rfl (by simp) (by kernel_rfl) ?_
 by_cases ha:a∈zan s.pieces
 case neg=>
  have ea:=hno a ha
  repeat'(first|refine zaF.i (f10 (x:=a) (by simp only;omega) (by simp only[go_sem]) hpl fun n1 hn1=>?_)|refine zaF.i (f10 (x:=b) (by simp only;omega) (by simp only[go_sem]) hpl fun n2 hn2=>?_)|refine And.intro ?_ ?_|exact True.intro|refine rq fun _=>?_|refine rf fun _=>?_|simp only[go_sem,h0',ea,zac,zae,zaD,zad,zaf,zah,zaa,Tryd.f4,Sc6,Sc5,Sc4,Su4,Su3,Su2,Su1,Sc3,Sc2,Sc1,Sc0])
  all_goals
   refine kr.out (by unfold zhX;rw[if_neg (by rw[h0];decide),if_pos ha]) ?_
   simp only[go_sem]
 obtain⟨ea,la⟩:=hlab a ha
 by_cases hb:b∈zan s.pieces
 case neg=>
  have eb:=hno b hb
  have na:(((zek s a:Nat):Int)<0)=False:=eq_false (by omega)
  repeat'(first|refine zaF.i (f10 (x:=a) (by simp only;omega) (by simp only[go_sem]) hpl fun n1 hn1=>?_)|refine zaF.i (f10 (x:=b) (by simp only;omega) (by simp only[go_sem]) hpl fun n2 hn2=>?_)|refine And.intro ?_ ?_|exact True.intro|refine rq fun _=>?_|refine rf fun _=>?_|simp only[go_sem,h0',ea,eb,na,zac,zae,zaD,zad,zaf,zah,zaa,Tryd.f4,Sc6,Sc5,Sc4,Su4,Su3,Su2,Su1,Sc3,Sc2,Sc1,Sc0])
  all_goals
   refine kr.out (by unfold zhX;rw[if_neg (by rw[h0];decide),if_neg (by simpa using ha),if_pos hb]) ?_
   simp only[go_sem]
 obtain⟨eb,lb⟩:=hlab b hb
 have na:(((zek s a:Nat):Int)<0)=False:=eq_false (by omega)
 have nb:(((zek s b:Nat):Int)<0)=False:=eq_false (by omega)
 by_cases hq:zbP s=[]
 case pos=>
  have hl0:(((zbP s).length:Int)=0)=True:=eq_true (by rw[hq];rfl)
  repeat'(first|refine zaG.i hs fun _=>?_|refine zaF.i (f10 (x:=a) (by simp only;omega) (by simp only[go_sem]) hpl fun n1 hn1=>?_)|refine zaF.i (f10 (x:=b) (by simp only;omega) (by simp only[go_sem]) hpl fun n2 hn2=>?_)|refine And.intro ?_ ?_|exact True.intro|refine rq fun _=>?_|refine rf fun _=>?_|simp only[go_sem,h0',ea,eb,na,nb,hl0,zac,zae,zaD,zad,zaf,zah,zaa,Tryd.f4,Sc6,Sc5,Sc4,Su4,Su3,Su2,Su1,Sc3,Sc2,Sc1,Sc0])
  all_goals
   refine kr.out (by unfold zhX;rw[if_neg (by rw[h0];decide),if_neg (by simpa using ha),if_neg (by simpa using hb),if_pos hq]) ?_
   simp only[go_sem]
 have hdom:zhX s a b=((zbP s).all fun p=>decide (((zek s b:Nat):Int)∈zbN p s ((zek s a:Nat):Int)),⟨0,0⟩):=by
  unfold zhX;rw[if_neg (by rw[h0];decide),if_neg (by simpa using ha),if_neg (by simpa using hb),if_neg hq]
 have hin:∀p∈zbP s,zgd p s ((zek s a:Nat):Int):=fun p hp=>⟨zqt hs hp,by omega,by rw[Int.toNat_natCast];exact la⟩
 have hpl2:(zbP s).length≤1000000:=by
  unfold zbP zdz
  rw[List.length_map]
  split
  ·simp
  ·refine Nat.le_trans (zhU _ _ _) ?_
   have h6:=hs.n6
   have h7:(zaU s.pieces).length≤5:=by omega
   exact Nat.le_trans (Nat.le_trans (Nat.pow_le_pow_left h6 _) (Nat.pow_le_pow_right (by omega) h7)) (by decide)
 obtain⟨PS,hPS⟩:∃PS,zbP s=PS:=⟨_,rfl⟩
 rw[hPS]at hq hdom hin hpl2
 have kin:=Kp.mk hin
 have khd:=Kp.mk hdom
 clear hin hdom hno hlab
 obtain⟨L,hL⟩:∃L,PS.length=L:=⟨_,rfl⟩
 have hl0:((L:Int)=0)=False:=eq_false fun h=>hq (List.eq_nil_of_length_eq_zero (by omega))
 repeat'(first|refine zaG.i hs fun _=>?_|refine zaF.i (f10 (x:=a) (by simp only;omega) (by simp only[go_sem]) hpl fun n1 hn1=>?_)|refine zaF.i (f10 (x:=b) (by simp only;omega) (by simp only[go_sem]) hpl fun n2 hn2=>?_)|refine And.intro ?_ ?_|exact True.intro|refine rq fun _=>?_|refine rf fun _=>?_|simp only[go_sem,h0',ea,eb,na,nb,hPS,hL,hl0,zac,zae,zaD,zad,zaf,zah,zaa,Tryd.f4,Sc6,Sc5,Sc4,Su4,Su3,Su2,Su1,Sc3,Sc2,Sc1,Sc0])
 refine zap Go.Proofs.YtmconmiemdinkaaDoor.hm zwt 4000 (lsw [] []) (ι:=zdI L 3 fun i=>((PS.take i).all fun p=>decide (((zek s b:Nat):Int)∈zbN p s ((zek s a:Nat):Int)))=true)
  ⟨fun q=>⟨frL [(3,.ptr (4003,0) 0),(7,.ptr (4007,1) 0),(10,.fz (.i .i64 (zek s a))),(11,.fz (.i .i64 (zek s b))),(40,.fz (.sl (PS.map enc))),(41,.fz (.i .i64 L)),(42,.fz (.i .i64 q.i))],
   hpL [((4003,0),some ⟨[.fz (.sl (s.pieces.map enc)),.fz (.sl (s.overs.map enc)),.fz (.sl (s.vars.map enc))],true,false⟩),((4007,1),some ⟨[.fz (.i .i64 0),.fz (.i .i64 0)],true,false⟩)],q.m⟩,fun q=>L-q.i⟩
  ⟨0,n2,by omega,by omega,by simp⟩ (by kernel_rfl) ?_ ?_
 ·refine zai ?_ ?_ ?_<;>(try simp only[go_sem])
  all_goals first|done|rfl|omega
 rintro⟨j,m2,hj,hm2,hall⟩
 try simp only at hj hm2 hall
 rcases Nat.lt_or_ge j L with h1|h1
 ·have h1':j<PS.length:=by omega
  have h9:((j:Int)<(L:Int))=True:=eq_true (by omega)
  obtain⟨p,hp⟩:∃p,PS[j]=p:=⟨_,rfl⟩
  have hmem:p∈PS:=by rw[←hp];exact List.getElem_mem h1'
  have hbel:=kin.out p hmem
  have hts:=List.take_succ_eq_append_getElem h1'
  rw[hp]at hts
  cases hd:decide (((zek s b:Nat):Int)∈zbN p s ((zek s a:Nat):Int))with
  |false=>
   repeat'(first|refine zaG.i hbel fun _=>?_|refine And.intro ?_ ?_|exact True.intro|refine rq fun _=>?_|refine rf fun _=>?_|simp only[go_sem,h9,h1',hp,hd,zac,zae,zaD,zad,zaf,zah,zaa,Tryd.f4,Sc6,Sc5,Sc4,Su4,Su3,Su2,Su1,Sc3,Sc2,Sc1,Sc0])
   all_goals
    refine kr.out (r:=false) (c:=0) (i:=0) (by
     rw[khd.out]
     congr 1
     rw[Bool.eq_false_iff]
     intro h
     have:=List.all_eq_true.1 h p hmem
     rw[hd]at this;cases this) ?_
    simp only[go_sem]
  |true=>
   repeat'(first|refine zaG.i hbel fun _=>?_|refine And.intro ?_ ?_|exact True.intro|refine rq fun _=>?_|refine rf fun _=>?_|simp only[go_sem,h9,h1',hp,hd,zac,zae,zaD,zad,zaf,zah,zaa,Tryd.f4,Sc6,Sc5,Sc4,Su4,Su3,Su2,Su1,Sc3,Sc2,Sc1,Sc0])
   refine⟨⟨j+1,m2+1,by omega,by omega,by rw[hts,List.all_append,hall];simpa using hd⟩,by simp only;omega,?_⟩
   refine zai ?_ ?_ ?_<;>(try simp only[go_sem])
   all_goals first|done|rfl|omega
 obtain rfl:j=L:=by omega
 rw[List.take_of_length_le (by omega)]at hall
 repeat'(first|refine And.intro ?_ ?_|exact True.intro|refine rq fun _=>?_|refine rf fun _=>?_|simp only[go_sem,Nat.lt_irrefl,Int.lt_irrefl,zac,zae,zaD,zad,zaf,zah,zaa,Tryd.f4,Sc6,Sc5,Sc4,Su4,Su3,Su2,Su1,Sc3,Sc2,Sc1,Sc0])
 all_goals
  refine kr.out (r:=true) (c:=0) (i:=0) (by rw[khd.out,hall]) ?_
  simp only[go_sem]
end Go.Proofs.YtmconmiemdinkaaDoor
