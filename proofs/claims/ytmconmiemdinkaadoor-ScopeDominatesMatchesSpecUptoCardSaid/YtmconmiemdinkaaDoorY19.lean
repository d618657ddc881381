/- several texts of this proof in one; no conditions -/
import Derived.Test.YtmconmiemdinkaaDoorAT
import Derived.Test.YtmconmiemdinkaaDoorY18
import Derived.Test.YtmconmiemdinkaaDoorY8
set_option linter.unusedSimpArgs false
namespace Go.Proofs.YtmconmiemdinkaaDoor
open Go Go.Abs Go.Proofs
theorem zo8 {G:Nat→List FD}{d r:D}{H:zau}{m:Nat}(h:D.val d=some r):zeu G 1 ⟨frL [(0,d)],H,m⟩ ⟨frL [(0,r)],H,m⟩:=by
 intro a w L F hr
 refine⟨L,F,⟨hr.ok,hr.size,fun t=>?_,hr.nd⟩,zbt.refl _ _ _ _ _⟩
 have:=hr.fr t
 simp only[frL]at this ⊢
 by_cases e:t=0
 ·rw[if_pos e]at this ⊢;exact this.val h
 ·rw[if_neg e]at this ⊢;exact this
section
variable {P:Program} {G:Nat→List FD}
theorem zlF {f:FuncId}{args:List D}{H:zau}{n:Nat}{R:D→zau→Nat→Prop}{r:FD}(hc:zat P f)
  (h:(∀id,n≤id.2→H id=none)→zaE P G f args H n (fun d' H' n'=>D.val d'=some (.fz r)∧n≤n'∧∀id,id.2<n→H' id=H id))(hR:∀n',n≤n'→R (.fz r) H n'):zaE P G f args H n R:=by
 refine zbC hc (fun hfr=>zdo (h hfr) ?_) hR
 rintro d' H' n' ⟨hv,h1,h2⟩
 exact⟨.fz r,H',n',zo8 hv,rfl,h1,h2⟩
end
def znn:Tv:=(.q 0 (.q 2 (.q 3 (.q 4 (.q 5 (.q 6 (.q 7 (.q 8 (.br [(1,(.br [(9,(.q 10 (.br [(11,(.q 12 (.br [(13,.leaf)])))])))])),(9,(.q 1 (.q 10 (.br [(11,(.q 12 (.br [(13,.leaf)])))]))))])))))))))
structure zvS (N n0:Nat) where
 i:Nat
 g:Nat
 m:Nat
 hi:i≤N
 h0:n0≤g
 hg:g<m
set_option maxHeartbeats 8000000 in
set_option maxRecDepth 100000 in
set_option maxHeartbeats 1000000 in
theorem ztR {s:zal}{l:List Nat}{id:Abs.Id}{len:Nat}(hs:zhx s)(hk:okL s l)(hln:len=l.length):∀(k:Nat) (f:Abs.zab) (H:zau) (n:Nat) (R:D→zau→Nat→Prop),zer s l f<k→zeg (zbV s l) s f→id.2<n→H id=some ⟨zag ((zay l).map enc),false,false⟩→
  (∀n',n≤n'→R (.fz (enc (zeh (zbV s l) s f))) H n')→zaE Tryd.prog GA 27 [.agg [.fz (.sl (s.pieces.map enc)),.fz (.sl (s.overs.map enc)),.fz (.sl (s.vars.map enc))],.arr id 1 0 len,.fz (.agg [.i .i64 f.kind,.s f.name.l,.sl (f.words.map enc),.sl (f.subs.map enc)])] H n R:=by
 subst hln
 intro k
 induction k with
 |zero=>intro f H n R h;omega
 |succ k ih=>
  intro f H n R hw hf hid0 ho hR
  refine zlF zAZ (fun hfr=>?_) hR
  obtain⟨F,hF⟩:∃F,zeh (zbV s l) s f=F:=⟨_,rfl⟩
  rw[hF]
  obtain⟨Q,hQ⟩:∃Q:D→zau→Nat→Prop,Q=(fun d' H' n'=>D.val d'=some (.fz (enc F))∧n≤n'∧∀id,id.2<n→H' id=H id):=⟨_,rfl⟩
  rw[←hQ]
  have e:H=hpX [] H:=rfl
  rw[e]
  have hlt:∀id o,H id=some o→id.2<n:=fun id o h=>by
   rcases Nat.lt_or_ge id.2 n with h3|h3
   ·exact h3
   ·rw[hfr id h3]at h;cases h
  have hna:∀(t a:Nat),n≤a→(id=(t,a))=False:=fun t a h=>eq_false fun e=>by rw[e]at hid0;simp only at hid0;omega
  have hne1:=hna 27003 n (Nat.le_refl _)
  have hne2:=hna 27005 (n+1) (by omega)
  have hne3:=hna 27006 (n+1+1) (by omega)
  have hq:∀{d:D} {m:Nat} {H':zau},D.val d=some (.fz (enc F))→n≤m→(∀id,id.2<n→H' id=H id)→Q d H' m:=fun h1 h2 h3=>by rw[hQ];exact⟨h1,h2,h3⟩
  have hil:(zay l).length=l.length:=by unfold zay;rw[List.length_map]
  have hfz:=hf.z
  have hn6:=hs.n6
  have hnp:s.pieces.length=nP s:=rfl
  have hall6:l.length≤6:=by have:=hk.u;omega
  have hnat:zaz (zbV s l).pieces=l:=zc4
  clear hQ hR
  by_cases hkd:f.kind=10
  ·obtain⟨e1,e2,e3⟩:=zix hf hkd
   rw[hnat]at e1 e2 e3
   have hxa:f.name∈zaU s.pieces:=hf.h _ (by
    obtain⟨k,nm,ws,ss⟩:=f
    simp only[zaR]at hkd
    subst hkd
    show nm∈_
    rw[zar];simp)
   obtain⟨x,hxn⟩:∃x,f.name=x:=⟨_,rfl⟩
   rw[hxn]at e1 e2 e3 hxa
   have hKlt:inP s l x<s.pieces.length:=zmd hk hxa
   obtain⟨K,hK⟩:∃K,inP s l x=K:=⟨_,rfl⟩
   rw[hK]at e1 e2 e3 hKlt
   obtain⟨pc,hpc⟩:∃pc,s.pieces[K]=pc:=⟨_,rfl⟩
   have hfo:zbE s K=pc.form:=by unfold zbE;rw[List.getElem?_eq_getElem hKlt,hpc]
   rw[hfo]at e1 e2 e3
   rw[e1]at hF
   have hix:(zaU s.pieces).idxOf x<l.length:=by rw[hk.e];exact List.idxOf_lt_length_of_mem hxa
   have hlK:l[(zaU s.pieces).idxOf x]=K:=by rw[←hK];unfold inP;rw[List.getD_eq_getElem?_getD,List.getElem?_eq_getElem hix];rfl
   have hgd:(zag ((zay l).map enc)).getD ((zaU s.pieces).idxOf x) D.junk=D.fz (.i .i64 K):=by
    rw[za0,List.getD_eq_getElem?_getD,List.getElem?_map,List.getElem?_eq_getElem (by rw[hil];exact hix)]
    simp only[zay,List.getElem_map,hlK];rfl
   have hfl:(zag ((zay l).map enc)).length=l.length:=by rw[zc1 (zbR (f:=enc) (k:=1) (fun _=>rfl) _),List.length_map,hil]
   obtain⟨A,hA⟩:∃A:Nat→List Str,A=fun j=>zaU (s.pieces.take j):=⟨_,rfl⟩
   have hA0:A 0=[]:=by rw[hA];rfl
   have hAs:∀j (h:j<s.pieces.length),A (j+1)=A j++zar s.pieces[j].form:=fun j h=>by
    rw[hA];simp only
    unfold zaU
    rw[List.take_succ_eq_append_getElem h,List.flatMap_append]
    simp
   have hAp:∀j,∃r,zaU s.pieces=A j++r:=fun j=>⟨zaU (s.pieces.drop j),by
    rw[hA];simp only
    unfold zaU
    rw[←List.flatMap_append,List.take_append_drop]⟩
   have hAe:zaU s.pieces=A s.pieces.length:=by rw[hA];simp only[List.take_length]
   have hhz:∀x∈s.pieces,x.form.size≤1000∧(zar x.form).length≤1000∧zcG x.form=zar x.form:=fun x hx=>by
    have h1:=zaV (hs.chk x hx)
    have h2:=zbr x.form
    exact⟨by omega,by omega,zcq (hs.chk x hx)⟩
   have hAb:∀j,(A j).length≤6:=fun j=>by
    obtain⟨r,hr⟩:=hAp j
    have:=congrArg List.length hr
    rw[List.length_append,←hk.e]at this
    omega
   have kI:=Kp.mk ih
   have kA:=Kp.mk hAs
   have kB:=Kp.mk hAb
   have kP:=Kp.mk hAp
   have kz:=Kp.mk hhz
   clear ih hAs hAb hAp hhz hA e1
   obtain⟨L,hL⟩:∃L,s.pieces.length=L:=⟨_,rfl⟩
   refine zak (N:=82) Go.Proofs.YtmconmiemdinkaaDoor.hm zfL 27000 (lsw [78] [1000018]) zAZ Tryd.func27 rfl rfl (by simp) (by kernel_rfl) ?_
   repeat'(first|refine And.intro ?_ ?_|exact True.intro|refine rq fun _=>?_|refine rf fun _=>?_|simp only[go_sem,ho,hne1,hne2,hne3,hkd,hL,zac,zae,zad,zaf,zah,zaa,Tryd.f27,Sd1,Sc0])
   refine zap Go.Proofs.YtmconmiemdinkaaDoor.hm zfL 27000 (lsw [78] [1000018]) (ι:=zdI L (n+1+1+1) fun i=>x∉A i)
    ⟨fun q=>⟨frL [(1,.arr id 1 0 l.length),(3,.ptr (27003,n) 0),(5,.ptr (27005,n+1) 0),(6,.ptr (27006,n+1+1) 0),(7,.fz (.i .i64 (A q.i).length)),(18,.fz (.i .i64 L)),(19,.fz (.i .i64 q.i))],
     hpX [((27003,n),some ⟨[.fz (.sl (s.pieces.map enc)),.fz (.sl (s.overs.map enc)),.fz (.sl (s.vars.map enc))],true,false⟩),((27005,n+1),some ⟨[.fz (.i .i64 f.kind),.fz (.s f.name.l),.fz (.sl (f.words.map enc)),.fz (.sl (f.subs.map enc))],true,false⟩),((27006,n+1+1),some ⟨[.fz (.i .i64 0),.fz (.s []),.full [],.full []],true,false⟩)] H,q.m⟩,fun q=>L-q.i⟩
    ⟨0,n+1+1+1,by omega,Nat.le_refl _,by rw[hA0];simp⟩ (by kernel_rfl) ?_ ?_
   ·refine zaL ?_ ?_ (fun id2 o2 ho2=>?_) ?_
    ·simp only[go_sem,hA0,hxn,hkd]
    ·simp only[go_sem,hA0,hxn,hkd]
    ·refine(zba ?_).trans ho2
     have h7:=hlt id2 o2 ho2
     ((repeat'(first|exact trivial|apply And.intro))<;>(rintro rfl;simp only at h7;omega))
    ·first|omega|(simp only[go_sem];done)|(simp only[go_sem];omega)
   rintro⟨i,m,hi,hm1,hxi⟩
   try simp only at hi hm1 hxi
   have hAb:=kB.out i
   have hAb2:=kB.out (i+1)
   rcases Nat.lt_or_ge i L with h1|h1
   ·have h1':i<s.pieces.length:=by omega
    have h9:((i:Int)<(L:Int))=True:=eq_true (by omega)
    obtain⟨pi,hpi⟩:∃pi,s.pieces[i]=pi:=⟨_,rfl⟩
    obtain⟨hz1,hz2,hz3⟩:=kz.out pi (by rw[←hpi];exact List.getElem_mem h1')
    have hbs:=kA.out i h1'
    rw[hpi]at hbs
    have hbl:=congrArg List.length hbs
    rw[List.length_append]at hbl
    obtain⟨C,hC⟩:∃C,(A i).length=C:=⟨_,rfl⟩
    rw[hC]at hbl hAb
    obtain⟨M,hM⟩:∃M,(zar pi.form).length=M:=⟨_,rfl⟩
    rw[hM]at hbl hz2
    repeat'(first|refine And.intro ?_ ?_|exact True.intro|refine rq fun _=>?_|refine rf fun _=>?_|simp only[go_sem,ho,hne1,hne2,hne3,h9,h1',hpi,hC,hM,hz3,zac,zae,zad,zaf,zah,zaa,Tryd.f27,Sd1,Sc0])
    refine zap Go.Proofs.YtmconmiemdinkaaDoor.hm zfL 27000 (lsw [78] [1000018]) (ι:=zdI M m fun q=>x∉(zar pi.form).take q)
     ⟨fun q=>⟨frL [(1,.arr id 1 0 l.length),(3,.ptr (27003,n) 0),(5,.ptr (27005,n+1) 0),(6,.ptr (27006,n+1+1) 0),(7,.fz (.i .i64 ((C+q.i:Nat):Int))),(18,.fz (.i .i64 L)),(19,.fz (.i .i64 i)),(28,.fz (.sl ((zar pi.form).map enc))),(29,.fz (.i .i64 M)),(30,.fz (.i .i64 q.i))],
      hpX [((27003,n),some ⟨[.fz (.sl (s.pieces.map enc)),.fz (.sl (s.overs.map enc)),.fz (.sl (s.vars.map enc))],true,false⟩),((27005,n+1),some ⟨[.fz (.i .i64 f.kind),.fz (.s f.name.l),.fz (.sl (f.words.map enc)),.fz (.sl (f.subs.map enc))],true,false⟩),((27006,n+1+1),some ⟨[.fz (.i .i64 0),.fz (.s []),.full [],.full []],true,false⟩)] H,q.m⟩,fun q=>M-q.i⟩
     ⟨0,m,by omega,Nat.le_refl _,by simp⟩ (by kernel_rfl) ?_ ?_
    ·refine zaL ?_ ?_ (fun id2 o2 ho2=>?_) ?_
     ·simp only[go_sem,hxn,hkd,hC,Nat.add_zero]
     ·simp only[go_sem,hxn,hkd,hC,Nat.add_zero]
     ·refine(zba ?_).trans ho2
      have h7:=hlt id2 o2 ho2
      ((repeat'(first|exact trivial|apply And.intro))<;>(rintro rfl;simp only at h7;omega))
     ·first|omega|(simp only[go_sem];done)|(simp only[go_sem];omega)
    rintro⟨q,m2,hq1,hm2,hxq⟩
    try simp only at hq1 hm2 hxq
    rcases Nat.lt_or_ge q M with h2|h2
    ·have h2':q<(zar pi.form).length:=by omega
     have h8:((q:Int)<(M:Int))=True:=eq_true (by omega)
     obtain⟨y,hy⟩:∃y,(zar pi.form)[q]=y:=⟨_,rfl⟩
     by_cases hyx:y=x
     ·have hmem:x∈zar pi.form:=by rw[←hyx,←hy];exact List.getElem_mem h2'
      have hidx:(zaU s.pieces).idxOf x=C+q:=by
       obtain⟨r,hr⟩:=kP.out (i+1)
       rw[hr,hbs,List.append_assoc,List.idxOf_append,if_neg hxi,List.idxOf_append,if_pos hmem,zfX h2' hxq (hy.trans hyx),hC,Nat.add_comm]
      rw[hidx]at hgd hix
      have hyl:(y.l=x.l)=True:=eq_true (by rw[hyx])
      obtain⟨z,hz⟩:∃z,C+q=z:=⟨_,rfl⟩
      rw[hz]at hgd hix
      repeat'(first|refine zaF.i (kI.out pc.form _ _ _ (by omega) e2 (by omega) (by simp only[go_sem,ho,hne1,hne2,hne3]) fun n' hn'=>?_)|refine And.intro ?_ ?_|exact True.intro|refine rq fun _=>?_|refine rf fun _=>?_|simp only[go_sem,ho,hne1,hne2,hne3,h8,h2',hy,hyl,hxn,hz,hgd,hfl,hKlt,hpc,zac,zae,zad,zaf,zah,zaa,Tryd.f27,Sd1,Sc0])
      all_goals
       rw[hF]
       repeat'(first|refine And.intro ?_ ?_|exact True.intro|refine rq fun _=>?_|refine rf fun _=>?_|simp only[go_sem,ho,hne1,hne2,hne3,zac,zae,zad,zaf,zah,zaa,Tryd.f27,Sd1,Sc0])
      all_goals
       refine hq ?_ ?_ (fun id2 hid2=>?_)
       ·simp only[go_sem]
       ·omega
       ·refine(zba ?_)
        ((repeat'(first|exact trivial|apply And.intro))<;>(rintro rfl;simp only at hid2;omega))
     ·have hyl:(y.l=x.l)=False:=eq_false fun e=>hyx (by cases h:y;cases h2:x;rw[h,h2]at e;exact congrArg Str.mk e)
      repeat'(first|refine And.intro ?_ ?_|exact True.intro|refine rq fun _=>?_|refine rf fun _=>?_|simp only[go_sem,ho,hne1,hne2,hne3,h8,h2',hy,hyl,hxn,zac,zae,zad,zaf,zah,zaa,Tryd.f27,Sd1,Sc0])
      have hcq:((C+(q+1):Nat):Int)=((C+q:Nat):Int)+1:=by omega
      refine⟨⟨q+1,m2,by omega,by omega,zb1 h2' hxq (by rw[hy];exact hyx)⟩,by simp only;omega,?_⟩
      refine zaL ?_ ?_ (fun id2 o2 ho2=>?_) ?_
      ·simp only[go_sem,hxn,hkd,hcq]
      ·simp only[go_sem,hxn,hkd,hcq]
      ·refine(zba ?_).trans ho2
       have h7:=hlt id2 o2 ho2
       ((repeat'(first|exact trivial|apply And.intro))<;>(rintro rfl;simp only at h7;omega))
      ·first|omega|(simp only[go_sem];done)|(simp only[go_sem];omega)
    obtain rfl:q=M:=by omega
    rw[List.take_of_length_le (by omega)]at hxq
    repeat'(first|refine And.intro ?_ ?_|exact True.intro|refine rq fun _=>?_|refine rf fun _=>?_|simp only[go_sem,ho,hne1,hne2,hne3,Nat.lt_irrefl,Int.lt_irrefl,zac,zae,zad,zaf,zah,zaa,Tryd.f27,Sd1,Sc0])
    refine⟨⟨i+1,m2,by omega,by omega,by rw[hbs];intro h;rcases List.mem_append.1 h with h|h;exact hxi h;exact hxq h⟩,by simp only;omega,?_⟩
    refine zaL ?_ ?_ (fun id2 o2 ho2=>?_) ?_
    ·simp only[go_sem,hxn,hkd,hbl,Nat.add_assoc]
    ·simp only[go_sem,hxn,hkd,hbl,Nat.add_assoc]
    ·refine(zba ?_).trans ho2
     have h7:=hlt id2 o2 ho2
     ((repeat'(first|exact trivial|apply And.intro))<;>(rintro rfl;simp only at h7;omega))
    ·first|omega|(simp only[go_sem];done)|(simp only[go_sem];omega)
   exact absurd hxa (by rw[hAe,show s.pieces.length=i by omega];exact hxi)
  have hres:=zmT (p:=zbV s l) (s:=s) hkd
  rw[hF]at hres
  have hsub:∀a∈f.subs,zer s l a<k∧zeg (zbV s l) s a:=fun a ha=>by
   obtain⟨g1,g2⟩:=zkA hf hkd ha
   rw[hnat]at g2
   exact⟨by omega,g1⟩
  obtain⟨A,hA⟩:∃A:Nat→List Abs.zab,A=fun j=>(f.subs.take j).map (zeh (zbV s l) s):=⟨_,rfl⟩
  have hA0:A 0=[]:=by rw[hA];rfl
  have hAs:∀j (h:j<f.subs.length),A (j+1)=A j++[zeh (zbV s l) s f.subs[j]]:=fun j h=>by rw[hA];simp only[List.take_succ_eq_append_getElem h,List.map_append,List.map_cons,List.map_nil]
  have hAl:∀j,(A j).length≤f.subs.length:=fun j=>by rw[hA];simp only[List.length_map,List.length_take];omega
  have hAe:f.subs.map (zeh (zbV s l) s)=A f.subs.length:=by rw[hA];simp only[List.take_length]
  rw[hAe]at hres
  have hsl:f.subs.length≤1000:=by
   have:=zel f.subs
   have h2:f.size=zab.sizes f.subs+1∨f.size=1+zab.sizes f.subs:=by cases f;rw[zab.size];simp only[zby];omega
   omega
  have hkd':(f.kind=10)=False:=eq_false hkd
  have kI:=Kp.mk ih
  have kz:=Kp.mk hsub
  have kA:=Kp.mk hAs
  have kL:=Kp.mk hAl
  clear ih hsub hAs hAl hAe hA
  obtain⟨L,hL⟩:∃L,f.subs.length=L:=⟨_,rfl⟩
  rw[hL]at hres
  have hne4:=hna 27011 (n+1+1+1) (by omega)
  refine zak (N:=82) Go.Proofs.YtmconmiemdinkaaDoor.hm zfL 27000 (lsw [78] [1000018]) zAZ Tryd.func27 rfl rfl (by simp) (by kernel_rfl) ?_
  repeat'(first|refine And.intro ?_ ?_|exact True.intro|refine rq fun _=>?_|refine rf fun _=>?_|simp only[go_sem,ho,hne1,hne2,hne3,hne4,hkd',hL,zac,zae,zad,zaf,zah,zaa,Tryd.f27,Sd1,Sc0])
  refine zap Go.Proofs.YtmconmiemdinkaaDoor.hm zfL 27000 (lsw [78] [1000018]) (ι:=zvS L (n+1+1+1+1))
   ⟨fun q=>⟨frL [(1,.arr id 1 0 l.length),(3,.ptr (27003,n) 0),(5,.ptr (27005,n+1) 0),(6,.ptr (27006,n+1+1) 0),(11,.ptr (27011,n+1+1+1) 0),(63,.fz (.i .i64 L)),(64,.fz (.i .i64 q.i))],
    hpX [((27003,n),some ⟨[.fz (.sl (s.pieces.map enc)),.fz (.sl (s.overs.map enc)),.fz (.sl (s.vars.map enc))],true,false⟩),((27005,n+1),some ⟨[.fz (.i .i64 f.kind),.fz (.s f.name.l),.fz (.sl (f.words.map enc)),.fz (.sl (f.subs.map enc))],true,false⟩),((27006,n+1+1),some ⟨[.fz (.i .i64 0),.fz (.s []),.full [],.full []],true,false⟩),((27011,n+1+1+1),some ⟨[.fz (.i .i64 f.kind),.fz (.s f.name.l),.fz (.sl (f.words.map enc)),.ow (27078,q.g) 4 ((A q.i).map enc)],true,false⟩),((27078,q.g),some tok)] H,q.m⟩,fun q=>L-q.i⟩
   ⟨0,n+1+1+1+1,n+1+1+1+1+1,by omega,by omega,by omega⟩ (by kernel_rfl) ?_ ?_
  ·refine ze5 (znB 27078) (ze5 (znA (id:=(27011,n+1+1+1)) (id2:=(27078,n+1+1+1+1)) (es:=4) (k:=3) (xs:=[]) (b:=true) (by simp only[go_sem];rfl) (by simp) (by rfl) (by simp only;omega)) ?_)
   refine zaL ?_ ?_ (fun id2 o2 ho2=>?_) ?_
   ·simp only[go_sem,hA0]
   ·simp only[go_sem,hA0]
   ·refine(zba ?_).trans ho2
    have h7:=hlt id2 o2 ho2
    ((repeat'(first|exact trivial|apply And.intro))<;>(rintro rfl;simp only at h7;omega))
   ·first|omega|(simp only[go_sem];done)|(simp only[go_sem];omega)
  rintro⟨j,g,m,hj,hg0,hg⟩
  try simp only at hj hg0 hg
  rcases Nat.lt_or_ge j L with h1|h1
  ·have h1':j<f.subs.length:=by omega
   obtain⟨a,ha⟩:∃a,f.subs[j]=a:=⟨_,rfl⟩
   obtain⟨hw1,hw2⟩:=kz.out a (by rw[←ha];exact List.getElem_mem h1')
   have hbs:=kA.out j h1'
   rw[ha]at hbs
   have hb1:=kL.out j
   have h9:((j:Int)<(L:Int))=True:=eq_true (by omega)
   have hne5:=hna 27078 g (by omega)
   repeat'(first|refine zdc Go.Proofs.YtmconmiemdinkaaDoor.hm zfL 27000 (lsw [78] [1000018]) znn (by kernel_rfl) (by kernel_rfl) ?_|refine zaF.i (kI.out a _ _ _ (by omega) hw2 (by omega) (by simp only[go_sem,ho,hne1,hne2,hne3,hne4,hne5]) fun n' hn'=>?_)|refine And.intro ?_ ?_|exact True.intro|refine rq fun _=>?_|refine rf fun _=>?_|simp only[go_sem,znn,ho,hne1,hne2,hne3,hne4,hne5,h9,h1',ha,zac,zae,zad,zaf,zah,zaa,Tryd.f27,Sd1,Sc0])
   all_goals
    refine⟨⟨j+1,n',n'+1,by omega,by omega,by omega⟩,by simp only;omega,?_⟩
    refine zaL ?_ ?_ (fun id2 o2 ho2=>?_) ?_
    ·simp only[go_sem,hbs,List.map_append,List.map_cons,List.map_nil]
    ·simp only[go_sem,hbs,List.map_append,List.map_cons,List.map_nil]
    ·refine(zba ?_).trans ho2
     have h7:=hlt id2 o2 ho2
     ((repeat'(first|exact trivial|apply And.intro))<;>(rintro rfl;simp only at h7;omega))
    ·first|omega|(simp only[go_sem];done)|(simp only[go_sem];omega)
  obtain rfl:j=L:=by omega
  repeat'(first|refine And.intro ?_ ?_|exact True.intro|refine rq fun _=>?_|refine rf fun _=>?_|simp only[go_sem,ho,hne1,hne2,hne3,hne4,Nat.lt_irrefl,Int.lt_irrefl,zac,zae,zad,zaf,zah,zaa,Tryd.f27,Sd1,Sc0])
  all_goals
   refine hq ?_ ?_ (fun id2 hid2=>?_)
   ·rw[hres];simp only[go_sem]
   ·omega
   ·refine(zba ?_)
    ((repeat'(first|exact trivial|apply And.intro))<;>(rintro rfl;simp only at hid2;omega))
end Go.Proofs.YtmconmiemdinkaaDoor
namespace Go.Proofs.YtmconmiemdinkaaDoor
open Go Go.Abs Go.Proofs
theorem zmY:∀(l:List Nat) (j:Nat),(zay l).idxOf (j:Int)=l.idxOf j
 |[],_=>rfl
 |x::l,j=>by
  have h1:=zmY l j
  unfold zay at h1 ⊢
  rw[List.map_cons,List.idxOf_cons,List.idxOf_cons,h1]
  by_cases e:x=j
  ·subst e;simp
  ·have e2:¬((x:Int)=(j:Int)):=by omega
   rw[beq_false_of_ne e,beq_false_of_ne e2]
theorem zpb (s:zal)(l:List Nat)(j:Nat):zbu s (zay l) (j:Int)=match zgO s l j with|some i=>(i:Int)|none=> -1:=by
 unfold zbu zgO
 by_cases h:j∈l
 ·rw[if_pos (zgM.2 h),if_pos h,zmY]
 ·rw[if_neg (fun g=>h (zgM.1 g)),if_neg h]
theorem zm3 (s:zal)(l:List Nat)(a:Nat):∀(m b:Nat),zgB s (zay l) (a:Int) m (b:Int)=zdZ (zgO s l) a m b
 |0,_=>rfl
 |m+1,b=>by
  rw[zgB,zdZ,zpb]
  by_cases h:b=a
  ·subst h;simp
  ·have h2:¬((b:Int)=(a:Int)):=by omega
   rw[if_neg h2]
   cases hp:zgO s l b with
   |none=>simp[h]
   |some c=>
    have h3:¬((c:Int)<0):=by omega
    simp only[h3,if_false]
    rw[zm3 s l a m c]
    simp[h]
theorem zkM (s:zal)(l:List Nat)(a b:Nat):zdh s (zay l) (a:Int) (b:Int)=zdZ (zgO s l) a (nP s+1) b:=zm3 s l a _ b
theorem zms (s:zal):(zgF s).length=(zaU s.pieces).length:=by
 rw[←zdy s]
 unfold zgF
 rw[List.length_map,List.length_map]
def zlo (l:List Nat):Nat→Int
 |0=> -1
 |i+1=>if l.count i=0 then(i:Int)else zlo l i
theorem zuN {s:zal}{l:List Nat}(h:okL s l):zlo l (nP s)=((zdT (nP s) l:Nat):Int):=by
 obtain⟨t1,t2,t3⟩:=h.t
 have key:∀i,i≤nP s→zlo l i=if zdT s.pieces.length l<i then((zdT s.pieces.length l:Nat):Int)else-1:=by
  intro i
  induction i with
  |zero=>intro _;rw[zlo,if_neg (by omega)]
  |succ i ih=>
   intro hi
   rw[zlo,ih (by omega)]
   by_cases hm:i∈l
   ·have hc:¬l.count i=0:=fun e=>by rw[List.count_eq_zero]at e;exact e hm
    have hne:¬zdT s.pieces.length l=i:=fun e=>t2 (e▸hm)
    rw[if_neg hc]
    by_cases h2:zdT s.pieces.length l<i
    ·rw[if_pos h2,if_pos (by omega)]
    ·rw[if_neg h2,if_neg (by omega)]
   ·have e:=t3 i hi hm
    rw[if_pos (List.count_eq_zero.2 hm),if_pos (by omega),e]
 have h2:=key (nP s) (Nat.le_refl _)
 unfold nP at h2 ⊢
 rw[if_pos t1]at h2
 exact h2
def zoP (l:List Nat)(i:Nat):Bool:=(List.range i).all fun j=>decide (l.count j<2)
theorem zpx (l:List Nat)(i:Nat):zoP l (i+1)=(zoP l i&&decide (l.count i<2)):=by
 unfold zoP
 rw[List.range_succ,List.all_append];simp
theorem znM {l:List Nat}{n:Nat}(h:∀x∈l,x<n):zoP l n=decide l.Nodup:=by
 rw[Bool.eq_iff_iff,decide_eq_true_eq,List.nodup_iff_count]
 unfold zoP
 rw[List.all_eq_true]
 constructor
 ·intro g a
  by_cases ha:a∈l
  ·have:=g a (List.mem_range.2 (h a ha))
   simp only[decide_eq_true_eq]at this
   omega
  ·rw[List.count_eq_zero.2 ha];omega
 ·intro g j _
  have:=g j
  simp only[decide_eq_true_eq]
  omega
end Go.Proofs.YtmconmiemdinkaaDoor
