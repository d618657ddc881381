/- several texts of this proof in one; no conditions -/
import Derived.Test.YtmconmiemdinkaaGreatDoorAT
import Derived.Test.YtmconmiemdinkaaGreatDoorY21
import Derived.Test.YtmconmiemdinkaaGreatDoorY8
import Derived.Test.YtmconmiemdinkaaGreatDoorFZ
import Derived.Test.YtmconmiemdinkaaGreatDoorY17
set_option maxRecDepth 100000
set_option maxHeartbeats 1000000
set_option linter.unusedSimpArgs false
namespace Go.Proofs.YtmconmiemdinkaaGreatDoor
open Go Go.Abs Go.Proofs
theorem zsr {G:Nat→List FD}{d r:D}{H:zax}{m:Nat}(h:D.val d=some r):zd2 G 1 ⟨frL [(0,d)],H,m⟩ ⟨frL [(0,r)],H,m⟩:=by
 intro a w L F hr
 refine⟨L,F,⟨hr.ok,hr.size,fun t=>?_,hr.nd⟩,zbv.refl _ _ _ _ _⟩
 have:=hr.fr t
 simp only[frL]at this ⊢
 by_cases e:t=0
 ·rw[if_pos e]at this ⊢;exact this.val h
 ·rw[if_neg e]at this ⊢;exact this
section
variable {P:Program} {G:Nat→List FD}
theorem zn4 {f:FuncId}{args:List D}{H:zax}{n:Nat}{R:D→zax→Nat→Prop}{r:FD}(hc:zap P f)
  (h:(∀id,n≤id.2→H id=none)→zaH P G f args H n (fun d' H' n'=>D.val d'=some (.fz r)∧n≤n'∧∀id,id.2<n→H' id=H id))(hR:∀n',n≤n'→R (.fz r) H n'):zaH P G f args H n R:=by
 refine zcH hc (fun hfr=>zb1 (h hfr) ?_) hR
 rintro d' H' n' ⟨hv,h1,h2⟩
 exact⟨.fz r,H',n',zsr hv,rfl,h1,h2⟩
end
def zqi:Tv:=(.q 0 (.q 2 (.q 3 (.q 4 (.q 5 (.q 6 (.q 7 (.q 8 (.br [(1,(.br [(9,(.q 10 (.br [(11,(.q 12 (.br [(13,.leaf)])))])))])),(9,(.q 1 (.q 10 (.br [(11,(.q 12 (.br [(13,.leaf)])))]))))])))))))))
structure zA1 (N n0:Nat) where
 i:Nat
 g:Nat
 m:Nat
 hi:i≤N
 h0:n0≤g
 hg:g<m
set_option maxHeartbeats 8000000 in
theorem zyB {s:zar}{l:List Nat}{id:Abs.Id}{len:Nat}(hs:ze3 s)(hk:okL s l)(hln:len=l.length):∀(k:Nat) (f:Abs.zac) (H:zax) (n:Nat) (R:D→zax→Nat→Prop),zfd s l f<k→zeA (zbY s l) s f→id.2<n→H id=some ⟨zaf ((zaF l).map enc),false,false⟩→
  (∀n',n≤n'→R (.fz (enc (zeZ (zbY s l) s f))) H n')→zaH Tryz.prog GA 74 [.agg [.fz (.sl (s.pieces.map enc)),.fz (.sl (s.overs.map enc)),.fz (.sl (s.vars.map enc))],.arr id 1 0 len,.fz (.agg [.i .i64 f.kind,.s f.name.l,.sl (f.words.map enc),.sl (f.subs.map enc)])] H n R:=by
 subst hln
 intro k
 induction k with
 |zero=>intro f H n R h;omega
 |succ k ih=>
  intro f H n R hw hf hid0 ho hR
  refine zn4 zGD (fun hfr=>?_) hR
  obtain⟨F,hF⟩:∃F,zeZ (zbY s l) s f=F:=⟨_,rfl⟩
  rw[hF]
  obtain⟨Q,hQ⟩:∃Q:D→zax→Nat→Prop,Q=(fun d' H' n'=>D.val d'=some (.fz (enc F))∧n≤n'∧∀id,id.2<n→H' id=H id):=⟨_,rfl⟩
  rw[←hQ]
  have e:H=hpX [] H:=rfl
  rw[e]
  have hlt:∀id o,H id=some o→id.2<n:=fun id o h=>by
   rcases Nat.lt_or_ge id.2 n with h3|h3
   ·exact h3
   ·rw[hfr id h3]at h;cases h
  have hna:∀(t a:Nat),n≤a→(id=(t,a))=False:=fun t a h=>eq_false fun e=>by rw[e]at hid0;simp only at hid0;omega
  have hne1:=hna 74003 n (Nat.le_refl _)
  have hne2:=hna 74005 (n+1) (by omega)
  have hne3:=hna 74006 (n+1+1) (by omega)
  have hq:∀{d:D} {m:Nat} {H':zax},D.val d=some (.fz (enc F))→n≤m→(∀id,id.2<n→H' id=H id)→Q d H' m:=fun h1 h2 h3=>by rw[hQ];exact⟨h1,h2,h3⟩
  have hil:(zaF l).length=l.length:=by unfold zaF;rw[List.length_map]
  have hfz:=hf.z
  have hn6:=hs.n6
  have hnp:s.pieces.length=nP s:=rfl
  have hall6:l.length≤6:=by have:=hk.u;omega
  have hnat:zaD (zbY s l).pieces=l:=zec
  clear hQ hR
  by_cases hkd:f.kind=10
  ·obtain⟨e1,e2,e3⟩:=zj0 hf hkd
   rw[hnat]at e1 e2 e3
   have hxa:f.name∈za5 s.pieces:=hf.h _ (by
    obtain⟨k,nm,ws,ss⟩:=f
    simp only[zaG]at hkd
    subst hkd
    show nm∈_
    rw[zau];simp)
   obtain⟨x,hxn⟩:∃x,f.name=x:=⟨_,rfl⟩
   rw[hxn]at e1 e2 e3 hxa
   have hKlt:inP s l x<s.pieces.length:=zoG hk hxa
   obtain⟨K,hK⟩:∃K,inP s l x=K:=⟨_,rfl⟩
   rw[hK]at e1 e2 e3 hKlt
   obtain⟨pc,hpc⟩:∃pc,s.pieces[K]=pc:=⟨_,rfl⟩
   have hfo:zbH s K=pc.form:=by unfold zbH;rw[List.getElem?_eq_getElem hKlt,hpc]
   rw[hfo]at e1 e2 e3
   rw[e1]at hF
   have hix:(za5 s.pieces).idxOf x<l.length:=by rw[hk.e];exact List.idxOf_lt_length_of_mem hxa
   have hlK:l[(za5 s.pieces).idxOf x]=K:=by rw[←hK];unfold inP;rw[List.getD_eq_getElem?_getD,List.getElem?_eq_getElem hix];rfl
   have hgd:(zaf ((zaF l).map enc)).getD ((za5 s.pieces).idxOf x) D.junk=D.fz (.i .i64 K):=by
    rw[zbi,List.getD_eq_getElem?_getD,List.getElem?_map,List.getElem?_eq_getElem (by rw[hil];exact hix)]
    simp only[zaF,List.getElem_map,hlK];rfl
   have hfl:(zaf ((zaF l).map enc)).length=l.length:=by rw[zdw (zcf (f:=enc) (k:=1) (fun _=>rfl) _),List.length_map,hil]
   obtain⟨A,hA⟩:∃A:Nat→List Str,A=fun j=>za5 (s.pieces.take j):=⟨_,rfl⟩
   have hA0:A 0=[]:=by rw[hA];rfl
   have hAs:∀j (h:j<s.pieces.length),A (j+1)=A j++zau s.pieces[j].form:=fun j h=>by
    rw[hA];simp only
    unfold za5
    rw[List.take_succ_eq_append_getElem h,List.flatMap_append]
    simp
   have hAp:∀j,∃r,za5 s.pieces=A j++r:=fun j=>⟨za5 (s.pieces.drop j),by
    rw[hA];simp only
    unfold za5
    rw[←List.flatMap_append,List.take_append_drop]⟩
   have hAe:za5 s.pieces=A s.pieces.length:=by rw[hA];simp only[List.take_length]
   have hhz:∀x∈s.pieces,x.form.size≤1000∧(zau x.form).length≤1000∧zde x.form=zau x.form:=fun x hx=>by
    have h1:=za3 (hs.chk x hx)
    have h2:=zbM x.form
    exact⟨by omega,by omega,zc1 (hs.chk x hx)⟩
   have hAb:∀j,(A j).length≤6:=fun j=>by
    obtain⟨r,hr⟩:=hAp j
    have:=congrArg List.length hr
    rw[List.length_append,←hk.e]at this
    omega
   have kI:=Kp.mk ih
   have kA:=Kp.mk hAs
   have kB:=Kp.mk hAb
   have kP:=Kp.mk hAp
   have kz:=Kp.mk hhz
   clear ih hAs hAb hAp hhz hA e1
   obtain⟨L,hL⟩:∃L,s.pieces.length=L:=⟨_,rfl⟩
   refine zaj (N:=82) Go.Proofs.YtmconmiemdinkaaGreatDoor.hm zhK 74000 (lsw [78] [1000018]) zGD Tryz.func74 rfl rfl (by simp) (by kernel_rfl) ?_
   repeat'(first|refine And.intro ?_ ?_|exact True.intro|refine rq fun _=>?_|refine rf fun _=>?_|simp only[go_sem,ho,hne1,hne2,hne3,hkd,hL,zab,zad,zae,zag,zai,zaa,Tryz.f74,Sd1,Sc0])
   refine zam Go.Proofs.YtmconmiemdinkaaGreatDoor.hm zhK 74000 (lsw [78] [1000018]) (ι:=zeC L (n+1+1+1) fun i=>x∉A i)
    ⟨fun q=>⟨frL [(1,.arr id 1 0 l.length),(3,.ptr (74003,n) 0),(5,.ptr (74005,n+1) 0),(6,.ptr (74006,n+1+1) 0),(7,.fz (.i .i64 (A q.i).length)),(18,.fz (.i .i64 L)),(19,.fz (.i .i64 q.i))],
     hpX [((74003,n),some ⟨[.fz (.sl (s.pieces.map enc)),.fz (.sl (s.overs.map enc)),.fz (.sl (s.vars.map enc))],true,false⟩),((74005,n+1),some ⟨[.fz (.i .i64 f.kind),.fz (.s f.name.l),.fz (.sl (f.words.map enc)),.fz (.sl (f.subs.map enc))],true,false⟩),((74006,n+1+1),some ⟨[.fz (.i .i64 0),.fz (.s []),.full [],.full []],true,false⟩)] H,q.m⟩,fun q=>L-q.i⟩
    ⟨0,n+1+1+1,by omega,Nat.le_refl _,by rw[hA0];simp⟩ (by kernel_rfl) ?_ ?_
   ·refine zay ?_ ?_ (fun id2 o2 ho2=>?_) ?_
    ·simp only[go_sem,hA0,hxn,hkd]
    ·simp only[go_sem,hA0,hxn,hkd]
    ·refine(za0 ?_).trans ho2
     have h7:=hlt id2 o2 ho2
     ((repeat'(first|exact trivial|apply And.intro))<;>(rintro rfl;simp only at h7;omega))
    ·first|omega|(simp only[go_sem];done)|(simp only[go_sem];omega)
   rintro⟨i,m,hi,hm1,hxi⟩
   try simp only at hi hm1 hxi
   have hAb:=kB.out i
   have hAb2:=kB.out (i+1)
   rcases Nat.lt_or_ge i L with h1|h1
   ·have h1':i<s.pieces.length:=by omega
    have h9:((i:Int)<(L:Int))=True:=eq_true (by omega)
    obtain⟨pi,hpi⟩:∃pi,s.pieces[i]=pi:=⟨_,rfl⟩
    obtain⟨hz1,hz2,hz3⟩:=kz.out pi (by rw[←hpi];exact List.getElem_mem h1')
    have hbs:=kA.out i h1'
    rw[hpi]at hbs
    have hbl:=congrArg List.length hbs
    rw[List.length_append]at hbl
    obtain⟨C,hC⟩:∃C,(A i).length=C:=⟨_,rfl⟩
    rw[hC]at hbl hAb
    obtain⟨M,hM⟩:∃M,(zau pi.form).length=M:=⟨_,rfl⟩
    rw[hM]at hbl hz2
    repeat'(first|refine And.intro ?_ ?_|exact True.intro|refine rq fun _=>?_|refine rf fun _=>?_|simp only[go_sem,ho,hne1,hne2,hne3,h9,h1',hpi,hC,hM,hz3,zab,zad,zae,zag,zai,zaa,Tryz.f74,Sd1,Sc0])
    refine zam Go.Proofs.YtmconmiemdinkaaGreatDoor.hm zhK 74000 (lsw [78] [1000018]) (ι:=zeC M m fun q=>x∉(zau pi.form).take q)
     ⟨fun q=>⟨frL [(1,.arr id 1 0 l.length),(3,.ptr (74003,n) 0),(5,.ptr (74005,n+1) 0),(6,.ptr (74006,n+1+1) 0),(7,.fz (.i .i64 ((C+q.i:Nat):Int))),(18,.fz (.i .i64 L)),(19,.fz (.i .i64 i)),(28,.fz (.sl ((zau pi.form).map enc))),(29,.fz (.i .i64 M)),(30,.fz (.i .i64 q.i))],
      hpX [((74003,n),some ⟨[.fz (.sl (s.pieces.map enc)),.fz (.sl (s.overs.map enc)),.fz (.sl (s.vars.map enc))],true,false⟩),((74005,n+1),some ⟨[.fz (.i .i64 f.kind),.fz (.s f.name.l),.fz (.sl (f.words.map enc)),.fz (.sl (f.subs.map enc))],true,false⟩),((74006,n+1+1),some ⟨[.fz (.i .i64 0),.fz (.s []),.full [],.full []],true,false⟩)] H,q.m⟩,fun q=>M-q.i⟩
     ⟨0,m,by omega,Nat.le_refl _,by simp⟩ (by kernel_rfl) ?_ ?_
    ·refine zay ?_ ?_ (fun id2 o2 ho2=>?_) ?_
     ·simp only[go_sem,hxn,hkd,hC,Nat.add_zero]
     ·simp only[go_sem,hxn,hkd,hC,Nat.add_zero]
     ·refine(za0 ?_).trans ho2
      have h7:=hlt id2 o2 ho2
      ((repeat'(first|exact trivial|apply And.intro))<;>(rintro rfl;simp only at h7;omega))
     ·first|omega|(simp only[go_sem];done)|(simp only[go_sem];omega)
    rintro⟨q,m2,hq1,hm2,hxq⟩
    try simp only at hq1 hm2 hxq
    rcases Nat.lt_or_ge q M with h2|h2
    ·have h2':q<(zau pi.form).length:=by omega
     have h8:((q:Int)<(M:Int))=True:=eq_true (by omega)
     obtain⟨y,hy⟩:∃y,(zau pi.form)[q]=y:=⟨_,rfl⟩
     by_cases hyx:y=x
     ·have hmem:x∈zau pi.form:=by rw[←hyx,←hy];exact List.getElem_mem h2'
      have hidx:(za5 s.pieces).idxOf x=C+q:=by
       obtain⟨r,hr⟩:=kP.out (i+1)
       rw[hr,hbs,List.append_assoc,List.idxOf_append,if_neg hxi,List.idxOf_append,if_pos hmem,ziF h2' hxq (hy.trans hyx),hC,Nat.add_comm]
      rw[hidx]at hgd hix
      have hyl:(y.l=x.l)=True:=eq_true (by rw[hyx])
      obtain⟨z,hz⟩:∃z,C+q=z:=⟨_,rfl⟩
      rw[hz]at hgd hix
      repeat'(first|refine zaQ.i (kI.out pc.form _ _ _ (by omega) e2 (by omega) (by simp only[go_sem,ho,hne1,hne2,hne3]) fun n' hn'=>?_)|refine And.intro ?_ ?_|exact True.intro|refine rq fun _=>?_|refine rf fun _=>?_|simp only[go_sem,ho,hne1,hne2,hne3,h8,h2',hy,hyl,hxn,hz,hgd,hfl,hKlt,hpc,zab,zad,zae,zag,zai,zaa,Tryz.f74,Sd1,Sc0])
      all_goals
       rw[hF]
       repeat'(first|refine And.intro ?_ ?_|exact True.intro|refine rq fun _=>?_|refine rf fun _=>?_|simp only[go_sem,ho,hne1,hne2,hne3,zab,zad,zae,zag,zai,zaa,Tryz.f74,Sd1,Sc0])
      all_goals
       refine hq ?_ ?_ (fun id2 hid2=>?_)
       ·simp only[go_sem]
       ·omega
       ·refine(za0 ?_)
        ((repeat'(first|exact trivial|apply And.intro))<;>(rintro rfl;simp only at hid2;omega))
     ·have hyl:(y.l=x.l)=False:=eq_false fun e=>hyx (by cases h:y;cases h2:x;rw[h,h2]at e;exact congrArg Str.mk e)
      repeat'(first|refine And.intro ?_ ?_|exact True.intro|refine rq fun _=>?_|refine rf fun _=>?_|simp only[go_sem,ho,hne1,hne2,hne3,h8,h2',hy,hyl,hxn,zab,zad,zae,zag,zai,zaa,Tryz.f74,Sd1,Sc0])
      have hcq:((C+(q+1):Nat):Int)=((C+q:Nat):Int)+1:=by omega
      refine⟨⟨q+1,m2,by omega,by omega,zcP h2' hxq (by rw[hy];exact hyx)⟩,by simp only;omega,?_⟩
      refine zay ?_ ?_ (fun id2 o2 ho2=>?_) ?_
      ·simp only[go_sem,hxn,hkd,hcq]
      ·simp only[go_sem,hxn,hkd,hcq]
      ·refine(za0 ?_).trans ho2
       have h7:=hlt id2 o2 ho2
       ((repeat'(first|exact trivial|apply And.intro))<;>(rintro rfl;simp only at h7;omega))
      ·first|omega|(simp only[go_sem];done)|(simp only[go_sem];omega)
    obtain rfl:q=M:=by omega
    rw[List.take_of_length_le (by omega)]at hxq
    repeat'(first|refine And.intro ?_ ?_|exact True.intro|refine rq fun _=>?_|refine rf fun _=>?_|simp only[go_sem,ho,hne1,hne2,hne3,Nat.lt_irrefl,Int.lt_irrefl,zab,zad,zae,zag,zai,zaa,Tryz.f74,Sd1,Sc0])
    refine⟨⟨i+1,m2,by omega,by omega,by rw[hbs];intro h;rcases List.mem_append.1 h with h|h;exact hxi h;exact hxq h⟩,by simp only;omega,?_⟩
    refine zay ?_ ?_ (fun id2 o2 ho2=>?_) ?_
    ·simp only[go_sem,hxn,hkd,hbl,Nat.add_assoc]
    ·simp only[go_sem,hxn,hkd,hbl,Nat.add_assoc]
    ·refine(za0 ?_).trans ho2
     have h7:=hlt id2 o2 ho2
     ((repeat'(first|exact trivial|apply And.intro))<;>(rintro rfl;simp only at h7;omega))
    ·first|omega|(simp only[go_sem];done)|(simp only[go_sem];omega)
   exact absurd hxa (by rw[hAe,show s.pieces.length=i by omega];exact hxi)
  have hres:=zpF (p:=zbY s l) (s:=s) hkd
  rw[hF]at hres
  have hsub:∀a∈f.subs,zfd s l a<k∧zeA (zbY s l) s a:=fun a ha=>by
   obtain⟨g1,g2⟩:=zmH hf hkd ha
   rw[hnat]at g2
   exact⟨by omega,g1⟩
  obtain⟨A,hA⟩:∃A:Nat→List Abs.zac,A=fun j=>(f.subs.take j).map (zeZ (zbY s l) s):=⟨_,rfl⟩
  have hA0:A 0=[]:=by rw[hA];rfl
  have hAs:∀j (h:j<f.subs.length),A (j+1)=A j++[zeZ (zbY s l) s f.subs[j]]:=fun j h=>by rw[hA];simp only[List.take_succ_eq_append_getElem h,List.map_append,List.map_cons,List.map_nil]
  have hAl:∀j,(A j).length≤f.subs.length:=fun j=>by rw[hA];simp only[List.length_map,List.length_take];omega
  have hAe:f.subs.map (zeZ (zbY s l) s)=A f.subs.length:=by rw[hA];simp only[List.take_length]
  rw[hAe]at hres
  have hsl:f.subs.length≤1000:=by
   have:=ze1 f.subs
   have h2:f.size=zac.sizes f.subs+1∨f.size=1+zac.sizes f.subs:=by cases f;rw[zac.size];simp only[zaU];omega
   omega
  have hkd':(f.kind=10)=False:=eq_false hkd
  have kI:=Kp.mk ih
  have kz:=Kp.mk hsub
  have kA:=Kp.mk hAs
  have kL:=Kp.mk hAl
  clear ih hsub hAs hAl hAe hA
  obtain⟨L,hL⟩:∃L,f.subs.length=L:=⟨_,rfl⟩
  rw[hL]at hres
  have hne4:=hna 74011 (n+1+1+1) (by omega)
  refine zaj (N:=82) Go.Proofs.YtmconmiemdinkaaGreatDoor.hm zhK 74000 (lsw [78] [1000018]) zGD Tryz.func74 rfl rfl (by simp) (by kernel_rfl) ?_
  repeat'(first|refine And.intro ?_ ?_|exact True.intro|refine rq fun _=>?_|refine rf fun _=>?_|simp only[go_sem,ho,hne1,hne2,hne3,hne4,hkd',hL,zab,zad,zae,zag,zai,zaa,Tryz.f74,Sd1,Sc0])
  refine zam Go.Proofs.YtmconmiemdinkaaGreatDoor.hm zhK 74000 (lsw [78] [1000018]) (ι:=zA1 L (n+1+1+1+1))
   ⟨fun q=>⟨frL [(1,.arr id 1 0 l.length),(3,.ptr (74003,n) 0),(5,.ptr (74005,n+1) 0),(6,.ptr (74006,n+1+1) 0),(11,.ptr (74011,n+1+1+1) 0),(63,.fz (.i .i64 L)),(64,.fz (.i .i64 q.i))],
    hpX [((74003,n),some ⟨[.fz (.sl (s.pieces.map enc)),.fz (.sl (s.overs.map enc)),.fz (.sl (s.vars.map enc))],true,false⟩),((74005,n+1),some ⟨[.fz (.i .i64 f.kind),.fz (.s f.name.l),.fz (.sl (f.words.map enc)),.fz (.sl (f.subs.map enc))],true,false⟩),((74006,n+1+1),some ⟨[.fz (.i .i64 0),.fz (.s []),.full [],.full []],true,false⟩),((74011,n+1+1+1),some ⟨[.fz (.i .i64 f.kind),.fz (.s f.name.l),.fz (.sl (f.words.map enc)),.ow (74078,q.g) 4 ((A q.i).map enc)],true,false⟩),((74078,q.g),some tok)] H,q.m⟩,fun q=>L-q.i⟩
   ⟨0,n+1+1+1+1,n+1+1+1+1+1,by omega,by omega,by omega⟩ (by kernel_rfl) ?_ ?_
  ·refine zbw (zd4 74078) (zbw (zd3 (id:=(74011,n+1+1+1)) (id2:=(74078,n+1+1+1+1)) (es:=4) (k:=3) (xs:=[]) (b:=true) (by simp only[go_sem];rfl) (by simp) (by rfl) (by simp only;omega)) ?_)
   refine zay ?_ ?_ (fun id2 o2 ho2=>?_) ?_
   ·simp only[go_sem,hA0]
   ·simp only[go_sem,hA0]
   ·refine(za0 ?_).trans ho2
    have h7:=hlt id2 o2 ho2
    ((repeat'(first|exact trivial|apply And.intro))<;>(rintro rfl;simp only at h7;omega))
   ·first|omega|(simp only[go_sem];done)|(simp only[go_sem];omega)
  rintro⟨j,g,m,hj,hg0,hg⟩
  try simp only at hj hg0 hg
  rcases Nat.lt_or_ge j L with h1|h1
  ·have h1':j<f.subs.length:=by omega
   obtain⟨a,ha⟩:∃a,f.subs[j]=a:=⟨_,rfl⟩
   obtain⟨hw1,hw2⟩:=kz.out a (by rw[←ha];exact List.getElem_mem h1')
   have hbs:=kA.out j h1'
   rw[ha]at hbs
   have hb1:=kL.out j
   have h9:((j:Int)<(L:Int))=True:=eq_true (by omega)
   have hne5:=hna 74078 g (by omega)
   repeat'(first|refine zbk Go.Proofs.YtmconmiemdinkaaGreatDoor.hm zhK 74000 (lsw [78] [1000018]) zqi (by kernel_rfl) (by kernel_rfl) ?_|refine zaQ.i (kI.out a _ _ _ (by omega) hw2 (by omega) (by simp only[go_sem,ho,hne1,hne2,hne3,hne4,hne5]) fun n' hn'=>?_)|refine And.intro ?_ ?_|exact True.intro|refine rq fun _=>?_|refine rf fun _=>?_|simp only[go_sem,zqi,ho,hne1,hne2,hne3,hne4,hne5,h9,h1',ha,zab,zad,zae,zag,zai,zaa,Tryz.f74,Sd1,Sc0])
   all_goals
    refine⟨⟨j+1,n',n'+1,by omega,by omega,by omega⟩,by simp only;omega,?_⟩
    refine zay ?_ ?_ (fun id2 o2 ho2=>?_) ?_
    ·simp only[go_sem,hbs,List.map_append,List.map_cons,List.map_nil]
    ·simp only[go_sem,hbs,List.map_append,List.map_cons,List.map_nil]
    ·refine(za0 ?_).trans ho2
     have h7:=hlt id2 o2 ho2
     ((repeat'(first|exact trivial|apply And.intro))<;>(rintro rfl;simp only at h7;omega))
    ·first|omega|(simp only[go_sem];done)|(simp only[go_sem];omega)
  obtain rfl:j=L:=by omega
  repeat'(first|refine And.intro ?_ ?_|exact True.intro|refine rq fun _=>?_|refine rf fun _=>?_|simp only[go_sem,ho,hne1,hne2,hne3,hne4,Nat.lt_irrefl,Int.lt_irrefl,zab,zad,zae,zag,zai,zaa,Tryz.f74,Sd1,Sc0])
  all_goals
   refine hq ?_ ?_ (fun id2 hid2=>?_)
   ·rw[hres];simp only[go_sem]
   ·omega
   ·refine(za0 ?_)
    ((repeat'(first|exact trivial|apply And.intro))<;>(rintro rfl;simp only at hid2;omega))
end Go.Proofs.YtmconmiemdinkaaGreatDoor
namespace Go.Proofs.YtmconmiemdinkaaGreatDoor
open Go Go.Abs Go.Proofs
theorem zpK:∀(l:List Nat) (j:Nat),(zaF l).idxOf (j:Int)=l.idxOf j
 |[],_=>rfl
 |x::l,j=>by
  have h1:=zpK l j
  unfold zaF at h1 ⊢
  rw[List.map_cons,List.idxOf_cons,List.idxOf_cons,h1]
  by_cases e:x=j
  ·subst e;simp
  ·have e2:¬((x:Int)=(j:Int)):=by omega
   rw[beq_false_of_ne e,beq_false_of_ne e2]
theorem zst (s:zar)(l:List Nat)(j:Nat):zdq s (zaF l) (j:Int)=match zjl s l j with|some i=>(i:Int)|none=> -1:=by
 unfold zdq zjl
 by_cases h:j∈l
 ·rw[if_pos (zlh.2 h),if_pos h,zpK]
 ·rw[if_neg (fun g=>h (zlh.1 g)),if_neg h]
theorem zpO (s:zar)(l:List Nat)(a:Nat):∀(m b:Nat),zmX s (zaF l) (a:Int) m (b:Int)=zfP (zjl s l) a m b
 |0,_=>rfl
 |m+1,b=>by
  rw[zmX,zfP,zst]
  by_cases h:b=a
  ·subst h;simp
  ·have h2:¬((b:Int)=(a:Int)):=by omega
   rw[if_neg h2]
   cases hp:zjl s l b with
   |none=>simp[h]
   |some c=>
    have h3:¬((c:Int)<0):=by omega
    simp only[h3,if_false]
    rw[zpO s l a m c]
    simp[h]
theorem ztG (s:zar)(l:List Nat)(a b:Nat):zmY s (zaF l) (a:Int) (b:Int)=zfP (zjl s l) a (nP s+1) b:=zpO s l a _ b
theorem zuQ (s:zar):(zlV s).length=(za5 s.pieces).length:=by
 rw[←zef s]
 unfold zlV
 rw[List.length_map,List.length_map]
def znN (l:List Nat):Nat→Int
 |0=> -1
 |i+1=>if l.count i=0 then(i:Int)else znN l i
theorem zzK {s:zar}{l:List Nat}(h:okL s l):znN l (nP s)=((zdE (nP s) l:Nat):Int):=by
 obtain⟨t1,t2,t3⟩:=h.t
 have key:∀i,i≤nP s→znN l i=if zdE s.pieces.length l<i then((zdE s.pieces.length l:Nat):Int)else-1:=by
  intro i
  induction i with
  |zero=>intro _;rw[znN,if_neg (by omega)]
  |succ i ih=>
   intro hi
   rw[znN,ih (by omega)]
   by_cases hm:i∈l
   ·have hc:¬l.count i=0:=fun e=>by rw[List.count_eq_zero]at e;exact e hm
    have hne:¬zdE s.pieces.length l=i:=fun e=>t2 (e▸hm)
    rw[if_neg hc]
    by_cases h2:zdE s.pieces.length l<i
    ·rw[if_pos h2,if_pos (by omega)]
    ·rw[if_neg h2,if_neg (by omega)]
   ·have e:=t3 i hi hm
    rw[if_pos (List.count_eq_zero.2 hm),if_pos (by omega),e]
 have h2:=key (nP s) (Nat.le_refl _)
 unfold nP at h2 ⊢
 rw[if_pos t1]at h2
 exact h2
def zr0 (l:List Nat)(i:Nat):Bool:=(List.range i).all fun j=>decide (l.count j<2)
theorem zsQ (l:List Nat)(i:Nat):zr0 l (i+1)=(zr0 l i&&decide (l.count i<2)):=by
 unfold zr0
 rw[List.range_succ,List.all_append];simp
theorem zqL {l:List Nat}{n:Nat}(h:∀x∈l,x<n):zr0 l n=decide l.Nodup:=by
 rw[Bool.eq_iff_iff,decide_eq_true_eq,List.nodup_iff_count]
 unfold zr0
 rw[List.all_eq_true]
 constructor
 ·intro g a
  by_cases ha:a∈l
  ·have:=g a (List.mem_range.2 (h a ha))
   simp only[decide_eq_true_eq]at this
   omega
  ·rw[List.count_eq_zero.2 ha];omega
 ·intro g j _
  have:=g j
  simp only[decide_eq_true_eq]
  omega
end Go.Proofs.YtmconmiemdinkaaGreatDoor
namespace Go.Proofs.YtmconmiemdinkaaGreatDoor
open Go Go.Abs Go.Proofs
theorem zCF {n:Nat}{d:D}:(List.range n).map (fun j=>[d].getD (j % 1) .junk)=List.replicate n d:=by
 simp[Nat.mod_one,List.map_const']
theorem zud {n:Nat}:List.replicate n (D.fz (.i .i64 0))=zaf ((List.replicate n (0:Int)).map enc):=by
 rw[zbi,List.map_replicate];rfl
def zfC (s:zar)(d:List Int):Abs.zac:=zcz s (zaD d)
def zgf (s:zar):List (List Int)×List Abs.zac:=(zd7 s,(zd7 s).map (zfC s))
structure zA0 (N n0:Nat) where
 i:Nat
 g1:Nat
 g2:Nat
 m:Nat
 hi:i<N
 h1:g1<m
 h2:g2<m
 hm:n0≤m
theorem zn3 {P:Program}{G:Nat→List FD}{N:Nat}{c:Code}{st:St}{q:Exit→St→Prop}{ι:Type}(e0:Exit)(I:ι→St)(h:∀i,q e0 (I i))(h2:@WK P G N c st ⟨fun e s=>e=e0∧∃i,zd2 G N s (I i)⟩):@WK P G N c st ⟨q⟩:=by
 unfold WK at h2 ⊢
 intro a w L F hr
 refine wp_mono (h2 a w L F hr) fun e a' w' hs=>?_
 obtain⟨s,L1,F1,⟨rfl,i,hw⟩,g2,g3⟩:=hs
 obtain⟨L2,F2,g4,g5⟩:=hw a' w' L1 F1 g2
 exact⟨I i,L2,F2,h i,g4,zbv.trans g3 g5⟩
theorem zG4 {C Q:Type}{A:C→Q→Prop}{B:Prop}(c:C)(q:Q)(h1:A c q→B)(h2:A c q):B:=h1 h2
structure zEO (n0:Nat)(p:Bool→Prop) where
 b:Bool
 m:Nat
 hm:n0≤m
 hp:p b
structure zMh (n0:Nat)(p:Bool→Prop) where
 b:Bool
 c:Nat
 m:Nat
 hm:n0≤m
 hp:p b
structure zGU (N n0:Nat)(p:Nat→Bool→Prop) where
 i:Nat
 b:Bool
 c:Nat
 m:Nat
 hi:i≤N
 hm:n0≤m
 hp:p i b
structure zsj (N n0:Nat)(p:Nat→Bool→Prop) where
 i:Nat
 b:Bool
 m:Nat
 hi:i≤N
 hm:n0≤m
 hp:p i b
def hIx (N:List Str)(x:Str)(q:Nat):Int:=if N.idxOf x<q then((N.idxOf x:Nat):Int)else 0
theorem ztl {N:List Str}{x:Str}{q:Nat}(hn:N.Nodup)(h:q<N.length)(e:N[q]=x):hIx N x (q+1)=(q:Int):=by
 have h1:N.idxOf x=q:=by rw[←e];exact hn.idxOf_getElem q h
 unfold hIx
 rw[h1,if_pos (by omega)]
theorem zpI {N:List Str}{x:Str}{q:Nat}(h:q<N.length)(e:¬N[q]=x):hIx N x (q+1)=hIx N x q:=by
 have h1:N.idxOf x≠q:=fun g=>e (by subst g;exact List.getElem_idxOf h)
 unfold hIx
 by_cases h2:N.idxOf x<q
 ·rw[if_pos h2,if_pos (by omega)]
 ·rw[if_neg h2,if_neg (by omega)]
theorem ztk {N:List Str}{x:Str}(h:x∈N):hIx N x N.length=((N.idxOf x:Nat):Int):=by
 unfold hIx
 rw[if_pos (List.idxOf_lt_length_of_mem h)]
def zuB:Tv:=(.q 0 (.q 1 (.q 2 (.q 6 (.br [(3,(.q 4 (.br [(5,(.q 7 (.q 8 (.br [(9,(.q 10 (.q 11 .leaf)))])))),(7,(.q 8 (.br [(5,(.br [(9,(.q 10 (.q 11 .leaf)))]))])))]))),(7,(.q 8 (.br [(3,(.q 4 (.br [(5,(.br [(9,(.q 10 (.q 11 .leaf)))]))])))])))])))))
def zuA:Tv:=(.q 0 (.q 1 (.q 2 (.q 3 (.q 4 (.q 5 (.q 6 (.q 7 (.br [(8,(.br [(9,(.br [(10,.leaf)]))])),(9,(.br [(8,(.br [(10,.leaf)]))]))])))))))))
theorem zjW {s:zar}{i:Nat}:(zd8 s i).length≤i:=by
 unfold zd8
 exact Nat.le_trans (List.length_filter_le _ _) (by simp)
theorem zng {j M:Nat}(h:j≤6)(e:M+1=j):j^M≤100000:=by
 subst e
 have:M=0∨M=1∨M=2∨M=3∨M=4∨M=5:=by omega
 rcases this with rfl|rfl|rfl|rfl|rfl|rfl<;>decide
def Sd4:Tbl:=Sd1.add 44 (zum zgf fun s=>ze3 s)
set_option maxHeartbeats 16000000 in
theorem zJ3:zan Tryz.prog GA Sd4:=by
  refine zg5 zGA zhK fun s hs _=>?_
  obtain⟨Q,hQ⟩:∃Q:D→zax→Nat→Prop,Q=(fun d _ _=>D.val d=some (.tup [.fz (enc (zgf s).1),.fz (enc (zgf s).2)])):=⟨_,rfl⟩
  rw[←hQ]
  have hn1:=hs.n1
  have hn6:=hs.n6
  have hnp:s.pieces.length=nP s:=rfl
  have hil:(zaF (zlV s)).length=(za5 s.pieces).length:=by unfold zaF;rw[List.length_map,zuQ]
  obtain⟨L,hL⟩:∃L,s.pieces.length=L:=⟨_,rfl⟩
  obtain⟨U,hU⟩:∃U,zaF (zlV s)=U:=⟨_,rfl⟩
  rw[hU]at hil
  obtain⟨M,hM⟩:∃M,(za5 s.pieces).length=M:=⟨_,rfl⟩
  rw[hM]at hil
  have hML:M≤10000:=by
    have h1:∀ps:List zb8,(∀p∈ps,(zaV true p.form).code=0)→(za5 ps).length≤1000*ps.length:=by
      intro ps
      induction ps with
      |nil=>intro _;simp[za5]
      |cons p ps ih=>
        intro h
        have h2:=ih fun q hq=>h q (List.mem_cons_of_mem _ hq)
        have h3:=zbM p.form
        have h4:=za3 (h p List.mem_cons_self)
        unfold za5 at h2 ⊢
        rw[List.flatMap_cons,List.length_append,List.length_cons]
        omega
    have:=h1 s.pieces hs.chk
    omega
  by_cases hu:M+1=nP s
  case neg=>
    have hne:((M:Int)=(L:Int)-1)=False:=eq_false (by omega)
    have hres:zgf s=([],[]):=by unfold zgf zd7;rw[if_pos (by rw[hM];exact hu)];rfl
    refine zaj (N:=215) Go.Proofs.YtmconmiemdinkaaGreatDoor.hm zhK 44000 (lsw [51,179,181,185] [1000052,1000060]) zGA Tryz.func44 rfl rfl (by simp) (by kernel_rfl) ?_
    repeat'(first|refine zaq.i hs fun _=>?_|refine And.intro ?_ ?_|exact True.intro|refine rq fun _=>?_|refine rf fun _=>?_|simp only[go_sem,hL,hU,hil,hne,zab,zad,zae,zag,zai,zaa,Tryz.f44,Sd1,Sc0])
    all_goals
      rw[hQ,hres]
      simp only[go_sem]
  have hne:((M:Int)=(L:Int)-1)=True:=eq_true (by omega)
  obtain⟨A,hA⟩:∃A:Nat→List Str,A=fun j=>za5 (s.pieces.take j):=⟨_,rfl⟩
  have hA0:A 0=[]:=by rw[hA];rfl
  have hAs:∀j (h:j<s.pieces.length),A (j+1)=A j++zau s.pieces[j].form:=fun j h=>by
    rw[hA];simp only
    unfold za5
    rw[List.take_succ_eq_append_getElem h,List.flatMap_append]
    simp
  have hAe:za5 s.pieces=A s.pieces.length:=by rw[hA];simp only[List.take_length]
  have hAp:∀j,∃r,za5 s.pieces=A j++r:=fun j=>⟨za5 (s.pieces.drop j),by
    rw[hA];simp only
    unfold za5
    rw[←List.flatMap_append,List.take_append_drop]⟩
  have hAb:∀j,(A j).length≤10000:=fun j=>by
    obtain⟨r,hr⟩:=hAp j
    have:=congrArg List.length hr
    rw[List.length_append]at this
    omega
  have hhz:∀x∈s.pieces,x.form.size≤1000∧(zau x.form).length≤1000∧zde x.form=zau x.form:=fun x hx=>by
    have h1:=za3 (hs.chk x hx)
    have h2:=zbM x.form
    exact⟨by omega,by omega,zc1 (hs.chk x hx)⟩
  have kA:=Kp.mk hAs
  have kB:=Kp.mk hAb
  have kz:=Kp.mk hhz
  clear hAs hAb hAp hhz hA
  refine zaj (N:=215) Go.Proofs.YtmconmiemdinkaaGreatDoor.hm zhK 44000 (lsw [51,179,181,185] [1000052,1000060]) zGA Tryz.func44 rfl rfl (by simp) (by kernel_rfl) ?_
  repeat'(first|refine zaq.i hs fun _=>?_|refine And.intro ?_ ?_|exact True.intro|refine rq fun _=>?_|refine rf fun _=>?_|simp only[go_sem,hL,hU,hil,hne,zab,zad,zae,zag,zai,zaa,Tryz.f44,Sd1,Sc0])
  refine zam Go.Proofs.YtmconmiemdinkaaGreatDoor.hm zhK 44000 (lsw [51,179,181,185] [1000052,1000060]) (ι:=zdR L 2 fun _=>True)
    ⟨fun q=>⟨frL [(1,.ptr (44001,0) 0),(4,.fz (.i .i64 L)),(5,.fz (.sl (U.map enc))),(6,.ow (44051,q.g) 1 ((A q.i).map enc)),(41,.fz (.sl (s.pieces.map enc))),(42,.fz (.i .i64 L)),(43,.fz (.i .i64 q.i))],
      hpL [((44001,0),some ⟨[.fz (.sl (s.pieces.map enc)),.fz (.sl (s.overs.map enc)),.fz (.sl (s.vars.map enc))],true,false⟩),((44051,q.g),some tok)],q.m⟩,fun q=>L-q.i⟩
    ⟨0,1,2,by omega,by omega,by omega,trivial⟩ (by kernel_rfl) ?_ ?_
  · refine zb6 [] [(44051,1)] [] ?_ ?_ ?_ ?_ ?_<;>(try simp only[go_sem,hA0,List.map_nil])
    all_goals first|done|rfl|omega
  rintro⟨j,g,m,hj,hg,hm2,_⟩
  try simp only at hj hg hm2
  have hl1:=kB.out j
  rcases Nat.lt_or_ge j L with h1|h1
  · have h1':j<s.pieces.length:=by omega
    have h9:((j:Int)<(L:Int))=True:=eq_true (by omega)
    obtain⟨x,hx⟩:∃x,s.pieces[j]=x:=⟨_,rfl⟩
    obtain⟨hz1,hz2,hz3⟩:=kz.out x (by rw[←hx];exact List.getElem_mem h1')
    have hbs:=kA.out j h1'
    rw[hx]at hbs
    repeat'(first|refine And.intro ?_ ?_|exact True.intro|refine rq fun _=>?_|refine rf fun _=>?_|simp only[go_sem,h9,h1',hx,hz3,zab,zad,zae,zag,zai,zaa,Tryz.f44,Sd1,Sc0])
    refine⟨⟨j+1,m+1,m+1+1,by omega,by omega,by omega,trivial⟩,by simp only;omega,?_⟩
    refine zah ?_ ?_ ?_<;>(try simp only[go_sem,hbs,List.map_append,List.map_cons,List.map_nil])
    all_goals first|done|rfl|omega
  obtain rfl:j=L:=by omega
  have hall:A j=za5 s.pieces:=by rw[hAe,hL]
  obtain⟨N,hN⟩:∃N,za5 s.pieces=N:=⟨_,rfl⟩
  rw[hN]at hall hM
  have hz0:List.replicate M (0:Int)=zc9 j M 0:=(zjQ j M).symm
  have hf0:zd8 s 0=[]:=rfl
  repeat'(first|refine And.intro ?_ ?_|exact True.intro|refine rq fun _=>?_|refine rf fun _=>?_|simp only[go_sem,Nat.lt_irrefl,Int.lt_irrefl,hall,hil,hL,zab,zad,zae,zag,zai,zaa,Tryz.f44,Sd1,Sc0])
  have hjn:j=nP s:=by omega
  refine zam Go.Proofs.YtmconmiemdinkaaGreatDoor.hm zhK 44000 (lsw [51,179,181,185] [1000052,1000060]) (ι:=zA0 (j^M) (m+3))
    ⟨fun q=>⟨frL [(1,.ptr (44001,0) 0),(5,.fz (.sl (U.map enc))),(6,.fz (.sl (N.map enc))),(11,.arr (44055,m) 1 0 M),(4,.fz (.i .i64 j)),(9,.ow (44181,q.g1) 1 ((zd8 s q.i).map enc)),(10,.ow (44185,q.g2) 4 (((zd8 s q.i).map (zfC s)).map enc))],
      hpL [((44001,0),some ⟨[.fz (.sl (s.pieces.map enc)),.fz (.sl (s.overs.map enc)),.fz (.sl (s.vars.map enc))],true,false⟩),((44055,m),some ⟨zaf ((zc9 j M q.i).map enc),false,false⟩),((44181,q.g1),some tok),((44185,q.g2),some tok)],q.m⟩,fun q=>j^M-q.i⟩
    ⟨0,m+1,m+2,m+3,Nat.pow_pos (by omega),by omega,by omega,by omega⟩ (by kernel_rfl) ?_ ?_
  · refine zb6 [] [(44181,m+1),(44185,m+2)] [] ?_ ?_ ?_ ?_ ?_<;>(try simp only[go_sem,hf0,zCF,zud,hz0,List.map_nil])
    all_goals first|done|rfl|omega
  rintro⟨i,g1,g2,m2,hi,hg1,hg2,hm3⟩
  try simp only at hi hg1 hg2 hm3
  obtain⟨O,hO⟩:∃O,zd8 s i=O:=⟨_,rfl⟩
  obtain⟨F,hF⟩:∃F,O.map (zfC s)=F:=⟨_,rfl⟩
  obtain⟨l,hl⟩:∃l,zaD (zc9 j M i)=l:=⟨_,rfl⟩
  have hDb:∀x∈zc9 j M i,0≤x∧x<(j:Int):=fun x hx=>zkR (by omega) _ _ _ hx
  have hDe:zc9 j M i=zaF l:=by rw[←hl];exact(zmS fun x hx=>(hDb x hx).1).symm
  have hll:l.length=M:=by rw[←hl];unfold zaD;rw[List.length_map,zgb]
  have hlt:∀x∈l,x<j:=fun x hx=>by
    rw[←hl]at hx
    unfold zaD at hx
    obtain⟨y,hy,rfl⟩:=List.mem_map.1 hx
    have:=hDb y hy
    omega
  have hlil:(zaF l).length=l.length:=by unfold zaF;rw[List.length_map]
  have hfl:(zaf ((zaF l).map enc)).length=M:=by rw[zdw (zcf (f:=enc) (k:=1) (fun _=>rfl) _),List.length_map,hlil,hll]
  have hgd:∀q (h:q<l.length),(zaf ((zaF l).map enc)).getD q D.junk=D.fz (.i .i64 (l[q]:Nat)):=fun q h=>by
    rw[zbi,List.getD_eq_getElem?_getD,List.getElem?_map,List.getElem?_eq_getElem (by rw[hlil];exact h)]
    simp only[zaF,List.getElem_map];rfl
  have hc0:zr0 l 0=true:=rfl
  have ht0:znN l 0= -1:=rfl
  have kg:=Kp.mk hgd
  clear hgd
  repeat'(first|refine And.intro ?_ ?_|exact True.intro|refine rq fun _=>?_|refine rf fun _=>?_|simp only[go_sem,hO,hF,hDe,zab,zad,zae,zag,zai,zaa,Tryz.f44,Sd1,Sc0])
  refine zam Go.Proofs.YtmconmiemdinkaaGreatDoor.hm zhK 44000 (lsw [51,179,181,185] [1000052,1000060]) (ι:=zeC j m2 fun _=>True)
    ⟨fun q=>⟨frL [(1,.ptr (44001,0) 0),(5,.fz (.sl (U.map enc))),(6,.fz (.sl (N.map enc))),(11,.arr (44055,m) 1 0 M),(4,.fz (.i .i64 j)),(9,.ow (44181,g1) 1 ((O).map enc)),(10,.ow (44185,g2) 4 ((F).map enc)),(12,.fz (.b (zr0 l q.i))),(13,.fz (.i .i64 (znN l q.i))),(14,.fz (.i .i64 q.i))],
      hpL [((44001,0),some ⟨[.fz (.sl (s.pieces.map enc)),.fz (.sl (s.overs.map enc)),.fz (.sl (s.vars.map enc))],true,false⟩),((44055,m),some ⟨zaf ((zaF l).map enc),false,false⟩),((44181,g1),some tok),((44185,g2),some tok)],q.m⟩,fun q=>j-q.i⟩
    ⟨0,m2,by omega,Nat.le_refl _,trivial⟩ (by kernel_rfl) ?_ ?_
  · refine zah ?_ ?_ ?_<;>(try simp only[go_sem,hc0,ht0,hO,hF,hDe])
    all_goals first|done|rfl|omega
  rintro⟨a,m3,ha,hm4,_⟩
  try simp only at ha hm4
  rcases Nat.lt_or_ge a j with h2|h2
  · have h9:((a:Int)<(j:Int))=True:=eq_true (by omega)
    repeat'(first|refine And.intro ?_ ?_|exact True.intro|refine rq fun _=>?_|refine rf fun _=>?_|simp only[go_sem,h9,zab,zad,zae,zag,zai,zaa,Tryz.f44,Sd1,Sc0])
    refine zam Go.Proofs.YtmconmiemdinkaaGreatDoor.hm zhK 44000 (lsw [51,179,181,185] [1000052,1000060]) (ι:=zeC M m3 fun _=>True)
      ⟨fun q=>⟨frL [(1,.ptr (44001,0) 0),(5,.fz (.sl (U.map enc))),(6,.fz (.sl (N.map enc))),(11,.arr (44055,m) 1 0 M),(4,.fz (.i .i64 j)),(9,.ow (44181,g1) 1 ((O).map enc)),(10,.ow (44185,g2) 4 ((F).map enc)),(12,.fz (.b (zr0 l a))),(13,.fz (.i .i64 (znN l a))),(14,.fz (.i .i64 a)),(15,.fz (.i .i64 ((l.take q.i).count a:Nat))),(61,.arr (44055,m) 1 0 M),(62,.fz (.i .i64 M)),(63,.fz (.i .i64 q.i))],
        hpL [((44001,0),some ⟨[.fz (.sl (s.pieces.map enc)),.fz (.sl (s.overs.map enc)),.fz (.sl (s.vars.map enc))],true,false⟩),((44055,m),some ⟨zaf ((zaF l).map enc),false,false⟩),((44181,g1),some tok),((44185,g2),some tok)],q.m⟩,fun q=>M-q.i⟩
      ⟨0,m3,by omega,Nat.le_refl _,trivial⟩ (by kernel_rfl) ?_ ?_
    · refine zah ?_ ?_ ?_<;>(try simp only[go_sem,List.take_zero,List.count_nil])
      all_goals first|done|rfl|omega
    rintro⟨q,m4,hq,hm5,_⟩
    try simp only at hq hm5
    rcases Nat.lt_or_ge q M with h3|h3
    · have h3':q<l.length:=by omega
      have h8:((q:Int)<(M:Int))=True:=eq_true (by omega)
      have gd:=kg.out q h3'
      have hts:=List.take_succ_eq_append_getElem h3'
      have hcb:(l.take q).count a≤10000:=by
        have h5:=List.count_le_length (a:=a) (l:=l.take q)
        rw[List.length_take]at h5
        omega
      obtain⟨d,hd⟩:∃d,l[q]=d:=⟨_,rfl⟩
      rw[hd]at gd hts
      by_cases hda:d=a
      · have hda':((d:Int)=(a:Int))=True:=eq_true (by omega)
        have hcs:(((l.take (q+1)).count a:Nat):Int)=((l.take q).count a:Nat)+1:=by
          rw[hts,List.count_append,hda];simp
        repeat'(first|refine And.intro ?_ ?_|exact True.intro|refine rq fun _=>?_|refine rf fun _=>?_|simp only[go_sem,h8,gd,hfl,hda',zab,zad,zae,zag,zai,zaa,Tryz.f44,Sd1,Sc0])
        refine⟨⟨q+1,m4,by omega,by omega,trivial⟩,by simp only;omega,?_⟩
        refine zah ?_ ?_ ?_<;>(try simp only[go_sem,hcs])
        all_goals first|done|rfl|omega
      · have hda':((d:Int)=(a:Int))=False:=eq_false (by omega)
        have hcs:(l.take (q+1)).count a=(l.take q).count a:=by
          rw[hts,List.count_append]
          simp[hda]
        repeat'(first|refine And.intro ?_ ?_|exact True.intro|refine rq fun _=>?_|refine rf fun _=>?_|simp only[go_sem,h8,gd,hfl,hda',zab,zad,zae,zag,zai,zaa,Tryz.f44,Sd1,Sc0])
        refine⟨⟨q+1,m4,by omega,by omega,trivial⟩,by simp only;omega,?_⟩
        refine zah ?_ ?_ ?_<;>(try simp only[go_sem,hcs])
        all_goals first|done|rfl|omega
    obtain rfl:q=M:=by omega
    have htk:l.take q=l:=List.take_of_length_le (by omega)
    have hcs:=zsQ l a
    have htp:znN l (a+1)=if l.count a=0 then(a:Int)else znN l a:=rfl
    have hc2:decide (((l.count a:Nat):Int)<2)=decide (l.count a<2):=decide_eq_decide.2 (by omega)
    by_cases hz:l.count a=0
    · have hz':(((l.count a:Nat):Int)=0)=True:=eq_true (by omega)
      rw[if_pos hz]at htp
      cases hcb:zr0 l a
      all_goals
        rw[hcb]at hcs
        repeat'(first|refine And.intro ?_ ?_|exact True.intro|refine rq fun _=>?_|refine rf fun _=>?_|simp only[go_sem,Nat.lt_irrefl,Int.lt_irrefl,htk,hcb,hc2,hz',zab,zad,zae,zag,zai,zaa,Tryz.f44,Sd1,Sc0])
        refine⟨⟨a+1,m4,by omega,by omega,trivial⟩,by simp only;omega,?_⟩
        refine zah ?_ ?_ ?_<;>(try simp only[go_sem,htp,hcs,hz])
        all_goals first|done|rfl|omega
    · have hz':(((l.count a:Nat):Int)=0)=False:=eq_false (by omega)
      rw[if_neg hz]at htp
      cases hcb:zr0 l a
      all_goals
        rw[hcb]at hcs
        repeat'(first|refine And.intro ?_ ?_|exact True.intro|refine rq fun _=>?_|refine rf fun _=>?_|simp only[go_sem,Nat.lt_irrefl,Int.lt_irrefl,htk,hcb,hc2,hz',zab,zad,zae,zag,zai,zaa,Tryz.f44,Sd1,Sc0])
        refine⟨⟨a+1,m4,by omega,by omega,trivial⟩,by simp only;omega,?_⟩
        refine zah ?_ ?_ ?_<;>(try simp only[go_sem,htp,hcs])
        all_goals first|done|rfl|omega
  obtain rfl:j=a:=by omega
  have hcn:zr0 l j=decide l.Nodup:=zqL fun x hx=>hlt x hx
  have hokN:∀(hn:l.Nodup),okL s l:=fun hn=>⟨hs.hol,hn,by rw[hll,hN,hM],by rw[hll];exact hu,fun x hx=>by rw[hL];exact hlt x hx⟩
  have hab:zya s (zaF l):=⟨hs,by rw[hlil,zuQ,hN,hM,hll];exact Nat.le_refl _,by rw[hlil,hll];omega⟩
  have htop:∀(hn:l.Nodup),znN l j=((zdE (nP s) l:Nat):Int):=fun hn=>by rw[hjn];exact zzK (hokN hn)
  have hlies:∀x y:Nat,zmY s (zaF l) (x:Int) (y:Int)=zfP (zjl s l) x (nP s+1) y:=ztG s l
  have hbadN:¬l.Nodup→okD s l=false:=fun h=>by unfold okD;rw[decide_eq_false h];rfl
  have hbadT:zcx s l=false→okD s l=false:=fun h=>by unfold okD okS;rw[h];simp
  repeat'(first|refine And.intro ?_ ?_|exact True.intro|refine rq fun _=>?_|refine rf fun _=>?_|simp only[go_sem,Nat.lt_irrefl,Int.lt_irrefl,zab,zad,zae,zag,zai,zaa,Tryz.f44,Sd1,Sc0])
  refine zn3 (.exit 8) (fun q:zEO m3 (fun b=>(b=true→l.Nodup∧zcx s l=true)∧(b=false→okD s l=false))=>⟨frL [(1,.ptr (44001,0) 0),(5,.fz (.sl (U.map enc))),(6,.fz (.sl (N.map enc))),(11,.arr (44055,m) 1 0 M),(4,.fz (.i .i64 j)),(9,.ow (44181,g1) 1 ((O).map enc)),(10,.ow (44185,g2) 4 ((F).map enc)),(12,.fz (.b q.b)),(13,.fz (.i .i64 (znN l j)))],hpL [((44001,0),some ⟨[.fz (.sl (s.pieces.map enc)),.fz (.sl (s.overs.map enc)),.fz (.sl (s.vars.map enc))],true,false⟩),((44055,m),some ⟨zaf ((zaF l).map enc),false,false⟩),((44181,g1),some tok),((44185,g2),some tok)],q.m⟩) ?_ ?_
  case refine_2=>
    refine zam Go.Proofs.YtmconmiemdinkaaGreatDoor.hm zhK 44000 (lsw [51,179,181,185] [1000052,1000060]) (ι:=zsj j m3 fun i b=>(b=true→l.Nodup∧∀k,k<i→zfP (zjl s l) (zdE (nP s) l) (nP s+1) k=true)∧(b=false→okD s l=false))
      ⟨fun q=>⟨frL [(1,.ptr (44001,0) 0),(5,.fz (.sl (U.map enc))),(6,.fz (.sl (N.map enc))),(11,.arr (44055,m) 1 0 M),(4,.fz (.i .i64 j)),(9,.ow (44181,g1) 1 ((O).map enc)),(10,.ow (44185,g2) 4 ((F).map enc)),(12,.fz (.b q.b)),(13,.fz (.i .i64 (znN l j))),(18,.fz (.i .i64 q.i))],
        hpL [((44001,0),some ⟨[.fz (.sl (s.pieces.map enc)),.fz (.sl (s.overs.map enc)),.fz (.sl (s.vars.map enc))],true,false⟩),((44055,m),some ⟨zaf ((zaF l).map enc),false,false⟩),((44181,g1),some tok),((44185,g2),some tok)],q.m⟩,fun q=>j-q.i⟩
      ⟨0,zr0 l j,m3,by omega,Nat.le_refl _,by rw[hcn];exact⟨fun h=>⟨of_decide_eq_true h,fun k hk=>absurd hk (Nat.not_lt_zero k)⟩,fun h=>hbadN (of_decide_eq_false h)⟩⟩ (by kernel_rfl) ?_ ?_
    · refine zah ?_ ?_ ?_<;>(try simp only[go_sem])
      all_goals first|done|rfl|omega
    rintro⟨i2,b,m4,hi2,hm5,hb1,hb2⟩
    try simp only at hi2 hm5 hb1 hb2
    cases b with
    |false=>
      repeat'(first|refine And.intro ?_ ?_|exact True.intro|refine rq fun _=>?_|refine rf fun _=>?_|simp only[go_sem,zab,zad,zae,zag,zai,zaa,Tryz.f44,Sd1,Sc0])
      refine⟨⟨false,m4,by omega,by simp,fun _=>hb2 rfl⟩,?_⟩
      refine zah ?_ ?_ ?_<;>(try simp only[go_sem])
      all_goals first|done|rfl|omega
    |true=>
      obtain⟨hn,hall2⟩:=hb1 rfl
      have hte:=htop hn
      rcases Nat.lt_or_ge i2 j with h2|h2
      · have h9:((i2:Int)<(j:Int))=True:=eq_true (by omega)
        have hli:=hlies (zdE (nP s) l) i2
        repeat'(first|refine zaQ.i (zzf hab (by simp only;omega) (by simp only[go_sem]) (by rw[hlil,hll]) fun n' hn'=>?_)|refine And.intro ?_ ?_|exact True.intro|refine rq fun _=>?_|refine rf fun _=>?_|simp only[go_sem,h9,hte,zab,zad,zae,zag,zai,zaa,Tryz.f44,Sd1,Sc0])
        cases hr:zfP (zjl s l) (zdE (nP s) l) (nP s+1) i2 with
        |true=>
          rw[hr]at hli
          repeat'(first|refine And.intro ?_ ?_|exact True.intro|refine rq fun _=>?_|refine rf fun _=>?_|simp only[go_sem,hli,zab,zad,zae,zag,zai,zaa,Tryz.f44,Sd1,Sc0])
          refine⟨⟨i2+1,true,n',by omega,by omega,fun _=>⟨hn,fun k hk=>?_⟩,by simp⟩,by simp only;omega,?_⟩
          · rcases Nat.lt_or_ge k i2 with h4|h4
            · exact hall2 k h4
            · rw[show k=i2 by omega];exact hr
          · refine zah ?_ ?_ ?_<;>(try simp only[go_sem,hte])
            all_goals first|done|rfl|omega
        |false=>
          rw[hr]at hli
          repeat'(first|refine And.intro ?_ ?_|exact True.intro|refine rq fun _=>?_|refine rf fun _=>?_|simp only[go_sem,hli,zab,zad,zae,zag,zai,zaa,Tryz.f44,Sd1,Sc0])
          refine⟨⟨i2+1,false,n',by omega,by omega,by simp,fun _=>hbadT ?_⟩,by simp only;omega,?_⟩
          · unfold zcx
            rw[Bool.eq_false_iff]
            intro h
            have:=List.all_eq_true.1 h i2 (List.mem_range.2 (by omega))
            rw[hr]at this;cases this
          · refine zah ?_ ?_ ?_<;>(try simp only[go_sem,hte])
            all_goals first|done|rfl|omega
      · obtain rfl:j=i2:=by omega
        repeat'(first|refine And.intro ?_ ?_|exact True.intro|refine rq fun _=>?_|refine rf fun _=>?_|simp only[go_sem,Nat.lt_irrefl,Int.lt_irrefl,zab,zad,zae,zag,zai,zaa,Tryz.f44,Sd1,Sc0])
        refine⟨⟨true,m4,by omega,fun _=>⟨hn,?_⟩,by simp⟩,?_⟩
        · unfold zcx
          rw[List.all_eq_true]
          intro k hk
          exact hall2 k (by rw[hjn];exact List.mem_range.1 hk)
        · refine zah ?_ ?_ ?_<;>(try simp only[go_sem])
          all_goals first|done|rfl|omega
  rintro⟨b,m4,hm5,hb1,hb2⟩
  try simp only at hm5 hb1 hb2
  obtain⟨Lo,hLo⟩:∃Lo,s.overs.length=Lo:=⟨_,rfl⟩
  have hovl:=hs.ov
  rw[hLo]at hovl
  have hbadO:∀o∈s.overs,zgX s l o=false→okD s l=false:=fun o ho h=>by
    have h2:s.overs.all (zgX s l)=false:=by
      rw[Bool.eq_false_iff]
      intro h3
      have:=List.all_eq_true.1 h3 o ho
      rw[h]at this;cases this
    unfold okD okS;rw[h2];simp
  have hNd:N.Nodup:=by rw[←hN];exact hs.hol
  repeat'(first|refine And.intro ?_ ?_|exact True.intro|refine rq fun _=>?_|refine rf fun _=>?_|simp only[go_sem,zab,zad,zae,zag,zai,zaa,Tryz.f44,Sd1,Sc0])
  have hTl:(zaF l).length=M:=by rw[hlil,hll]
  have hsuc:=zox s i
  rw[hN,hM,←hjn,hl,hDe,hO]at hsuc
  apply zG4 (A:=fun c q=>∀(g1 g2 mm:Nat) (O':List (List Int)) (F':List Abs.zac),g1<mm→g2<mm→m+3≤mm→zd8 s (i+1)=O'→O'.map (zfC s)=F'→@WK Tryz.prog GA 215 c ⟨frL [(1,.ptr (44001,0) 0),(5,.fz (.sl (U.map enc))),(6,.fz (.sl (N.map enc))),(11,.arr (44055,m) 1 0 M),(4,.fz (.i .i64 j)),(9,.ow (44181,g1) 1 ((O').map enc)),(10,.ow (44185,g2) 4 ((F').map enc)),(29,.fz (.i .i64 ((M:Int)-1)))],hpL [((44001,0),some ⟨[.fz (.sl (s.pieces.map enc)),.fz (.sl (s.overs.map enc)),.fz (.sl (s.vars.map enc))],true,false⟩),((44055,m),some ⟨zaf ((zaF l).map enc),false,false⟩),((44181,g1),some tok),((44185,g2),some tok)],mm⟩ ⟨q⟩)
  case h1=>
    intro hT
    refine zn3 (.exit 10) (fun q:zEO m4 (fun b=>(b=true→l.Nodup∧zcx s l=true∧s.overs.all (zgX s l)=true)∧(b=false→okD s l=false))=>⟨frL [(1,.ptr (44001,0) 0),(5,.fz (.sl (U.map enc))),(6,.fz (.sl (N.map enc))),(11,.arr (44055,m) 1 0 M),(4,.fz (.i .i64 j)),(9,.ow (44181,g1) 1 ((O).map enc)),(10,.ow (44185,g2) 4 ((F).map enc)),(12,.fz (.b q.b)),(13,.fz (.i .i64 (znN l j)))],hpL [((44001,0),some ⟨[.fz (.sl (s.pieces.map enc)),.fz (.sl (s.overs.map enc)),.fz (.sl (s.vars.map enc))],true,false⟩),((44055,m),some ⟨zaf ((zaF l).map enc),false,false⟩),((44181,g1),some tok),((44185,g2),some tok)],q.m⟩) ?_ ?_
    case refine_2=>
      clear hT
      refine zam Go.Proofs.YtmconmiemdinkaaGreatDoor.hm zhK 44000 (lsw [51,179,181,185] [1000052,1000060]) (ι:=zsj Lo m4 fun i b=>(b=true→l.Nodup∧zcx s l=true∧(s.overs.take i).all (zgX s l)=true)∧(b=false→okD s l=false))
        ⟨fun q=>⟨frL [(1,.ptr (44001,0) 0),(5,.fz (.sl (U.map enc))),(6,.fz (.sl (N.map enc))),(11,.arr (44055,m) 1 0 M),(4,.fz (.i .i64 j)),(9,.ow (44181,g1) 1 ((O).map enc)),(10,.ow (44185,g2) 4 ((F).map enc)),(12,.fz (.b q.b)),(13,.fz (.i .i64 (znN l j))),(19,.fz (.i .i64 q.i))],
          hpL [((44001,0),some ⟨[.fz (.sl (s.pieces.map enc)),.fz (.sl (s.overs.map enc)),.fz (.sl (s.vars.map enc))],true,false⟩),((44055,m),some ⟨zaf ((zaF l).map enc),false,false⟩),((44181,g1),some tok),((44185,g2),some tok)],q.m⟩,fun q=>Lo-q.i⟩
        ⟨0,b,m4,by omega,Nat.le_refl _,fun h=>⟨(hb1 h).1,(hb1 h).2,by simp⟩,hb2⟩ (by kernel_rfl) ?_ ?_
      · refine zah ?_ ?_ ?_<;>(try simp only[go_sem])
        all_goals first|done|rfl|omega
      rintro⟨i2,c,m5,hi2,hm6,hc1,hc2⟩
      try simp only at hi2 hm6 hc1 hc2
      cases c with
      |false=>
        repeat'(first|refine And.intro ?_ ?_|exact True.intro|refine rq fun _=>?_|refine rf fun _=>?_|simp only[go_sem,zab,zad,zae,zag,zai,zaa,Tryz.f44,Sd1,Sc0])
        refine⟨⟨false,m5,by omega,by simp,fun _=>hc2 rfl⟩,?_⟩
        refine zah ?_ ?_ ?_<;>(try simp only[go_sem])
        all_goals first|done|rfl|omega
      |true=>
        obtain⟨hn,htr,hall2⟩:=hc1 rfl
        rcases Nat.lt_or_ge i2 Lo with h2|h2
        · have h9:((i2:Int)<(Lo:Int))=True:=eq_true (by omega)
          have h2':i2<s.overs.length:=by omega
          obtain⟨ob,hob⟩:∃ob,s.overs[i2]=ob:=⟨_,rfl⟩
          have hmem:ob∈s.overs:=by rw[←hob];exact List.getElem_mem h2'
          obtain⟨ho1,ho2⟩:=hs.ovs ob hmem
          have hts:=List.take_succ_eq_append_getElem h2'
          rw[hob]at hts
          have hx0:∀(Z:List Str) (x:Str),hIx Z x 0=0:=fun Z x=>rfl
          repeat'(first|refine And.intro ?_ ?_|exact True.intro|refine rq fun _=>?_|refine rf fun _=>?_|simp only[go_sem,h9,h2,h2',hob,hLo,zab,zad,zae,zag,zai,zaa,Tryz.f44,Sd1,Sc0])
          refine zam Go.Proofs.YtmconmiemdinkaaGreatDoor.hm zhK 44000 (lsw [51,179,181,185] [1000052,1000060]) (ι:=zeC M (m5+1) fun _=>True)
            ⟨fun q=>⟨frL [(1,.ptr (44001,0) 0),(5,.fz (.sl (U.map enc))),(6,.fz (.sl (N.map enc))),(11,.arr (44055,m) 1 0 M),(4,.fz (.i .i64 j)),(9,.ow (44181,g1) 1 ((O).map enc)),(10,.ow (44185,g2) 4 ((F).map enc)),(12,.fz (.b true)),(13,.fz (.i .i64 (znN l j))),(19,.fz (.i .i64 i2)),(20,.ptr (44020,m5) 0),(21,.fz (.i .i64 (hIx N ob.hole q.i))),(22,.fz (.i .i64 0)),(110,.fz (.i .i64 M)),(111,.fz (.i .i64 q.i))],
              hpL [((44001,0),some ⟨[.fz (.sl (s.pieces.map enc)),.fz (.sl (s.overs.map enc)),.fz (.sl (s.vars.map enc))],true,false⟩),((44055,m),some ⟨zaf ((zaF l).map enc),false,false⟩),((44181,g1),some tok),((44185,g2),some tok),((44020,m5),some ⟨[.fz (.s ob.hole.l),.fz (.s ob.label.l)],true,false⟩)],q.m⟩,fun q=>M-q.i⟩
            ⟨0,m5+1,by omega,Nat.le_refl _,trivial⟩ (by kernel_rfl) ?_ ?_
          · refine zah ?_ ?_ ?_<;>(try simp only[go_sem,hx0,hM])
            all_goals first|done|rfl|omega
          rintro⟨q,m6,hq,hm7,_⟩
          try simp only at hq hm7
          rcases Nat.lt_or_ge q M with h3|h3
          · have h3':q<N.length:=by omega
            have h8:((q:Int)<(M:Int))=True:=eq_true (by omega)
            obtain⟨y,hy⟩:∃y,N[q]=y:=⟨_,rfl⟩
            by_cases hyx:y=ob.hole
            · have hyl:(y.l=ob.hole.l)=True:=eq_true (by rw[hyx])
              have hst:=ztl hNd h3' (hy.trans hyx)
              repeat'(first|refine And.intro ?_ ?_|exact True.intro|refine rq fun _=>?_|refine rf fun _=>?_|simp only[go_sem,h8,h3',hy,hyl,zab,zad,zae,zag,zai,zaa,Tryz.f44,Sd1,Sc0])
              refine⟨⟨q+1,m6,by omega,by omega,trivial⟩,by simp only;omega,?_⟩
              refine zah ?_ ?_ ?_<;>(try simp only[go_sem,hst])
              all_goals first|done|rfl|omega
            · have hyl:(y.l=ob.hole.l)=False:=eq_false fun e=>hyx (by cases h:y;cases h2:ob.hole;rw[h,h2]at e;exact congrArg Str.mk e)
              have hst:=zpI (x:=ob.hole) h3' (by rw[hy];exact hyx)
              repeat'(first|refine And.intro ?_ ?_|exact True.intro|refine rq fun _=>?_|refine rf fun _=>?_|simp only[go_sem,h8,h3',hy,hyl,zab,zad,zae,zag,zai,zaa,Tryz.f44,Sd1,Sc0])
              refine⟨⟨q+1,m6,by omega,by omega,trivial⟩,by simp only;omega,?_⟩
              refine zah ?_ ?_ ?_<;>(try simp only[go_sem,hst])
              all_goals first|done|rfl|omega
          obtain rfl:M=q:=by omega
          have hend:=ztk (N:=N) (x:=ob.hole) (by rw[←hN];exact ho1)
          rw[hM]at hend
          have hlal:(zaK s.pieces).length=j:=by unfold zaK;rw[List.length_map];exact hL
          have hpj:s.pieces.length=j:=hL
          repeat'(first|refine And.intro ?_ ?_|exact True.intro|refine rq fun _=>?_|refine rf fun _=>?_|simp only[go_sem,Nat.lt_irrefl,Int.lt_irrefl,hL,hend,zab,zad,zae,zag,zai,zaa,Tryz.f44,Sd1,Sc0])
          refine zam Go.Proofs.YtmconmiemdinkaaGreatDoor.hm zhK 44000 (lsw [51,179,181,185] [1000052,1000060]) (ι:=zeC j m6 fun _=>True)
            ⟨fun q=>⟨frL [(1,.ptr (44001,0) 0),(5,.fz (.sl (U.map enc))),(6,.fz (.sl (N.map enc))),(11,.arr (44055,m) 1 0 M),(4,.fz (.i .i64 j)),(9,.ow (44181,g1) 1 ((O).map enc)),(10,.ow (44185,g2) 4 ((F).map enc)),(12,.fz (.b true)),(13,.fz (.i .i64 (znN l j))),(19,.fz (.i .i64 i2)),(20,.ptr (44020,m5) 0),(21,.fz (.i .i64 (N.idxOf ob.hole:Nat))),(22,.fz (.i .i64 (hIx (zaK s.pieces) ob.label q.i))),(125,.fz (.i .i64 j)),(126,.fz (.i .i64 q.i))],
              hpL [((44001,0),some ⟨[.fz (.sl (s.pieces.map enc)),.fz (.sl (s.overs.map enc)),.fz (.sl (s.vars.map enc))],true,false⟩),((44055,m),some ⟨zaf ((zaF l).map enc),false,false⟩),((44181,g1),some tok),((44185,g2),some tok),((44020,m5),some ⟨[.fz (.s ob.hole.l),.fz (.s ob.label.l)],true,false⟩)],q.m⟩,fun q=>j-q.i⟩
            ⟨0,m6,by omega,Nat.le_refl _,trivial⟩ (by kernel_rfl) ?_ ?_
          · refine zah ?_ ?_ ?_<;>(try simp only[go_sem,hx0])
            all_goals first|done|rfl|omega
          rintro⟨q,m7,hq,hm8,_⟩
          try simp only at hq hm8
          rcases Nat.lt_or_ge q j with h3|h3
          · have h3':q<s.pieces.length:=by omega
            have h8:((q:Int)<(j:Int))=True:=eq_true (by omega)
            obtain⟨y,hy⟩:∃y,s.pieces[q]=y:=⟨_,rfl⟩
            have h3b:q<(zaK s.pieces).length:=by omega
            have hlab:(zaK s.pieces)[q]=y.label:=by simp only[zaK,List.getElem_map,hy]
            by_cases hyx:y.label=ob.label
            · have hyl:(y.label.l=ob.label.l)=True:=eq_true (by rw[hyx])
              have hst:=ztl hs.lab h3b (hlab.trans hyx)
              repeat'(first|refine And.intro ?_ ?_|exact True.intro|refine rq fun _=>?_|refine rf fun _=>?_|simp only[go_sem,h8,h3',hy,hyl,zab,zad,zae,zag,zai,zaa,Tryz.f44,Sd1,Sc0])
              refine⟨⟨q+1,m7,by omega,by omega,trivial⟩,by simp only;omega,?_⟩
              refine zah ?_ ?_ ?_<;>(try simp only[go_sem,hst])
              all_goals first|done|rfl|omega
            · have hyl:(y.label.l=ob.label.l)=False:=eq_false fun e=>hyx (by cases h:y.label;cases h2:ob.label;rw[h,h2]at e;exact congrArg Str.mk e)
              have hst:=zpI (x:=ob.label) h3b (by rw[hlab];exact hyx)
              repeat'(first|refine And.intro ?_ ?_|exact True.intro|refine rq fun _=>?_|refine rf fun _=>?_|simp only[go_sem,h8,h3',hy,hyl,zab,zad,zae,zag,zai,zaa,Tryz.f44,Sd1,Sc0])
              refine⟨⟨q+1,m7,by omega,by omega,trivial⟩,by simp only;omega,?_⟩
              refine zah ?_ ?_ ?_<;>(try simp only[go_sem,hst])
              all_goals first|done|rfl|omega
          obtain rfl:j=q:=by omega
          have hend2:=ztk (N:=zaK s.pieces) (x:=ob.label) ho2
          rw[hlal]at hend2
          have hix:N.idxOf ob.hole<l.length:=by rw[hll,←hM];exact List.idxOf_lt_length_of_mem (by rw[←hN];exact ho1)
          have hin:l[N.idxOf ob.hole]=inP s l ob.hole:=by
            unfold inP
            rw[hN,List.getD_eq_getElem?_getD,List.getElem?_eq_getElem hix];rfl
          have gd:=kg.out _ hix
          rw[hin]at gd
          obtain⟨z,hz⟩:∃z,N.idxOf ob.hole=z:=⟨_,rfl⟩
          rw[hz]at gd hix
          have hli:zmY s (zaF l) ((inP s l ob.hole:Nat):Int) (((zaK s.pieces).idxOf ob.label:Nat):Int)=zgX s l ob:=hlies _ _
          cases hr:zgX s l ob with
          |true=>
            rw[hr]at hli
            repeat'(first|refine zaQ.i (zzf hab (by simp only;omega) (by simp only[go_sem]) (by rw[hlil,hll]) fun n' hn'=>?_)|refine And.intro ?_ ?_|exact True.intro|refine rq fun _=>?_|refine rf fun _=>?_|simp only[go_sem,Nat.lt_irrefl,Int.lt_irrefl,hend2,hz,gd,hfl,hli,zab,zad,zae,zag,zai,zaa,Tryz.f44,Sd1,Sc0])
            refine⟨⟨i2+1,true,n',by omega,by omega,fun _=>⟨hn,htr,by rw[hts,List.all_append,hall2];simp[hr]⟩,by simp⟩,by simp only;omega,?_⟩
            refine zah ?_ ?_ ?_<;>(try simp only[go_sem])
            all_goals first|done|rfl|omega
          |false=>
            rw[hr]at hli
            repeat'(first|refine zaQ.i (zzf hab (by simp only;omega) (by simp only[go_sem]) (by rw[hlil,hll]) fun n' hn'=>?_)|refine And.intro ?_ ?_|exact True.intro|refine rq fun _=>?_|refine rf fun _=>?_|simp only[go_sem,Nat.lt_irrefl,Int.lt_irrefl,hend2,hz,gd,hfl,hli,zab,zad,zae,zag,zai,zaa,Tryz.f44,Sd1,Sc0])
            refine⟨⟨i2+1,false,n',by omega,by omega,by simp,fun _=>hbadO ob hmem hr⟩,by simp only;omega,?_⟩
            refine zah ?_ ?_ ?_<;>(try simp only[go_sem])
            all_goals first|done|rfl|omega
        · obtain rfl:i2=Lo:=by omega
          rw[List.take_of_length_le (by omega)]at hall2
          repeat'(first|refine And.intro ?_ ?_|exact True.intro|refine rq fun _=>?_|refine rf fun _=>?_|simp only[go_sem,Nat.lt_irrefl,Int.lt_irrefl,hLo,zab,zad,zae,zag,zai,zaa,Tryz.f44,Sd1,Sc0])
          refine⟨⟨true,m5,by omega,fun _=>⟨hn,htr,hall2⟩,by simp⟩,?_⟩
          refine zah ?_ ?_ ?_<;>(try simp only[go_sem])
          all_goals first|done|rfl|omega
    rintro⟨b,m5,hm6,hb1,hb2⟩
    try simp only at hm6 hb1 hb2
    have hOl:O.length≤100000:=by
      have h1:=zjW (s:=s) (i:=i)
      have h2:=zng (j:=j) (M:=M) (by omega) (by omega)
      rw[←hO];omega
    have hFl:F.length≤100000:=by rw[←hF,List.length_map];exact hOl
    cases b with
    |false=>
      rw[if_neg (by rw[hb2 rfl];decide),List.append_nil]at hsuc
      repeat'(first|refine And.intro ?_ ?_|exact True.intro|refine rq fun _=>?_|refine rf fun _=>?_|simp only[go_sem,hTl,zab,zad,zae,zag,zai,zaa,Tryz.f44,Sd1,Sc0])
      refine zb0 ?_ (hT g1 g2 m5 O F (by omega) (by omega) (by omega) hsuc hF)
      refine zah ?_ ?_ ?_<;>(try simp only[go_sem])
      all_goals first|done|rfl|omega
    |true=>
      obtain⟨hn,htr,hov⟩:=hb1 rfl
      have hk:=hokN hn
      have hte:=htop hn
      have hwf:=zhc hk htr
      have hws:=zck hs hk htr
      have hwt:(zcz s l).fit=true:=zcQ hs _ _
      have htl:zdE (nP s) l<s.pieces.length:=hk.t.1
      obtain⟨t,htt⟩:∃t,zdE (nP s) l=t:=⟨_,rfl⟩
      rw[htt]at hte hwf htl
      obtain⟨pc,hpc⟩:∃pc,s.pieces[t]=pc:=⟨_,rfl⟩
      have hfo:zbH s t=pc.form:=by unfold zbH;rw[List.getElem?_eq_getElem htl,hpc]
      rw[hfo]at hwf
      have hwd:zfC s (zaF l)=zcz s l:=by unfold zfC;rw[zc3]
      have hfop:zeA (zbY s l) s pc.form:=⟨⟨ztY hs hk,by rw[zec];exact htr⟩,fun h hh=>zdK (i:=t) (by rw[zbV,hfo];exact hh),by
        have:=za3 (hs.chk pc (by rw[←hpc];exact List.getElem_mem _));omega⟩
      have hvar:∀v,zvc s l v= !decide (v∈zgL (zcz s l) [] []):=fun v=>by
        unfold zvc
        congr 1
        exact decide_eq_decide.2 (by rw[zlf];simp)
      have hokV:okD s l=s.vars.all (zvc s l):=by unfold okD okS;rw[decide_eq_true hn,htr,hov];simp
      obtain⟨W,hW⟩:∃W,zcz s l=W:=⟨_,rfl⟩
      rw[hW]at hwf hws hwt hwd hvar
      have hcw:W.fit=true∧W.size≤1000:=⟨hwt,by omega⟩
      obtain⟨Lv,hLv⟩:∃Lv,s.vars.length=Lv:=⟨_,rfl⟩
      have hvl:=hs.vs
      rw[hLv]at hvl
      have kva:=Kp.mk hvar
      clear hvar
      apply zG4 (A:=fun cc q=>∀(c mm:Nat),c<mm→m+3≤mm→g1<mm→g2<mm→@WK Tryz.prog GA 215 cc ⟨frL [(1,.ptr (44001,0) 0),(5,.fz (.sl (U.map enc))),(6,.fz (.sl (N.map enc))),(11,.arr (44055,m) 1 0 M),(4,.fz (.i .i64 j)),(9,.ow (44181,g1) 1 ((O).map enc)),(10,.ow (44185,g2) 4 ((F).map enc)),(12,.fz (.b true)),(25,.ptr (44025,c) 0),(26,.fz (.sl ((zgL W [] []).map enc))),(161,.fz (.sl (s.vars.map enc))),(162,.fz (.i .i64 Lv)),(163,.fz (.i .i64 0))],hpL [((44001,0),some ⟨[.fz (.sl (s.pieces.map enc)),.fz (.sl (s.overs.map enc)),.fz (.sl (s.vars.map enc))],true,false⟩),((44055,m),some ⟨zaf ((zaF l).map enc),false,false⟩),((44181,g1),some tok),((44185,g2),some tok),((44025,c),some ⟨[.fz (.i .i64 W.kind),.fz (.s W.name.l),.fz (.sl (W.words.map enc)),.fz (.sl (W.subs.map enc))],true,false⟩)],mm⟩ ⟨q⟩)
      case h1=>
        intro hV
        repeat'(first|refine zbk (id:=52) Go.Proofs.YtmconmiemdinkaaGreatDoor.hm zhK 44000 (lsw [51,179,181,185] [1000052,1000060]) zuA (by kernel_rfl) (by kernel_rfl) ?_|refine zaq.i hcw fun _=>?_|refine zaQ.i (zyB hs hk hll.symm (zfd s l pc.form+1) pc.form _ _ _ (by omega) hfop (by simp only;omega) (by simp only[go_sem]) fun n' hn'=>?_)|rw[hwf]|refine And.intro ?_ ?_|exact True.intro|refine rq fun _=>?_|refine rf fun _=>?_|simp only[go_sem,zuA,hte,htl,hpc,hLv,zab,zad,zae,zag,zai,zaa,Tryz.f44,Sd1,Sc0])
        all_goals
          first
          |(refine zb0 ?_ (hV n' (n'+1) (by omega) (by omega) (by omega) (by omega));refine zah ?_ ?_ ?_<;>(try simp only[go_sem])<;>first|done|rfl|omega)
          |(refine zb0 ?_ (hV m5 n' (by omega) (by omega) (by omega) (by omega));refine zah ?_ ?_ ?_<;>(try simp only[go_sem])<;>first|done|rfl|omega)
      case h2=>
        clear hb1 hb2 hm6 m5
        intro c m5 hcm hm6 hg1 hg2
        refine zn3 (.exit 16) (fun q:zEO m5 (fun b=>(b=true→okD s l=true)∧(b=false→okD s l=false))=>⟨frL [(1,.ptr (44001,0) 0),(5,.fz (.sl (U.map enc))),(6,.fz (.sl (N.map enc))),(11,.arr (44055,m) 1 0 M),(4,.fz (.i .i64 j)),(9,.ow (44181,g1) 1 ((O).map enc)),(10,.ow (44185,g2) 4 ((F).map enc)),(12,.fz (.b q.b)),(25,.ptr (44025,c) 0)],hpL [((44001,0),some ⟨[.fz (.sl (s.pieces.map enc)),.fz (.sl (s.overs.map enc)),.fz (.sl (s.vars.map enc))],true,false⟩),((44055,m),some ⟨zaf ((zaF l).map enc),false,false⟩),((44181,g1),some tok),((44185,g2),some tok),((44025,c),some ⟨[.fz (.i .i64 W.kind),.fz (.s W.name.l),.fz (.sl (W.words.map enc)),.fz (.sl (W.subs.map enc))],true,false⟩)],q.m⟩) ?_ ?_
        case refine_2=>
          refine zam Go.Proofs.YtmconmiemdinkaaGreatDoor.hm zhK 44000 (lsw [51,179,181,185] [1000052,1000060]) (ι:=zsj Lv m5 fun i b=>(b=true→(s.vars.take i).all (zvc s l)=true)∧(b=false→okD s l=false))
            ⟨fun q=>⟨frL [(1,.ptr (44001,0) 0),(5,.fz (.sl (U.map enc))),(6,.fz (.sl (N.map enc))),(11,.arr (44055,m) 1 0 M),(4,.fz (.i .i64 j)),(9,.ow (44181,g1) 1 ((O).map enc)),(10,.ow (44185,g2) 4 ((F).map enc)),(12,.fz (.b q.b)),(25,.ptr (44025,c) 0),(26,.fz (.sl ((zgL W [] []).map enc))),(161,.fz (.sl (s.vars.map enc))),(162,.fz (.i .i64 Lv)),(163,.fz (.i .i64 (q.i:Nat)))],
              hpL [((44001,0),some ⟨[.fz (.sl (s.pieces.map enc)),.fz (.sl (s.overs.map enc)),.fz (.sl (s.vars.map enc))],true,false⟩),((44055,m),some ⟨zaf ((zaF l).map enc),false,false⟩),((44181,g1),some tok),((44185,g2),some tok),((44025,c),some ⟨[.fz (.i .i64 W.kind),.fz (.s W.name.l),.fz (.sl (W.words.map enc)),.fz (.sl (W.subs.map enc))],true,false⟩)],q.m⟩,fun q=>Lv-q.i⟩
            ⟨0,true,m5,by omega,by omega,by simp⟩ (by kernel_rfl) ?_ ?_
          · refine zah ?_ ?_ ?_<;>(try simp only[go_sem])
            all_goals first|done|rfl|omega
          rintro⟨k,b,m6,hk6,hm7,hc1,hc2⟩
          try simp only at hk6 hm7 hc1 hc2
          rcases Nat.lt_or_ge k Lv with h2|h2
          · have h2':k<s.vars.length:=by omega
            have h9:((k:Int)<(Lv:Int))=True:=eq_true (by omega)
            obtain⟨v,hv⟩:∃v,s.vars[k]=v:=⟨_,rfl⟩
            have hmem:v∈s.vars:=by rw[←hv];exact List.getElem_mem h2'
            have gv:=kva.out v
            have hts:=List.take_succ_eq_append_getElem h2'
            rw[hv]at hts
            cases b with
            |false=>
              repeat'(first|refine And.intro ?_ ?_|exact True.intro|refine rq fun _=>?_|refine rf fun _=>?_|simp only[go_sem,h9,h2',hv,zab,zad,zae,zag,zai,zaa,Tryz.f44,Sd1,Sc0])
              refine⟨⟨k+1,false,m6,by omega,by omega,by simp,hc2⟩,by simp only;omega,?_⟩
              refine zah ?_ ?_ ?_<;>(try simp only[go_sem])
              all_goals first|done|rfl|omega
            |true=>
              cases hb:decide (v∈zgL W [] [])with
              |true=>
                rw[hb]at gv
                have hbad:okD s l=false:=by
                  rw[hokV,Bool.eq_false_iff]
                  intro h
                  have:=List.all_eq_true.1 h v hmem
                  rw[gv]at this;cases this
                repeat'(first|refine And.intro ?_ ?_|exact True.intro|refine rq fun _=>?_|refine rf fun _=>?_|simp only[go_sem,h9,h2',hv,hb,zab,zad,zae,zag,zai,zaa,Tryz.f44,Sd1,Sc0])
                refine⟨⟨k+1,false,m6,by omega,by omega,by simp,fun _=>hbad⟩,by simp only;omega,?_⟩
                refine zah ?_ ?_ ?_<;>(try simp only[go_sem])
                all_goals first|done|rfl|omega
              |false=>
                rw[hb]at gv
                repeat'(first|refine And.intro ?_ ?_|exact True.intro|refine rq fun _=>?_|refine rf fun _=>?_|simp only[go_sem,h9,h2',hv,hb,zab,zad,zae,zag,zai,zaa,Tryz.f44,Sd1,Sc0])
                refine⟨⟨k+1,true,m6,by omega,by omega,fun _=>by rw[hts,List.all_append,hc1 rfl];simp[gv],by simp⟩,by simp only;omega,?_⟩
                refine zah ?_ ?_ ?_<;>(try simp only[go_sem])
                all_goals first|done|rfl|omega
          obtain rfl:Lv=k:=by omega
          repeat'(first|refine And.intro ?_ ?_|exact True.intro|refine rq fun _=>?_|refine rf fun _=>?_|simp only[go_sem,Nat.lt_irrefl,Int.lt_irrefl,zab,zad,zae,zag,zai,zaa,Tryz.f44,Sd1,Sc0])
          refine⟨⟨b,m6,by omega,fun h=>by rw[hokV,←hc1 h,List.take_of_length_le (by omega)],hc2⟩,?_⟩
          refine zah ?_ ?_ ?_<;>(try simp only[go_sem])
          all_goals first|done|rfl|omega
        rintro⟨b,m6,hm7,hc1,hc2⟩
        try simp only at hm7 hc1 hc2
        cases b with
        |false=>
          rw[if_neg (by rw[hc2 rfl];decide),List.append_nil]at hsuc
          repeat'(first|refine And.intro ?_ ?_|exact True.intro|refine rq fun _=>?_|refine rf fun _=>?_|simp only[go_sem,hTl,zab,zad,zae,zag,zai,zaa,Tryz.f44,Sd1,Sc0])
          refine zb0 ?_ (hT g1 g2 m6 O F (by omega) (by omega) (by omega) hsuc hF)
          refine zah ?_ ?_ ?_<;>(try simp only[go_sem])
          all_goals first|done|rfl|omega
        |true=>
          rw[if_pos (hc1 rfl)]at hsuc
          have htk2:(zaF l).take M=zaF l:=List.take_of_length_le (by omega)
          have hF2:(O++[zaF l]).map (zfC s)=F++[W]:=by rw[List.map_append,hF];simp only[List.map_cons,List.map_nil,hwd]
          repeat'(first|refine zbk (id:=60) Go.Proofs.YtmconmiemdinkaaGreatDoor.hm zhK 44000 (lsw [51,179,181,185] [1000052,1000060]) zuB (by kernel_rfl) (by kernel_rfl) ?_|refine And.intro ?_ ?_|exact True.intro|refine rq fun _=>?_|refine rf fun _=>?_|simp only[go_sem,hTl,htk2,zuB,zab,zad,zae,zag,zai,zaa,Tryz.f44,Sd1,Sc0])
          all_goals
            refine zb0 ?_ (hT (m6+1) (m6+1+1) (m6+1+1+1) (O++[zaF l]) (F++[W]) (by omega) (by omega) (by omega) hsuc hF2)
            refine zah ?_ ?_ ?_<;>(try simp only[go_sem,htk2])
            all_goals first|done|rfl|omega
  case h2=>
    clear hsuc hF F hO O hb1 hb2 b
    obtain⟨TA,hTA⟩:∃TA,List.replicate M j=TA:=⟨_,rfl⟩
    have hTT:TA.length=(zaF l).length:=by rw[←hTA,List.length_replicate,hTl]
    have hinc:=zmQ (s:=j) (by omega) M i hi
    rw[hTA,hDe]at hinc
    have hzA:zfA (TA.drop (M-0)) ((zaF l).drop (M-0))=(List.replicate 0 0,true):=by
      have:=ztt hTT
      rw[show TA.length=M by omega]at this
      exact this
    have hTb:∀q (h:q<(zaF l).length),0≤(zaF l)[q]∧(zaF l)[q]<(j:Int):=fun q h=>hDb _ (by rw[hDe];exact List.getElem_mem h)
    obtain⟨JA,hJA⟩:∃JA:Nat→Int,JA=fun q:Nat=>(M:Int)-1-(q:Int):=⟨_,rfl⟩
    have hJA0:JA 0=(M:Int)-1:=by rw[hJA];simp
    have hJAe:JA M= -1:=by rw[hJA];simp only;omega
    have hJAp:∀q p,p+q+1=M→JA q=(p:Int)∧JA (q+1)=(p:Int)-1:=fun q p h=>by rw[hJA];simp only;omega
    have kJA:=Kp.mk hJAp
    have kTv:=Kp.mk hTb
    have hczA:=zsP hTl
    have hfm:zd7 s=zd8 s (j^M):=by
      unfold zd7
      rw[if_neg (by rw[hN,hM];omega),hN,hM,←hjn]
    clear hJAp hTb hJA
    intro G1 G2 m5 O F hG1 hG2 hm6 hsuc hF
    refine zam Go.Proofs.YtmconmiemdinkaaGreatDoor.hm zhK 44000 (lsw [51,179,181,185] [1000052,1000060]) (ι:=zcX M fun q=>zfA (TA.drop (M-q)) ((zaF l).drop (M-q))=(List.replicate q 0,true))
      ⟨fun q=>⟨frL [(1,.ptr (44001,0) 0),(5,.fz (.sl (U.map enc))),(6,.fz (.sl (N.map enc))),(11,.arr (44055,m) 1 0 M),(4,.fz (.i .i64 j)),(9,.ow (44181,G1) 1 ((O).map enc)),(10,.ow (44185,G2) 4 ((F).map enc)),(29,.fz (.i .i64 (JA q.i)))],hpL [((44001,0),some ⟨[.fz (.sl (s.pieces.map enc)),.fz (.sl (s.overs.map enc)),.fz (.sl (s.vars.map enc))],true,false⟩),((44055,m),some ⟨zaf ((zjJ (zaF l) M q.i).map enc),false,false⟩),((44181,G1),some tok),((44185,G2),some tok)],m5⟩,fun q=>M-q.i⟩
      ⟨0,by omega,hzA⟩ (by kernel_rfl) ?_ ?_
    · refine zah ?_ ?_ ?_<;>(try simp only[go_sem,hJA0,hczA])
      all_goals first|done|rfl|omega
    rintro⟨q,hq,hpq⟩
    try simp only at hq hpq
    rcases Nat.lt_or_ge q M with h12|h12
    rotate_left
    · have hqM:q=M:=by omega
      rw[hqM,Nat.sub_self,List.drop_zero,List.drop_zero,hinc]at hpq
      have hkN:i+1=j^M:=by
        have:=congrArg Prod.snd hpq
        simpa using this
      have hfin:zgf s=(O,(O).map (zfC s)):=by unfold zgf;rw[hfm,←hkN,hsuc]
      have hJq:JA q= -1:=by rw[hqM];exact hJAe
      repeat'(first|refine And.intro ?_ ?_|exact True.intro|refine rq fun _=>?_|refine rf fun _=>?_|simp only[go_sem,hJq,zab,zad,zae,zag,zai,zaa,Tryz.f44,Sd1,Sc0])
      all_goals
        rw[hQ,hfin]
        try simp only[go_sem,hF]
        all_goals first|done|rfl|omega
    obtain⟨p,hp⟩:∃p,p+q+1=M:=⟨M-1-q,by omega⟩
    obtain⟨e1,e4⟩:=kJA.out q p hp
    have hpD:p<(zaF l).length:=by omega
    have hpT:p<TA.length:=by omega
    have hclen:=zvz hTl hq
    have hpC:p<(zjJ (zaF l) M q).length:=by omega
    have hcg:=zvy hTl hp hpC hpD
    obtain⟨d,hd⟩:∃d,(zaF l)[p]=d:=⟨_,rfl⟩
    have hdb:=kTv.out p hpD
    rw[hd]at hcg hdb
    have hgd:(zaf ((zjJ (zaF l) M q).map enc)).getD p .junk= .fz (.i .i64 d):=by rw[zmF hpC,hcg];rfl
    have hcfl:(zaf ((zjJ (zaF l) M q).map enc)).length=M:=by rw[zdw (zcf (f:=enc) (k:=1) (fun _=>rfl) _),List.length_map,hclen]
    have hT:=zJ8 hTT (by rw[show p+1=M-q by omega];exact hpq) hpT hpD
    have hta:TA[p]=j:=by simp only[←hTA,List.getElem_replicate]
    rw[hd,hta]at hT
    have e2:((0:Int)≤(p:Int))=True:=eq_true (by omega)
    have e3:((p:Int)<0)=False:=eq_false (by omega)
    have hpi:p<M:=by omega
    by_cases h11:d+1<(j:Int)
    · have h11':(d=(j:Int)-1)=False:=eq_false (by omega)
      obtain⟨E,hE⟩:∃E,(zjJ (zaF l) M q).set p (d+1)=E:=⟨_,rfl⟩
      have hst:(zaf ((zjJ (zaF l) M q).map enc)).set p (.fz (.i .i64 (d+1)))=zaf (E.map enc):=by rw[←hE,←zhV];rfl
      have h13:=hT.2 h11
      rw[hinc]at h13
      have hkN:i+1<j^M:=by
        have h14:=congrArg Prod.snd h13
        have h15:¬i+1=j^M:=by simpa using h14
        omega
      have hEn:E=zc9 j M (i+1):=by
        have h16:=congrArg Prod.fst h13
        simp only at h16
        rw[←hE,zsO hTl hp,←h16,Nat.mod_eq_of_lt hkN]
      repeat'(first|refine And.intro ?_ ?_|exact True.intro|refine rq fun _=>?_|refine rf fun _=>?_|simp only[go_sem,e1,e2,e3,hgd,hst,hpi,hcfl,hclen,h11',zab,zad,zae,zag,zai,zaa,Tryz.f44,Sd1,Sc0])
      refine⟨⟨i+1,G1,G2,m5,hkN,by omega,by omega,by omega⟩,by simp only;omega,?_⟩
      refine zah ?_ ?_ ?_<;>(try simp only[go_sem,hEn,hsuc,hF])
      all_goals first|done|rfl|omega
    · have h11':(d=(j:Int)-1)=True:=eq_true (by omega)
      have hst2:(zaf ((zjJ (zaF l) M q).map enc)).set p (.fz (.i .i64 0))=zaf ((zjJ (zaF l) M (q+1)).map enc):=by rw[←zvA hTl hp,←zhV];rfl
      repeat'(first|refine And.intro ?_ ?_|exact True.intro|refine rq fun _=>?_|refine rf fun _=>?_|simp only[go_sem,e1,e2,hgd,hst2,hpi,hcfl,hclen,h11',zab,zad,zae,zag,zai,zaa,Tryz.f44,Sd1,Sc0])
      refine⟨⟨q+1,by omega,by rw[show M-(q+1)=p by omega];exact hT.1 (by omega)⟩,by simp only;omega,?_⟩
      refine zah ?_ ?_ ?_<;>(try simp only[go_sem,e4])
      all_goals first|done|rfl|omega
end Go.Proofs.YtmconmiemdinkaaGreatDoor
