/- several texts of this proof in one; no conditions -/
import Derived.Test.YtmconmiemdinkaaGreatDoorAT
import Derived.Test.YtmconmiemdinkaaGreatDoorY3
import Derived.Test.YtmconmiemdinkaaGreatDoorY15
set_option maxRecDepth 100000
set_option maxHeartbeats 1000000
set_option linter.unusedSimpArgs false
namespace Go.Proofs.YtmconmiemdinkaaGreatDoor
open Go Go.Abs Go.Proofs
attribute [local irreducible] zav
set_option maxHeartbeats 8000000 in
theorem zJs:zan Tryz.prog GA (R28.add 34 (sp2 (fun(f:Abs.zac) op=>zaV op f) fun _ _=>True)):=by
 refine zbI zEv zAk fun f op _ hw hwb=>?_
 cases op with
 |false=>
  have h4:=zAk 34 (sp2 (fun(f:Abs.zac) op=>zaV op f) fun _ op=>op=false) [enc f,enc false] _ _ rfl (zwq) ⟨by rw[dec_enc],by rw[dec_enc],by rw[dec_enc]⟩
  rw[dec_enc,dec_enc,zfD]at h4
  exact h4
 |true=>
  obtain⟨Q,hQ⟩:∃Q:D→zax→Nat→Prop,Q=(fun d _ _=>D.val d=some (.fz (enc (zaV true f)))):=⟨_,rfl⟩
  rw[←hQ]
  have hres:∀{c i:Int} {H':zax} {n':Nat},zaV true f=⟨c,i⟩→Q (.agg [.fz (.i .i64 c),.fz (.i .i64 i)]) H' n':=fun e=>by
   rw[hQ];show _=some (D.fz (enc (zaV true f)));rw[e];rfl
  have kr:=Kp.mk @hres
  clear hres hQ
  refine zaj (N:=150) hm zAk 34000 (lst [19,148]) zEv Tryz.func34 rfl rfl (by simp) (by kernel_rfl) ?_
  repeat'(first|refine rq fun _=>?_|simp only[go_sem])
  refine zam hm zAk 34000 (lst [19,148]) (ι:={q:Stk // Kp (q.g<q.m∧q.cells.take (q.st.length*5)=zaf (q.st.map zjT)∧q.st.length*5≤q.cells.length∧4≤q.m∧q.n≤200∧q.st.length≤1+2*q.n∧(∀a∈q.st,(enc a.1).Wf∧0≤a.2∧a.2≤41)∧zhO true q.st.reverse q.n=zaV true f)})
   ⟨fun q=>⟨frL [(1,.fz (.b true)),(4,.ptr (34004,1) 0),(5,.arr (34148,q.1.g) 5 0 q.1.st.length),(6,.fz (.i .i64 q.1.n))],
    hpL [((34004,1),some ⟨[.fz (.i .i64 0),.fz (.i .i64 0)],true,false⟩),((34148,q.1.g),some ⟨q.1.cells,false,false⟩)],q.1.m⟩,fun q=>201-q.1.n⟩
   ⟨⟨[(f,1)],[.fz (.i .i64 f.kind),.fz (.s f.name.l),.fz (.sl (f.words.map enc)),.fz (.sl (f.subs.map enc)),.fz (.i .i64 1)],3,4,0⟩,⟨by simp only;omega,rfl,Nat.le_refl _,by simp only;omega,by simp only;omega,by simp,by simp only[List.mem_singleton];rintro a rfl;exact⟨hw,by simp,by simp⟩,zns⟩⟩ (by kernel_rfl) ?_ ?_
  ·refine zb6 [((34148,3),(34019,2))] [] [] ?_ ?_ ?_ ?_ ?_<;>simp only[go_sem,zzr,zpZ,vL]
  rintro⟨⟨st,cells,g,m,n⟩,kp⟩
  obtain⟨hg,hc,hl,hm4,hn,hlen,hwf,hrest⟩:=kp.out
  try simp only at hm4 hn hlen hwf hrest hg hc hl
  rcases List.eq_nil_or_concat st with rfl|⟨l,⟨x,d⟩,hst⟩
  ·have e:zaV true f=⟨0,0⟩:=by rw[←hrest];rfl
   repeat'(first|refine rq fun _=>?_|simp only[go_sem,List.length_nil,Tryz.f34])
   exact kr.out e
  rw[List.concat_eq_append]at hst
  obtain⟨hcell,hcut⟩:=zus hst hc hl
  have hl1:st.length=l.length+1:=by rw[hst,List.length_append,List.length_singleton]
  have e1:((st.length:Int)-1).toNat=l.length:=by omega
  have e1b:((st.length:Int)-1-0).toNat=l.length:=by omega
  have hpos:0<(st.length:Int):=by omega
  have hl5:l.length*5+5≤cells.length:=by omega
  have hll:l.length≤2*n:=by omega
  obtain⟨hx1,hx2,hx3⟩:=hwf (x,d) (by rw[hst];simp)
  simp only at hx1 hx2 hx3 hcell
  have hlwf:∀a∈l,(enc a.1).Wf∧0≤a.2∧a.2≤41:=fun a ha=>hwf a (by rw[hst];exact List.mem_append_left _ ha)
  rw[hst,List.reverse_append,List.reverse_singleton,List.singleton_append,zkd]at hrest
  have hbad:∀{c:Int} {H':zax} {n':Nat},zdb true x d n=c→c≠0→Q (.agg [.fz (.i .i64 c),.fz (.i .i64 n)]) H' n':=fun h1 h2=>kr.out (by rw[←hrest,if_pos (by rw[h1];exact h2),h1])
  have hwl:x.words.length≤za6:=by
   have h:=zbL (by have h:=hx1;rw[zaz]at h;exact h) (FD.sl (x.words.map enc)) (by simp)
   have:=zcI h
   simpa using this
  have hsl:x.subs.length≤za6:=by
   have h:=zbL (by have h:=hx1;rw[zaz]at h;exact h) (FD.sl (x.subs.map enc)) (by simp)
   have:=zcI h
   simpa using this
  have hsw:∀g∈x.subs,(enc g).Wf:=fun g hg=>zh6 (zbL (by have h:=hx1;rw[zaz]at h;exact h) (FD.sl (x.subs.map enc)) (by simp)) _ (List.mem_map_of_mem hg)
  unfold za6 at hwl hsl
  have kb:=Kp.mk @hbad
  have kR:=Kp.mk hrest
  have kW:=Kp.mk hlwf
  have kS:=Kp.mk hsw
  have kC:=Kp.mk hcut
  clear hbad hrest hlwf hsw hst hx1 hcut hl1 hlen hwf hc hl hw
  rcases zhs true x with⟨hk,hp⟩|⟨hk,hp⟩|⟨hk,_,hp⟩|⟨_,hop,_⟩|⟨hk,hp⟩|⟨hk,hp⟩|⟨hk,hk3,hk10,hk8,hk9,hp⟩
  rotate_left 3
  ·exact Bool.noConfusion hop
  all_goals repeat'(first|refine zaW.d (fun _=>?_) (fun _=>?_)|refine zaW.i (fun _=>?_) (fun _=>?_)|refine rq fun _=>?_|simp only[go_sem,Nat.zero_add,zuu,zzF,zzG,zC2,zC3,Tryz.f34, *])
  all_goals try(exfalso;omega)
  all_goals try
   refine kb.out (by first
    |rw[zbu hp,if_pos (by omega)]
    |rw[zbu hp,if_neg (by omega),if_pos (by omega)]
    |rw[zbu hp,if_neg (by omega),if_neg (by omega),if_pos (by omega)]
    |rw[zbu hp,if_neg (by omega),if_neg (by omega),if_neg (by omega),if_pos ⟨by omega,by first|assumption|simp_all [zad]⟩]
    |rw[zbu hp,if_neg (by omega),if_neg (by omega),if_neg (by omega),if_neg (by omega),if_pos ⟨by omega,by assumption⟩]) (by decide)
  all_goals
   have hN:zdb true x d n=if x.words.all zav=false then 10 else 0:=by
    rw[zbu hp,if_neg (by omega),if_neg (by omega),if_neg (by omega),if_neg (by first|omega|(rintro⟨_,h⟩;simp_all [zad])),if_neg (by first|omega|(rintro⟨_,h⟩;simp_all))]
   have hs2:x.subs.length≤2:=by
    have h2:za7 true x≤2:=by
     unfold za7 zcd
     repeat'(split<;>try decide)
    omega
   have hw0:((0:Nat):Int)=0:=rfl
   have hw10:((10:Nat):Int)=10:=rfl
   refine zam hm zAk 34000 (lst [19,148]) (ι:=zx1 (m+1+1) x.words.length fun i c=>c=if(x.words.take i).all zav=true then 0 else 10)
    ⟨fun q=>⟨frL [(1,.fz (.b true)),(4,.ptr (34004,1) 0),(5,.arr (34148,g) 5 0 l.length),(6,.fz (.i .i64 n)),(7,.ptr (34007,m) 0),(8,.ptr (34008,m+1) 0),
      (13,.fz (.i .i64 q.n)),(114,.fz (.sl (x.words.map enc))),(115,.fz (.i .i64 x.words.length)),(116,.fz (.i .i64 q.j))],
     hpL [((34007,m),some ⟨[.fz (.i .i64 x.kind),.fz (.s x.name.l),.fz (.sl (x.words.map enc)),.fz (.sl (x.subs.map enc)),.fz (.i .i64 d)],true,false⟩),
      ((34008,m+1),some ⟨[.fz (.i .i64 x.kind),.fz (.s x.name.l),.fz (.sl (x.words.map enc)),.fz (.sl (x.subs.map enc))],true,false⟩),
      ((34004,1),some ⟨[.fz (.i .i64 0),.fz (.i .i64 0)],true,false⟩),((34148,g),some ⟨cells,false,false⟩)],q.m⟩,fun q=>x.words.length-q.j⟩
    ⟨0,0,m+1+1,by omega,by omega,by simp⟩ (by kernel_rfl) ?_ ?_
   ·refine zah ?_ ?_ ?_<;>simp only[go_sem, *]
   rintro⟨i,c,m2,hi,hm2,hc⟩
   try simp only at hi hm2 hc
   rcases Nat.lt_or_ge i x.words.length with h1|h1
   ·cases hnm:zav x.words[i]with
    |false=>
     repeat'(first|refine rq fun _=>?_|simp only[go_sem,h1,hnm,zad,zaa,Tryz.f34])
     refine⟨⟨i+1,10,m2,by omega,by omega,by rw[zcr h1,hnm,Bool.and_false];rfl⟩,by simp only;omega,?_⟩
     refine zah ?_ ?_ ?_<;>simp only[go_sem,hw10]
    |true=>
     repeat'(first|refine rq fun _=>?_|simp only[go_sem,h1,hnm,zad,zaa,Tryz.f34])
     refine⟨⟨i+1,c,m2,by omega,by omega,by rw[zcr h1,hnm,Bool.and_true];exact hc⟩,by simp only;omega,?_⟩
     refine zah ?_ ?_ ?_<;>simp only[go_sem]
   have h1':¬i<x.words.length:=by omega
   rw[List.take_of_length_le h1]at hc
   cases hall:x.words.all zav with
   |false=>
    rw[hall]at hN hc
    rw[if_pos rfl]at hN
    rw[if_neg (by simp)]at hc
    subst hc
    repeat'(first|refine rq fun _=>?_|simp only[go_sem,h1',hw10,Tryz.f34])
    exact kb.out hN (by decide)
   |true=>
    rw[hall]at hN hc
    rw[if_neg (by simp)]at hN
    rw[if_pos rfl]at hc
    subst hc
    have hrest:=kR.out
    rw[if_neg (by rw[hN];simp)]at hrest
    repeat'(first|refine rq fun _=>?_|simp only[go_sem,h1',hw0,Tryz.f34])
    refine zam hm zAk 34000 (lst [19,148]) (ι:={q:zGV // q.j≤x.subs.length∧q.g<q.m∧m+1<q.m∧q.cells.take ((zbF l x.subs d q.j).length*5)=zaf ((zbF l x.subs d q.j).map zjT)∧(zbF l x.subs d q.j).length*5≤q.cells.length})
     ⟨fun q=>⟨frL [(1,.fz (.b true)),(4,.ptr (34004,1) 0),(5,.arr (34148,q.1.g) 5 0 (zbF l x.subs d q.1.j).length),(6,.fz (.i .i64 n)),(7,.ptr (34007,m) 0),(8,.ptr (34008,m+1) 0),(16,.fz (.i .i64 ((q.1.j:Int)-1)))],
      hpL [((34007,m),some ⟨[.fz (.i .i64 x.kind),.fz (.s x.name.l),.fz (.sl (x.words.map enc)),.fz (.sl (x.subs.map enc)),.fz (.i .i64 d)],true,false⟩),
       ((34008,m+1),some ⟨[.fz (.i .i64 x.kind),.fz (.s x.name.l),.fz (.sl (x.words.map enc)),.fz (.sl (x.subs.map enc))],true,false⟩),
       ((34004,1),some ⟨[.fz (.i .i64 0),.fz (.i .i64 0)],true,false⟩),((34148,q.1.g),some ⟨q.1.cells,false,false⟩)],q.1.m⟩,fun q=>q.1.j⟩
     ⟨⟨x.subs.length,cells,g,m2⟩,Nat.le_refl _,by simp only;omega,by simp only;omega,by simp only;rw[zdo];exact kC.out,by simp only;rw[zdo];omega⟩ (by kernel_rfl) ?_ ?_
    ·refine zah ?_ ?_ ?_<;>simp only[go_sem,zdo]
    rintro⟨⟨j,cells2,g2,m3⟩,hj,hg2,hm3,hc2,hl2⟩
    try simp only at hj hg2 hm3 hc2 hl2
    rcases j with _|j
    ·repeat'(first|refine rq fun _=>?_|simp only[go_sem,Tryz.f34,hw0,Int.zero_sub,Int.reduceNeg,Int.reduceSub])
     refine⟨⟨⟨zbF l x.subs d 0,cells2,g2,m3,n+1⟩,⟨hg2,hc2,hl2,by simp only;omega,by simp only;omega,by simp only;rw[zfo];omega,fun a ha=>?_,?_⟩⟩,by simp only;omega,?_⟩
     ·rcases zka ha with h|⟨h,h2,rfl⟩
      ·exact kW.out a h
      ·exact⟨kS.out _ h2,by simp only;omega,by simp only;omega⟩
     ·simp only;rw[zkb];exact hrest
     ·refine zah ?_ ?_ ?_<;>simp only[go_sem]
    ·have hps:=ziV (l:=l) (d:=d) (show j<x.subs.length by omega)
     have e2:((j:Int)+1-1)=(j:Int):=by omega
     have hj2:j<x.subs.length:=by omega
     have hpl:=zfo (l:=l) (s:=x.subs) (d:=d) (j:=j+1)
     repeat'(first|refine rq fun _=>?_|refine zaq.i ⟨by omega,zal (by omega) (by decide)⟩ fun _=>?_|simp only[go_sem,e2,hj2,zaa,Nat.zero_add,List.drop_zero,hc2,Tryz.f34])
     refine⟨⟨⟨j,zaf ((zbF l x.subs d (j+1)).map zjT)++zaf [zjT (x.subs[j],d+1)],m3,m3+1⟩,by simp only;omega,by simp only;omega,by simp only;omega,?_,?_⟩,by simp only;omega,?_⟩
     ·simp only
      rw[hps,List.map_append,zgR,List.length_append,List.length_singleton,List.take_of_length_le]
      ·rfl
      ·rw[List.length_append,zea,show(zaf [zjT (x.subs[j],d+1)]).length=5 from rfl];omega
     ·simp only
      rw[hps,List.length_append,List.length_singleton,List.length_append,zea,show(zaf [zjT (x.subs[j],d+1)]).length=5 from rfl];omega
     ·have hps2:(zbF l x.subs d j).length=(zbF l x.subs d (j+1)).length+1:=by rw[hps];simp
      refine zah ?_ ?_ ?_<;>simp only[go_sem,hps2,zjT]
def X29:Tbl:=R28.add 34 (sp2 (fun(f:Abs.zac) op=>zaV op f) fun _ _=>True)
attribute [go_sem] X29
theorem zJ4:zan Tryz.prog GA X29:=zJs
end Go.Proofs.YtmconmiemdinkaaGreatDoor
namespace Go.Proofs.YtmconmiemdinkaaGreatDoor
open Go Go.Abs Go.Proofs
def X30:Tbl:=X29.add 42 (sp1 zau fun f=>f.size≤1000)
attribute [go_sem] X30
theorem zJ5:zan Tryz.prog GA X30:=by
 refine zi3 zac.size zGz zJ4 fun n hT f hn hpre hw=>?_
 by_cases hk:f.kind=10
 ·have e:zau f=[f.name]:=by rw[zmN,if_pos hk]
  rw[e]
  refine zaj (N:=25) hm hT 42000 (lsw [22] []) zGz Tryz.func42 rfl rfl (by simp) (by kernel_rfl) ?_
  repeat'(first|refine rq fun _=>?_|simp only[go_sem,hk,Tryz.f42])
 have e:zau f=zaP f.subs:=by rw[zmN,if_neg hk]
 have hsl:f.subs.length≤za6:=by
  have h:=zbL (by have h:=hw;rw[zaz]at h;exact h) (FD.sl (f.subs.map enc)) (by simp)
  have:=zcI h
  simpa using this
 unfold za6 at hsl
 have hse:=@zlE f
 have hlt:∀i (_:i<f.subs.length),(zaP (f.subs.take i)).length+(zau f.subs[i]).length≤1000:=fun i h=>by
  have h1:=zhm h
  have h2:=zfM (f.subs.take (i+1))
  have h3:=congrArg zac.sizes (List.take_append_drop (i+1) f.subs)
  rw[zac.sizes_app]at h3
  rw[h1,List.length_append]at h2
  omega
 have hsz:∀g∈f.subs,g.size<n∧g.size≤1000:=fun g hg=>by have:=zac.size_sub hg;omega
 have kT:=Kp.mk hT
 have kz:=Kp.mk hsz
 have kl:=Kp.mk hlt
 rw[e]
 clear hT hsz hlt hse hn hw
 refine zaj (N:=25) hm kT.out 42000 (lsw [22] []) zGz Tryz.func42 rfl rfl (by simp) (by kernel_rfl) ?_
 repeat'(first|refine rq fun _=>?_|simp only[go_sem,hk,Tryz.f42])
 refine zam hm kT.out 42000 (lsw [22] []) (ι:=zdR f.subs.length 1 fun _=>True)
  ⟨fun q=>⟨frL [(1,.ptr (42001,0) 0),(3,.ow (42022,q.g) 1 ((zaP (f.subs.take q.i)).map enc)),(13,.fz (.sl (f.subs.map enc))),(14,.fz (.i .i64 f.subs.length)),(15,.fz (.i .i64 q.i))],
   hpL [((42022,q.g),some tok)],q.m⟩,fun q=>f.subs.length-q.i⟩
  ⟨0,1,2,by omega,by omega,by omega,trivial⟩ (by kernel_rfl) ?_ ?_
 ·refine zb6 [] [(42022,1)] [] ?_ ?_ ?_ ?_ ?_<;>simp only[go_sem,zaP]
  all_goals rfl
 rintro⟨i,g,m,hi,hg,hm1,_⟩
 try simp only at hi hg hm1
 rcases Nat.lt_or_ge i f.subs.length with h1|h1
 ·obtain⟨x,hx⟩:∃x,f.subs[i]=x:=⟨_,rfl⟩
  have hxs:x.size<n∧x.size≤1000:=kz.out x (by rw[←hx];exact List.getElem_mem h1)
  have hb:=kl.out i h1
  have et:=zhm h1
  rw[hx]at hb et
  repeat'(first|refine zaq.i hxs fun _=>?_|refine rq fun _=>?_|refine zaq.i (zal (by omega) (by decide)) fun _=>?_|refine rq fun _=>?_|simp only[go_sem,h1,hx,zab,zaa,Tryz.f42])
  refine⟨⟨i+1,m+1,m+2,by omega,by omega,by omega,trivial⟩,by simp only;omega,?_⟩
  refine zah ?_ ?_ ?_<;>simp only[go_sem,et,List.map_append]
 ·obtain rfl:i=f.subs.length:=by omega
  repeat'(first|refine rq fun _=>?_|simp only[go_sem,Nat.lt_irrefl,List.take_length,Tryz.f42])
def X31:Tbl:=X30.add 35 (sp1 zde fun f=>f.size≤1000)
attribute [go_sem] X31
theorem zv9:zan Tryz.prog GA X31:=by
 refine zi3 zac.size zGy zJ5 fun n hT f hn hpre hw=>?_
 obtain⟨h0,hh0⟩:∃h0,(if f.kind=10 then[f.name]else[])=h0:=⟨_,rfl⟩
 have e:zde f=h0++za1 f.subs:=by rw[ztq,hh0]
 have hsl:f.subs.length≤za6:=by
  have h:=zbL (by have h:=hw;rw[zaz]at h;exact h) (FD.sl (f.subs.map enc)) (by simp)
  have:=zcI h
  simpa using this
 unfold za6 at hsl
 have hse:=@zlE f
 have hl0:h0.length≤1:=by rw[←hh0];split<;>simp
 have hlt:∀i (_:i<f.subs.length),(h0++za1 (f.subs.take i)).length+(zde f.subs[i]).length≤1001:=fun i h=>by
  have h1:=zhn h
  have h2:=zfN (f.subs.take (i+1))
  have h3:=congrArg zac.sizes (List.take_append_drop (i+1) f.subs)
  rw[zac.sizes_app]at h3
  rw[h1,List.length_append]at h2
  rw[List.length_append]
  omega
 have hsz:∀g∈f.subs,g.size<n∧g.size≤1000:=fun g hg=>by have:=zac.size_sub hg;omega
 have hst:∀i (_:i<f.subs.length),h0++za1 (f.subs.take (i+1))=(h0++za1 (f.subs.take i))++zde f.subs[i]:=fun i h=>by rw[zhn h,List.append_assoc]
 have hen:h0++za1 f.subs=h0++za1 (f.subs.take f.subs.length):=by rw[List.take_length]
 have h00:h0=h0++za1 (f.subs.take 0):=by simp[za1]
 rw[e,hen]
 obtain⟨A,hA⟩:∃A:Nat→List Str,A=fun i=>h0++za1 (f.subs.take i):=⟨_,rfl⟩
 have hAi:∀i,h0++za1 (f.subs.take i)=A i:=fun i=>by rw[hA]
 rw[hAi]at h00
 simp only[hAi]at hlt hst ⊢
 have kT:=Kp.mk hT
 have kz:=Kp.mk hsz
 have kl:=Kp.mk hlt
 have ks:=Kp.mk hst
 clear hT hsz hlt hse hn hw hst hen hA hAi e
 rcases Classical.em (f.kind=10)with hk|hk
 case' inl=>
  rw[if_pos hk]at hh0
  subst hh0
  refine zaj (N:=29) hm kT.out 35000 (lsw [12,26] []) zGy Tryz.func35 rfl rfl (by simp) (by kernel_rfl) ?_
  repeat'(first|refine rq fun _=>?_|refine zaq.i (zal (by decide) (by decide)) fun _=>?_|simp only[go_sem,hk,Tryz.f35])
  refine zam hm kT.out 35000 (lsw [12,26] []) (ι:=zdR f.subs.length 1 fun _=>True)
   ⟨fun q=>⟨frL [(1,.ptr (35001,0) 0),(3,.ow (35026,q.g) 1 ((A q.i).map enc)),(15,.fz (.i .i64 f.subs.length)),(16,.fz (.i .i64 q.i))],
    hpL [((35001,0),some ⟨[.fz (.i .i64 f.kind),.fz (.s f.name.l),.fz (.sl (f.words.map enc)),.fz (.sl (f.subs.map enc))],true,false⟩),((35026,q.g),some tok)],q.m⟩,fun q=>f.subs.length-q.i⟩
   ⟨0,2,3,by omega,by omega,by omega,trivial⟩ (by kernel_rfl) ?_ ?_
  ·refine zb6 [((35026,2),(35012,1))] [] [] ?_ ?_ ?_ ?_ ?_<;>simp only[go_sem,zzr,hk,←h00]
   all_goals first|done|rfl
 case' inr=>
  rw[if_neg hk]at hh0
  subst hh0
  refine zaj (N:=29) hm kT.out 35000 (lsw [12,26] []) zGy Tryz.func35 rfl rfl (by simp) (by kernel_rfl) ?_
  repeat'(first|refine rq fun _=>?_|simp only[go_sem,hk,Tryz.f35])
  refine zam hm kT.out 35000 (lsw [12,26] []) (ι:=zdR f.subs.length 1 fun _=>True)
   ⟨fun q=>⟨frL [(1,.ptr (35001,0) 0),(3,.ow (35026,q.g) 1 ((A q.i).map enc)),(15,.fz (.i .i64 f.subs.length)),(16,.fz (.i .i64 q.i))],
    hpL [((35001,0),some ⟨[.fz (.i .i64 f.kind),.fz (.s f.name.l),.fz (.sl (f.words.map enc)),.fz (.sl (f.subs.map enc))],true,false⟩),((35026,q.g),some tok)],q.m⟩,fun q=>f.subs.length-q.i⟩
   ⟨0,1,2,by omega,by omega,by omega,trivial⟩ (by kernel_rfl) ?_ ?_
  ·refine zb6 [] [(35026,1)] [] ?_ ?_ ?_ ?_ ?_<;>simp only[go_sem,←h00]
   all_goals first|done|rfl
 all_goals
  rintro⟨i,g,m,hi,hg,hm1,_⟩
  try simp only at hi hg hm1
  rcases Nat.lt_or_ge i f.subs.length with h1|h1
  ·obtain⟨x,hx⟩:∃x,f.subs[i]=x:=⟨_,rfl⟩
   have hxs:x.size<n∧x.size≤1000:=kz.out x (by rw[←hx];exact List.getElem_mem h1)
   have hb:=kl.out i h1
   have et:=ks.out i h1
   rw[hx]at hb et
   repeat'(first|refine zaq.i hxs fun _=>?_|refine rq fun _=>?_|refine zaq.i (zal (by omega) (by decide)) fun _=>?_|refine rq fun _=>?_|simp only[go_sem,h1,hx,zab,zaa,Tryz.f35])
   refine⟨⟨i+1,m,m+1,by omega,by omega,by omega,trivial⟩,by simp only;omega,?_⟩
   refine zah ?_ ?_ ?_<;>simp only[go_sem,et,List.map_append]
  ·obtain rfl:i=f.subs.length:=by omega
   repeat'(first|refine rq fun _=>?_|simp only[go_sem,Nat.lt_irrefl,List.take_length,Tryz.f35])
end Go.Proofs.YtmconmiemdinkaaGreatDoor
namespace Go.Proofs.YtmconmiemdinkaaGreatDoor
open Go Go.Abs Go.Proofs
theorem f38 {c a:Int}{id:Abs.Id}{H:zax}{n:Nat}{R:D→zax→Nat→Prop}(hid:id.2<n)(ho:H id=some ⟨[.fz (.i .i64 a)],true,false⟩)(hR:∀n',n≤n'→R (.agg [.fz (.i .i64 c),.fz (.i .i64 a)]) H n'):
  zaH Tryz.prog GA 38 [.fz (.i .i64 c),.ptr id 0] H n R:=by
 refine zcH zIo (fun hfr=>?_) hR
 have hne:id≠(38003,n):=by rintro rfl;simp at hid
 have hne':(id=(38003,n))=False:=eq_false hne
 obtain⟨Q,hQ⟩:∃Q:D→zax→Nat→Prop,Q=(fun d' H' n'=>d'= .agg [.fz (.i .i64 c),.fz (.i .i64 a)]∧n≤n'∧∀id,id.2<n→H' id=H id):=⟨_,rfl⟩
 rw[←hQ]
 have e:H=hpX [] H:=rfl
 rw[e]
 refine zaj (N:=7) hm zv9 38000 (lst []) zIo Tryz.func38 rfl rfl (by simp) (by kernel_rfl) ?_
 simp only[go_sem]
 rw[if_neg hne,ho]
 simp only[go_sem,Tryz.f38]
 rw[hQ]
 refine⟨?_,by omega,fun id hid=>zoD (n:=n) (by intro p hp;simp at hp;rcases hp with rfl|rfl<;>simp) id hid⟩
 simp only[go_sem]
structure VI (s:Abs.zar) where
 i:Nat
 g1:Nat
 g2:Nat
 m:Nat
 hi:i≤s.pieces.length
 h1:g1<m
 h2:g2<m
 hm:4≤m
 hn:zcu (s.pieces.take i)≤200*i∧zdh (s.pieces.take i)≤200*i∧(za5 (s.pieces.take i)).length≤200*i
 hp:zgv (zaK (s.pieces.take i)) (za5 (s.pieces.take i)) (s.pieces.drop i) i=zgv [] [] s.pieces 0
def X32:Tbl:=X31.add 12 (sp1 zaZ fun _=>True)
attribute [go_sem] X32
set_option maxHeartbeats 8000000 in
theorem zxz:zan Tryz.prog GA X32:=by
 refine zbR zEt zv9 fun s _ hw=>?_
 obtain⟨Q,hQ⟩:∃Q:D→zax→Nat→Prop,Q=(fun d _ _=>D.val d=some (.fz (enc (zaZ s)))):=⟨_,rfl⟩
 rw[←hQ]
 have hres:∀{c i:Int} {H':zax} {n':Nat},zaZ s=⟨c,i⟩→Q (.agg [.fz (.i .i64 c),.fz (.i .i64 i)]) H' n':=fun e=>by
  rw[hQ];show _=some (D.fz (enc (zaZ s)));rw[e];rfl
 have kr:=Kp.mk @hres
 have hlo:s.overs.length≤za6:=by
  have h:=zbL (by have h:=hw;rw[zdm]at h;exact h) (FD.sl (s.overs.map enc)) (by simp)
  have:=zcI h
  simpa using this
 have hlv:s.vars.length≤za6:=by
  have h:=zbL (by have h:=hw;rw[zdm]at h;exact h) (FD.sl (s.vars.map enc)) (by simp)
  have:=zcI h
  simpa using this
 unfold za6 at hlo hlv
 clear hres hQ hw
 by_cases h0:s.pieces.length=0
 ·refine zaj (N:=156) hm zv9 12000 (lsw [55,82] []) zEt Tryz.func12 rfl rfl (by simp) (by kernel_rfl) ?_
  have h0':(((s.pieces.length:Nat):Int)=0)=True:=eq_true (by omega)
  have h0'':(((s.pieces.length:Nat):Int)<1)=True:=eq_true (by omega)
  repeat'(first|refine rq fun _=>?_|simp only[go_sem,h0',h0'',zad,zab,Tryz.f12])
  exact kr.out (by unfold zaZ;rw[if_pos (.inl h0)])
 by_cases h6:6<s.pieces.length
 ·refine zaj (N:=156) hm zv9 12000 (lsw [55,82] []) zEt Tryz.func12 rfl rfl (by simp) (by kernel_rfl) ?_
  have h0':(((s.pieces.length:Nat):Int)=0)=False:=eq_false (by omega)
  have h0'':(((s.pieces.length:Nat):Int)<1)=False:=eq_false (by omega)
  have h6':(6<((s.pieces.length:Nat):Int))=True:=eq_true (by omega)
  repeat'(first|refine rq fun _=>?_|simp only[go_sem,h0',h0'',h6',zad,zab,Tryz.f12])
  exact kr.out (by unfold zaZ;rw[if_pos (.inr h6)])
 have h0':(((s.pieces.length:Nat):Int)=0)=False:=eq_false (by omega)
 have h0'':(((s.pieces.length:Nat):Int)<1)=False:=eq_false (by omega)
 have h6':(6<((s.pieces.length:Nat):Int))=False:=eq_false (by omega)
 have e1:=znv h0 h6
 refine zaj (N:=156) hm zv9 12000 (lsw [55,82] []) zEt Tryz.func12 rfl rfl (by simp) (by kernel_rfl) ?_
 repeat'(first|refine rq fun _=>?_|simp only[go_sem,h0',h0'',h6',zad,zab,Tryz.f12])
 refine zam hm zv9 12000 (lsw [55,82] []) (ι:=VI s)
  ⟨fun q=>⟨frL [(1,.ptr (12001,0) 0),(2,.ptr (12002,1) 0),(3,.ow (12055,q.g1) 1 ((zaK (s.pieces.take q.i)).map enc)),(4,.ow (12082,q.g2) 1 ((za5 (s.pieces.take q.i)).map enc)),(5,.fz (.i .i64 (zcu (s.pieces.take q.i)))),(6,.fz (.i .i64 (zdh (s.pieces.take q.i)))),(31,.fz (.sl (s.pieces.map enc))),(32,.fz (.i .i64 s.pieces.length)),(33,.fz (.i .i64 q.i))],
   hpL [((12001,0),some ⟨[.fz (.sl (s.pieces.map enc)),.fz (.sl (s.overs.map enc)),.fz (.sl (s.vars.map enc))],true,false⟩),((12002,1),some ⟨[.fz (.i .i64 0),.fz (.i .i64 0)],true,false⟩),((12055,q.g1),some tok),((12082,q.g2),some tok)],q.m⟩,fun q=>s.pieces.length-q.i⟩
  ⟨0,2,3,4,by omega,by omega,by omega,by omega,⟨by simp[zcu,zac.sizes],by simp[zdh],by simp[za5]⟩,by simp[zaK,za5]⟩ (by kernel_rfl) ?_ ?_
 ·refine zb6 [] [(12055,2),(12082,3)] [] ?_ ?_ ?_ ?_ ?_<;>simp only[go_sem,List.take_zero,zaK,za5,zcu,zdh,zac.sizes]
  all_goals first|done|rfl
 rintro⟨i,g1,g2,m,hi,hg1,hg2,hm1,⟨hn1,hn2,hn3⟩,hp⟩
 try simp only at hi hg1 hg2 hm1 hn1 hn2 hn3 hp
 have hll:(zaK (s.pieces.take i)).length=i:=by unfold zaK;rw[List.length_map,List.length_take];omega
 rcases Nat.lt_or_ge i s.pieces.length with h1|h1
 ·rw[zke h1]at hp
  have el:=zhp h1
  have ea:=zl3 h1
  have en:=ziS h1
  have ed:=zjO h1
  obtain⟨p,hpe⟩:∃p,s.pieces[i]=p:=⟨_,rfl⟩
  rw[hpe]at hp el ea en ed
  obtain⟨L,hL⟩:∃L,zaK (s.pieces.take i)=L:=⟨_,rfl⟩
  obtain⟨A,hA⟩:∃A,za5 (s.pieces.take i)=A:=⟨_,rfl⟩
  obtain⟨N,hN⟩:∃N,zcu (s.pieces.take i)=N:=⟨_,rfl⟩
  obtain⟨E,hE⟩:∃E,zdh (s.pieces.take i)=E:=⟨_,rfl⟩
  rw[hL,hA]at hp
  rw[hL]at el hll
  rw[hA]at ea hn3
  rw[hN]at en hn1
  rw[hE]at ed hn2
  simp only[hL,hA,hN,hE]
  have bad:∀{c:Int},zcD L A p=c→c≠0→zaZ s=⟨c,i⟩:=fun h h2=>by
   rw[h,if_pos h2]at hp
   rw[e1,←hp,if_pos h2]
  cases hnm:zav p.label with
  |false=>
   repeat'(first|refine rq fun _=>?_|refine zaq.i hsz fun _=>?_|refine zaq.i hsp fun _=>?_|refine zaq.i (zal (by first|omega|(simp only[List.length_map,List.length_append,List.length_cons,List.length_nil];omega)) (by decide)) fun _=>?_|refine rq fun _=>?_|refine zaQ.i (f38 (a:=(i:Int)) (by simp only;omega) (by simp only[go_sem]) fun n' hn'=>?_)|simp only[go_sem,h1,hpe,hnm,zaa,zad,zab,Tryz.f12])
   exact kr.out (bad (by unfold zcD;rw[if_pos hnm]) (by decide))
  |true=>
  by_cases hlm:p.label∈L
  ·repeat'(first|refine rq fun _=>?_|refine zaq.i hsz fun _=>?_|refine zaq.i hsp fun _=>?_|refine zaq.i (zal (by first|omega|(simp only[List.length_map,List.length_append,List.length_cons,List.length_nil];omega)) (by decide)) fun _=>?_|refine rq fun _=>?_|refine zaQ.i (f38 (a:=(i:Int)) (by simp only;omega) (by simp only[go_sem]) fun n' hn'=>?_)|simp only[go_sem,h1,hpe,hnm,hlm,decide_true,zaa,zad,zab,Tryz.f12])
   exact kr.out (bad (by unfold zcD;rw[if_neg (by simp[hnm]),if_pos hlm]) (by decide))
  have hlm':=decide_eq_false hlm
  by_cases hck:¬(zaV true p.form).code=0
  ·obtain⟨ck,hcke⟩:∃ck,zaV true p.form=ck:=⟨_,rfl⟩
   rw[hcke]at hck
   repeat'(first|refine rq fun _=>?_|refine zaq.i hsz fun _=>?_|refine zaq.i hsp fun _=>?_|refine zaq.i (zal (by first|omega|(simp only[List.length_map,List.length_append,List.length_cons,List.length_nil];omega)) (by decide)) fun _=>?_|refine rq fun _=>?_|refine zaQ.i (f38 (a:=(i:Int)) (by simp only;omega) (by simp only[go_sem]) fun n' hn'=>?_)|simp only[go_sem,h1,hpe,hnm,hlm',hcke,hck,zaa,zad,zab,Tryz.f12])
   exact kr.out (bad (by unfold zcD;rw[if_neg (by simp[hnm]),if_neg hlm,if_pos (by rw[hcke];exact hck),hcke]) hck)
  have hck:=Decidable.not_not.1 hck
  have hcke:=zim hck
  have hsp:p.form.size≤1000:=by have:=za3 hck;omega
  have hsz:znI p.form:=⟨zfj hck,by omega⟩
  have hs2:=za3 hck
  have hd2:=p.form.depth_size
  have hr2:=zc1 hck
  have hhl:=zbM p.form
  obtain⟨hs,hhs⟩:∃hs,zau p.form=hs:=⟨_,rfl⟩
  rw[hhs]at hr2 hhl ea hp
  have hpc:zcD L A p=if zom A hs=true then 7 else 0:=by unfold zcD;rw[if_neg (by simp[hnm]),if_neg hlm,if_neg (by simp[hck]),hhs]
  repeat'(first|refine rq fun _=>?_|refine zaq.i hsz fun _=>?_|refine zaq.i hsp fun _=>?_|refine zaq.i (zal (by first|omega|(simp only[List.length_map,List.length_append,List.length_cons,List.length_nil];omega)) (by decide)) fun _=>?_|refine rq fun _=>?_|refine zaQ.i (f38 (a:=(i:Int)) (by simp only;omega) (by simp only[go_sem]) fun n' hn'=>?_)|simp only[go_sem,h1,hpe,hnm,hlm',hcke,hhs,hr2,zaa,zad,zab,Tryz.f12])
  refine zam hm zv9 12000 (lsw [55,82] []) (ι:=zdR hs.length (m+4) fun j=>zom (A++hs.take j) (hs.drop j)=zom A hs)
   ⟨fun q=>⟨frL [(1,.ptr (12001,0) 0),(2,.ptr (12002,1) 0),(3,.ow (12055,m+2) 1 ((L++[p.label]).map enc)),(4,.ow (12082,q.g) 1 ((A++hs.take q.i).map enc)),(5,.fz (.i .i64 N)),(6,.fz (.i .i64 E)),(7,.ptr (12007,m) 0),(8,.ptr (12008,m+1) 0),(9,.fn 38 [.ptr (12007,m) 0]),(31,.fz (.sl (s.pieces.map enc))),(32,.fz (.i .i64 s.pieces.length)),(33,.fz (.i .i64 i)),(68,.fz (.sl (hs.map enc))),(69,.fz (.i .i64 hs.length)),(70,.fz (.i .i64 q.i))],
    hpL [((12001,0),some ⟨[.fz (.sl (s.pieces.map enc)),.fz (.sl (s.overs.map enc)),.fz (.sl (s.vars.map enc))],true,false⟩),((12002,1),some ⟨[.fz (.i .i64 0),.fz (.i .i64 0)],true,false⟩),((12055,m+2),some tok),((12082,q.g),some tok),((12007,m),some ⟨[.fz (.i .i64 i)],true,false⟩),((12008,m+1),some ⟨[.fz (.s p.label.l),.fz (.i .i64 p.form.kind),.fz (.s p.form.name.l),.fz (.sl (p.form.words.map enc)),.fz (.sl (p.form.subs.map enc))],true,false⟩)],q.m⟩,fun q=>hs.length-q.i⟩
   ⟨0,g2,m+4,by omega,by omega,by omega,by simp⟩ (by kernel_rfl) ?_ ?_
  ·refine zah ?_ ?_ ?_<;>simp only[go_sem,List.take_zero,List.append_nil,List.map_append]
  rintro⟨j,g,m',hj,hg,hm',hd⟩
  try simp only at hj hg hm' hd
  have hAl:(A++hs.take j).length≤200*i+200:=by rw[List.length_append,List.length_take];omega
  rcases Nat.lt_or_ge j hs.length with h2|h2
  ·rw[zmp h2]at hd
   have et:A++hs.take (j+1)=(A++hs.take j)++[hs[j]]:=by rw[List.take_succ_eq_append_getElem h2,List.append_assoc]
   obtain⟨x,hx⟩:∃x,hs[j]=x:=⟨_,rfl⟩
   rw[hx]at hd et
   obtain⟨B,hB⟩:∃B,A++hs.take j=B:=⟨_,rfl⟩
   rw[hB]at hd hAl et
   simp only[hB]
   by_cases hxm:x∈B
   ·repeat'(first|refine rq fun _=>?_|refine zaq.i hsz fun _=>?_|refine zaq.i hsp fun _=>?_|refine zaq.i (zal (by first|omega|(simp only[List.length_map,List.length_append,List.length_cons,List.length_nil];omega)) (by decide)) fun _=>?_|refine rq fun _=>?_|refine zaQ.i (f38 (a:=(i:Int)) (by simp only;omega) (by simp only[go_sem]) fun n' hn'=>?_)|simp only[go_sem,h2,hx,hxm,decide_true,zaa,zad,zab,Tryz.f12])
    exact kr.out (bad (by rw[hpc,←hd,decide_eq_true hxm];rfl) (by decide))
   ·have hxm':=decide_eq_false hxm
    repeat'(first|refine rq fun _=>?_|refine zaq.i hsz fun _=>?_|refine zaq.i hsp fun _=>?_|refine zaq.i (zal (by first|omega|(simp only[List.length_map,List.length_append,List.length_cons,List.length_nil];omega)) (by decide)) fun _=>?_|refine rq fun _=>?_|refine zaQ.i (f38 (a:=(i:Int)) (by simp only;omega) (by simp only[go_sem]) fun n' hn'=>?_)|simp only[go_sem,h2,hx,hxm',zaa,zad,zab,Tryz.f12])
    refine⟨⟨j+1,m',m'+1,by omega,by omega,by omega,by rw[et,←hd,hxm',Bool.false_or]⟩,by simp only;omega,?_⟩
    refine zah ?_ ?_ ?_<;>simp only[go_sem,et,List.map_append]
  ·obtain rfl:j=hs.length:=by omega
   rw[List.take_length,List.drop_length]at hd
   have h2':¬hs.length<hs.length:=Nat.lt_irrefl _
   rw[hpc,←hd,if_neg (by simp[zom])]at hp
   try rw[if_neg (by simp)]at hp
   rw[List.take_length]at hAl
   simp only[List.take_length]
   repeat'(first|refine rq fun _=>?_|refine zaq.i hsz fun _=>?_|refine zaq.i hsp fun _=>?_|refine zaq.i (zal (by first|omega|(simp only[List.length_map,List.length_append,List.length_cons,List.length_nil];omega)) (by decide)) fun _=>?_|refine rq fun _=>?_|refine zaQ.i (f38 (a:=(i:Int)) (by simp only;omega) (by simp only[go_sem]) fun n' hn'=>?_)|simp only[go_sem,h2',Int.lt_irrefl,zad,zab,Tryz.f12])
   refine⟨⟨i+1,m+2,g,m',by omega,by omega,by omega,by omega,⟨by rw[en];omega,by rw[ed];omega,by rw[ea];omega⟩,by rw[el,ea];exact hp⟩,by simp only;omega,?_⟩
   refine zah ?_ ?_ ?_<;>simp only[go_sem,el,ea,en,ed,List.map_append,Int.natCast_add]
 obtain rfl:i=s.pieces.length:=by omega
 rw[List.drop_length,zgv]at hp
 rw[←hp,if_neg (by simp)]at e1
 rw[List.take_length]at hn1 hn2 hn3 hll
 simp only[List.take_length]
 obtain⟨L,hL⟩:∃L,zaK s.pieces=L:=⟨_,rfl⟩
 obtain⟨A,hA⟩:∃A,za5 s.pieces=A:=⟨_,rfl⟩
 obtain⟨N,hN⟩:∃N,zcu s.pieces=N:=⟨_,rfl⟩
 obtain⟨E,hE⟩:∃E,zdh s.pieces=E:=⟨_,rfl⟩
 rw[hL,hA,hN,hE]at e1
 simp only[hL,hA,hN,hE]
 clear hp hn1 hn2 hn3 hL hA hN hE hll
 by_cases hN2:200<N
 ·have c1:(200<(N:Int))=True:=eq_true (by omega)
  repeat'(first|refine rq fun _=>?_|simp only[go_sem,Nat.lt_irrefl,Int.lt_irrefl,c1,zad,zab,Tryz.f12])
  exact kr.out (by rw[e1,if_pos (.inl hN2)])
 have c1:(200<(N:Int))=False:=eq_false (by omega)
 by_cases hE2:40<E
 ·have c2:(40<(E:Int))=True:=eq_true (by omega)
  repeat'(first|refine rq fun _=>?_|simp only[go_sem,Nat.lt_irrefl,Int.lt_irrefl,c1,c2,zad,zab,Tryz.f12])
  exact kr.out (by rw[e1,if_pos (.inr hE2)])
 have c2:(40<(E:Int))=False:=eq_false (by omega)
 rw[if_neg (by omega)]at e1
 by_cases ho:300<s.overs.length
 ·have c3:(300<((s.overs.length:Nat):Int))=True:=eq_true (by omega)
  repeat'(first|refine rq fun _=>?_|simp only[go_sem,Nat.lt_irrefl,Int.lt_irrefl,c1,c2,c3,zad,zab,Tryz.f12])
  exact kr.out (by rw[e1,if_pos ho])
 have c3:(300<((s.overs.length:Nat):Int))=False:=eq_false (by omega)
 rw[if_neg ho]at e1
 repeat'(first|refine rq fun _=>?_|simp only[go_sem,Nat.lt_irrefl,Int.lt_irrefl,c1,c2,c3,zad,zab,Tryz.f12])
 refine zam hm zv9 12000 (lsw [55,82] []) (ι:=zeC s.overs.length m fun j=>(s.overs.take j).all (zbn L A)=true)
  ⟨fun q=>⟨frL [(1,.ptr (12001,0) 0),(2,.ptr (12002,1) 0),(3,.ow (12055,g1) 1 (L.map enc)),(4,.ow (12082,g2) 1 (A.map enc)),(110,.fz (.sl (s.overs.map enc))),(111,.fz (.i .i64 s.overs.length)),(112,.fz (.i .i64 q.i))],
   hpL [((12001,0),some ⟨[.fz (.sl (s.pieces.map enc)),.fz (.sl (s.overs.map enc)),.fz (.sl (s.vars.map enc))],true,false⟩),((12002,1),some ⟨[.fz (.i .i64 0),.fz (.i .i64 0)],true,false⟩),((12055,g1),some tok),((12082,g2),some tok)],q.m⟩,fun q=>s.overs.length-q.i⟩
  ⟨0,m,by omega,by omega,by simp⟩ (by kernel_rfl) ?_ ?_
 ·refine zah ?_ ?_ ?_<;>simp only[go_sem]
 rintro⟨j,m',hj,hm',hal⟩
 try simp only at hj hm' hal
 rcases Nat.lt_or_ge j s.overs.length with h2|h2
 ·have hat:(s.overs.take (j+1)).all (zbn L A)=((s.overs.take j).all (zbn L A)&&zbn L A s.overs[j]):=by
   rw[List.take_succ_eq_append_getElem h2,List.all_append];simp
  have hbd:zbn L A s.overs[j]=false→s.overs.all (zbn L A)=false:=fun hb=>by
   cases ha:s.overs.all (zbn L A)with
   |false=>rfl
   |true=>rw[List.all_eq_true.1 ha _ (List.getElem_mem h2)]at hb;cases hb
  obtain⟨x,hx⟩:∃x,s.overs[j]=x:=⟨_,rfl⟩
  rw[hx]at hat hbd
  by_cases hxa:x.hole∈A
  ·by_cases hxl:x.label∈L
   ·repeat'(first|refine rq fun _=>?_|refine zaq.i hsz fun _=>?_|refine zaq.i hsp fun _=>?_|refine zaq.i (zal (by first|omega|(simp only[List.length_map,List.length_append,List.length_cons,List.length_nil];omega)) (by decide)) fun _=>?_|refine rq fun _=>?_|simp only[go_sem,h2,hx,hxa,hxl,decide_true,zaa,zad,zab,Tryz.f12])
    refine⟨⟨j+1,m'+1,by omega,by omega,by rw[hat,hal];simp[zbn,hxa,hxl]⟩,by simp only;omega,?_⟩
    refine zah ?_ ?_ ?_<;>simp only[go_sem]
   ·have hxl':=decide_eq_false hxl
    repeat'(first|refine rq fun _=>?_|refine zaq.i hsz fun _=>?_|refine zaq.i hsp fun _=>?_|refine zaq.i (zal (by first|omega|(simp only[List.length_map,List.length_append,List.length_cons,List.length_nil];omega)) (by decide)) fun _=>?_|refine rq fun _=>?_|simp only[go_sem,h2,hx,hxa,hxl',decide_true,zaa,zad,zab,Tryz.f12])
    exact kr.out (by rw[e1,if_pos (hbd (by simp[zbn,hxl]))])
  ·have hxa':=decide_eq_false hxa
   repeat'(first|refine rq fun _=>?_|refine zaq.i hsz fun _=>?_|refine zaq.i hsp fun _=>?_|refine zaq.i (zal (by first|omega|(simp only[List.length_map,List.length_append,List.length_cons,List.length_nil];omega)) (by decide)) fun _=>?_|refine rq fun _=>?_|simp only[go_sem,h2,hx,hxa',zaa,zad,zab,Tryz.f12])
   exact kr.out (by rw[e1,if_pos (hbd (by simp[zbn,hxa]))])
 obtain rfl:j=s.overs.length:=by omega
 rw[List.take_length]at hal
 rw[if_neg (by simp[hal])]at e1
 by_cases hv:6<s.vars.length
 ·have c4:(6<((s.vars.length:Nat):Int))=True:=eq_true (by omega)
  repeat'(first|refine rq fun _=>?_|simp only[go_sem,Nat.lt_irrefl,Int.lt_irrefl,c4,zad,zab,Tryz.f12])
  exact kr.out (by rw[e1,if_pos hv])
 have c4:(6<((s.vars.length:Nat):Int))=False:=eq_false (by omega)
 rw[if_neg hv]at e1
 repeat'(first|refine rq fun _=>?_|simp only[go_sem,Nat.lt_irrefl,Int.lt_irrefl,c4,zad,zab,Tryz.f12])
 refine zam hm zv9 12000 (lsw [55,82] []) (ι:=zcX s.vars.length fun j=>zgw (s.vars.take j) (s.vars.drop j)=zgw [] s.vars)
  ⟨fun q=>⟨frL [(1,.ptr (12001,0) 0),(2,.ptr (12002,1) 0),(136,.fz (.sl (s.vars.map enc))),(137,.fz (.i .i64 s.vars.length)),(138,.fz (.i .i64 q.i))],
   hpL [((12001,0),some ⟨[.fz (.sl (s.pieces.map enc)),.fz (.sl (s.overs.map enc)),.fz (.sl (s.vars.map enc))],true,false⟩),((12002,1),some ⟨[.fz (.i .i64 0),.fz (.i .i64 0)],true,false⟩)],m'⟩,fun q=>s.vars.length-q.i⟩
  ⟨0,by omega,by simp⟩ (by kernel_rfl) ?_ ?_
 ·refine zah ?_ ?_ ?_<;>simp only[go_sem]
 rintro⟨j,hj,hvr⟩
 try simp only at hj hvr
 rcases Nat.lt_or_ge j s.vars.length with h2|h2
 ·rw[zkf h2]at hvr
  have et:s.vars.take (j+1)=s.vars.take j++[s.vars[j]]:=List.take_succ_eq_append_getElem h2
  obtain⟨x,hx⟩:∃x,s.vars[j]=x:=⟨_,rfl⟩
  rw[hx]at hvr et
  have bad:∀{c:Int},zqo (s.vars.take j) x=c→c≠0→zaZ s=⟨c, -3⟩:=fun h h3=>by
   rw[h,if_pos h3]at hvr
   rw[e1,←hvr,if_pos h3]
  cases hnm:zav x with
  |false=>
   repeat'(first|refine rq fun _=>?_|refine zaq.i hsz fun _=>?_|refine zaq.i hsp fun _=>?_|refine zaq.i (zal (by first|omega|(simp only[List.length_map,List.length_append,List.length_cons,List.length_nil];omega)) (by decide)) fun _=>?_|refine rq fun _=>?_|simp only[go_sem,h2,hx,hnm,zaa,zad,zab,Tryz.f12])
   exact kr.out (bad (by unfold zqo;rw[if_pos hnm]) (by decide))
  |true=>
  by_cases hm2:x∈s.vars.take j
  ·repeat'(first|refine rq fun _=>?_|refine zaq.i hsz fun _=>?_|refine zaq.i hsp fun _=>?_|refine zaq.i (zal (by first|omega|(simp only[List.length_map,List.length_append,List.length_cons,List.length_nil];omega)) (by decide)) fun _=>?_|refine rq fun _=>?_|simp only[go_sem,h2,hx,hnm,hm2,hj,decide_true,zaa,←List.map_take,List.drop_zero,zad,zab,Tryz.f12])
   exact kr.out (bad (by unfold zqo;rw[if_neg (by simp[hnm]),if_pos hm2]) (by decide))
  ·have hm2':=decide_eq_false hm2
   repeat'(first|refine rq fun _=>?_|refine zaq.i hsz fun _=>?_|refine zaq.i hsp fun _=>?_|refine zaq.i (zal (by first|omega|(simp only[List.length_map,List.length_append,List.length_cons,List.length_nil];omega)) (by decide)) fun _=>?_|refine rq fun _=>?_|simp only[go_sem,h2,hx,hnm,hm2',hj,zaa,←List.map_take,List.drop_zero,zad,zab,Tryz.f12])
   refine⟨⟨j+1,by omega,?_⟩,by simp only;omega,?_⟩
   ·rw[show zqo (s.vars.take j) x=0 by unfold zqo;rw[if_neg (by simp[hnm]),if_neg hm2],if_neg (by simp)]at hvr
    rw[et];exact hvr
   ·refine zah ?_ ?_ ?_<;>simp only[go_sem]
 obtain rfl:j=s.vars.length:=by omega
 rw[List.drop_length,zgw]at hvr
 rw[←hvr,if_neg (by simp)]at e1
 repeat'(first|refine rq fun _=>?_|simp only[go_sem,Nat.lt_irrefl,Int.lt_irrefl,zad,zab,Tryz.f12])
 exact kr.out e1
end Go.Proofs.YtmconmiemdinkaaGreatDoor
namespace Go.Proofs.YtmconmiemdinkaaGreatDoor
open Go Go.Abs Go.Proofs
def X33:Tbl:=X32.add 10 (sp1 zaZ fun _=>True)
attribute [go_sem] X33
set_option maxHeartbeats 8000000 in
theorem zJ6:zan Tryz.prog GA X33:=by
 refine zbR zEs zxz fun s _ hw=>?_
 obtain⟨Q,hQ⟩:∃Q:D→zax→Nat→Prop,Q=(fun d _ _=>D.val d=some (.fz (enc (zaZ s)))):=⟨_,rfl⟩
 rw[←hQ]
 have hres:∀{c i:Int} {H':zax} {n':Nat},zaZ s=⟨c,i⟩→Q (.agg [.fz (.i .i64 c),.fz (.i .i64 i)]) H' n':=fun e=>by
  rw[hQ];show _=some (D.fz (enc (zaZ s)));rw[e];rfl
 have kr:=Kp.mk @hres
 have hlo:s.overs.length≤za6:=by
  have h:=zbL (by have h:=hw;rw[zdm]at h;exact h) (FD.sl (s.overs.map enc)) (by simp)
  have:=zcI h
  simpa using this
 have hlv:s.vars.length≤za6:=by
  have h:=zbL (by have h:=hw;rw[zdm]at h;exact h) (FD.sl (s.vars.map enc)) (by simp)
  have:=zcI h
  simpa using this
 unfold za6 at hlo hlv
 clear hres hQ hw
 by_cases h0:s.pieces.length=0
 ·refine zaj (N:=145) hm zxz 10000 (lsw [56,73] []) zEs Tryz.func10 rfl rfl (by simp) (by kernel_rfl) ?_
  have h0':(((s.pieces.length:Nat):Int)=0)=True:=eq_true (by omega)
  have h0'':(((s.pieces.length:Nat):Int)<1)=True:=eq_true (by omega)
  repeat'(first|refine rq fun _=>?_|simp only[go_sem,h0',h0'',zad,zab,Tryz.f10])
  exact kr.out (by unfold zaZ;rw[if_pos (.inl h0)])
 by_cases h6:6<s.pieces.length
 ·refine zaj (N:=145) hm zxz 10000 (lsw [56,73] []) zEs Tryz.func10 rfl rfl (by simp) (by kernel_rfl) ?_
  have h0':(((s.pieces.length:Nat):Int)=0)=False:=eq_false (by omega)
  have h0'':(((s.pieces.length:Nat):Int)<1)=False:=eq_false (by omega)
  have h6':(6<((s.pieces.length:Nat):Int))=True:=eq_true (by omega)
  repeat'(first|refine rq fun _=>?_|simp only[go_sem,h0',h0'',h6',zad,zab,Tryz.f10])
  exact kr.out (by unfold zaZ;rw[if_pos (.inr h6)])
 have h0':(((s.pieces.length:Nat):Int)=0)=False:=eq_false (by omega)
 have h0'':(((s.pieces.length:Nat):Int)<1)=False:=eq_false (by omega)
 have h6':(6<((s.pieces.length:Nat):Int))=False:=eq_false (by omega)
 have e1:=znv h0 h6
 refine zaj (N:=145) hm zxz 10000 (lsw [56,73] []) zEs Tryz.func10 rfl rfl (by simp) (by kernel_rfl) ?_
 repeat'(first|refine rq fun _=>?_|simp only[go_sem,h0',h0'',h6',zad,zab,Tryz.f10])
 refine zam hm zxz 10000 (lsw [56,73] []) (ι:=VI s)
  ⟨fun q=>⟨frL [(1,.ptr (10001,0) 0),(2,.ptr (10002,1) 0),(3,.ow (10056,q.g1) 1 ((zaK (s.pieces.take q.i)).map enc)),(4,.ow (10073,q.g2) 1 ((za5 (s.pieces.take q.i)).map enc)),(5,.fz (.i .i64 (zcu (s.pieces.take q.i)))),(6,.fz (.i .i64 (zdh (s.pieces.take q.i)))),(28,.fz (.sl (s.pieces.map enc))),(29,.fz (.i .i64 s.pieces.length)),(30,.fz (.i .i64 q.i))],
   hpL [((10001,0),some ⟨[.fz (.sl (s.pieces.map enc)),.fz (.sl (s.overs.map enc)),.fz (.sl (s.vars.map enc))],true,false⟩),((10002,1),some ⟨[.fz (.i .i64 0),.fz (.i .i64 0)],true,false⟩),((10056,q.g1),some tok),((10073,q.g2),some tok)],q.m⟩,fun q=>s.pieces.length-q.i⟩
  ⟨0,2,3,4,by omega,by omega,by omega,by omega,⟨by simp[zcu,zac.sizes],by simp[zdh],by simp[za5]⟩,by simp[zaK,za5]⟩ (by kernel_rfl) ?_ ?_
 ·refine zb6 [] [(10056,2),(10073,3)] [] ?_ ?_ ?_ ?_ ?_<;>simp only[go_sem,List.take_zero,zaK,za5,zcu,zdh,zac.sizes]
  all_goals first|done|rfl
 rintro⟨i,g1,g2,m,hi,hg1,hg2,hm1,⟨hn1,hn2,hn3⟩,hp⟩
 try simp only at hi hg1 hg2 hm1 hn1 hn2 hn3 hp
 have hll:(zaK (s.pieces.take i)).length=i:=by unfold zaK;rw[List.length_map,List.length_take];omega
 rcases Nat.lt_or_ge i s.pieces.length with h1|h1
 ·rw[zke h1]at hp
  have el:=zhp h1
  have ea:=zl3 h1
  have en:=ziS h1
  have ed:=zjO h1
  obtain⟨p,hpe⟩:∃p,s.pieces[i]=p:=⟨_,rfl⟩
  rw[hpe]at hp el ea en ed
  obtain⟨L,hL⟩:∃L,zaK (s.pieces.take i)=L:=⟨_,rfl⟩
  obtain⟨A,hA⟩:∃A,za5 (s.pieces.take i)=A:=⟨_,rfl⟩
  obtain⟨N,hN⟩:∃N,zcu (s.pieces.take i)=N:=⟨_,rfl⟩
  obtain⟨E,hE⟩:∃E,zdh (s.pieces.take i)=E:=⟨_,rfl⟩
  rw[hL,hA]at hp
  rw[hL]at el hll
  rw[hA]at ea hn3
  rw[hN]at en hn1
  rw[hE]at ed hn2
  simp only[hL,hA,hN,hE]
  have bad:∀{c:Int},zcD L A p=c→c≠0→zaZ s=⟨c,i⟩:=fun h h2=>by
   rw[h,if_pos h2]at hp
   rw[e1,←hp,if_pos h2]
  cases hnm:zav p.label with
  |false=>
   repeat'(first|refine rq fun _=>?_|refine zaq.i hsz fun _=>?_|refine zaq.i hsp fun _=>?_|refine zaq.i (zal (by first|omega|(simp only[List.length_map,List.length_append,List.length_cons,List.length_nil];omega)) (by decide)) fun _=>?_|refine rq fun _=>?_|simp only[go_sem,h1,hpe,hnm,zaa,zad,zab,Tryz.f10])
   exact kr.out (bad (by unfold zcD;rw[if_pos hnm]) (by decide))
  |true=>
  by_cases hlm:p.label∈L
  ·repeat'(first|refine rq fun _=>?_|refine zaq.i hsz fun _=>?_|refine zaq.i hsp fun _=>?_|refine zaq.i (zal (by first|omega|(simp only[List.length_map,List.length_append,List.length_cons,List.length_nil];omega)) (by decide)) fun _=>?_|refine rq fun _=>?_|simp only[go_sem,h1,hpe,hnm,hlm,decide_true,zaa,zad,zab,Tryz.f10])
   exact kr.out (bad (by unfold zcD;rw[if_neg (by simp[hnm]),if_pos hlm]) (by decide))
  have hlm':=decide_eq_false hlm
  by_cases hck:¬(zaV true p.form).code=0
  ·obtain⟨ck,hcke⟩:∃ck,zaV true p.form=ck:=⟨_,rfl⟩
   rw[hcke]at hck
   repeat'(first|refine rq fun _=>?_|refine zaq.i hsz fun _=>?_|refine zaq.i hsp fun _=>?_|refine zaq.i (zal (by first|omega|(simp only[List.length_map,List.length_append,List.length_cons,List.length_nil];omega)) (by decide)) fun _=>?_|refine rq fun _=>?_|simp only[go_sem,h1,hpe,hnm,hlm',hcke,hck,zaa,zad,zab,Tryz.f10])
   exact kr.out (bad (by unfold zcD;rw[if_neg (by simp[hnm]),if_neg hlm,if_pos (by rw[hcke];exact hck),hcke]) hck)
  have hck:=Decidable.not_not.1 hck
  have hcke:=zim hck
  have hsp:p.form.size≤1000:=by have:=za3 hck;omega
  have hsz:znI p.form:=⟨zfj hck,by omega⟩
  have hs2:=za3 hck
  have hd2:=p.form.depth_size
  have hr2:=zc1 hck
  have hhl:=zbM p.form
  obtain⟨hs,hhs⟩:∃hs,zau p.form=hs:=⟨_,rfl⟩
  rw[hhs]at hr2 hhl ea hp
  have hpc:zcD L A p=if zom A hs=true then 7 else 0:=by unfold zcD;rw[if_neg (by simp[hnm]),if_neg hlm,if_neg (by simp[hck]),hhs]
  repeat'(first|refine rq fun _=>?_|refine zaq.i hsz fun _=>?_|refine zaq.i hsp fun _=>?_|refine zaq.i (zal (by first|omega|(simp only[List.length_map,List.length_append,List.length_cons,List.length_nil];omega)) (by decide)) fun _=>?_|refine rq fun _=>?_|simp only[go_sem,h1,hpe,hnm,hlm',hcke,hhs,hr2,zaa,zad,zab,Tryz.f10])
  refine zam hm zxz 10000 (lsw [56,73] []) (ι:=zdR hs.length (m+2) fun j=>zom (A++hs.take j) (hs.drop j)=zom A hs)
   ⟨fun q=>⟨frL [(1,.ptr (10001,0) 0),(2,.ptr (10002,1) 0),(3,.ow (10056,m+1) 1 ((L++[p.label]).map enc)),(4,.ow (10073,q.g) 1 ((A++hs.take q.i).map enc)),(5,.fz (.i .i64 N)),(6,.fz (.i .i64 E)),(7,.fz (.i .i64 i)),(8,.ptr (10008,m) 0),(28,.fz (.sl (s.pieces.map enc))),(29,.fz (.i .i64 s.pieces.length)),(30,.fz (.i .i64 i)),(59,.fz (.sl (hs.map enc))),(60,.fz (.i .i64 hs.length)),(61,.fz (.i .i64 q.i))],
    hpL [((10001,0),some ⟨[.fz (.sl (s.pieces.map enc)),.fz (.sl (s.overs.map enc)),.fz (.sl (s.vars.map enc))],true,false⟩),((10002,1),some ⟨[.fz (.i .i64 0),.fz (.i .i64 0)],true,false⟩),((10056,m+1),some tok),((10073,q.g),some tok),((10008,m),some ⟨[.fz (.s p.label.l),.fz (.i .i64 p.form.kind),.fz (.s p.form.name.l),.fz (.sl (p.form.words.map enc)),.fz (.sl (p.form.subs.map enc))],true,false⟩)],q.m⟩,fun q=>hs.length-q.i⟩
   ⟨0,g2,m+2,by omega,by omega,by omega,by simp⟩ (by kernel_rfl) ?_ ?_
  ·refine zah ?_ ?_ ?_<;>simp only[go_sem,List.take_zero,List.append_nil,List.map_append]
  rintro⟨j,g,m',hj,hg,hm',hd⟩
  try simp only at hj hg hm' hd
  have hAl:(A++hs.take j).length≤200*i+200:=by rw[List.length_append,List.length_take];omega
  rcases Nat.lt_or_ge j hs.length with h2|h2
  ·rw[zmp h2]at hd
   have et:A++hs.take (j+1)=(A++hs.take j)++[hs[j]]:=by rw[List.take_succ_eq_append_getElem h2,List.append_assoc]
   obtain⟨x,hx⟩:∃x,hs[j]=x:=⟨_,rfl⟩
   rw[hx]at hd et
   obtain⟨B,hB⟩:∃B,A++hs.take j=B:=⟨_,rfl⟩
   rw[hB]at hd hAl et
   simp only[hB]
   by_cases hxm:x∈B
   ·repeat'(first|refine rq fun _=>?_|refine zaq.i hsz fun _=>?_|refine zaq.i hsp fun _=>?_|refine zaq.i (zal (by first|omega|(simp only[List.length_map,List.length_append,List.length_cons,List.length_nil];omega)) (by decide)) fun _=>?_|refine rq fun _=>?_|simp only[go_sem,h2,hx,hxm,decide_true,zaa,zad,zab,Tryz.f10])
    exact kr.out (bad (by rw[hpc,←hd,decide_eq_true hxm];rfl) (by decide))
   ·have hxm':=decide_eq_false hxm
    repeat'(first|refine rq fun _=>?_|refine zaq.i hsz fun _=>?_|refine zaq.i hsp fun _=>?_|refine zaq.i (zal (by first|omega|(simp only[List.length_map,List.length_append,List.length_cons,List.length_nil];omega)) (by decide)) fun _=>?_|refine rq fun _=>?_|simp only[go_sem,h2,hx,hxm',zaa,zad,zab,Tryz.f10])
    refine⟨⟨j+1,m',m'+1,by omega,by omega,by omega,by rw[et,←hd,hxm',Bool.false_or]⟩,by simp only;omega,?_⟩
    refine zah ?_ ?_ ?_<;>simp only[go_sem,et,List.map_append]
  ·obtain rfl:j=hs.length:=by omega
   rw[List.take_length,List.drop_length]at hd
   have h2':¬hs.length<hs.length:=Nat.lt_irrefl _
   rw[hpc,←hd,if_neg (by simp[zom])]at hp
   try rw[if_neg (by simp)]at hp
   rw[List.take_length]at hAl
   simp only[List.take_length]
   repeat'(first|refine rq fun _=>?_|refine zaq.i hsz fun _=>?_|refine zaq.i hsp fun _=>?_|refine zaq.i (zal (by first|omega|(simp only[List.length_map,List.length_append,List.length_cons,List.length_nil];omega)) (by decide)) fun _=>?_|refine rq fun _=>?_|simp only[go_sem,h2',Int.lt_irrefl,zad,zab,Tryz.f10])
   refine⟨⟨i+1,m+1,g,m',by omega,by omega,by omega,by omega,⟨by rw[en];omega,by rw[ed];omega,by rw[ea];omega⟩,by rw[el,ea];exact hp⟩,by simp only;omega,?_⟩
   refine zah ?_ ?_ ?_<;>simp only[go_sem,el,ea,en,ed,List.map_append,Int.natCast_add]
 obtain rfl:i=s.pieces.length:=by omega
 rw[List.drop_length,zgv]at hp
 rw[←hp,if_neg (by simp)]at e1
 rw[List.take_length]at hn1 hn2 hn3 hll
 simp only[List.take_length]
 obtain⟨L,hL⟩:∃L,zaK s.pieces=L:=⟨_,rfl⟩
 obtain⟨A,hA⟩:∃A,za5 s.pieces=A:=⟨_,rfl⟩
 obtain⟨N,hN⟩:∃N,zcu s.pieces=N:=⟨_,rfl⟩
 obtain⟨E,hE⟩:∃E,zdh s.pieces=E:=⟨_,rfl⟩
 rw[hL,hA,hN,hE]at e1
 simp only[hL,hA,hN,hE]
 clear hp hn1 hn2 hn3 hL hA hN hE hll
 by_cases hN2:200<N
 ·have c1:(200<(N:Int))=True:=eq_true (by omega)
  repeat'(first|refine rq fun _=>?_|simp only[go_sem,Nat.lt_irrefl,Int.lt_irrefl,c1,zad,zab,Tryz.f10])
  exact kr.out (by rw[e1,if_pos (.inl hN2)])
 have c1:(200<(N:Int))=False:=eq_false (by omega)
 by_cases hE2:40<E
 ·have c2:(40<(E:Int))=True:=eq_true (by omega)
  repeat'(first|refine rq fun _=>?_|simp only[go_sem,Nat.lt_irrefl,Int.lt_irrefl,c1,c2,zad,zab,Tryz.f10])
  exact kr.out (by rw[e1,if_pos (.inr hE2)])
 have c2:(40<(E:Int))=False:=eq_false (by omega)
 rw[if_neg (by omega)]at e1
 by_cases ho:300<s.overs.length
 ·have c3:(300<((s.overs.length:Nat):Int))=True:=eq_true (by omega)
  repeat'(first|refine rq fun _=>?_|simp only[go_sem,Nat.lt_irrefl,Int.lt_irrefl,c1,c2,c3,zad,zab,Tryz.f10])
  exact kr.out (by rw[e1,if_pos ho])
 have c3:(300<((s.overs.length:Nat):Int))=False:=eq_false (by omega)
 rw[if_neg ho]at e1
 repeat'(first|refine rq fun _=>?_|simp only[go_sem,Nat.lt_irrefl,Int.lt_irrefl,c1,c2,c3,zad,zab,Tryz.f10])
 refine zam hm zxz 10000 (lsw [56,73] []) (ι:=zeC s.overs.length m fun j=>(s.overs.take j).all (zbn L A)=true)
  ⟨fun q=>⟨frL [(1,.ptr (10001,0) 0),(2,.ptr (10002,1) 0),(3,.ow (10056,g1) 1 (L.map enc)),(4,.ow (10073,g2) 1 (A.map enc)),(99,.fz (.sl (s.overs.map enc))),(100,.fz (.i .i64 s.overs.length)),(101,.fz (.i .i64 q.i))],
   hpL [((10001,0),some ⟨[.fz (.sl (s.pieces.map enc)),.fz (.sl (s.overs.map enc)),.fz (.sl (s.vars.map enc))],true,false⟩),((10002,1),some ⟨[.fz (.i .i64 0),.fz (.i .i64 0)],true,false⟩),((10056,g1),some tok),((10073,g2),some tok)],q.m⟩,fun q=>s.overs.length-q.i⟩
  ⟨0,m,by omega,by omega,by simp⟩ (by kernel_rfl) ?_ ?_
 ·refine zah ?_ ?_ ?_<;>simp only[go_sem]
 rintro⟨j,m',hj,hm',hal⟩
 try simp only at hj hm' hal
 rcases Nat.lt_or_ge j s.overs.length with h2|h2
 ·have hat:(s.overs.take (j+1)).all (zbn L A)=((s.overs.take j).all (zbn L A)&&zbn L A s.overs[j]):=by
   rw[List.take_succ_eq_append_getElem h2,List.all_append];simp
  have hbd:zbn L A s.overs[j]=false→s.overs.all (zbn L A)=false:=fun hb=>by
   cases ha:s.overs.all (zbn L A)with
   |false=>rfl
   |true=>rw[List.all_eq_true.1 ha _ (List.getElem_mem h2)]at hb;cases hb
  obtain⟨x,hx⟩:∃x,s.overs[j]=x:=⟨_,rfl⟩
  rw[hx]at hat hbd
  by_cases hxa:x.hole∈A
  ·by_cases hxl:x.label∈L
   ·repeat'(first|refine rq fun _=>?_|refine zaq.i hsz fun _=>?_|refine zaq.i hsp fun _=>?_|refine zaq.i (zal (by first|omega|(simp only[List.length_map,List.length_append,List.length_cons,List.length_nil];omega)) (by decide)) fun _=>?_|refine rq fun _=>?_|simp only[go_sem,h2,hx,hxa,hxl,decide_true,zaa,zad,zab,Tryz.f10])
    refine⟨⟨j+1,m'+1,by omega,by omega,by rw[hat,hal];simp[zbn,hxa,hxl]⟩,by simp only;omega,?_⟩
    refine zah ?_ ?_ ?_<;>simp only[go_sem]
   ·have hxl':=decide_eq_false hxl
    repeat'(first|refine rq fun _=>?_|refine zaq.i hsz fun _=>?_|refine zaq.i hsp fun _=>?_|refine zaq.i (zal (by first|omega|(simp only[List.length_map,List.length_append,List.length_cons,List.length_nil];omega)) (by decide)) fun _=>?_|refine rq fun _=>?_|simp only[go_sem,h2,hx,hxa,hxl',decide_true,zaa,zad,zab,Tryz.f10])
    exact kr.out (by rw[e1,if_pos (hbd (by simp[zbn,hxl]))])
  ·have hxa':=decide_eq_false hxa
   repeat'(first|refine rq fun _=>?_|refine zaq.i hsz fun _=>?_|refine zaq.i hsp fun _=>?_|refine zaq.i (zal (by first|omega|(simp only[List.length_map,List.length_append,List.length_cons,List.length_nil];omega)) (by decide)) fun _=>?_|refine rq fun _=>?_|simp only[go_sem,h2,hx,hxa',zaa,zad,zab,Tryz.f10])
   exact kr.out (by rw[e1,if_pos (hbd (by simp[zbn,hxa]))])
 obtain rfl:j=s.overs.length:=by omega
 rw[List.take_length]at hal
 rw[if_neg (by simp[hal])]at e1
 by_cases hv:6<s.vars.length
 ·have c4:(6<((s.vars.length:Nat):Int))=True:=eq_true (by omega)
  repeat'(first|refine rq fun _=>?_|simp only[go_sem,Nat.lt_irrefl,Int.lt_irrefl,c4,zad,zab,Tryz.f10])
  exact kr.out (by rw[e1,if_pos hv])
 have c4:(6<((s.vars.length:Nat):Int))=False:=eq_false (by omega)
 rw[if_neg hv]at e1
 repeat'(first|refine rq fun _=>?_|simp only[go_sem,Nat.lt_irrefl,Int.lt_irrefl,c4,zad,zab,Tryz.f10])
 refine zam hm zxz 10000 (lsw [56,73] []) (ι:=zcX s.vars.length fun j=>zgw (s.vars.take j) (s.vars.drop j)=zgw [] s.vars)
  ⟨fun q=>⟨frL [(1,.ptr (10001,0) 0),(2,.ptr (10002,1) 0),(125,.fz (.sl (s.vars.map enc))),(126,.fz (.i .i64 s.vars.length)),(127,.fz (.i .i64 q.i))],
   hpL [((10001,0),some ⟨[.fz (.sl (s.pieces.map enc)),.fz (.sl (s.overs.map enc)),.fz (.sl (s.vars.map enc))],true,false⟩),((10002,1),some ⟨[.fz (.i .i64 0),.fz (.i .i64 0)],true,false⟩)],m'⟩,fun q=>s.vars.length-q.i⟩
  ⟨0,by omega,by simp⟩ (by kernel_rfl) ?_ ?_
 ·refine zah ?_ ?_ ?_<;>simp only[go_sem]
 rintro⟨j,hj,hvr⟩
 try simp only at hj hvr
 rcases Nat.lt_or_ge j s.vars.length with h2|h2
 ·rw[zkf h2]at hvr
  have et:s.vars.take (j+1)=s.vars.take j++[s.vars[j]]:=List.take_succ_eq_append_getElem h2
  obtain⟨x,hx⟩:∃x,s.vars[j]=x:=⟨_,rfl⟩
  rw[hx]at hvr et
  have bad:∀{c:Int},zqo (s.vars.take j) x=c→c≠0→zaZ s=⟨c, -3⟩:=fun h h3=>by
   rw[h,if_pos h3]at hvr
   rw[e1,←hvr,if_pos h3]
  cases hnm:zav x with
  |false=>
   repeat'(first|refine rq fun _=>?_|refine zaq.i hsz fun _=>?_|refine zaq.i hsp fun _=>?_|refine zaq.i (zal (by first|omega|(simp only[List.length_map,List.length_append,List.length_cons,List.length_nil];omega)) (by decide)) fun _=>?_|refine rq fun _=>?_|simp only[go_sem,h2,hx,hnm,zaa,zad,zab,Tryz.f10])
   exact kr.out (bad (by unfold zqo;rw[if_pos hnm]) (by decide))
  |true=>
  by_cases hm2:x∈s.vars.take j
  ·repeat'(first|refine rq fun _=>?_|refine zaq.i hsz fun _=>?_|refine zaq.i hsp fun _=>?_|refine zaq.i (zal (by first|omega|(simp only[List.length_map,List.length_append,List.length_cons,List.length_nil];omega)) (by decide)) fun _=>?_|refine rq fun _=>?_|simp only[go_sem,h2,hx,hnm,hm2,hj,decide_true,zaa,←List.map_take,List.drop_zero,zad,zab,Tryz.f10])
   exact kr.out (bad (by unfold zqo;rw[if_neg (by simp[hnm]),if_pos hm2]) (by decide))
  ·have hm2':=decide_eq_false hm2
   repeat'(first|refine rq fun _=>?_|refine zaq.i hsz fun _=>?_|refine zaq.i hsp fun _=>?_|refine zaq.i (zal (by first|omega|(simp only[List.length_map,List.length_append,List.length_cons,List.length_nil];omega)) (by decide)) fun _=>?_|refine rq fun _=>?_|simp only[go_sem,h2,hx,hnm,hm2',hj,zaa,←List.map_take,List.drop_zero,zad,zab,Tryz.f10])
   refine⟨⟨j+1,by omega,?_⟩,by simp only;omega,?_⟩
   ·rw[show zqo (s.vars.take j) x=0 by unfold zqo;rw[if_neg (by simp[hnm]),if_neg hm2],if_neg (by simp)]at hvr
    rw[et];exact hvr
   ·refine zah ?_ ?_ ?_<;>simp only[go_sem]
 obtain rfl:j=s.vars.length:=by omega
 rw[List.drop_length,zgw]at hvr
 rw[←hvr,if_neg (by simp)]at e1
 repeat'(first|refine rq fun _=>?_|simp only[go_sem,Nat.lt_irrefl,Int.lt_irrefl,zad,zab,Tryz.f10])
 exact kr.out e1
end Go.Proofs.YtmconmiemdinkaaGreatDoor
