/- several texts of this proof in one; no conditions -/
import Derived.Test.YtmconmiemdinkaaDoorAT
import Derived.Test.YtmconmiemdinkaaDoorY3
import Derived.Test.YtmconmiemdinkaaDoorY13
set_option maxRecDepth 100000
set_option maxHeartbeats 1000000
set_option linter.unusedSimpArgs false
namespace Go.Proofs.YtmconmiemdinkaaDoor
open Go Go.Abs Go.Proofs
attribute [local irreducible] zax
set_option maxHeartbeats 8000000 in
theorem zDx:zam Tryd.prog GA (R28.add 22 (sp2 (fun(f:Abs.zab) op=>zaP op f) fun _ _=>True)):=by
 refine zc7 zy3 zvf fun f op _ hw hwb=>?_
 cases op with
 |false=>
  have h4:=zvf 22 (sp2 (fun(f:Abs.zab) op=>zaP op f) fun _ op=>op=false) [enc f,enc false] _ _ rfl (zw1) ⟨by rw[dec_enc],by rw[dec_enc],by rw[dec_enc]⟩
  rw[dec_enc,dec_enc,zfN]at h4
  exact h4
 |true=>
  obtain⟨Q,hQ⟩:∃Q:D→zau→Nat→Prop,Q=(fun d _ _=>D.val d=some (.fz (enc (zaP true f)))):=⟨_,rfl⟩
  rw[←hQ]
  have hres:∀{c i:Int} {H':zau} {n':Nat},zaP true f=⟨c,i⟩→Q (.agg [.fz (.i .i64 c),.fz (.i .i64 i)]) H' n':=fun e=>by
   rw[hQ];show _=some (D.fz (enc (zaP true f)));rw[e];rfl
  have kr:=Kp.mk @hres
  clear hres hQ
  refine zak (N:=150) hm zvf 22000 (lst [19,148]) zy3 Tryd.func22 rfl rfl (by simp) (by kernel_rfl) ?_
  repeat'(first|refine rq fun _=>?_|simp only[go_sem])
  refine zap hm zvf 22000 (lst [19,148]) (ι:={q:Stk // Kp (q.g<q.m∧q.cells.take (q.st.length*5)=zag (q.st.map zir)∧q.st.length*5≤q.cells.length∧4≤q.m∧q.n≤200∧q.st.length≤1+2*q.n∧(∀a∈q.st,(enc a.1).Wf∧0≤a.2∧a.2≤41)∧zgE true q.st.reverse q.n=zaP true f)})
   ⟨fun q=>⟨frL [(1,.fz (.b true)),(4,.ptr (22004,1) 0),(5,.arr (22148,q.1.g) 5 0 q.1.st.length),(6,.fz (.i .i64 q.1.n))],
    hpL [((22004,1),some ⟨[.fz (.i .i64 0),.fz (.i .i64 0)],true,false⟩),((22148,q.1.g),some ⟨q.1.cells,false,false⟩)],q.1.m⟩,fun q=>201-q.1.n⟩
   ⟨⟨[(f,1)],[.fz (.i .i64 f.kind),.fz (.s f.name.l),.fz (.sl (f.words.map enc)),.fz (.sl (f.subs.map enc)),.fz (.i .i64 1)],3,4,0⟩,⟨by simp only;omega,rfl,Nat.le_refl _,by simp only;omega,by simp only;omega,by simp,by simp only[List.mem_singleton];rintro a rfl;exact⟨hw,by simp,by simp⟩,zk6⟩⟩ (by kernel_rfl) ?_ ?_
  ·refine zcV [((22148,3),(22019,2))] [] [] ?_ ?_ ?_ ?_ ?_<;>simp only[go_sem,zuz,znb,vL]
  rintro⟨⟨st,cells,g,m,n⟩,kp⟩
  obtain⟨hg,hc,hl,hm4,hn,hlen,hwf,hrest⟩:=kp.out
  try simp only at hm4 hn hlen hwf hrest hg hc hl
  rcases List.eq_nil_or_concat st with rfl|⟨l,⟨x,d⟩,hst⟩
  ·have e:zaP true f=⟨0,0⟩:=by rw[←hrest];rfl
   repeat'(first|refine rq fun _=>?_|simp only[go_sem,List.length_nil,Tryd.f22])
   exact kr.out e
  rw[List.concat_eq_append]at hst
  obtain⟨hcell,hcut⟩:=zqM hst hc hl
  have hl1:st.length=l.length+1:=by rw[hst,List.length_append,List.length_singleton]
  have e1:((st.length:Int)-1).toNat=l.length:=by omega
  have e1b:((st.length:Int)-1-0).toNat=l.length:=by omega
  have hpos:0<(st.length:Int):=by omega
  have hl5:l.length*5+5≤cells.length:=by omega
  have hll:l.length≤2*n:=by omega
  obtain⟨hx1,hx2,hx3⟩:=hwf (x,d) (by rw[hst];simp)
  simp only at hx1 hx2 hx3 hcell
  have hlwf:∀a∈l,(enc a.1).Wf∧0≤a.2∧a.2≤41:=fun a ha=>hwf a (by rw[hst];exact List.mem_append_left _ ha)
  rw[hst,List.reverse_append,List.reverse_singleton,List.singleton_append,ziK]at hrest
  have hbad:∀{c:Int} {H':zau} {n':Nat},zcB true x d n=c→c≠0→Q (.agg [.fz (.i .i64 c),.fz (.i .i64 n)]) H' n':=fun h1 h2=>kr.out (by rw[←hrest,if_pos (by rw[h1];exact h2),h1])
  have hwl:x.words.length≤zbj:=by
   have h:=zbM (by have h:=hx1;rw[zaJ]at h;exact h) (FD.sl (x.words.map enc)) (by simp)
   have:=zdq h
   simpa using this
  have hsl:x.subs.length≤zbj:=by
   have h:=zbM (by have h:=hx1;rw[zaJ]at h;exact h) (FD.sl (x.subs.map enc)) (by simp)
   have:=zdq h
   simpa using this
  have hsw:∀g∈x.subs,(enc g).Wf:=fun g hg=>zjX (zbM (by have h:=hx1;rw[zaJ]at h;exact h) (FD.sl (x.subs.map enc)) (by simp)) _ (List.mem_map_of_mem hg)
  unfold zbj at hwl hsl
  have kb:=Kp.mk @hbad
  have kR:=Kp.mk hrest
  have kW:=Kp.mk hlwf
  have kS:=Kp.mk hsw
  have kC:=Kp.mk hcut
  clear hbad hrest hlwf hsw hst hx1 hcut hl1 hlen hwf hc hl hw
  rcases zgo true x with⟨hk,hp⟩|⟨hk,hp⟩|⟨hk,_,hp⟩|⟨_,hop,_⟩|⟨hk,hp⟩|⟨hk,hp⟩|⟨hk,hk3,hk10,hk8,hk9,hp⟩
  rotate_left 3
  ·exact Bool.noConfusion hop
  all_goals repeat'(first|refine zaX.d (fun _=>?_) (fun _=>?_)|refine zaX.i (fun _=>?_) (fun _=>?_)|refine rq fun _=>?_|simp only[go_sem,Nat.zero_add,zqO,zuJ,zuK,zxG,zxH,Tryd.f22, *])
  all_goals try(exfalso;omega)
  all_goals try
   refine kb.out (by first
    |rw[zbb hp,if_pos (by omega)]
    |rw[zbb hp,if_neg (by omega),if_pos (by omega)]
    |rw[zbb hp,if_neg (by omega),if_neg (by omega),if_pos (by omega)]
    |rw[zbb hp,if_neg (by omega),if_neg (by omega),if_neg (by omega),if_pos ⟨by omega,by first|assumption|simp_all [zae]⟩]
    |rw[zbb hp,if_neg (by omega),if_neg (by omega),if_neg (by omega),if_neg (by omega),if_pos ⟨by omega,by assumption⟩]) (by decide)
  all_goals
   have hN:zcB true x d n=if x.words.all zax=false then 10 else 0:=by
    rw[zbb hp,if_neg (by omega),if_neg (by omega),if_neg (by omega),if_neg (by first|omega|(rintro⟨_,h⟩;simp_all [zae])),if_neg (by first|omega|(rintro⟨_,h⟩;simp_all))]
   have hs2:x.subs.length≤2:=by
    have h2:za1 true x≤2:=by
     unfold za1 zdb
     repeat'(split<;>try decide)
    omega
   have hw0:((0:Nat):Int)=0:=rfl
   have hw10:((10:Nat):Int)=10:=rfl
   refine zap hm zvf 22000 (lst [19,148]) (ι:=zto (m+1+1) x.words.length fun i c=>c=if(x.words.take i).all zax=true then 0 else 10)
    ⟨fun q=>⟨frL [(1,.fz (.b true)),(4,.ptr (22004,1) 0),(5,.arr (22148,g) 5 0 l.length),(6,.fz (.i .i64 n)),(7,.ptr (22007,m) 0),(8,.ptr (22008,m+1) 0),
      (13,.fz (.i .i64 q.n)),(114,.fz (.sl (x.words.map enc))),(115,.fz (.i .i64 x.words.length)),(116,.fz (.i .i64 q.j))],
     hpL [((22007,m),some ⟨[.fz (.i .i64 x.kind),.fz (.s x.name.l),.fz (.sl (x.words.map enc)),.fz (.sl (x.subs.map enc)),.fz (.i .i64 d)],true,false⟩),
      ((22008,m+1),some ⟨[.fz (.i .i64 x.kind),.fz (.s x.name.l),.fz (.sl (x.words.map enc)),.fz (.sl (x.subs.map enc))],true,false⟩),
      ((22004,1),some ⟨[.fz (.i .i64 0),.fz (.i .i64 0)],true,false⟩),((22148,g),some ⟨cells,false,false⟩)],q.m⟩,fun q=>x.words.length-q.j⟩
    ⟨0,0,m+1+1,by omega,by omega,by simp⟩ (by kernel_rfl) ?_ ?_
   ·refine zai ?_ ?_ ?_<;>simp only[go_sem, *]
   rintro⟨i,c,m2,hi,hm2,hc⟩
   try simp only at hi hm2 hc
   rcases Nat.lt_or_ge i x.words.length with h1|h1
   ·cases hnm:zax x.words[i]with
    |false=>
     repeat'(first|refine rq fun _=>?_|simp only[go_sem,h1,hnm,zae,zaa,Tryd.f22])
     refine⟨⟨i+1,10,m2,by omega,by omega,by rw[zb5 h1,hnm,Bool.and_false];rfl⟩,by simp only;omega,?_⟩
     refine zai ?_ ?_ ?_<;>simp only[go_sem,hw10]
    |true=>
     repeat'(first|refine rq fun _=>?_|simp only[go_sem,h1,hnm,zae,zaa,Tryd.f22])
     refine⟨⟨i+1,c,m2,by omega,by omega,by rw[zb5 h1,hnm,Bool.and_true];exact hc⟩,by simp only;omega,?_⟩
     refine zai ?_ ?_ ?_<;>simp only[go_sem]
   have h1':¬i<x.words.length:=by omega
   rw[List.take_of_length_le h1]at hc
   cases hall:x.words.all zax with
   |false=>
    rw[hall]at hN hc
    rw[if_pos rfl]at hN
    rw[if_neg (by simp)]at hc
    subst hc
    repeat'(first|refine rq fun _=>?_|simp only[go_sem,h1',hw10,Tryd.f22])
    exact kb.out hN (by decide)
   |true=>
    rw[hall]at hN hc
    rw[if_neg (by simp)]at hN
    rw[if_pos rfl]at hc
    subst hc
    have hrest:=kR.out
    rw[if_neg (by rw[hN];simp)]at hrest
    repeat'(first|refine rq fun _=>?_|simp only[go_sem,h1',hw0,Tryd.f22])
    refine zap hm zvf 22000 (lst [19,148]) (ι:={q:zBi // q.j≤x.subs.length∧q.g<q.m∧m+1<q.m∧q.cells.take ((zbk l x.subs d q.j).length*5)=zag ((zbk l x.subs d q.j).map zir)∧(zbk l x.subs d q.j).length*5≤q.cells.length})
     ⟨fun q=>⟨frL [(1,.fz (.b true)),(4,.ptr (22004,1) 0),(5,.arr (22148,q.1.g) 5 0 (zbk l x.subs d q.1.j).length),(6,.fz (.i .i64 n)),(7,.ptr (22007,m) 0),(8,.ptr (22008,m+1) 0),(16,.fz (.i .i64 ((q.1.j:Int)-1)))],
      hpL [((22007,m),some ⟨[.fz (.i .i64 x.kind),.fz (.s x.name.l),.fz (.sl (x.words.map enc)),.fz (.sl (x.subs.map enc)),.fz (.i .i64 d)],true,false⟩),
       ((22008,m+1),some ⟨[.fz (.i .i64 x.kind),.fz (.s x.name.l),.fz (.sl (x.words.map enc)),.fz (.sl (x.subs.map enc))],true,false⟩),
       ((22004,1),some ⟨[.fz (.i .i64 0),.fz (.i .i64 0)],true,false⟩),((22148,q.1.g),some ⟨q.1.cells,false,false⟩)],q.1.m⟩,fun q=>q.1.j⟩
     ⟨⟨x.subs.length,cells,g,m2⟩,Nat.le_refl _,by simp only;omega,by simp only;omega,by simp only;rw[zcS];exact kC.out,by simp only;rw[zcS];omega⟩ (by kernel_rfl) ?_ ?_
    ·refine zai ?_ ?_ ?_<;>simp only[go_sem,zcS]
    rintro⟨⟨j,cells2,g2,m3⟩,hj,hg2,hm3,hc2,hl2⟩
    try simp only at hj hg2 hm3 hc2 hl2
    rcases j with _|j
    ·repeat'(first|refine rq fun _=>?_|simp only[go_sem,Tryd.f22,hw0,Int.zero_sub,Int.reduceNeg,Int.reduceSub])
     refine⟨⟨⟨zbk l x.subs d 0,cells2,g2,m3,n+1⟩,⟨hg2,hc2,hl2,by simp only;omega,by simp only;omega,by simp only;rw[zeD];omega,fun a ha=>?_,?_⟩⟩,by simp only;omega,?_⟩
     ·rcases ziI ha with h|⟨h,h2,rfl⟩
      ·exact kW.out a h
      ·exact⟨kS.out _ h2,by simp only;omega,by simp only;omega⟩
     ·simp only;rw[ziJ];exact hrest
     ·refine zai ?_ ?_ ?_<;>simp only[go_sem]
    ·have hps:=zhA (l:=l) (d:=d) (show j<x.subs.length by omega)
     have e2:((j:Int)+1-1)=(j:Int):=by omega
     have hj2:j<x.subs.length:=by omega
     have hpl:=zeD (l:=l) (s:=x.subs) (d:=d) (j:=j+1)
     repeat'(first|refine rq fun _=>?_|refine zaG.i ⟨by omega,zaA (by omega) (by decide)⟩ fun _=>?_|simp only[go_sem,e2,hj2,zaa,Nat.zero_add,List.drop_zero,hc2,Tryd.f22])
     refine⟨⟨⟨j,zag ((zbk l x.subs d (j+1)).map zir)++zag [zir (x.subs[j],d+1)],m3,m3+1⟩,by simp only;omega,by simp only;omega,by simp only;omega,?_,?_⟩,by simp only;omega,?_⟩
     ·simp only
      rw[hps,List.map_append,zfT,List.length_append,List.length_singleton,List.take_of_length_le]
      ·rfl
      ·rw[List.length_append,zdv,show(zag [zir (x.subs[j],d+1)]).length=5 from rfl];omega
     ·simp only
      rw[hps,List.length_append,List.length_singleton,List.length_append,zdv,show(zag [zir (x.subs[j],d+1)]).length=5 from rfl];omega
     ·have hps2:(zbk l x.subs d j).length=(zbk l x.subs d (j+1)).length+1:=by rw[hps];simp
      refine zai ?_ ?_ ?_<;>simp only[go_sem,hps2,zir]
def X29:Tbl:=R28.add 22 (sp2 (fun(f:Abs.zab) op=>zaP op f) fun _ _=>True)
attribute [go_sem] X29
theorem zEa:zam Tryd.prog GA X29:=zDx
end Go.Proofs.YtmconmiemdinkaaDoor
namespace Go.Proofs.YtmconmiemdinkaaDoor
open Go Go.Abs Go.Proofs
def X30:Tbl:=X29.add 34 (sp1 zar fun f=>f.size≤1000)
attribute [go_sem] X30
theorem zEb:zam Tryd.prog GA X30:=by
 refine zjN zab.size zA0 zEa fun n hT f hn hpre hw=>?_
 by_cases hk:f.kind=10
 ·have e:zar f=[f.name]:=by rw[zkF,if_pos hk]
  rw[e]
  refine zak (N:=25) hm hT 34000 (lsw [22] []) zA0 Tryd.func34 rfl rfl (by simp) (by kernel_rfl) ?_
  repeat'(first|refine rq fun _=>?_|simp only[go_sem,hk,Tryd.f34])
 have e:zar f=zaI f.subs:=by rw[zkF,if_neg hk]
 have hsl:f.subs.length≤zbj:=by
  have h:=zbM (by have h:=hw;rw[zaJ]at h;exact h) (FD.sl (f.subs.map enc)) (by simp)
  have:=zdq h
  simpa using this
 unfold zbj at hsl
 have hse:=@zjL f
 have hlt:∀i (_:i<f.subs.length),(zaI (f.subs.take i)).length+(zar f.subs[i]).length≤1000:=fun i h=>by
  have h1:=zgj h
  have h2:=zeQ (f.subs.take (i+1))
  have h3:=congrArg zab.sizes (List.take_append_drop (i+1) f.subs)
  rw[zab.sizes_app]at h3
  rw[h1,List.length_append]at h2
  omega
 have hsz:∀g∈f.subs,g.size<n∧g.size≤1000:=fun g hg=>by have:=zab.size_sub hg;omega
 have kT:=Kp.mk hT
 have kz:=Kp.mk hsz
 have kl:=Kp.mk hlt
 rw[e]
 clear hT hsz hlt hse hn hw
 refine zak (N:=25) hm kT.out 34000 (lsw [22] []) zA0 Tryd.func34 rfl rfl (by simp) (by kernel_rfl) ?_
 repeat'(first|refine rq fun _=>?_|simp only[go_sem,hk,Tryd.f34])
 refine zap hm kT.out 34000 (lsw [22] []) (ι:=zeF f.subs.length 1 fun _=>True)
  ⟨fun q=>⟨frL [(1,.ptr (34001,0) 0),(3,.ow (34022,q.g) 1 ((zaI (f.subs.take q.i)).map enc)),(13,.fz (.sl (f.subs.map enc))),(14,.fz (.i .i64 f.subs.length)),(15,.fz (.i .i64 q.i))],
   hpL [((34022,q.g),some tok)],q.m⟩,fun q=>f.subs.length-q.i⟩
  ⟨0,1,2,by omega,by omega,by omega,trivial⟩ (by kernel_rfl) ?_ ?_
 ·refine zcV [] [(34022,1)] [] ?_ ?_ ?_ ?_ ?_<;>simp only[go_sem,zaI]
  all_goals rfl
 rintro⟨i,g,m,hi,hg,hm1,_⟩
 try simp only at hi hg hm1
 rcases Nat.lt_or_ge i f.subs.length with h1|h1
 ·obtain⟨x,hx⟩:∃x,f.subs[i]=x:=⟨_,rfl⟩
  have hxs:x.size<n∧x.size≤1000:=kz.out x (by rw[←hx];exact List.getElem_mem h1)
  have hb:=kl.out i h1
  have et:=zgj h1
  rw[hx]at hb et
  repeat'(first|refine zaG.i hxs fun _=>?_|refine rq fun _=>?_|refine zaG.i (zaA (by omega) (by decide)) fun _=>?_|refine rq fun _=>?_|simp only[go_sem,h1,hx,zac,zaa,Tryd.f34])
  refine⟨⟨i+1,m+1,m+2,by omega,by omega,by omega,trivial⟩,by simp only;omega,?_⟩
  refine zai ?_ ?_ ?_<;>simp only[go_sem,et,List.map_append]
 ·obtain rfl:i=f.subs.length:=by omega
  repeat'(first|refine rq fun _=>?_|simp only[go_sem,Nat.lt_irrefl,List.take_length,Tryd.f34])
def X31:Tbl:=X30.add 23 (sp1 zcG fun f=>f.size≤1000)
attribute [go_sem] X31
theorem zr5:zam Tryd.prog GA X31:=by
 refine zjN zab.size zAY zEb fun n hT f hn hpre hw=>?_
 obtain⟨h0,hh0⟩:∃h0,(if f.kind=10 then[f.name]else[])=h0:=⟨_,rfl⟩
 have e:zcG f=h0++zaS f.subs:=by rw[zp2,hh0]
 have hsl:f.subs.length≤zbj:=by
  have h:=zbM (by have h:=hw;rw[zaJ]at h;exact h) (FD.sl (f.subs.map enc)) (by simp)
  have:=zdq h
  simpa using this
 unfold zbj at hsl
 have hse:=@zjL f
 have hl0:h0.length≤1:=by rw[←hh0];split<;>simp
 have hlt:∀i (_:i<f.subs.length),(h0++zaS (f.subs.take i)).length+(zcG f.subs[i]).length≤1001:=fun i h=>by
  have h1:=zgk h
  have h2:=zeR (f.subs.take (i+1))
  have h3:=congrArg zab.sizes (List.take_append_drop (i+1) f.subs)
  rw[zab.sizes_app]at h3
  rw[h1,List.length_append]at h2
  rw[List.length_append]
  omega
 have hsz:∀g∈f.subs,g.size<n∧g.size≤1000:=fun g hg=>by have:=zab.size_sub hg;omega
 have hst:∀i (_:i<f.subs.length),h0++zaS (f.subs.take (i+1))=(h0++zaS (f.subs.take i))++zcG f.subs[i]:=fun i h=>by rw[zgk h,List.append_assoc]
 have hen:h0++zaS f.subs=h0++zaS (f.subs.take f.subs.length):=by rw[List.take_length]
 have h00:h0=h0++zaS (f.subs.take 0):=by simp[zaS]
 rw[e,hen]
 obtain⟨A,hA⟩:∃A:Nat→List Str,A=fun i=>h0++zaS (f.subs.take i):=⟨_,rfl⟩
 have hAi:∀i,h0++zaS (f.subs.take i)=A i:=fun i=>by rw[hA]
 rw[hAi]at h00
 simp only[hAi]at hlt hst ⊢
 have kT:=Kp.mk hT
 have kz:=Kp.mk hsz
 have kl:=Kp.mk hlt
 have ks:=Kp.mk hst
 clear hT hsz hlt hse hn hw hst hen hA hAi e
 rcases Classical.em (f.kind=10)with hk|hk
 case' inl=>
  rw[if_pos hk]at hh0
  subst hh0
  refine zak (N:=29) hm kT.out 23000 (lsw [12,26] []) zAY Tryd.func23 rfl rfl (by simp) (by kernel_rfl) ?_
  repeat'(first|refine rq fun _=>?_|refine zaG.i (zaA (by decide) (by decide)) fun _=>?_|simp only[go_sem,hk,Tryd.f23])
  refine zap hm kT.out 23000 (lsw [12,26] []) (ι:=zeF f.subs.length 1 fun _=>True)
   ⟨fun q=>⟨frL [(1,.ptr (23001,0) 0),(3,.ow (23026,q.g) 1 ((A q.i).map enc)),(15,.fz (.i .i64 f.subs.length)),(16,.fz (.i .i64 q.i))],
    hpL [((23001,0),some ⟨[.fz (.i .i64 f.kind),.fz (.s f.name.l),.fz (.sl (f.words.map enc)),.fz (.sl (f.subs.map enc))],true,false⟩),((23026,q.g),some tok)],q.m⟩,fun q=>f.subs.length-q.i⟩
   ⟨0,2,3,by omega,by omega,by omega,trivial⟩ (by kernel_rfl) ?_ ?_
  ·refine zcV [((23026,2),(23012,1))] [] [] ?_ ?_ ?_ ?_ ?_<;>simp only[go_sem,zuz,hk,←h00]
   all_goals first|done|rfl
 case' inr=>
  rw[if_neg hk]at hh0
  subst hh0
  refine zak (N:=29) hm kT.out 23000 (lsw [12,26] []) zAY Tryd.func23 rfl rfl (by simp) (by kernel_rfl) ?_
  repeat'(first|refine rq fun _=>?_|simp only[go_sem,hk,Tryd.f23])
  refine zap hm kT.out 23000 (lsw [12,26] []) (ι:=zeF f.subs.length 1 fun _=>True)
   ⟨fun q=>⟨frL [(1,.ptr (23001,0) 0),(3,.ow (23026,q.g) 1 ((A q.i).map enc)),(15,.fz (.i .i64 f.subs.length)),(16,.fz (.i .i64 q.i))],
    hpL [((23001,0),some ⟨[.fz (.i .i64 f.kind),.fz (.s f.name.l),.fz (.sl (f.words.map enc)),.fz (.sl (f.subs.map enc))],true,false⟩),((23026,q.g),some tok)],q.m⟩,fun q=>f.subs.length-q.i⟩
   ⟨0,1,2,by omega,by omega,by omega,trivial⟩ (by kernel_rfl) ?_ ?_
  ·refine zcV [] [(23026,1)] [] ?_ ?_ ?_ ?_ ?_<;>simp only[go_sem,←h00]
   all_goals first|done|rfl
 all_goals
  rintro⟨i,g,m,hi,hg,hm1,_⟩
  try simp only at hi hg hm1
  rcases Nat.lt_or_ge i f.subs.length with h1|h1
  ·obtain⟨x,hx⟩:∃x,f.subs[i]=x:=⟨_,rfl⟩
   have hxs:x.size<n∧x.size≤1000:=kz.out x (by rw[←hx];exact List.getElem_mem h1)
   have hb:=kl.out i h1
   have et:=ks.out i h1
   rw[hx]at hb et
   repeat'(first|refine zaG.i hxs fun _=>?_|refine rq fun _=>?_|refine zaG.i (zaA (by omega) (by decide)) fun _=>?_|refine rq fun _=>?_|simp only[go_sem,h1,hx,zac,zaa,Tryd.f23])
   refine⟨⟨i+1,m,m+1,by omega,by omega,by omega,trivial⟩,by simp only;omega,?_⟩
   refine zai ?_ ?_ ?_<;>simp only[go_sem,et,List.map_append]
  ·obtain rfl:i=f.subs.length:=by omega
   repeat'(first|refine rq fun _=>?_|simp only[go_sem,Nat.lt_irrefl,List.take_length,Tryd.f23])
end Go.Proofs.YtmconmiemdinkaaDoor
namespace Go.Proofs.YtmconmiemdinkaaDoor
open Go Go.Abs Go.Proofs
theorem f30 {c a:Int}{id:Abs.Id}{H:zau}{n:Nat}{R:D→zau→Nat→Prop}(hid:id.2<n)(ho:H id=some ⟨[.fz (.i .i64 a)],true,false⟩)(hR:∀n',n≤n'→R (.agg [.fz (.i .i64 c),.fz (.i .i64 a)]) H n'):
  zaE Tryd.prog GA 30 [.fz (.i .i64 c),.ptr id 0] H n R:=by
 refine zbC zCJ (fun hfr=>?_) hR
 have hne:id≠(30003,n):=by rintro rfl;simp at hid
 have hne':(id=(30003,n))=False:=eq_false hne
 obtain⟨Q,hQ⟩:∃Q:D→zau→Nat→Prop,Q=(fun d' H' n'=>d'= .agg [.fz (.i .i64 c),.fz (.i .i64 a)]∧n≤n'∧∀id,id.2<n→H' id=H id):=⟨_,rfl⟩
 rw[←hQ]
 have e:H=hpX [] H:=rfl
 rw[e]
 refine zak (N:=7) hm zr5 30000 (lst []) zCJ Tryd.func30 rfl rfl (by simp) (by kernel_rfl) ?_
 simp only[go_sem]
 rw[if_neg hne,ho]
 simp only[go_sem,Tryd.f30]
 rw[hQ]
 refine⟨?_,by omega,fun id hid=>zma (n:=n) (by intro p hp;simp at hp;rcases hp with rfl|rfl<;>simp) id hid⟩
 simp only[go_sem]
structure VI (s:Abs.zal) where
 i:Nat
 g1:Nat
 g2:Nat
 m:Nat
 hi:i≤s.pieces.length
 h1:g1<m
 h2:g2<m
 hm:4≤m
 hn:zb8 (s.pieces.take i)≤200*i∧zcK (s.pieces.take i)≤200*i∧(zaU (s.pieces.take i)).length≤200*i
 hp:zfx (zan (s.pieces.take i)) (zaU (s.pieces.take i)) (s.pieces.drop i) i=zfx [] [] s.pieces 0
def X32:Tbl:=X31.add 9 (sp1 za9 fun _=>True)
attribute [go_sem] X32
set_option maxHeartbeats 8000000 in
theorem zs6:zam Tryd.prog GA X32:=by
 refine zcu ok9 zr5 fun s _ hw=>?_
 obtain⟨Q,hQ⟩:∃Q:D→zau→Nat→Prop,Q=(fun d _ _=>D.val d=some (.fz (enc (za9 s)))):=⟨_,rfl⟩
 rw[←hQ]
 have hres:∀{c i:Int} {H':zau} {n':Nat},za9 s=⟨c,i⟩→Q (.agg [.fz (.i .i64 c),.fz (.i .i64 i)]) H' n':=fun e=>by
  rw[hQ];show _=some (D.fz (enc (za9 s)));rw[e];rfl
 have kr:=Kp.mk @hres
 have hlo:s.overs.length≤zbj:=by
  have h:=zbM (by have h:=hw;rw[zcR]at h;exact h) (FD.sl (s.overs.map enc)) (by simp)
  have:=zdq h
  simpa using this
 have hlv:s.vars.length≤zbj:=by
  have h:=zbM (by have h:=hw;rw[zcR]at h;exact h) (FD.sl (s.vars.map enc)) (by simp)
  have:=zdq h
  simpa using this
 unfold zbj at hlo hlv
 clear hres hQ hw
 by_cases h0:s.pieces.length=0
 ·refine zak (N:=156) hm zr5 9000 (lsw [55,82] []) ok9 Tryd.func9 rfl rfl (by simp) (by kernel_rfl) ?_
  have h0':(((s.pieces.length:Nat):Int)=0)=True:=eq_true (by omega)
  have h0'':(((s.pieces.length:Nat):Int)<1)=True:=eq_true (by omega)
  repeat'(first|refine rq fun _=>?_|simp only[go_sem,h0',h0'',zae,zac,Tryd.f9])
  exact kr.out (by unfold za9;rw[if_pos (.inl h0)])
 by_cases h6:6<s.pieces.length
 ·refine zak (N:=156) hm zr5 9000 (lsw [55,82] []) ok9 Tryd.func9 rfl rfl (by simp) (by kernel_rfl) ?_
  have h0':(((s.pieces.length:Nat):Int)=0)=False:=eq_false (by omega)
  have h0'':(((s.pieces.length:Nat):Int)<1)=False:=eq_false (by omega)
  have h6':(6<((s.pieces.length:Nat):Int))=True:=eq_true (by omega)
  repeat'(first|refine rq fun _=>?_|simp only[go_sem,h0',h0'',h6',zae,zac,Tryd.f9])
  exact kr.out (by unfold za9;rw[if_pos (.inr h6)])
 have h0':(((s.pieces.length:Nat):Int)=0)=False:=eq_false (by omega)
 have h0'':(((s.pieces.length:Nat):Int)<1)=False:=eq_false (by omega)
 have h6':(6<((s.pieces.length:Nat):Int))=False:=eq_false (by omega)
 have e1:=zk8 h0 h6
 refine zak (N:=156) hm zr5 9000 (lsw [55,82] []) ok9 Tryd.func9 rfl rfl (by simp) (by kernel_rfl) ?_
 repeat'(first|refine rq fun _=>?_|simp only[go_sem,h0',h0'',h6',zae,zac,Tryd.f9])
 refine zap hm zr5 9000 (lsw [55,82] []) (ι:=VI s)
  ⟨fun q=>⟨frL [(1,.ptr (9001,0) 0),(2,.ptr (9002,1) 0),(3,.ow (9055,q.g1) 1 ((zan (s.pieces.take q.i)).map enc)),(4,.ow (9082,q.g2) 1 ((zaU (s.pieces.take q.i)).map enc)),(5,.fz (.i .i64 (zb8 (s.pieces.take q.i)))),(6,.fz (.i .i64 (zcK (s.pieces.take q.i)))),(31,.fz (.sl (s.pieces.map enc))),(32,.fz (.i .i64 s.pieces.length)),(33,.fz (.i .i64 q.i))],
   hpL [((9001,0),some ⟨[.fz (.sl (s.pieces.map enc)),.fz (.sl (s.overs.map enc)),.fz (.sl (s.vars.map enc))],true,false⟩),((9002,1),some ⟨[.fz (.i .i64 0),.fz (.i .i64 0)],true,false⟩),((9055,q.g1),some tok),((9082,q.g2),some tok)],q.m⟩,fun q=>s.pieces.length-q.i⟩
  ⟨0,2,3,4,by omega,by omega,by omega,by omega,⟨by simp[zb8,zab.sizes],by simp[zcK],by simp[zaU]⟩,by simp[zan,zaU]⟩ (by kernel_rfl) ?_ ?_
 ·refine zcV [] [(9055,2),(9082,3)] [] ?_ ?_ ?_ ?_ ?_<;>simp only[go_sem,List.take_zero,zan,zaU,zb8,zcK,zab.sizes]
  all_goals first|done|rfl
 rintro⟨i,g1,g2,m,hi,hg1,hg2,hm1,⟨hn1,hn2,hn3⟩,hp⟩
 try simp only at hi hg1 hg2 hm1 hn1 hn2 hn3 hp
 have hll:(zan (s.pieces.take i)).length=i:=by unfold zan;rw[List.length_map,List.length_take];omega
 rcases Nat.lt_or_ge i s.pieces.length with h1|h1
 ·rw[ziL h1]at hp
  have el:=zgl h1
  have ea:=zj1 h1
  have en:=zhw h1
  have ed:=zim h1
  obtain⟨p,hpe⟩:∃p,s.pieces[i]=p:=⟨_,rfl⟩
  rw[hpe]at hp el ea en ed
  obtain⟨L,hL⟩:∃L,zan (s.pieces.take i)=L:=⟨_,rfl⟩
  obtain⟨A,hA⟩:∃A,zaU (s.pieces.take i)=A:=⟨_,rfl⟩
  obtain⟨N,hN⟩:∃N,zb8 (s.pieces.take i)=N:=⟨_,rfl⟩
  obtain⟨E,hE⟩:∃E,zcK (s.pieces.take i)=E:=⟨_,rfl⟩
  rw[hL,hA]at hp
  rw[hL]at el hll
  rw[hA]at ea hn3
  rw[hN]at en hn1
  rw[hE]at ed hn2
  simp only[hL,hA,hN,hE]
  have bad:∀{c:Int},zcb L A p=c→c≠0→za9 s=⟨c,i⟩:=fun h h2=>by
   rw[h,if_pos h2]at hp
   rw[e1,←hp,if_pos h2]
  cases hnm:zax p.label with
  |false=>
   repeat'(first|refine rq fun _=>?_|refine zaG.i hsz fun _=>?_|refine zaG.i hsp fun _=>?_|refine zaG.i (zaA (by first|omega|(simp only[List.length_map,List.length_append,List.length_cons,List.length_nil];omega)) (by decide)) fun _=>?_|refine rq fun _=>?_|refine zaF.i (f30 (a:=(i:Int)) (by simp only;omega) (by simp only[go_sem]) fun n' hn'=>?_)|simp only[go_sem,h1,hpe,hnm,zaa,zae,zac,Tryd.f9])
   exact kr.out (bad (by unfold zcb;rw[if_pos hnm]) (by decide))
  |true=>
  by_cases hlm:p.label∈L
  ·repeat'(first|refine rq fun _=>?_|refine zaG.i hsz fun _=>?_|refine zaG.i hsp fun _=>?_|refine zaG.i (zaA (by first|omega|(simp only[List.length_map,List.length_append,List.length_cons,List.length_nil];omega)) (by decide)) fun _=>?_|refine rq fun _=>?_|refine zaF.i (f30 (a:=(i:Int)) (by simp only;omega) (by simp only[go_sem]) fun n' hn'=>?_)|simp only[go_sem,h1,hpe,hnm,hlm,decide_true,zaa,zae,zac,Tryd.f9])
   exact kr.out (bad (by unfold zcb;rw[if_neg (by simp[hnm]),if_pos hlm]) (by decide))
  have hlm':=decide_eq_false hlm
  by_cases hck:¬(zaP true p.form).code=0
  ·obtain⟨ck,hcke⟩:∃ck,zaP true p.form=ck:=⟨_,rfl⟩
   rw[hcke]at hck
   repeat'(first|refine rq fun _=>?_|refine zaG.i hsz fun _=>?_|refine zaG.i hsp fun _=>?_|refine zaG.i (zaA (by first|omega|(simp only[List.length_map,List.length_append,List.length_cons,List.length_nil];omega)) (by decide)) fun _=>?_|refine rq fun _=>?_|refine zaF.i (f30 (a:=(i:Int)) (by simp only;omega) (by simp only[go_sem]) fun n' hn'=>?_)|simp only[go_sem,h1,hpe,hnm,hlm',hcke,hck,zaa,zae,zac,Tryd.f9])
   exact kr.out (bad (by unfold zcb;rw[if_neg (by simp[hnm]),if_neg hlm,if_pos (by rw[hcke];exact hck),hcke]) hck)
  have hck:=Decidable.not_not.1 hck
  have hcke:=zg8 hck
  have hsp:p.form.size≤1000:=by have:=zaV hck;omega
  have hsz:zll p.form:=⟨zew hck,by omega⟩
  have hs2:=zaV hck
  have hd2:=p.form.depth_size
  have hr2:=zcq hck
  have hhl:=zbr p.form
  obtain⟨hs,hhs⟩:∃hs,zar p.form=hs:=⟨_,rfl⟩
  rw[hhs]at hr2 hhl ea hp
  have hpc:zcb L A p=if zlU A hs=true then 7 else 0:=by unfold zcb;rw[if_neg (by simp[hnm]),if_neg hlm,if_neg (by simp[hck]),hhs]
  repeat'(first|refine rq fun _=>?_|refine zaG.i hsz fun _=>?_|refine zaG.i hsp fun _=>?_|refine zaG.i (zaA (by first|omega|(simp only[List.length_map,List.length_append,List.length_cons,List.length_nil];omega)) (by decide)) fun _=>?_|refine rq fun _=>?_|refine zaF.i (f30 (a:=(i:Int)) (by simp only;omega) (by simp only[go_sem]) fun n' hn'=>?_)|simp only[go_sem,h1,hpe,hnm,hlm',hcke,hhs,hr2,zaa,zae,zac,Tryd.f9])
  refine zap hm zr5 9000 (lsw [55,82] []) (ι:=zeF hs.length (m+4) fun j=>zlU (A++hs.take j) (hs.drop j)=zlU A hs)
   ⟨fun q=>⟨frL [(1,.ptr (9001,0) 0),(2,.ptr (9002,1) 0),(3,.ow (9055,m+2) 1 ((L++[p.label]).map enc)),(4,.ow (9082,q.g) 1 ((A++hs.take q.i).map enc)),(5,.fz (.i .i64 N)),(6,.fz (.i .i64 E)),(7,.ptr (9007,m) 0),(8,.ptr (9008,m+1) 0),(9,.fn 30 [.ptr (9007,m) 0]),(31,.fz (.sl (s.pieces.map enc))),(32,.fz (.i .i64 s.pieces.length)),(33,.fz (.i .i64 i)),(68,.fz (.sl (hs.map enc))),(69,.fz (.i .i64 hs.length)),(70,.fz (.i .i64 q.i))],
    hpL [((9001,0),some ⟨[.fz (.sl (s.pieces.map enc)),.fz (.sl (s.overs.map enc)),.fz (.sl (s.vars.map enc))],true,false⟩),((9002,1),some ⟨[.fz (.i .i64 0),.fz (.i .i64 0)],true,false⟩),((9055,m+2),some tok),((9082,q.g),some tok),((9007,m),some ⟨[.fz (.i .i64 i)],true,false⟩),((9008,m+1),some ⟨[.fz (.s p.label.l),.fz (.i .i64 p.form.kind),.fz (.s p.form.name.l),.fz (.sl (p.form.words.map enc)),.fz (.sl (p.form.subs.map enc))],true,false⟩)],q.m⟩,fun q=>hs.length-q.i⟩
   ⟨0,g2,m+4,by omega,by omega,by omega,by simp⟩ (by kernel_rfl) ?_ ?_
  ·refine zai ?_ ?_ ?_<;>simp only[go_sem,List.take_zero,List.append_nil,List.map_append]
  rintro⟨j,g,m',hj,hg,hm',hd⟩
  try simp only at hj hg hm' hd
  have hAl:(A++hs.take j).length≤200*i+200:=by rw[List.length_append,List.length_take];omega
  rcases Nat.lt_or_ge j hs.length with h2|h2
  ·rw[zkl h2]at hd
   have et:A++hs.take (j+1)=(A++hs.take j)++[hs[j]]:=by rw[List.take_succ_eq_append_getElem h2,List.append_assoc]
   obtain⟨x,hx⟩:∃x,hs[j]=x:=⟨_,rfl⟩
   rw[hx]at hd et
   obtain⟨B,hB⟩:∃B,A++hs.take j=B:=⟨_,rfl⟩
   rw[hB]at hd hAl et
   simp only[hB]
   by_cases hxm:x∈B
   ·repeat'(first|refine rq fun _=>?_|refine zaG.i hsz fun _=>?_|refine zaG.i hsp fun _=>?_|refine zaG.i (zaA (by first|omega|(simp only[List.length_map,List.length_append,List.length_cons,List.length_nil];omega)) (by decide)) fun _=>?_|refine rq fun _=>?_|refine zaF.i (f30 (a:=(i:Int)) (by simp only;omega) (by simp only[go_sem]) fun n' hn'=>?_)|simp only[go_sem,h2,hx,hxm,decide_true,zaa,zae,zac,Tryd.f9])
    exact kr.out (bad (by rw[hpc,←hd,decide_eq_true hxm];rfl) (by decide))
   ·have hxm':=decide_eq_false hxm
    repeat'(first|refine rq fun _=>?_|refine zaG.i hsz fun _=>?_|refine zaG.i hsp fun _=>?_|refine zaG.i (zaA (by first|omega|(simp only[List.length_map,List.length_append,List.length_cons,List.length_nil];omega)) (by decide)) fun _=>?_|refine rq fun _=>?_|refine zaF.i (f30 (a:=(i:Int)) (by simp only;omega) (by simp only[go_sem]) fun n' hn'=>?_)|simp only[go_sem,h2,hx,hxm',zaa,zae,zac,Tryd.f9])
    refine⟨⟨j+1,m',m'+1,by omega,by omega,by omega,by rw[et,←hd,hxm',Bool.false_or]⟩,by simp only;omega,?_⟩
    refine zai ?_ ?_ ?_<;>simp only[go_sem,et,List.map_append]
  ·obtain rfl:j=hs.length:=by omega
   rw[List.take_length,List.drop_length]at hd
   have h2':¬hs.length<hs.length:=Nat.lt_irrefl _
   rw[hpc,←hd,if_neg (by simp[zlU])]at hp
   try rw[if_neg (by simp)]at hp
   rw[List.take_length]at hAl
   simp only[List.take_length]
   repeat'(first|refine rq fun _=>?_|refine zaG.i hsz fun _=>?_|refine zaG.i hsp fun _=>?_|refine zaG.i (zaA (by first|omega|(simp only[List.length_map,List.length_append,List.length_cons,List.length_nil];omega)) (by decide)) fun _=>?_|refine rq fun _=>?_|refine zaF.i (f30 (a:=(i:Int)) (by simp only;omega) (by simp only[go_sem]) fun n' hn'=>?_)|simp only[go_sem,h2',Int.lt_irrefl,zae,zac,Tryd.f9])
   refine⟨⟨i+1,m+2,g,m',by omega,by omega,by omega,by omega,⟨by rw[en];omega,by rw[ed];omega,by rw[ea];omega⟩,by rw[el,ea];exact hp⟩,by simp only;omega,?_⟩
   refine zai ?_ ?_ ?_<;>simp only[go_sem,el,ea,en,ed,List.map_append,Int.natCast_add]
 obtain rfl:i=s.pieces.length:=by omega
 rw[List.drop_length,zfx]at hp
 rw[←hp,if_neg (by simp)]at e1
 rw[List.take_length]at hn1 hn2 hn3 hll
 simp only[List.take_length]
 obtain⟨L,hL⟩:∃L,zan s.pieces=L:=⟨_,rfl⟩
 obtain⟨A,hA⟩:∃A,zaU s.pieces=A:=⟨_,rfl⟩
 obtain⟨N,hN⟩:∃N,zb8 s.pieces=N:=⟨_,rfl⟩
 obtain⟨E,hE⟩:∃E,zcK s.pieces=E:=⟨_,rfl⟩
 rw[hL,hA,hN,hE]at e1
 simp only[hL,hA,hN,hE]
 clear hp hn1 hn2 hn3 hL hA hN hE hll
 by_cases hN2:200<N
 ·have c1:(200<(N:Int))=True:=eq_true (by omega)
  repeat'(first|refine rq fun _=>?_|simp only[go_sem,Nat.lt_irrefl,Int.lt_irrefl,c1,zae,zac,Tryd.f9])
  exact kr.out (by rw[e1,if_pos (.inl hN2)])
 have c1:(200<(N:Int))=False:=eq_false (by omega)
 by_cases hE2:40<E
 ·have c2:(40<(E:Int))=True:=eq_true (by omega)
  repeat'(first|refine rq fun _=>?_|simp only[go_sem,Nat.lt_irrefl,Int.lt_irrefl,c1,c2,zae,zac,Tryd.f9])
  exact kr.out (by rw[e1,if_pos (.inr hE2)])
 have c2:(40<(E:Int))=False:=eq_false (by omega)
 rw[if_neg (by omega)]at e1
 by_cases ho:300<s.overs.length
 ·have c3:(300<((s.overs.length:Nat):Int))=True:=eq_true (by omega)
  repeat'(first|refine rq fun _=>?_|simp only[go_sem,Nat.lt_irrefl,Int.lt_irrefl,c1,c2,c3,zae,zac,Tryd.f9])
  exact kr.out (by rw[e1,if_pos ho])
 have c3:(300<((s.overs.length:Nat):Int))=False:=eq_false (by omega)
 rw[if_neg ho]at e1
 repeat'(first|refine rq fun _=>?_|simp only[go_sem,Nat.lt_irrefl,Int.lt_irrefl,c1,c2,c3,zae,zac,Tryd.f9])
 refine zap hm zr5 9000 (lsw [55,82] []) (ι:=zdI s.overs.length m fun j=>(s.overs.take j).all (za5 L A)=true)
  ⟨fun q=>⟨frL [(1,.ptr (9001,0) 0),(2,.ptr (9002,1) 0),(3,.ow (9055,g1) 1 (L.map enc)),(4,.ow (9082,g2) 1 (A.map enc)),(110,.fz (.sl (s.overs.map enc))),(111,.fz (.i .i64 s.overs.length)),(112,.fz (.i .i64 q.i))],
   hpL [((9001,0),some ⟨[.fz (.sl (s.pieces.map enc)),.fz (.sl (s.overs.map enc)),.fz (.sl (s.vars.map enc))],true,false⟩),((9002,1),some ⟨[.fz (.i .i64 0),.fz (.i .i64 0)],true,false⟩),((9055,g1),some tok),((9082,g2),some tok)],q.m⟩,fun q=>s.overs.length-q.i⟩
  ⟨0,m,by omega,by omega,by simp⟩ (by kernel_rfl) ?_ ?_
 ·refine zai ?_ ?_ ?_<;>simp only[go_sem]
 rintro⟨j,m',hj,hm',hal⟩
 try simp only at hj hm' hal
 rcases Nat.lt_or_ge j s.overs.length with h2|h2
 ·have hat:(s.overs.take (j+1)).all (za5 L A)=((s.overs.take j).all (za5 L A)&&za5 L A s.overs[j]):=by
   rw[List.take_succ_eq_append_getElem h2,List.all_append];simp
  have hbd:za5 L A s.overs[j]=false→s.overs.all (za5 L A)=false:=fun hb=>by
   cases ha:s.overs.all (za5 L A)with
   |false=>rfl
   |true=>rw[List.all_eq_true.1 ha _ (List.getElem_mem h2)]at hb;cases hb
  obtain⟨x,hx⟩:∃x,s.overs[j]=x:=⟨_,rfl⟩
  rw[hx]at hat hbd
  by_cases hxa:x.hole∈A
  ·by_cases hxl:x.label∈L
   ·repeat'(first|refine rq fun _=>?_|refine zaG.i hsz fun _=>?_|refine zaG.i hsp fun _=>?_|refine zaG.i (zaA (by first|omega|(simp only[List.length_map,List.length_append,List.length_cons,List.length_nil];omega)) (by decide)) fun _=>?_|refine rq fun _=>?_|simp only[go_sem,h2,hx,hxa,hxl,decide_true,zaa,zae,zac,Tryd.f9])
    refine⟨⟨j+1,m'+1,by omega,by omega,by rw[hat,hal];simp[za5,hxa,hxl]⟩,by simp only;omega,?_⟩
    refine zai ?_ ?_ ?_<;>simp only[go_sem]
   ·have hxl':=decide_eq_false hxl
    repeat'(first|refine rq fun _=>?_|refine zaG.i hsz fun _=>?_|refine zaG.i hsp fun _=>?_|refine zaG.i (zaA (by first|omega|(simp only[List.length_map,List.length_append,List.length_cons,List.length_nil];omega)) (by decide)) fun _=>?_|refine rq fun _=>?_|simp only[go_sem,h2,hx,hxa,hxl',decide_true,zaa,zae,zac,Tryd.f9])
    exact kr.out (by rw[e1,if_pos (hbd (by simp[za5,hxl]))])
  ·have hxa':=decide_eq_false hxa
   repeat'(first|refine rq fun _=>?_|refine zaG.i hsz fun _=>?_|refine zaG.i hsp fun _=>?_|refine zaG.i (zaA (by first|omega|(simp only[List.length_map,List.length_append,List.length_cons,List.length_nil];omega)) (by decide)) fun _=>?_|refine rq fun _=>?_|simp only[go_sem,h2,hx,hxa',zaa,zae,zac,Tryd.f9])
   exact kr.out (by rw[e1,if_pos (hbd (by simp[za5,hxa]))])
 obtain rfl:j=s.overs.length:=by omega
 rw[List.take_length]at hal
 rw[if_neg (by simp[hal])]at e1
 by_cases hv:6<s.vars.length
 ·have c4:(6<((s.vars.length:Nat):Int))=True:=eq_true (by omega)
  repeat'(first|refine rq fun _=>?_|simp only[go_sem,Nat.lt_irrefl,Int.lt_irrefl,c4,zae,zac,Tryd.f9])
  exact kr.out (by rw[e1,if_pos hv])
 have c4:(6<((s.vars.length:Nat):Int))=False:=eq_false (by omega)
 rw[if_neg hv]at e1
 repeat'(first|refine rq fun _=>?_|simp only[go_sem,Nat.lt_irrefl,Int.lt_irrefl,c4,zae,zac,Tryd.f9])
 refine zap hm zr5 9000 (lsw [55,82] []) (ι:=zd3 s.vars.length fun j=>zfy (s.vars.take j) (s.vars.drop j)=zfy [] s.vars)
  ⟨fun q=>⟨frL [(1,.ptr (9001,0) 0),(2,.ptr (9002,1) 0),(136,.fz (.sl (s.vars.map enc))),(137,.fz (.i .i64 s.vars.length)),(138,.fz (.i .i64 q.i))],
   hpL [((9001,0),some ⟨[.fz (.sl (s.pieces.map enc)),.fz (.sl (s.overs.map enc)),.fz (.sl (s.vars.map enc))],true,false⟩),((9002,1),some ⟨[.fz (.i .i64 0),.fz (.i .i64 0)],true,false⟩)],m'⟩,fun q=>s.vars.length-q.i⟩
  ⟨0,by omega,by simp⟩ (by kernel_rfl) ?_ ?_
 ·refine zai ?_ ?_ ?_<;>simp only[go_sem]
 rintro⟨j,hj,hvr⟩
 try simp only at hj hvr
 rcases Nat.lt_or_ge j s.vars.length with h2|h2
 ·rw[ziM h2]at hvr
  have et:s.vars.take (j+1)=s.vars.take j++[s.vars[j]]:=List.take_succ_eq_append_getElem h2
  obtain⟨x,hx⟩:∃x,s.vars[j]=x:=⟨_,rfl⟩
  rw[hx]at hvr et
  have bad:∀{c:Int},znr (s.vars.take j) x=c→c≠0→za9 s=⟨c, -3⟩:=fun h h3=>by
   rw[h,if_pos h3]at hvr
   rw[e1,←hvr,if_pos h3]
  cases hnm:zax x with
  |false=>
   repeat'(first|refine rq fun _=>?_|refine zaG.i hsz fun _=>?_|refine zaG.i hsp fun _=>?_|refine zaG.i (zaA (by first|omega|(simp only[List.length_map,List.length_append,List.length_cons,List.length_nil];omega)) (by decide)) fun _=>?_|refine rq fun _=>?_|simp only[go_sem,h2,hx,hnm,zaa,zae,zac,Tryd.f9])
   exact kr.out (bad (by unfold znr;rw[if_pos hnm]) (by decide))
  |true=>
  by_cases hm2:x∈s.vars.take j
  ·repeat'(first|refine rq fun _=>?_|refine zaG.i hsz fun _=>?_|refine zaG.i hsp fun _=>?_|refine zaG.i (zaA (by first|omega|(simp only[List.length_map,List.length_append,List.length_cons,List.length_nil];omega)) (by decide)) fun _=>?_|refine rq fun _=>?_|simp only[go_sem,h2,hx,hnm,hm2,hj,decide_true,zaa,←List.map_take,List.drop_zero,zae,zac,Tryd.f9])
   exact kr.out (bad (by unfold znr;rw[if_neg (by simp[hnm]),if_pos hm2]) (by decide))
  ·have hm2':=decide_eq_false hm2
   repeat'(first|refine rq fun _=>?_|refine zaG.i hsz fun _=>?_|refine zaG.i hsp fun _=>?_|refine zaG.i (zaA (by first|omega|(simp only[List.length_map,List.length_append,List.length_cons,List.length_nil];omega)) (by decide)) fun _=>?_|refine rq fun _=>?_|simp only[go_sem,h2,hx,hnm,hm2',hj,zaa,←List.map_take,List.drop_zero,zae,zac,Tryd.f9])
   refine⟨⟨j+1,by omega,?_⟩,by simp only;omega,?_⟩
   ·rw[show znr (s.vars.take j) x=0 by unfold znr;rw[if_neg (by simp[hnm]),if_neg hm2],if_neg (by simp)]at hvr
    rw[et];exact hvr
   ·refine zai ?_ ?_ ?_<;>simp only[go_sem]
 obtain rfl:j=s.vars.length:=by omega
 rw[List.drop_length,zfy]at hvr
 rw[←hvr,if_neg (by simp)]at e1
 repeat'(first|refine rq fun _=>?_|simp only[go_sem,Nat.lt_irrefl,Int.lt_irrefl,zae,zac,Tryd.f9])
 exact kr.out e1
end Go.Proofs.YtmconmiemdinkaaDoor
namespace Go.Proofs.YtmconmiemdinkaaDoor
open Go Go.Abs Go.Proofs
def X33:Tbl:=X32.add 6 (sp1 za9 fun _=>True)
attribute [go_sem] X33
set_option maxHeartbeats 8000000 in
theorem zEc:zam Tryd.prog GA X33:=by
 refine zcu ok6 zs6 fun s _ hw=>?_
 obtain⟨Q,hQ⟩:∃Q:D→zau→Nat→Prop,Q=(fun d _ _=>D.val d=some (.fz (enc (za9 s)))):=⟨_,rfl⟩
 rw[←hQ]
 have hres:∀{c i:Int} {H':zau} {n':Nat},za9 s=⟨c,i⟩→Q (.agg [.fz (.i .i64 c),.fz (.i .i64 i)]) H' n':=fun e=>by
  rw[hQ];show _=some (D.fz (enc (za9 s)));rw[e];rfl
 have kr:=Kp.mk @hres
 have hlo:s.overs.length≤zbj:=by
  have h:=zbM (by have h:=hw;rw[zcR]at h;exact h) (FD.sl (s.overs.map enc)) (by simp)
  have:=zdq h
  simpa using this
 have hlv:s.vars.length≤zbj:=by
  have h:=zbM (by have h:=hw;rw[zcR]at h;exact h) (FD.sl (s.vars.map enc)) (by simp)
  have:=zdq h
  simpa using this
 unfold zbj at hlo hlv
 clear hres hQ hw
 by_cases h0:s.pieces.length=0
 ·refine zak (N:=145) hm zs6 6000 (lsw [56,73] []) ok6 Tryd.func6 rfl rfl (by simp) (by kernel_rfl) ?_
  have h0':(((s.pieces.length:Nat):Int)=0)=True:=eq_true (by omega)
  have h0'':(((s.pieces.length:Nat):Int)<1)=True:=eq_true (by omega)
  repeat'(first|refine rq fun _=>?_|simp only[go_sem,h0',h0'',zae,zac,Tryd.f6])
  exact kr.out (by unfold za9;rw[if_pos (.inl h0)])
 by_cases h6:6<s.pieces.length
 ·refine zak (N:=145) hm zs6 6000 (lsw [56,73] []) ok6 Tryd.func6 rfl rfl (by simp) (by kernel_rfl) ?_
  have h0':(((s.pieces.length:Nat):Int)=0)=False:=eq_false (by omega)
  have h0'':(((s.pieces.length:Nat):Int)<1)=False:=eq_false (by omega)
  have h6':(6<((s.pieces.length:Nat):Int))=True:=eq_true (by omega)
  repeat'(first|refine rq fun _=>?_|simp only[go_sem,h0',h0'',h6',zae,zac,Tryd.f6])
  exact kr.out (by unfold za9;rw[if_pos (.inr h6)])
 have h0':(((s.pieces.length:Nat):Int)=0)=False:=eq_false (by omega)
 have h0'':(((s.pieces.length:Nat):Int)<1)=False:=eq_false (by omega)
 have h6':(6<((s.pieces.length:Nat):Int))=False:=eq_false (by omega)
 have e1:=zk8 h0 h6
 refine zak (N:=145) hm zs6 6000 (lsw [56,73] []) ok6 Tryd.func6 rfl rfl (by simp) (by kernel_rfl) ?_
 repeat'(first|refine rq fun _=>?_|simp only[go_sem,h0',h0'',h6',zae,zac,Tryd.f6])
 refine zap hm zs6 6000 (lsw [56,73] []) (ι:=VI s)
  ⟨fun q=>⟨frL [(1,.ptr (6001,0) 0),(2,.ptr (6002,1) 0),(3,.ow (6056,q.g1) 1 ((zan (s.pieces.take q.i)).map enc)),(4,.ow (6073,q.g2) 1 ((zaU (s.pieces.take q.i)).map enc)),(5,.fz (.i .i64 (zb8 (s.pieces.take q.i)))),(6,.fz (.i .i64 (zcK (s.pieces.take q.i)))),(28,.fz (.sl (s.pieces.map enc))),(29,.fz (.i .i64 s.pieces.length)),(30,.fz (.i .i64 q.i))],
   hpL [((6001,0),some ⟨[.fz (.sl (s.pieces.map enc)),.fz (.sl (s.overs.map enc)),.fz (.sl (s.vars.map enc))],true,false⟩),((6002,1),some ⟨[.fz (.i .i64 0),.fz (.i .i64 0)],true,false⟩),((6056,q.g1),some tok),((6073,q.g2),some tok)],q.m⟩,fun q=>s.pieces.length-q.i⟩
  ⟨0,2,3,4,by omega,by omega,by omega,by omega,⟨by simp[zb8,zab.sizes],by simp[zcK],by simp[zaU]⟩,by simp[zan,zaU]⟩ (by kernel_rfl) ?_ ?_
 ·refine zcV [] [(6056,2),(6073,3)] [] ?_ ?_ ?_ ?_ ?_<;>simp only[go_sem,List.take_zero,zan,zaU,zb8,zcK,zab.sizes]
  all_goals first|done|rfl
 rintro⟨i,g1,g2,m,hi,hg1,hg2,hm1,⟨hn1,hn2,hn3⟩,hp⟩
 try simp only at hi hg1 hg2 hm1 hn1 hn2 hn3 hp
 have hll:(zan (s.pieces.take i)).length=i:=by unfold zan;rw[List.length_map,List.length_take];omega
 rcases Nat.lt_or_ge i s.pieces.length with h1|h1
 ·rw[ziL h1]at hp
  have el:=zgl h1
  have ea:=zj1 h1
  have en:=zhw h1
  have ed:=zim h1
  obtain⟨p,hpe⟩:∃p,s.pieces[i]=p:=⟨_,rfl⟩
  rw[hpe]at hp el ea en ed
  obtain⟨L,hL⟩:∃L,zan (s.pieces.take i)=L:=⟨_,rfl⟩
  obtain⟨A,hA⟩:∃A,zaU (s.pieces.take i)=A:=⟨_,rfl⟩
  obtain⟨N,hN⟩:∃N,zb8 (s.pieces.take i)=N:=⟨_,rfl⟩
  obtain⟨E,hE⟩:∃E,zcK (s.pieces.take i)=E:=⟨_,rfl⟩
  rw[hL,hA]at hp
  rw[hL]at el hll
  rw[hA]at ea hn3
  rw[hN]at en hn1
  rw[hE]at ed hn2
  simp only[hL,hA,hN,hE]
  have bad:∀{c:Int},zcb L A p=c→c≠0→za9 s=⟨c,i⟩:=fun h h2=>by
   rw[h,if_pos h2]at hp
   rw[e1,←hp,if_pos h2]
  cases hnm:zax p.label with
  |false=>
   repeat'(first|refine rq fun _=>?_|refine zaG.i hsz fun _=>?_|refine zaG.i hsp fun _=>?_|refine zaG.i (zaA (by first|omega|(simp only[List.length_map,List.length_append,List.length_cons,List.length_nil];omega)) (by decide)) fun _=>?_|refine rq fun _=>?_|simp only[go_sem,h1,hpe,hnm,zaa,zae,zac,Tryd.f6])
   exact kr.out (bad (by unfold zcb;rw[if_pos hnm]) (by decide))
  |true=>
  by_cases hlm:p.label∈L
  ·repeat'(first|refine rq fun _=>?_|refine zaG.i hsz fun _=>?_|refine zaG.i hsp fun _=>?_|refine zaG.i (zaA (by first|omega|(simp only[List.length_map,List.length_append,List.length_cons,List.length_nil];omega)) (by decide)) fun _=>?_|refine rq fun _=>?_|simp only[go_sem,h1,hpe,hnm,hlm,decide_true,zaa,zae,zac,Tryd.f6])
   exact kr.out (bad (by unfold zcb;rw[if_neg (by simp[hnm]),if_pos hlm]) (by decide))
  have hlm':=decide_eq_false hlm
  by_cases hck:¬(zaP true p.form).code=0
  ·obtain⟨ck,hcke⟩:∃ck,zaP true p.form=ck:=⟨_,rfl⟩
   rw[hcke]at hck
   repeat'(first|refine rq fun _=>?_|refine zaG.i hsz fun _=>?_|refine zaG.i hsp fun _=>?_|refine zaG.i (zaA (by first|omega|(simp only[List.length_map,List.length_append,List.length_cons,List.length_nil];omega)) (by decide)) fun _=>?_|refine rq fun _=>?_|simp only[go_sem,h1,hpe,hnm,hlm',hcke,hck,zaa,zae,zac,Tryd.f6])
   exact kr.out (bad (by unfold zcb;rw[if_neg (by simp[hnm]),if_neg hlm,if_pos (by rw[hcke];exact hck),hcke]) hck)
  have hck:=Decidable.not_not.1 hck
  have hcke:=zg8 hck
  have hsp:p.form.size≤1000:=by have:=zaV hck;omega
  have hsz:zll p.form:=⟨zew hck,by omega⟩
  have hs2:=zaV hck
  have hd2:=p.form.depth_size
  have hr2:=zcq hck
  have hhl:=zbr p.form
  obtain⟨hs,hhs⟩:∃hs,zar p.form=hs:=⟨_,rfl⟩
  rw[hhs]at hr2 hhl ea hp
  have hpc:zcb L A p=if zlU A hs=true then 7 else 0:=by unfold zcb;rw[if_neg (by simp[hnm]),if_neg hlm,if_neg (by simp[hck]),hhs]
  repeat'(first|refine rq fun _=>?_|refine zaG.i hsz fun _=>?_|refine zaG.i hsp fun _=>?_|refine zaG.i (zaA (by first|omega|(simp only[List.length_map,List.length_append,List.length_cons,List.length_nil];omega)) (by decide)) fun _=>?_|refine rq fun _=>?_|simp only[go_sem,h1,hpe,hnm,hlm',hcke,hhs,hr2,zaa,zae,zac,Tryd.f6])
  refine zap hm zs6 6000 (lsw [56,73] []) (ι:=zeF hs.length (m+2) fun j=>zlU (A++hs.take j) (hs.drop j)=zlU A hs)
   ⟨fun q=>⟨frL [(1,.ptr (6001,0) 0),(2,.ptr (6002,1) 0),(3,.ow (6056,m+1) 1 ((L++[p.label]).map enc)),(4,.ow (6073,q.g) 1 ((A++hs.take q.i).map enc)),(5,.fz (.i .i64 N)),(6,.fz (.i .i64 E)),(7,.fz (.i .i64 i)),(8,.ptr (6008,m) 0),(28,.fz (.sl (s.pieces.map enc))),(29,.fz (.i .i64 s.pieces.length)),(30,.fz (.i .i64 i)),(59,.fz (.sl (hs.map enc))),(60,.fz (.i .i64 hs.length)),(61,.fz (.i .i64 q.i))],
    hpL [((6001,0),some ⟨[.fz (.sl (s.pieces.map enc)),.fz (.sl (s.overs.map enc)),.fz (.sl (s.vars.map enc))],true,false⟩),((6002,1),some ⟨[.fz (.i .i64 0),.fz (.i .i64 0)],true,false⟩),((6056,m+1),some tok),((6073,q.g),some tok),((6008,m),some ⟨[.fz (.s p.label.l),.fz (.i .i64 p.form.kind),.fz (.s p.form.name.l),.fz (.sl (p.form.words.map enc)),.fz (.sl (p.form.subs.map enc))],true,false⟩)],q.m⟩,fun q=>hs.length-q.i⟩
   ⟨0,g2,m+2,by omega,by omega,by omega,by simp⟩ (by kernel_rfl) ?_ ?_
  ·refine zai ?_ ?_ ?_<;>simp only[go_sem,List.take_zero,List.append_nil,List.map_append]
  rintro⟨j,g,m',hj,hg,hm',hd⟩
  try simp only at hj hg hm' hd
  have hAl:(A++hs.take j).length≤200*i+200:=by rw[List.length_append,List.length_take];omega
  rcases Nat.lt_or_ge j hs.length with h2|h2
  ·rw[zkl h2]at hd
   have et:A++hs.take (j+1)=(A++hs.take j)++[hs[j]]:=by rw[List.take_succ_eq_append_getElem h2,List.append_assoc]
   obtain⟨x,hx⟩:∃x,hs[j]=x:=⟨_,rfl⟩
   rw[hx]at hd et
   obtain⟨B,hB⟩:∃B,A++hs.take j=B:=⟨_,rfl⟩
   rw[hB]at hd hAl et
   simp only[hB]
   by_cases hxm:x∈B
   ·repeat'(first|refine rq fun _=>?_|refine zaG.i hsz fun _=>?_|refine zaG.i hsp fun _=>?_|refine zaG.i (zaA (by first|omega|(simp only[List.length_map,List.length_append,List.length_cons,List.length_nil];omega)) (by decide)) fun _=>?_|refine rq fun _=>?_|simp only[go_sem,h2,hx,hxm,decide_true,zaa,zae,zac,Tryd.f6])
    exact kr.out (bad (by rw[hpc,←hd,decide_eq_true hxm];rfl) (by decide))
   ·have hxm':=decide_eq_false hxm
    repeat'(first|refine rq fun _=>?_|refine zaG.i hsz fun _=>?_|refine zaG.i hsp fun _=>?_|refine zaG.i (zaA (by first|omega|(simp only[List.length_map,List.length_append,List.length_cons,List.length_nil];omega)) (by decide)) fun _=>?_|refine rq fun _=>?_|simp only[go_sem,h2,hx,hxm',zaa,zae,zac,Tryd.f6])
    refine⟨⟨j+1,m',m'+1,by omega,by omega,by omega,by rw[et,←hd,hxm',Bool.false_or]⟩,by simp only;omega,?_⟩
    refine zai ?_ ?_ ?_<;>simp only[go_sem,et,List.map_append]
  ·obtain rfl:j=hs.length:=by omega
   rw[List.take_length,List.drop_length]at hd
   have h2':¬hs.length<hs.length:=Nat.lt_irrefl _
   rw[hpc,←hd,if_neg (by simp[zlU])]at hp
   try rw[if_neg (by simp)]at hp
   rw[List.take_length]at hAl
   simp only[List.take_length]
   repeat'(first|refine rq fun _=>?_|refine zaG.i hsz fun _=>?_|refine zaG.i hsp fun _=>?_|refine zaG.i (zaA (by first|omega|(simp only[List.length_map,List.length_append,List.length_cons,List.length_nil];omega)) (by decide)) fun _=>?_|refine rq fun _=>?_|simp only[go_sem,h2',Int.lt_irrefl,zae,zac,Tryd.f6])
   refine⟨⟨i+1,m+1,g,m',by omega,by omega,by omega,by omega,⟨by rw[en];omega,by rw[ed];omega,by rw[ea];omega⟩,by rw[el,ea];exact hp⟩,by simp only;omega,?_⟩
   refine zai ?_ ?_ ?_<;>simp only[go_sem,el,ea,en,ed,List.map_append,Int.natCast_add]
 obtain rfl:i=s.pieces.length:=by omega
 rw[List.drop_length,zfx]at hp
 rw[←hp,if_neg (by simp)]at e1
 rw[List.take_length]at hn1 hn2 hn3 hll
 simp only[List.take_length]
 obtain⟨L,hL⟩:∃L,zan s.pieces=L:=⟨_,rfl⟩
 obtain⟨A,hA⟩:∃A,zaU s.pieces=A:=⟨_,rfl⟩
 obtain⟨N,hN⟩:∃N,zb8 s.pieces=N:=⟨_,rfl⟩
 obtain⟨E,hE⟩:∃E,zcK s.pieces=E:=⟨_,rfl⟩
 rw[hL,hA,hN,hE]at e1
 simp only[hL,hA,hN,hE]
 clear hp hn1 hn2 hn3 hL hA hN hE hll
 by_cases hN2:200<N
 ·have c1:(200<(N:Int))=True:=eq_true (by omega)
  repeat'(first|refine rq fun _=>?_|simp only[go_sem,Nat.lt_irrefl,Int.lt_irrefl,c1,zae,zac,Tryd.f6])
  exact kr.out (by rw[e1,if_pos (.inl hN2)])
 have c1:(200<(N:Int))=False:=eq_false (by omega)
 by_cases hE2:40<E
 ·have c2:(40<(E:Int))=True:=eq_true (by omega)
  repeat'(first|refine rq fun _=>?_|simp only[go_sem,Nat.lt_irrefl,Int.lt_irrefl,c1,c2,zae,zac,Tryd.f6])
  exact kr.out (by rw[e1,if_pos (.inr hE2)])
 have c2:(40<(E:Int))=False:=eq_false (by omega)
 rw[if_neg (by omega)]at e1
 by_cases ho:300<s.overs.length
 ·have c3:(300<((s.overs.length:Nat):Int))=True:=eq_true (by omega)
  repeat'(first|refine rq fun _=>?_|simp only[go_sem,Nat.lt_irrefl,Int.lt_irrefl,c1,c2,c3,zae,zac,Tryd.f6])
  exact kr.out (by rw[e1,if_pos ho])
 have c3:(300<((s.overs.length:Nat):Int))=False:=eq_false (by omega)
 rw[if_neg ho]at e1
 repeat'(first|refine rq fun _=>?_|simp only[go_sem,Nat.lt_irrefl,Int.lt_irrefl,c1,c2,c3,zae,zac,Tryd.f6])
 refine zap hm zs6 6000 (lsw [56,73] []) (ι:=zdI s.overs.length m fun j=>(s.overs.take j).all (za5 L A)=true)
  ⟨fun q=>⟨frL [(1,.ptr (6001,0) 0),(2,.ptr (6002,1) 0),(3,.ow (6056,g1) 1 (L.map enc)),(4,.ow (6073,g2) 1 (A.map enc)),(99,.fz (.sl (s.overs.map enc))),(100,.fz (.i .i64 s.overs.length)),(101,.fz (.i .i64 q.i))],
   hpL [((6001,0),some ⟨[.fz (.sl (s.pieces.map enc)),.fz (.sl (s.overs.map enc)),.fz (.sl (s.vars.map enc))],true,false⟩),((6002,1),some ⟨[.fz (.i .i64 0),.fz (.i .i64 0)],true,false⟩),((6056,g1),some tok),((6073,g2),some tok)],q.m⟩,fun q=>s.overs.length-q.i⟩
  ⟨0,m,by omega,by omega,by simp⟩ (by kernel_rfl) ?_ ?_
 ·refine zai ?_ ?_ ?_<;>simp only[go_sem]
 rintro⟨j,m',hj,hm',hal⟩
 try simp only at hj hm' hal
 rcases Nat.lt_or_ge j s.overs.length with h2|h2
 ·have hat:(s.overs.take (j+1)).all (za5 L A)=((s.overs.take j).all (za5 L A)&&za5 L A s.overs[j]):=by
   rw[List.take_succ_eq_append_getElem h2,List.all_append];simp
  have hbd:za5 L A s.overs[j]=false→s.overs.all (za5 L A)=false:=fun hb=>by
   cases ha:s.overs.all (za5 L A)with
   |false=>rfl
   |true=>rw[List.all_eq_true.1 ha _ (List.getElem_mem h2)]at hb;cases hb
  obtain⟨x,hx⟩:∃x,s.overs[j]=x:=⟨_,rfl⟩
  rw[hx]at hat hbd
  by_cases hxa:x.hole∈A
  ·by_cases hxl:x.label∈L
   ·repeat'(first|refine rq fun _=>?_|refine zaG.i hsz fun _=>?_|refine zaG.i hsp fun _=>?_|refine zaG.i (zaA (by first|omega|(simp only[List.length_map,List.length_append,List.length_cons,List.length_nil];omega)) (by decide)) fun _=>?_|refine rq fun _=>?_|simp only[go_sem,h2,hx,hxa,hxl,decide_true,zaa,zae,zac,Tryd.f6])
    refine⟨⟨j+1,m'+1,by omega,by omega,by rw[hat,hal];simp[za5,hxa,hxl]⟩,by simp only;omega,?_⟩
    refine zai ?_ ?_ ?_<;>simp only[go_sem]
   ·have hxl':=decide_eq_false hxl
    repeat'(first|refine rq fun _=>?_|refine zaG.i hsz fun _=>?_|refine zaG.i hsp fun _=>?_|refine zaG.i (zaA (by first|omega|(simp only[List.length_map,List.length_append,List.length_cons,List.length_nil];omega)) (by decide)) fun _=>?_|refine rq fun _=>?_|simp only[go_sem,h2,hx,hxa,hxl',decide_true,zaa,zae,zac,Tryd.f6])
    exact kr.out (by rw[e1,if_pos (hbd (by simp[za5,hxl]))])
  ·have hxa':=decide_eq_false hxa
   repeat'(first|refine rq fun _=>?_|refine zaG.i hsz fun _=>?_|refine zaG.i hsp fun _=>?_|refine zaG.i (zaA (by first|omega|(simp only[List.length_map,List.length_append,List.length_cons,List.length_nil];omega)) (by decide)) fun _=>?_|refine rq fun _=>?_|simp only[go_sem,h2,hx,hxa',zaa,zae,zac,Tryd.f6])
   exact kr.out (by rw[e1,if_pos (hbd (by simp[za5,hxa]))])
 obtain rfl:j=s.overs.length:=by omega
 rw[List.take_length]at hal
 rw[if_neg (by simp[hal])]at e1
 by_cases hv:6<s.vars.length
 ·have c4:(6<((s.vars.length:Nat):Int))=True:=eq_true (by omega)
  repeat'(first|refine rq fun _=>?_|simp only[go_sem,Nat.lt_irrefl,Int.lt_irrefl,c4,zae,zac,Tryd.f6])
  exact kr.out (by rw[e1,if_pos hv])
 have c4:(6<((s.vars.length:Nat):Int))=False:=eq_false (by omega)
 rw[if_neg hv]at e1
 repeat'(first|refine rq fun _=>?_|simp only[go_sem,Nat.lt_irrefl,Int.lt_irrefl,c4,zae,zac,Tryd.f6])
 refine zap hm zs6 6000 (lsw [56,73] []) (ι:=zd3 s.vars.length fun j=>zfy (s.vars.take j) (s.vars.drop j)=zfy [] s.vars)
  ⟨fun q=>⟨frL [(1,.ptr (6001,0) 0),(2,.ptr (6002,1) 0),(125,.fz (.sl (s.vars.map enc))),(126,.fz (.i .i64 s.vars.length)),(127,.fz (.i .i64 q.i))],
   hpL [((6001,0),some ⟨[.fz (.sl (s.pieces.map enc)),.fz (.sl (s.overs.map enc)),.fz (.sl (s.vars.map enc))],true,false⟩),((6002,1),some ⟨[.fz (.i .i64 0),.fz (.i .i64 0)],true,false⟩)],m'⟩,fun q=>s.vars.length-q.i⟩
  ⟨0,by omega,by simp⟩ (by kernel_rfl) ?_ ?_
 ·refine zai ?_ ?_ ?_<;>simp only[go_sem]
 rintro⟨j,hj,hvr⟩
 try simp only at hj hvr
 rcases Nat.lt_or_ge j s.vars.length with h2|h2
 ·rw[ziM h2]at hvr
  have et:s.vars.take (j+1)=s.vars.take j++[s.vars[j]]:=List.take_succ_eq_append_getElem h2
  obtain⟨x,hx⟩:∃x,s.vars[j]=x:=⟨_,rfl⟩
  rw[hx]at hvr et
  have bad:∀{c:Int},znr (s.vars.take j) x=c→c≠0→za9 s=⟨c, -3⟩:=fun h h3=>by
   rw[h,if_pos h3]at hvr
   rw[e1,←hvr,if_pos h3]
  cases hnm:zax x with
  |false=>
   repeat'(first|refine rq fun _=>?_|refine zaG.i hsz fun _=>?_|refine zaG.i hsp fun _=>?_|refine zaG.i (zaA (by first|omega|(simp only[List.length_map,List.length_append,List.length_cons,List.length_nil];omega)) (by decide)) fun _=>?_|refine rq fun _=>?_|simp only[go_sem,h2,hx,hnm,zaa,zae,zac,Tryd.f6])
   exact kr.out (bad (by unfold znr;rw[if_pos hnm]) (by decide))
  |true=>
  by_cases hm2:x∈s.vars.take j
  ·repeat'(first|refine rq fun _=>?_|refine zaG.i hsz fun _=>?_|refine zaG.i hsp fun _=>?_|refine zaG.i (zaA (by first|omega|(simp only[List.length_map,List.length_append,List.length_cons,List.length_nil];omega)) (by decide)) fun _=>?_|refine rq fun _=>?_|simp only[go_sem,h2,hx,hnm,hm2,hj,decide_true,zaa,←List.map_take,List.drop_zero,zae,zac,Tryd.f6])
   exact kr.out (bad (by unfold znr;rw[if_neg (by simp[hnm]),if_pos hm2]) (by decide))
  ·have hm2':=decide_eq_false hm2
   repeat'(first|refine rq fun _=>?_|refine zaG.i hsz fun _=>?_|refine zaG.i hsp fun _=>?_|refine zaG.i (zaA (by first|omega|(simp only[List.length_map,List.length_append,List.length_cons,List.length_nil];omega)) (by decide)) fun _=>?_|refine rq fun _=>?_|simp only[go_sem,h2,hx,hnm,hm2',hj,zaa,←List.map_take,List.drop_zero,zae,zac,Tryd.f6])
   refine⟨⟨j+1,by omega,?_⟩,by simp only;omega,?_⟩
   ·rw[show znr (s.vars.take j) x=0 by unfold znr;rw[if_neg (by simp[hnm]),if_neg hm2],if_neg (by simp)]at hvr
    rw[et];exact hvr
   ·refine zai ?_ ?_ ?_<;>simp only[go_sem]
 obtain rfl:j=s.vars.length:=by omega
 rw[List.drop_length,zfy]at hvr
 rw[←hvr,if_neg (by simp)]at e1
 repeat'(first|refine rq fun _=>?_|simp only[go_sem,Nat.lt_irrefl,Int.lt_irrefl,zae,zac,Tryd.f6])
 exact kr.out e1
end Go.Proofs.YtmconmiemdinkaaDoor
