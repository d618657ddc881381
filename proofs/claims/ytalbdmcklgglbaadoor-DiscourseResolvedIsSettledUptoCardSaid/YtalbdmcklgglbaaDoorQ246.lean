import Derived.Test.YtalbdmcklgglbaaDoorAT
import Derived.Test.YtalbdmcklgglbaaDoorY25
set_option maxRecDepth 100000
set_option maxHeartbeats 1000000
set_option linter.unusedSimpArgs false
namespace Go.Proofs.YtalbdmcklgglbaaDoor
open Go Go.Abs Go.Proofs
theorem zi1:∀bs:List Abs.Box,zeT bs=bs.any zeu
 |[]=>rfl
 |b::bs=>by rw[zeT,zi1 bs];rfl
theorem zi2:∀cs:List Abs.zal,zfN cs=cs.any zih
 |[]=>rfl
 |c::cs=>by rw[zfN,zi2 cs];rfl
theorem zj9 (c:Abs.zal):zih c=(decide (4<c.kind)||c.boxes.any zeu):=by cases c;rw[zih,zi1];rfl
theorem zoh (b:Abs.Box):zeu b=b.conds.any zih:=by cases b;rw[zeu,zi2];rfl
def zzw (b:Abs.Box):Prop:=(∃d m,zfU b d m)∧b.size≤1000000
theorem zwt {b:Abs.Box}(h:(zcy b).code=0):zzw b:=by
 have hv:=VB.of h
 have h1:=hv.nod
 have h2:=zep b
 exact⟨⟨1,200,hv.loc⟩,by omega⟩
set_option maxHeartbeats 4000000 in
def Y1:Tbl:=Y0.add 11 (sp1 zeu zzw)
theorem k11 (s):Y0.add 11 s 11=some s:=rfl
theorem hY1:zan Tryd.prog GA Y1:=by
 refine zjU Box.size zEJ hY0 fun n hT b hn hpre _=>?_
 obtain⟨Q,hQ⟩:∃Q:D→zas→Nat→Prop,Q=(fun d _ _=>D.val d=some (.fz (enc (zeu b)))):=⟨_,rfl⟩
 rw[←hQ]
 have hf:zeu b=false→∀{H' n'},Q (.fz (.b false)) H' n':=fun h H' n'=>by rw[hQ];show _=some (D.fz (.b (zeu b)));rw[h];rfl
 have ht:zeu b=true→∀{H' n'},Q (.fz (.b true)) H' n':=fun h H' n'=>by rw[hQ];show _=some (D.fz (.b (zeu b)));rw[h];rfl
 obtain⟨dl,ml,hloc⟩:=hpre.1
 have hps:=hpre.2
 have hcl:b.conds.length≤1000000:=by have:=zlj b;omega
 have hsub:∀c∈b.conds,∀d∈c.boxes,d.size<n∧zzw d:=fun c hc d hd=>by
  have h1:=Box.size_sub hc
  have h2:=zal.size_sub hd
  have h3:=zc9 (zbI.1 (zfy (zcr.1 hloc).2.2.2 c hc)).2 d hd
  exact⟨by omega,⟨_,_,h3⟩,by omega⟩
 have hbl:∀c∈b.conds,c.boxes.length≤1000000:=fun c hc=>by
  have h1:=Box.size_sub hc
  have h2:=zfv c
  omega
 have kf:=Kp.mk @hf
 have kt:=Kp.mk @ht
 have kT:=Kp.mk hT
 have ks:=Kp.mk hsub
 have kb:=Kp.mk hbl
 clear hf ht hQ hT hsub hbl hpre hn
 refine zaj (N:=34) hm kT.out 11000 (lst []) zEJ Tryd.func11 rfl rfl (by simp) (by kernel_rfl) ?_
 repeat'(first|refine rq fun _=>?_|simp only[go_sem,Tryd.f11,k11])
 refine zar hm kT.out 11000 (lst []) (ι:=zcp b.conds.length 1 fun i=>(b.conds.take i).any zih=false)
  ⟨fun q=>⟨frL [(1,.ptr (11001,0) 0),(8,.fz (.i .i64 b.conds.length)),(9,.fz (.i .i64 q.i))],hpL [((11001,0),some ⟨[.fz (.sl (b.refs.map enc)),.fz (.sl (b.conds.map enc))],true,false⟩)],q.m⟩,fun q=>b.conds.length-q.i⟩
  ⟨0,1,by omega,by omega,rfl⟩ (by kernel_rfl) ?_ ?_
 ·refine zah ?_ ?_ ?_<;>simp only[go_sem,List.take_zero]
  all_goals first|done|rfl|omega
 rintro⟨i,m,hi,hm2,hp⟩
 try simp only at hi hm2 hp
 rcases Nat.lt_or_ge i b.conds.length with h1|h1
 ·obtain⟨x,hx⟩:∃x,b.conds[i]=x:=⟨_,rfl⟩
  have hxm:x∈b.conds:=hx▸List.getElem_mem h1
  have htx:zih x=true→zeu b=true:=fun h=>by rw[zoh,List.any_eq_true];exact⟨x,hxm,h⟩
  have hfx:zih x=false→(b.conds.take (i+1)).any zih=false:=fun h=>by rw[zfg h1,hp,hx,h];rfl
  have hxl:=kb.out x hxm
  have hxs:=ks.out x hxm
  have kfx:=Kp.mk hfx
  have ktx:=Kp.mk htx
  have kxs:=Kp.mk hxs
  clear hfx htx hxs
  by_cases h4:4<x.kind
  ·have hqq:=ktx.out (by rw[zj9,decide_eq_true h4];rfl)
   have h4':(4<x.kind)=True:=eq_true h4
   repeat'(first|refine rq fun _=>?_|simp only[go_sem,h1,hx,h4',zaa,Tryd.f11,k11])
   all_goals exact kt.out hqq
  have h4':(4<x.kind)=False:=eq_false h4
  repeat'(first|refine rq fun _=>?_|simp only[go_sem,h1,hx,h4',zaa,Tryd.f11,k11])
  refine zar hm kT.out 11000 (lst []) (ι:=zcp x.boxes.length (m+1) fun k=>(x.boxes.take k).any zeu=false)
   ⟨fun q=>⟨frL [(1,.ptr (11001,0) 0),(8,.fz (.i .i64 b.conds.length)),(9,.fz (.i .i64 i)),(4,.ptr (11004,m) 0),(22,.fz (.i .i64 x.boxes.length)),(23,.fz (.i .i64 q.i))],hpL [((11001,0),some ⟨[.fz (.sl (b.refs.map enc)),.fz (.sl (b.conds.map enc))],true,false⟩),((11004,m),some ⟨[.fz (.i .i64 x.kind),.fz (.s x.name.l),.fz (.i .i64 x.form.kind),.fz (.s x.form.name.l),.fz (.sl (x.form.words.map enc)),.fz (.sl (x.form.subs.map enc)),.fz (.sl (x.boxes.map enc))],true,false⟩)],q.m⟩,fun q=>x.boxes.length-q.i⟩
   ⟨0,m+1,by omega,by omega,rfl⟩ (by kernel_rfl) ?_ ?_
  ·refine zah ?_ ?_ ?_<;>simp only[go_sem,List.take_zero]
   all_goals first|done|rfl|omega
  rintro⟨k,m2,hk,hm3,hp2⟩
  try simp only at hk hm3 hp2
  rcases Nat.lt_or_ge k x.boxes.length with h2|h2
  ·obtain⟨y,hy⟩:∃y,x.boxes[k]=y:=⟨_,rfl⟩
   have hym:y∈x.boxes:=hy▸List.getElem_mem h2
   have hys:=kxs.out y hym
   obtain⟨u,hu⟩:∃u,zeu y=u:=⟨_,rfl⟩
   cases u
   ·have hp3:(x.boxes.take (k+1)).any zeu=false:=by rw[zfg h2,hp2,hy,hu];rfl
    repeat'(first|refine zaH.i hys fun _=>?_|refine rq fun _=>?_|simp only[go_sem,h2,hy,hu,zaf,zaa,Tryd.f11,k11])
    refine⟨⟨k+1,m2,by omega,by omega,hp3⟩,by simp only;omega,?_⟩
    refine zah ?_ ?_ ?_<;>simp only[go_sem]
    all_goals first|done|rfl|omega
   ·have hqq:=ktx.out (by rw[zj9,List.any_eq_true.2 ⟨y,hym,hu⟩,Bool.or_true])
    repeat'(first|refine zaH.i hys fun _=>?_|refine rq fun _=>?_|simp only[go_sem,h2,hy,hu,zaf,zaa,Tryd.f11,k11])
    all_goals exact kt.out hqq
  obtain rfl:k=x.boxes.length:=by omega
  have hun:zih x=false:=by rw[zj9];rw[List.take_length]at hp2;rw[hp2,decide_eq_false h4];rfl
  have hp3:=kfx.out hun
  repeat'(first|refine rq fun _=>?_|simp only[go_sem,Nat.lt_irrefl,Tryd.f11,k11])
  refine⟨⟨i+1,m2,by omega,by omega,hp3⟩,by simp only;omega,?_⟩
  refine zah ?_ ?_ ?_<;>simp only[go_sem]
  all_goals first|done|rfl|omega
 ·obtain rfl:i=b.conds.length:=by omega
  rw[List.take_length]at hp
  have hqq:zeu b=false:=by rw[zoh];exact hp
  repeat'(first|refine rq fun _=>?_|simp only[go_sem,Nat.lt_irrefl,Tryd.f11,k11])
  all_goals exact kf.out hqq
theorem z5:Y1 5=some (zu7 zgT fun _=>True):=rfl
theorem z6:Y1 6=some (sp0 zrX):=rfl
theorem z10:Y1 10=some (sp1 zcy fun _=>True):=rfl
theorem z11:Y1 11=some (sp1 zeu zzw):=rfl
theorem z12:Y1 12=some (sp2 (fun a b:Abs.Box=>decide (a=b)) fun _ _=>True):=rfl
def zsi:Tv:=(.q 0 (.q 1 (.q 2 (.q 3 (.q 4 (.q 5 (.q 6 (.q 7 (.q 8 (.q 9 (.q 10 (.q 11 (.q 12 (.q 13 .leaf))))))))))))))
def zsj:Tv:=(.q 0 (.q 1 (.q 2 (.q 3 (.q 4 (.q 5 (.q 6 (.q 7 (.q 8 (.q 9 (.q 10 (.q 11 (.q 12 (.q 13 (.q 14 (.q 15 (.q 16 (.q 17 (.q 18 .leaf)))))))))))))))))))
set_option maxHeartbeats 8000000 in
theorem zpi (hT:zan Tryd.prog GA Y1)(b:Abs.Box)(_:(enc b).Wf):zav Tryd.prog GA 4 [.fz (enc b)] (hpL []) 0 (fun d _ _=>d= .fz (.b true)):=by
 obtain⟨l,e,hr⟩:∃l e,zgT b=(l,e):=⟨_,_,rfl⟩
 by_cases h0:e=⟨0,0⟩
 rotate_left
 ·have hcd:(e.code=0)=False:=by
   unfold zgT at hr
   by_cases hc:(zcy b).code=0
   ·rw[if_neg (by rw[hc];exact fun h=>h rfl)]at hr
    split at hr
    ·exact absurd (Prod.mk.inj hr).2.symm h0
    ·rw[←(Prod.mk.inj hr).2];simp
   ·rw[if_pos hc]at hr
    rw[←(Prod.mk.inj hr).2];exact eq_false hc
  refine zaj (N:=78) hm hT 4000 (lst [1000010,1000013]) ok4 Tryd.func4 rfl rfl (by simp) (by kernel_rfl) ?_
  repeat'(first|refine And.intro ?_ ?_|exact True.intro|refine rq fun _=>?_|refine rf fun _=>?_|simp only[go_sem,zfF,exM,hr,hcd,zad,zab,zae,zaf,zaa,GA,Tryd.f4,z5,z6,z10,z11,z12])
  all_goals first|done|rfl|omega
 subst h0
 have hfin:∀x∈l,zmb x:=by
  unfold zgT at hr
  by_cases hc:(zcy b).code=0
  ·rw[if_neg (by rw[hc];exact fun h=>h rfl)]at hr
   split at hr
   ·have h1:=(Prod.mk.inj hr).1
    rw[←h1]
    exact zrT _ b ⟨0,[]⟩ hc (by simp)
   ·have h1:=(Prod.mk.inj hr).1
    rw[←h1];simp
  ·rw[if_pos hc]at hr
   have h1:=(Prod.mk.inj hr).1
   rw[←h1];simp
 have hfx:∀x∈l,zcy x=⟨0,0⟩∧zeu x=false∧zzw x∧zgT x=([x],⟨0,0⟩):=fun x hx=>by
  obtain⟨h1,h2⟩:=hfin x hx
  refine⟨(VB.of h1).ok,h2,zwt h1,?_⟩
  unfold zgT
  rw[if_neg (by rw[h1];exact fun h=>h rfl),zmY ⟨h1,h2⟩];rfl
 have kfx:=Kp.mk hfx
 clear hfx hfin
 have hll:l.length≤200:=by
  unfold zgT at hr
  by_cases hc:(zcy b).code=0
  ·rw[if_neg (by rw[hc];exact fun h=>h rfl)]at hr
   split at hr
   ·rename_i ht
    rw[←(Prod.mk.inj hr).1]
    exact(zhR _ b ⟨0,[]⟩ (by simp) (by simp) ht).2
   ·rw[←(Prod.mk.inj hr).1];simp
  ·rw[if_pos hc]at hr
   rw[←(Prod.mk.inj hr).1];simp
 refine zaj (N:=78) hm hT 4000 (lst [1000010,1000013]) ok4 Tryd.func4 rfl rfl (by simp) (by kernel_rfl) ?_
 repeat'(first|refine And.intro ?_ ?_|exact True.intro|refine rq fun _=>?_|refine rf fun _=>?_|simp only[go_sem,zfF,exM,hr,zad,zab,zae,zaf,zaa,GA,Tryd.f4,z5,z6,z10,z11,z12])
 refine zar hm hT 4000 (lst [1000010,1000013]) (ι:=zcp l.length 4 fun _=>True)
  ⟨fun q=>⟨frL [(5,.fz (.sl (l.map enc))),(32,.fz (.i .i64 l.length)),(33,.fz (.i .i64 q.i))],hpL [],q.m⟩,fun q=>l.length-q.i⟩
  ⟨0,4,by omega,by omega,trivial⟩ (by kernel_rfl) ?_ ?_
 ·refine zah ?_ ?_ ?_<;>(try simp only[go_sem])
  all_goals first|done|rfl|omega
 rintro⟨i,m,hi,hm1,_⟩
 try simp only at hi hm1
 rcases Nat.lt_or_ge i l.length with h1|h1
 ·obtain⟨x,hx⟩:∃x,l[i]=x:=⟨_,rfl⟩
  obtain⟨g1,g2,g3,g4⟩:=kfx.out x (by rw[←hx];exact List.getElem_mem h1)
  repeat'(first|refine zaH.i g3 fun _=>?_|refine zay (id:=10) hm hT 4000 (lst [1000010,1000013]) zsi (by kernel_rfl) (by kernel_rfl) ?_|refine zay (id:=13) hm hT 4000 (lst [1000010,1000013]) zsj (by kernel_rfl) (by kernel_rfl) ?_|refine And.intro ?_ ?_|exact True.intro|refine rq fun _=>?_|refine rf fun _=>?_|simp only[go_sem,h1,hx,g1,g2,g4,zsi,zsj,zad,zab,zae,zaf,zaa,GA,Tryd.f4,z5,z6,z10,z11,z12])
  all_goals
   refine⟨⟨i+1,m+1,by omega,by omega,trivial⟩,by simp only;omega,?_⟩
   refine zah ?_ ?_ ?_<;>(try simp only[go_sem])
   all_goals first|done|rfl|omega
 obtain rfl:i=l.length:=by omega
 repeat'(first|refine And.intro ?_ ?_|exact True.intro|refine rq fun _=>?_|refine rf fun _=>?_|simp only[go_sem,Nat.lt_irrefl,zad,zab,zae,zaf,zaa,GA,Tryd.f4,z5,z6,z10,z11,z12])
 all_goals first|done|rfl|omega
end Go.Proofs.YtalbdmcklgglbaaDoor
