/- several texts of this proof in one; no conditions -/
import Derived.Test.YtalbdmcklgglbaaDoorAT
import Derived.Test.YtalbdmcklgglbaaDoorQ229
set_option maxRecDepth 100000
set_option maxHeartbeats 1000000
set_option linter.unusedSimpArgs false
namespace Go.Proofs.YtalbdmcklgglbaaDoor
open Go Go.Abs Go.Proofs
set_option maxHeartbeats 4000000 in
theorem f46 {n:Nat}(hT:zan Tryd.prog G0 (V6.add 17 (sp2 (fun a b:Abs.Box=>decide (a=b)) fun a _=>a.size<n))){a b:List Abs.Box}{H:zas}{n0:Nat}{R:D→zas→Nat→Prop}(hs:∀x∈a,x.size<n)(hal:a.length≤281474976710656)
  (hR:∀n',n0≤n'→R (.fz (.b (decide (a=b)))) H n'):zav Tryd.prog G0 46 [.fz (.sl (a.map enc)),.fz (.sl (b.map enc)),.fn 17 []] H n0 R:=by
 refine zb3 zE8 (fun hfr=>?_) hR
 obtain⟨Q,hQ⟩:∃Q:D→zas→Nat→Prop,Q=(fun d' H' n'=>d'= .fz (.b (decide (a=b)))∧n0≤n'∧∀id,id.2<n0→H' id=H id):=⟨_,rfl⟩
 rw[←hQ]
 have hf:a≠b→∀{n' H'},n0≤n'→(∀id,id.2<n0→H' id=H id)→Q (.fz (.b false)) H' n':=fun h n' H' hn hH=>by
  rw[hQ];exact⟨by rw[decide_eq_false h],hn,hH⟩
 have ht:a=b→∀{n' H'},n0≤n'→(∀id,id.2<n0→H' id=H id)→Q (.fz (.b true)) H' n':=fun h n' H' hn hH=>by
  rw[hQ];exact⟨by rw[decide_eq_true h],hn,hH⟩
 have kf:=Kp.mk @hf
 have kt:=Kp.mk @ht
 have kT:=Kp.mk hT
 have kh:=Kp.mk hs
 clear hf ht hQ hT hs
 have e:H=hpX [] H:=rfl
 rw[e]
 refine zaj (N:=32) hm kT.out 46000 (lst []) zE8 Tryd.func46 rfl rfl (by simp) (by kernel_rfl) ?_
 by_cases hl:a.length=b.length
 rotate_left
 ·have hl':((a.length:Int)=b.length)=False:=eq_false (by omega)
  repeat'(first|refine And.intro ?_ ?_|exact True.intro|refine rq fun _=>?_|refine rf fun _=>?_|simp only[go_sem,hl',Tryd.f46])
  all_goals exact kf.out (fun e=>hl (by have:=congrArg List.length e;simpa using this)) (Nat.le_refl _) fun _ _=>rfl
 have hl':((a.length:Int)=b.length)=True:=eq_true (by omega)
 repeat'(first|refine And.intro ?_ ?_|exact True.intro|refine rq fun _=>?_|refine rf fun _=>?_|simp only[go_sem,hl',Tryd.f46])
 refine zar hm kT.out 46000 (lst []) (ι:=zcp a.length n0 fun i=>a.take i=b.take i)
  ⟨fun q=>⟨frL [(1,.fz (.sl (b.map enc))),(2,.fn 17 []),(15,.fz (.sl (a.map enc))),(16,.fz (.i .i64 a.length)),(17,.fz (.i .i64 q.i))],hpX [] H,q.m⟩,fun q=>a.length-q.i⟩
  ⟨0,n0,by omega,Nat.le_refl _,rfl⟩ (by kernel_rfl) ?_ ?_
 ·refine zaJ ?_ ?_ (fun id2 o2 ho2=>?_) ?_
  ·simp only[go_sem]
  ·simp only[go_sem]
  ·exact ho2
  ·first|omega|(simp only[go_sem];done)|(simp only[go_sem];omega)
 rintro⟨i,m,hi,hm1,hp⟩
 try simp only at hi hm1 hp
 rcases Nat.lt_or_ge i a.length with h1|h1
 ·have h2:i<b.length:=by omega
  obtain⟨x,hx⟩:∃x,a[i]=x:=⟨_,rfl⟩
  obtain⟨y,hy⟩:∃y,b[i]=y:=⟨_,rfl⟩
  have hxm:x∈a:=by rw[←hx];exact List.getElem_mem h1
  have hpre:=kh.out x hxm
  by_cases hxy:x=y
  ·have hd:decide (x=y)=true:=decide_eq_true hxy
   have hd2:(x=y)=True:=eq_true hxy
   repeat'(first|refine zaH.i hpre fun _=>?_|refine And.intro ?_ ?_|exact True.intro|refine rq fun _=>?_|refine rf fun _=>?_|simp only[go_sem,h1,h2,hx,hy,hd,hd2,zad,zab,zae,zaf,zaa,Tryd.f46])
   all_goals
    refine⟨⟨i+1,m+2,by omega,by omega,?_⟩,by simp only;omega,?_⟩
    ·rw[List.take_succ_eq_append_getElem h1,List.take_succ_eq_append_getElem h2,hp,hx,hy,hxy]
    refine zaJ ?_ ?_ (fun id2 o2 ho2=>?_) ?_
    ·simp only[go_sem]
    ·simp only[go_sem]
    ·have hne:∀(t k:Nat),n0≤k→(id2=(t,k))=False:=fun t k h3=>eq_false fun e=>by
      rw[e,hfr (t,k) h3]at ho2;cases ho2
     simp only[go_sem,hne 46008 m (by omega),hne 46009 (m+1) (by omega),ho2]
    ·first|omega|(simp only[go_sem];done)|(simp only[go_sem];omega)
  ·have hd:decide (x=y)=false:=decide_eq_false hxy
   have hd2:(x=y)=False:=eq_false hxy
   repeat'(first|refine zaH.i hpre fun _=>?_|refine And.intro ?_ ?_|exact True.intro|refine rq fun _=>?_|refine rf fun _=>?_|simp only[go_sem,h1,h2,hx,hy,hd,hd2,zad,zab,zae,zaf,zaa,Tryd.f46])
   all_goals
    refine kf.out (fun e=>hxy ?_) (by omega) fun id hid=>?_
    ·have:=congrArg (fun l=>l[i]?) e
     simp only[List.getElem?_eq_getElem h1,List.getElem?_eq_getElem h2,hx,hy,Option.some.injEq]at this
     exact this
    ·have hne:∀(t k:Nat),n0≤k→(id=(t,k))=False:=fun t k h3=>eq_false fun e=>by
      rw[e]at hid;simp only at hid;omega
     simp only[go_sem,hne 46008 m (by omega),hne 46009 (m+1) (by omega)]
 ·obtain rfl:i=a.length:=by omega
  have h1':¬a.length<a.length:=by omega
  repeat'(first|refine And.intro ?_ ?_|exact True.intro|refine rq fun _=>?_|refine rf fun _=>?_|simp only[go_sem,Nat.lt_irrefl,h1',Tryd.f46])
  all_goals
   refine kt.out ?_ (by omega) fun _ _=>rfl
   rw[List.take_length,hl,List.take_length]at hp
   exact hp
set_option maxHeartbeats 4000000 in
theorem f44 {n:Nat}(hT:zan Tryd.prog G0 (V6.add 17 (sp2 (fun a b:Abs.Box=>decide (a=b)) fun a _=>a.size<n))){x y:Abs.zal}{H:zas}{n0:Nat}{R:D→zas→Nat→Prop}(hs:∀z∈x.boxes,z.size<n)(hal:x.boxes.length≤281474976710656)
  (hR:∀n',n0≤n'→R (.fz (.b (decide (x=y)))) H n'):zav Tryd.prog G0 44 [.agg [.fz (.i .i64 x.kind),.fz (.s x.name.l),.fz (.i .i64 x.form.kind),.fz (.s x.form.name.l),.fz (.sl (x.form.words.map enc)),.fz (.sl (x.form.subs.map enc)),.fz (.sl (x.boxes.map enc))],.agg [.fz (.i .i64 y.kind),.fz (.s y.name.l),.fz (.i .i64 y.form.kind),.fz (.s y.form.name.l),.fz (.sl (y.form.words.map enc)),.fz (.sl (y.form.subs.map enc)),.fz (.sl (y.boxes.map enc))]] H n0 R:=by
 refine zb3 zE6 (fun hfr=>?_) hR
 obtain⟨Q,hQ⟩:∃Q:D→zas→Nat→Prop,Q=(fun d' H' n'=>d'= .fz (.b (decide (x=y)))∧n0≤n'∧∀id,id.2<n0→H' id=H id):=⟨_,rfl⟩
 rw[←hQ]
 have hQQ:∀t n' H',t=decide (x=y)→n0≤n'→(∀id,id.2<n0→H' id=H id)→Q (.fz (.b t)) H' n':=fun t n' H' h hn hH=>by
  rw[hQ,h];exact⟨rfl,hn,hH⟩
 have kq:=Kp.mk hQQ
 have kT:=Kp.mk hT
 have kh:=Kp.mk hs
 clear hQQ hQ hT hs
 have e:H=hpX [] H:=rfl
 rw[e]
 have hext:x.kind=y.kind→x.name=y.name→x.form=y.form→x.boxes=y.boxes→x=y:=znC
 refine zaj (N:=31) hm kT.out 44000 (lst []) zE6 Tryd.func44 rfl rfl (by simp) (by kernel_rfl) ?_
 by_cases h1:x.kind=y.kind
 rotate_left
 ·have h1t:(x.kind=y.kind)=False:=eq_false h1
  repeat'(first|refine And.intro ?_ ?_|exact True.intro|refine rq fun _=>?_|refine rf fun _=>?_|simp only[go_sem,h1t,hpX,zad,zab,zae,zaf,zaa,Tryd.f44])
  all_goals
   refine kq.out _ _ _ (decide_eq_false fun e=>h1 (by rw[e])).symm (by omega) fun id hid=>?_
   have hne:∀(t k:Nat),n0≤k→(id=(t,k))=False:=fun t k h3=>eq_false fun e=>by
    rw[e]at hid;simp only at hid;omega
   simp only[go_sem,hne 44002 n0 (by omega),hne 44003 (n0+1) (by omega)]
 have h1t:(x.kind=y.kind)=True:=eq_true h1
 by_cases h2:x.name=y.name
 rotate_left
 ·have h2t:(x.name.l=y.name.l)=False:=eq_false fun e=>h2 (zgb e)
  repeat'(first|refine And.intro ?_ ?_|exact True.intro|refine rq fun _=>?_|refine rf fun _=>?_|simp only[go_sem,h1t,h2t,hpX,zad,zab,zae,zaf,zaa,Tryd.f44])
  all_goals
   refine kq.out _ _ _ (decide_eq_false fun e=>h2 (by rw[e])).symm (by omega) fun id hid=>?_
   have hne:∀(t k:Nat),n0≤k→(id=(t,k))=False:=fun t k h3=>eq_false fun e=>by
    rw[e]at hid;simp only at hid;omega
   simp only[go_sem,hne 44002 n0 (by omega),hne 44003 (n0+1) (by omega)]
 have h2t:(x.name.l=y.name.l)=True:=eq_true (by rw[h2])
 by_cases h3:x.form=y.form
 rotate_left
 ·have h3t:decide (x.form=y.form)=false:=decide_eq_false h3
  have h3u:(x.form=y.form)=False:=eq_false h3
  repeat'(first|refine And.intro ?_ ?_|exact True.intro|refine rq fun _=>?_|refine rf fun _=>?_|simp only[go_sem,h1t,h2t,h3t,h3u,hpX,zad,zab,zae,zaf,zaa,Tryd.f44])
  all_goals
   refine kq.out _ _ _ (decide_eq_false fun e=>h3 (by rw[e])).symm (by omega) fun id hid=>?_
   have hne:∀(t k:Nat),n0≤k→(id=(t,k))=False:=fun t k h3=>eq_false fun e=>by
    rw[e]at hid;simp only at hid;omega
   simp only[go_sem,hne 44002 n0 (by omega),hne 44003 (n0+1) (by omega)]
 have h3t:decide (x.form=y.form)=true:=decide_eq_true h3
 have h3u:(x.form=y.form)=True:=eq_true h3
 have hbx:decide (x.boxes=y.boxes)=decide (x=y):=by
  by_cases h4:x.boxes=y.boxes
  ·rw[decide_eq_true h4,decide_eq_true (hext h1 h2 h3 h4)]
  ·rw[decide_eq_false h4,decide_eq_false fun e=>h4 (by rw[e])]
 repeat'(first|refine zaD.i (f46 kT.out (a:=x.boxes) (b:=y.boxes) kh.out hal fun n' hn'=>?_)|refine And.intro ?_ ?_|exact True.intro|refine rq fun _=>?_|refine rf fun _=>?_|simp only[go_sem,h1t,h2t,h3t,h3u,hpX,zad,zab,zae,zaf,zaa,Tryd.f44])
 all_goals
  refine kq.out _ _ _ hbx (by omega) fun id hid=>?_
  have hne:∀(t k:Nat),n0≤k→(id=(t,k))=False:=fun t k h3=>eq_false fun e=>by
   rw[e]at hid;simp only at hid;omega
  simp only[go_sem,hne 44002 n0 (by omega),hne 44003 (n0+1) (by omega)]
set_option maxHeartbeats 4000000 in
theorem f43 {n:Nat}(hT:zan Tryd.prog G0 (V6.add 17 (sp2 (fun a b:Abs.Box=>decide (a=b)) fun a _=>a.size<n))){a b:List Abs.zal}{H:zas}{n0:Nat}{R:D→zas→Nat→Prop}(hs:∀x∈a,(∀z∈x.boxes,z.size<n)∧x.boxes.length≤281474976710656)(hal:a.length≤281474976710656)
  (hR:∀n',n0≤n'→R (.fz (.b (decide (a=b)))) H n'):zav Tryd.prog G0 43 [.fz (.sl (a.map enc)),.fz (.sl (b.map enc)),.fn 44 []] H n0 R:=by
 refine zb3 zE5 (fun hfr=>?_) hR
 obtain⟨Q,hQ⟩:∃Q:D→zas→Nat→Prop,Q=(fun d' H' n'=>d'= .fz (.b (decide (a=b)))∧n0≤n'∧∀id,id.2<n0→H' id=H id):=⟨_,rfl⟩
 rw[←hQ]
 have hf:a≠b→∀{n' H'},n0≤n'→(∀id,id.2<n0→H' id=H id)→Q (.fz (.b false)) H' n':=fun h n' H' hn hH=>by
  rw[hQ];exact⟨by rw[decide_eq_false h],hn,hH⟩
 have ht:a=b→∀{n' H'},n0≤n'→(∀id,id.2<n0→H' id=H id)→Q (.fz (.b true)) H' n':=fun h n' H' hn hH=>by
  rw[hQ];exact⟨by rw[decide_eq_true h],hn,hH⟩
 have kf:=Kp.mk @hf
 have kt:=Kp.mk @ht
 have kT:=Kp.mk hT
 have kh:=Kp.mk hs
 clear hf ht hQ hT hs
 have e:H=hpX [] H:=rfl
 rw[e]
 refine zaj (N:=32) hm kT.out 43000 (lst []) zE5 Tryd.func43 rfl rfl (by simp) (by kernel_rfl) ?_
 by_cases hl:a.length=b.length
 rotate_left
 ·have hl':((a.length:Int)=b.length)=False:=eq_false (by omega)
  repeat'(first|refine And.intro ?_ ?_|exact True.intro|refine rq fun _=>?_|refine rf fun _=>?_|simp only[go_sem,hl',Tryd.f43])
  all_goals exact kf.out (fun e=>hl (by have:=congrArg List.length e;simpa using this)) (Nat.le_refl _) fun _ _=>rfl
 have hl':((a.length:Int)=b.length)=True:=eq_true (by omega)
 repeat'(first|refine And.intro ?_ ?_|exact True.intro|refine rq fun _=>?_|refine rf fun _=>?_|simp only[go_sem,hl',Tryd.f43])
 refine zar hm kT.out 43000 (lst []) (ι:=zcp a.length n0 fun i=>a.take i=b.take i)
  ⟨fun q=>⟨frL [(1,.fz (.sl (b.map enc))),(2,.fn 44 []),(15,.fz (.sl (a.map enc))),(16,.fz (.i .i64 a.length)),(17,.fz (.i .i64 q.i))],hpX [] H,q.m⟩,fun q=>a.length-q.i⟩
  ⟨0,n0,by omega,Nat.le_refl _,rfl⟩ (by kernel_rfl) ?_ ?_
 ·refine zaJ ?_ ?_ (fun id2 o2 ho2=>?_) ?_
  ·simp only[go_sem]
  ·simp only[go_sem]
  ·exact ho2
  ·first|omega|(simp only[go_sem];done)|(simp only[go_sem];omega)
 rintro⟨i,m,hi,hm1,hp⟩
 try simp only at hi hm1 hp
 rcases Nat.lt_or_ge i a.length with h1|h1
 ·have h2:i<b.length:=by omega
  obtain⟨x,hx⟩:∃x,a[i]=x:=⟨_,rfl⟩
  obtain⟨y,hy⟩:∃y,b[i]=y:=⟨_,rfl⟩
  have hxm:x∈a:=by rw[←hx];exact List.getElem_mem h1
  have hpre:=kh.out x hxm
  by_cases hxy:x=y
  ·have hd:decide (x=y)=true:=decide_eq_true hxy
   have hd2:(x=y)=True:=eq_true hxy
   repeat'(first|refine zaD.i (f44 kT.out (x:=x) (y:=y) hpre.1 hpre.2 fun n' hn'=>?_)|refine And.intro ?_ ?_|exact True.intro|refine rq fun _=>?_|refine rf fun _=>?_|simp only[go_sem,h1,h2,hx,hy,hd,hd2,zad,zab,zae,zaf,zaa,Tryd.f43])
   all_goals
    refine⟨⟨i+1,n',by omega,by omega,?_⟩,by simp only;omega,?_⟩
    ·rw[List.take_succ_eq_append_getElem h1,List.take_succ_eq_append_getElem h2,hp,hx,hy,hxy]
    refine zaJ ?_ ?_ (fun id2 o2 ho2=>?_) ?_
    ·simp only[go_sem]
    ·simp only[go_sem]
    ·have hne:∀(t k:Nat),n0≤k→(id2=(t,k))=False:=fun t k h3=>eq_false fun e=>by
      rw[e,hfr (t,k) h3]at ho2;cases ho2
     simp only[go_sem,hne 43008 m (by omega),hne 43009 (m+1) (by omega),ho2]
    ·first|omega|(simp only[go_sem];done)|(simp only[go_sem];omega)
  ·have hd:decide (x=y)=false:=decide_eq_false hxy
   have hd2:(x=y)=False:=eq_false hxy
   repeat'(first|refine zaD.i (f44 kT.out (x:=x) (y:=y) hpre.1 hpre.2 fun n' hn'=>?_)|refine And.intro ?_ ?_|exact True.intro|refine rq fun _=>?_|refine rf fun _=>?_|simp only[go_sem,h1,h2,hx,hy,hd,hd2,zad,zab,zae,zaf,zaa,Tryd.f43])
   all_goals
    refine kf.out (fun e=>hxy ?_) (by omega) fun id hid=>?_
    ·have:=congrArg (fun l=>l[i]?) e
     simp only[List.getElem?_eq_getElem h1,List.getElem?_eq_getElem h2,hx,hy,Option.some.injEq]at this
     exact this
    ·have hne:∀(t k:Nat),n0≤k→(id=(t,k))=False:=fun t k h3=>eq_false fun e=>by
      rw[e]at hid;simp only at hid;omega
     simp only[go_sem,hne 43008 m (by omega),hne 43009 (m+1) (by omega)]
 ·obtain rfl:i=a.length:=by omega
  have h1':¬a.length<a.length:=by omega
  repeat'(first|refine And.intro ?_ ?_|exact True.intro|refine rq fun _=>?_|refine rf fun _=>?_|simp only[go_sem,Nat.lt_irrefl,h1',Tryd.f43])
  all_goals
   refine kt.out ?_ (by omega) fun _ _=>rfl
   rw[List.take_length,hl,List.take_length]at hp
   exact hp
def V7:Tbl:=V6.add 17 (sp2 (fun a b:Abs.Box=>decide (a=b)) fun _ _=>True)
attribute [go_sem] V7
set_option maxHeartbeats 4000000 in
theorem hV7:zan Tryd.prog G0 V7:=by
 refine zjV Box.size zEN hV6 fun n hT a b hn hwa hwb=>?_
 obtain⟨Q,hQ⟩:∃Q:D→zas→Nat→Prop,Q=(fun d _ _=>D.val d=some (.fz (enc (decide (a=b))))):=⟨_,rfl⟩
 rw[←hQ]
 have hw2:=hwa
 rw[zaQ]at hw2
 have hcl:a.conds.length≤281474976710656:=by
  have:=zc1 (zbC hw2 (FD.sl (a.conds.map enc)) (by simp))
  rw[List.length_map]at this
  unfold zaZ at this
  omega
 have hpre:∀c∈a.conds,(∀z∈c.boxes,z.size<n)∧c.boxes.length≤281474976710656:=fun c hc=>by
  refine⟨fun z hz=>?_,?_⟩
  ·have h1:=Box.size_sub hc
   have h2:=zal.size_sub hz
   omega
  ·have hcw:=zg0 (zbC hw2 (FD.sl (a.conds.map enc)) (by simp)) _ (List.mem_map_of_mem hc)
   rw[zcQ]at hcw
   have:=zc1 (zbC hcw (FD.sl (c.boxes.map enc)) (by simp))
   rw[List.length_map]at this
   unfold zaZ at this
   omega
 have kT:=Kp.mk hT
 have kq:=Kp.mk hQ
 clear hT hQ hw2
 refine zaj (N:=17) hm kT.out 17000 (lst []) zEN Tryd.func17 rfl rfl (by simp) (by kernel_rfl) ?_
 by_cases h1:a.refs=b.refs
 ·have h1t:decide (a.refs=b.refs)=true:=decide_eq_true h1
  have h1u:(a.refs=b.refs)=True:=eq_true h1
  have he:decide (a.conds=b.conds)=decide (a=b):=by
   by_cases h2:a.conds=b.conds
   ·rw[decide_eq_true h2,decide_eq_true (zqg h1 h2)]
   ·rw[decide_eq_false h2,decide_eq_false fun e=>h2 (by rw[e])]
  repeat'(first|refine zaD.i (f43 kT.out (a:=a.conds) (b:=b.conds) hpre hcl fun n' hn'=>?_)|refine And.intro ?_ ?_|exact True.intro|refine rq fun _=>?_|refine rf fun _=>?_|simp only[go_sem,h1t,h1u,zad,zab,zae,zaf,zaa,Tryd.f17])
  all_goals
   rw[kq.out]
   simp only[go_sem,he]
   all_goals first|done|rfl|omega
 ·have h1t:decide (a.refs=b.refs)=false:=decide_eq_false h1
  have h1u:(a.refs=b.refs)=False:=eq_false h1
  have he:decide (a=b)=false:=decide_eq_false fun e=>h1 (by rw[e])
  repeat'(first|refine And.intro ?_ ?_|exact True.intro|refine rq fun _=>?_|refine rf fun _=>?_|simp only[go_sem,h1t,h1u,zad,zab,zae,zaf,zaa,Tryd.f17])
  all_goals
   rw[kq.out,he]
   first|rfl|simp only[go_sem]
end Go.Proofs.YtalbdmcklgglbaaDoor
namespace Go.Proofs.YtalbdmcklgglbaaDoor
open Go Go.Abs Go.Proofs
set_option maxHeartbeats 4000000 in
theorem f41 {l:List Abs.Box}{p:Abs.Box→Bool}{row:Abs.Id}{g:FuncId}{caps:List D}{H:zas}{n:Nat}{R:D→zas→Nat→Prop}(hl:l.length≤1000000000)
  (hg:∀c∈l,∀(n1:Nat) (R1:D→zas→Nat→Prop),n≤n1→(∀n',n1≤n'→R1 (.fz (.b (p c))) H n')→zav Tryd.prog G0 g (.fz (.agg [.sl (c.refs.map enc),.sl (c.conds.map enc)])::caps) H n1 R1)
  (hR:∀(n':Nat) (r:Int),n≤n'→decide (0≤r)=l.any p→R (.fz (.i .i64 r)) H n'):zav Tryd.prog G0 41 [.ow row 2 (l.map enc),.fn g caps] H n R:=by
 have kq:=Kp.mk hR
 have kg:=Kp.mk hg
 clear hR hg
 have e:H=hpX [] H:=rfl
 rw[e]
 refine zaj (N:=19) hm zd1 41000 (lst []) zGw Tryd.func41 rfl rfl (by simp) (by kernel_rfl) ?_
 repeat'(first|refine And.intro ?_ ?_|exact True.intro|refine rq fun _=>?_|refine rf fun _=>?_|simp only[go_sem,Tryd.f41,zev])
 refine zar hm zd1 41000 (lst []) (ι:=zcp l.length n fun i=>∀c∈l.take i,p c=false)
  ⟨fun q=>⟨frL [(0,.ow row 2 (l.map enc)),(1,.fn g caps),(6,.ow row 2 (l.map enc)),(7,.fz (.i .i64 l.length)),(8,.fz (.i .i64 q.i))],hpX [] H,q.m⟩,fun q=>l.length-q.i⟩
  ⟨0,n,by omega,Nat.le_refl _,by simp⟩ (by kernel_rfl) ?_ ?_
 ·refine zaJ ?_ ?_ (fun id2 o2 ho2=>?_) ?_
  ·simp only[go_sem]
  ·simp only[go_sem]
  ·exact ho2
  ·first|omega|(simp only[go_sem];done)|(simp only[go_sem];omega)
 rintro⟨i,m,hi,hm1,hp⟩
 try simp only at hi hm1 hp
 rcases Nat.lt_or_ge i l.length with h1|h1
 ·obtain⟨x,hx⟩:∃x,l[i]=x:=⟨_,rfl⟩
  have hxm:x∈l:=by rw[←hx];exact List.getElem_mem h1
  cases hpx:p x with
  |true=>
   repeat'(first|refine zaD.i (kg.out x hxm _ _ (by omega) fun n' hn'=>?_)|refine And.intro ?_ ?_|exact True.intro|refine rq fun _=>?_|refine rf fun _=>?_|simp only[go_sem,h1,hx,hpx,zad,zab,zae,zaf,zaa,Tryd.f41,zev])
   all_goals
    refine kq.out _ _ (by omega) ?_
    rw[decide_eq_true (by omega),List.any_eq_true.2 ⟨x,hxm,hpx⟩]
  |false=>
   repeat'(first|refine zaD.i (kg.out x hxm _ _ (by omega) fun n' hn'=>?_)|refine And.intro ?_ ?_|exact True.intro|refine rq fun _=>?_|refine rf fun _=>?_|simp only[go_sem,h1,hx,hpx,zad,zab,zae,zaf,zaa,Tryd.f41,zev])
   all_goals
    refine⟨⟨i+1,n',by omega,by omega,?_⟩,by simp only;omega,?_⟩
    ·rw[List.take_succ_eq_append_getElem h1,hx]
     intro c hc
     rcases List.mem_append.1 hc with h2|h2
     ·exact hp c h2
     ·rw[List.mem_singleton.1 h2];exact hpx
    refine zaJ ?_ ?_ (fun id2 o2 ho2=>?_) ?_
    ·simp only[go_sem]
    ·simp only[go_sem]
    ·exact ho2
    ·first|omega|(simp only[go_sem];done)|(simp only[go_sem];omega)
 ·obtain rfl:i=l.length:=by omega
  rw[List.take_length]at hp
  repeat'(first|refine And.intro ?_ ?_|exact True.intro|refine rq fun _=>?_|refine rf fun _=>?_|simp only[go_sem,Nat.lt_irrefl,Tryd.f41,zev])
  all_goals
   refine kq.out _ _ (by omega) ?_
   rw[show l.any p=false from List.any_eq_false.2 fun c hc=>by rw[hp c hc];simp]
   rfl
set_option maxHeartbeats 4000000 in
theorem f15 {l:List Abs.Box}{p:Abs.Box→Bool}{row:Abs.Id}{g:FuncId}{caps:List D}{H:zas}{n:Nat}{R:D→zas→Nat→Prop}(hl:l.length≤1000000000)
  (hg:∀c∈l,∀(n1:Nat) (R1:D→zas→Nat→Prop),n≤n1→(∀n',n1≤n'→R1 (.fz (.b (p c))) H n')→zav Tryd.prog G0 g (.fz (.agg [.sl (c.refs.map enc),.sl (c.conds.map enc)])::caps) H n1 R1)
  (hR:∀(n':Nat),n≤n'→R (.fz (.b (l.any p))) H n'):zav Tryd.prog G0 15 [.ow row 2 (l.map enc),.fn g caps] H n R:=by
 have kq:=Kp.mk hR
 have kg:=Kp.mk hg
 clear hR hg
 have e:H=hpX [] H:=rfl
 rw[e]
 refine zaj (N:=9) hm zd1 15000 (lst []) zGr Tryd.func15 rfl rfl (by simp) (by kernel_rfl) ?_
 repeat'(first|refine zaD.i (f41 (p:=p) hl kg.out fun n' r hn' hr=>?_)|refine And.intro ?_ ?_|exact True.intro|refine rq fun _=>?_|refine rf fun _=>?_|simp only[go_sem,Tryd.f15,zev])
 all_goals
  have h9:=kq.out n' hn'
  rw[←hr]at h9
  exact h9
set_option maxHeartbeats 4000000 in
theorem f16 {c b:Abs.Box}{id:Abs.Id}{H:zas}{n:Nat}{R:D→zas→Nat→Prop}(hid0:id.2<n)(ho:H id=some ⟨[.fz (.sl (b.refs.map enc)),.fz (.sl (b.conds.map enc))],true,false⟩)
  (hR:∀n',n≤n'→R (.fz (.b (decide (c=b)))) H n'):zav Tryd.prog G0 16 [.fz (.agg [.sl (c.refs.map enc),.sl (c.conds.map enc)]),.ptr id 0] H n R:=by
 refine zb3 zEM (fun hfr=>?_) hR
 obtain⟨Q,hQ⟩:∃Q:D→zas→Nat→Prop,Q=(fun d' H' n'=>d'= .fz (.b (decide (c=b)))∧n≤n'∧∀id,id.2<n→H' id=H id):=⟨_,rfl⟩
 rw[←hQ]
 have e:H=hpX [] H:=rfl
 rw[e]
 have hn0:∀id:Abs.Id,id.2<n→id≠(16002,n):=fun id h e=>by rw[e]at h;simp at h
 have hne:(id=(16002,n))=False:=eq_false (hn0 id hid0)
 have kq:=Kp.mk hQ
 clear hQ
 refine zaj (N:=7) hm hV7 16000 (lst []) zEM Tryd.func16 rfl rfl (by simp) (by kernel_rfl) ?_
 repeat'(first|refine And.intro ?_ ?_|exact True.intro|refine rq fun _=>?_|refine rf fun _=>?_|simp only[go_sem,ho,hne,hpX,zad,zab,zae,zaf,zaa,Tryd.f16])
 all_goals
  rw[kq.out]
  refine⟨?_,by omega,fun id hid=>?_⟩
  ·simp
  ·simp only[go_sem,hn0 id hid]
theorem zvr (l:List Abs.Box)(b:Abs.Box):(l.any fun c=>decide (c=b))=decide (b∈l):=by
 rw[Bool.eq_iff_iff,List.any_eq_true,decide_eq_true_eq]
 constructor
 ·rintro⟨x,hx,h⟩
  rw[←of_decide_eq_true h];exact hx
 ·intro h;exact⟨b,h,decide_eq_true rfl⟩
end Go.Proofs.YtalbdmcklgglbaaDoor
