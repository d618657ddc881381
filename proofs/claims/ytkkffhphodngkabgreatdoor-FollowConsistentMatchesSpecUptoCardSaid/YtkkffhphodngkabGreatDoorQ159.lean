import Derived.Test.YtkkffhphodngkabGreatDoorAT
import Derived.Test.YtkkffhphodngkabGreatDoorY0
import Derived.Test.YtkkffhphodngkabGreatDoorTR
import Derived.Test.YtkkffhphodngkabGreatDoorY7
import Derived.Test.YtkkffhphodngkabGreatDoorY11
set_option maxRecDepth 100000
set_option maxHeartbeats 1000000
set_option linter.unusedSimpArgs false
namespace Go.Proofs.YtkkffhphodngkabGreatDoor
open Go Go.Abs Go.Proofs
section
variable {G:Nat→List FD}
def Em1:Tbl:=zoH.add 59 (sp2 (fun a b:List Int=>decide (a=b)) fun _ _=>True)
theorem zRL:zaq Tryz.prog G Em1:=by
 refine zbC zPM zAr fun a b _ ha hb=>?_
 have la:=zdf ha
 have lb:=zdf hb
 simp only[List.length_map,zbe]at la lb
 refine zae (N:=26) hm zAr 59000 (lst []) zPM Tryz.func59 rfl rfl (by simp) (by kernel_rfl) ?_
 simp only[go_sem]
 refine zbu.d (fun h=>?_) (fun h=>?_)
 ·simp only[go_sem]
  refine zat hm zAr 59000 (lst []) (ι:=zhd a.length fun i=>a.take i=b.take i) ⟨fun i=>⟨frL [(0,.fz (enc a)),(1,.fz (enc b)),(12,.fz (.i .i64 a.length)),(13,.fz (.i .i64 i.i))],hpL [],0⟩,fun i=>a.length-i.i⟩ ⟨0,by simp,by simp⟩ (by kernel_rfl) ?_ ?_
  ·refine zaj ?_ ?_ ?_<;>simp only[go_sem]
  ·rintro⟨i,hi,hp⟩
   try simp only at hi hp
   rcases Nat.lt_or_ge i a.length with h2|h2
   ·have h3:i<b.length:=by omega
    obtain⟨x,hx⟩:∃x,a[i]=x:=⟨_,rfl⟩
    obtain⟨y,hy⟩:∃y,b[i]=y:=⟨_,rfl⟩
    by_cases h4:x=y
    ·have h4':(x=y)=True:=eq_true h4
     repeat'(first|refine rq fun _=>?_|simp only[go_sem,h2,h3,hx,hy,h4',zaa,Tryz.f59,zoH])
     refine⟨⟨i+1,by omega,zAe h2 h3 hp (by rw[hx,hy,h4])⟩,by simp only;omega,?_⟩
     refine zaj ?_ ?_ ?_<;>simp only[go_sem]
    ·have h4':(x=y)=False:=eq_false h4
     have hne:=zG8 h2 h3 (by rw[hx,hy];exact h4)
     repeat'(first|refine rq fun _=>?_|simp only[go_sem,h2,h3,hx,hy,h4',zaa,Tryz.f59,zoH,hne])
   ·have he:=zAd h (by omega) hp
    obtain rfl:i=a.length:=by omega
    repeat'(first|refine rq fun _=>?_|simp only[go_sem,Nat.lt_irrefl,Int.lt_irrefl,Tryz.f59,he])
 ·have hne:a≠b:=fun e=>h (e▸rfl)
  simp only[go_sem,Tryz.f59,hne]
def Em2:Tbl:=Em1.add 30 (sp2 (fun a b:List (List Int)=>decide (a=b)) fun _ _=>True)
theorem zRB:zaq Tryz.prog G Em2:=by
 refine zbC zPL zRL fun a b _ ha hb=>?_
 have la:=zdf ha
 have lb:=zdf hb
 simp only[List.length_map,zbe]at la lb
 refine zae (N:=27) hm zRL 30000 (lst []) zPL Tryz.func30 rfl rfl (by simp) (by kernel_rfl) ?_
 simp only[go_sem]
 refine zbu.d (fun h=>?_) (fun h=>?_)
 ·simp only[go_sem]
  refine zat hm zRL 30000 (lst []) (ι:=zhd a.length fun i=>a.take i=b.take i) ⟨fun i=>⟨frL [(0,.fz (enc a)),(1,.fz (enc b)),(12,.fz (.i .i64 a.length)),(13,.fz (.i .i64 i.i))],hpL [],0⟩,fun i=>a.length-i.i⟩ ⟨0,by simp,by simp⟩ (by kernel_rfl) ?_ ?_
  ·refine zaj ?_ ?_ ?_<;>simp only[go_sem]
  ·rintro⟨i,hi,hp⟩
   try simp only at hi hp
   rcases Nat.lt_or_ge i a.length with h2|h2
   ·have h3:i<b.length:=by omega
    obtain⟨x,hx⟩:∃x,a[i]=x:=⟨_,rfl⟩
    obtain⟨y,hy⟩:∃y,b[i]=y:=⟨_,rfl⟩
    by_cases h4:x=y
    ·have h4':(x=y)=True:=eq_true h4
     repeat'(first|refine rq fun _=>?_|simp only[go_sem,h2,h3,hx,hy,h4',zaa,Tryz.f30,Em1])
     refine⟨⟨i+1,by omega,zAe h2 h3 hp (by rw[hx,hy,h4])⟩,by simp only;omega,?_⟩
     refine zaj ?_ ?_ ?_<;>simp only[go_sem]
    ·have h4':(x=y)=False:=eq_false h4
     have hne:=zG8 h2 h3 (by rw[hx,hy];exact h4)
     repeat'(first|refine rq fun _=>?_|simp only[go_sem,h2,h3,hx,hy,h4',zaa,Tryz.f30,Em1,hne])
   ·have he:=zAd h (by omega) hp
    obtain rfl:i=a.length:=by omega
    repeat'(first|refine rq fun _=>?_|simp only[go_sem,Nat.lt_irrefl,Int.lt_irrefl,Tryz.f30,he])
 ·have hne:a≠b:=fun e=>h (e▸rfl)
  simp only[go_sem,Tryz.f30,hne]
theorem zRH {a b:zay}(h1:a.size=b.size)(h2:a.consts=b.consts)(h3:a.rels=b.rels):a=b:=by
 cases a;cases b;simp only at*;subst h1 h2 h3;rfl
theorem zRI {a b:zek}(h1:a.name=b.name)(h2:a.arity=b.arity)(h3:a.tuples=b.tuples):a=b:=by
 cases a;cases b;simp only at*;subst h1 h2 h3;rfl
theorem zRt {α:Type}{a b:List α}(h:a.length=b.length)(h2:a.take a.length=b.take a.length):a=b:=by
 rw[List.take_length]at h2
 rw[h,List.take_length]at h2
 exact h2
theorem zRv {N:Nat}{l:List (Nat×D)}{H:zav}{n:Nat}{id:Abs.Id}{t:Nat}{ys:List FD}{b:Bool}(ho:H id=some ⟨ys.map .fz,b,false⟩)(hs:frL l t= .ptr id 0):
  zfa G N ⟨frL l,H,n⟩ ⟨frL ((t,.rp ys)::l),zaI H id none,n⟩:=ztQ (st:=⟨frL l,H,n⟩) ho hs
def zRs:Tv:=(.q 0 (.q 1 (.q 2 (.q 3 (.q 4 (.q 5 (.q 7 (.r 6 (.q 8 (.r 9 (.br [(10,(.br [(11,(.br [(12,(.br [(13,.leaf)]))]))])),(11,(.br [(10,(.br [(12,(.br [(13,.leaf)]))]))]))])))))))))))
def Em3:Tbl:=Em2.add 13 (sp2 (fun a b:zay=>decide (a=b)) fun _ _=>True)
set_option maxHeartbeats 4000000 in
theorem zRQ:zaq Tryz.prog G Em3:=by
 refine zbC zPK zRB fun a b _ hwa hwb=>?_
 obtain⟨Q,hQ⟩:∃Q:D→zav→Nat→Prop,Q=(fun d _ _=>D.val d=some (.fz (enc (decide (a=b))))):=⟨_,rfl⟩
 rw[←hQ]
 have hf:a≠b→∀{H' n'},Q (.fz (.b false)) H' n':=fun h H' n'=>by rw[hQ];show _=some (D.fz (.b (decide (a=b))));rw[decide_eq_false h];rfl
 have ht:a=b→∀{H' n'},Q (.fz (.b true)) H' n':=fun h H' n'=>by rw[hQ];show _=some (D.fz (.b (decide (a=b))));rw[decide_eq_true h];rfl
 have hsl:a.consts.length≤zbe:=by
  have h:=zbS (by have h:=hwa;rw[zdL]at h;exact h) (FD.sl (a.consts.map enc)) (by simp)
  have:=zdf h
  simpa using this
 have hso:a.rels.length≤zbe:=by
  have h:=zbS (by have h:=hwa;rw[zdL]at h;exact h) (FD.sl (a.rels.map enc)) (by simp)
  have:=zdf h
  simpa using this
 unfold zbe at hsl hso
 have kf:=Kp.mk @hf
 have kt:=Kp.mk @ht
 clear hf ht hQ hwa hwb
 refine zae (N:=87) hm zRB 13000 (lst [1000012]) zPK Tryz.func13 rfl rfl (by simp) (by kernel_rfl) ?_
 by_cases e1:a.size=b.size
 rotate_left
 ·have e1':(a.size=b.size)=False:=eq_false e1
  have hne:a≠b:=fun e=>e1 (by rw[e])
  repeat'(first|refine And.intro ?_ ?_|exact True.intro|refine rq fun _=>?_|simp only[go_sem,e1',zbb,zaL,zag,zad,zaa,zRs,Tryz.f13,Em2,Em1,zoH])
  all_goals first|done|exact kf.out hne|exact kt.out heq
 have e1':(a.size=b.size)=True:=eq_true e1
 by_cases e2:a.consts.length=b.consts.length
 rotate_left
 ·have e2':((a.consts.length:Int)=(b.consts.length:Int))=False:=eq_false (by omega)
  have e2'':(a.consts.length=b.consts.length)=False:=eq_false e2
  have hne:a≠b:=fun e=>e2 (by rw[e])
  repeat'(first|refine And.intro ?_ ?_|exact True.intro|refine rq fun _=>?_|simp only[go_sem,e1',e2',e2'',zbb,zaL,zag,zad,zaa,zRs,Tryz.f13,Em2,Em1,zoH])
  all_goals first|done|exact kf.out hne|exact kt.out heq
 have e2':((a.consts.length:Int)=(b.consts.length:Int))=True:=eq_true (by omega)
 have e2'':(a.consts.length=b.consts.length)=True:=eq_true e2
 by_cases e3:a.rels.length=b.rels.length
 rotate_left
 ·have e3':((a.rels.length:Int)=(b.rels.length:Int))=False:=eq_false (by omega)
  have e3'':(a.rels.length=b.rels.length)=False:=eq_false e3
  have hne:a≠b:=fun e=>e3 (by rw[e])
  repeat'(first|refine And.intro ?_ ?_|exact True.intro|refine rq fun _=>?_|simp only[go_sem,e1',e2',e2'',e3',e3'',zbb,zaL,zag,zad,zaa,zRs,Tryz.f13,Em2,Em1,zoH])
  all_goals first|done|exact kf.out hne|exact kt.out heq
 have e3':((a.rels.length:Int)=(b.rels.length:Int))=True:=eq_true (by omega)
 have e3'':(a.rels.length=b.rels.length)=True:=eq_true e3
 repeat'(first|refine And.intro ?_ ?_|exact True.intro|refine rq fun _=>?_|simp only[go_sem,e1',e2',e2'',e3',e3'',zbb,zaL,zag,zad,zaa,zRs,Tryz.f13,Em2,Em1,zoH])
 refine zkT (zRv (id:=(13002,0)) (t:=2) (b:=true) (ys:=[.i .i64 a.size,.sl (a.consts.map enc),.sl (a.rels.map enc)]) (by simp only[go_sem]) (by simp only[go_sem])) ?_
 refine zkT (zRv (id:=(13003,1)) (t:=3) (b:=true) (ys:=[.i .i64 b.size,.sl (b.consts.map enc),.sl (b.rels.map enc)]) (by simp only[go_sem]) (by simp only[go_sem])) ?_
 refine zat hm zRB 13000 (lst [1000012]) (ι:=zhd a.consts.length fun i=>a.consts.take i=b.consts.take i)
  ⟨fun q=>⟨frL [(2,.rp [.i .i64 a.size,.sl (a.consts.map enc),.sl (a.rels.map enc)]),(3,.rp [.i .i64 b.size,.sl (b.consts.map enc),.sl (b.rels.map enc)]),(34,.fz (.i .i64 a.consts.length)),(35,.fz (.i .i64 q.i))],hpL [],2⟩,fun q=>a.consts.length-q.i⟩
  ⟨0,by omega,rfl⟩ (by kernel_rfl) ?_ ?_
 ·refine zaj ?_ ?_ ?_<;>simp only[go_sem,e2'']
 rintro⟨i,hi,hpi⟩
 try simp only at hi hpi
 rcases Nat.lt_or_ge i a.consts.length with h1|h1
 ·have h2:i<b.consts.length:=by omega
  obtain⟨x,hx⟩:∃x,a.consts[i]=x:=⟨_,rfl⟩
  obtain⟨y,hy⟩:∃y,b.consts[i]=y:=⟨_,rfl⟩
  by_cases he:x=y
  ·subst he
   repeat'(first|refine And.intro ?_ ?_|exact True.intro|refine rq fun _=>?_|simp only[go_sem,h1,h2,hx,hy,zbb,zaL,zag,zad,zaa,zRs,Tryz.f13,Em2,Em1,zoH])
   all_goals
    refine⟨⟨i+1,by omega,by rw[List.take_succ_eq_append_getElem h1,List.take_succ_eq_append_getElem h2,hpi,hx,hy]⟩,by simp only;omega,?_⟩
    refine zaj ?_ ?_ ?_<;>simp only[go_sem]
  ·have hne:a≠b:=fun h=>he (by subst h;rw[←hx,←hy])
   by_cases hn:x.name=y.name
   ·have hv:(x.value=y.value)=False:=eq_false fun e=>he (by cases x;cases y;simp only at hn e;rw[hn,e])
    have hn':(x.name=y.name)=True:=eq_true hn
    repeat'(first|refine And.intro ?_ ?_|exact True.intro|refine rq fun _=>?_|simp only[go_sem,h1,h2,hx,hy,hn',hv,zbb,zaL,zag,zad,zaa,zRs,Tryz.f13,Em2,Em1,zoH])
    all_goals first|done|exact kf.out hne|exact kt.out heq
   ·have hn':(x.name=y.name)=False:=eq_false hn
    repeat'(first|refine And.intro ?_ ?_|exact True.intro|refine rq fun _=>?_|simp only[go_sem,h1,h2,hx,hy,hn',zbb,zaL,zag,zad,zaa,zRs,Tryz.f13,Em2,Em1,zoH])
    all_goals first|done|exact kf.out hne|exact kt.out heq
 obtain rfl:i=a.consts.length:=by omega
 have ec:=zRt e2 hpi
 repeat'(first|refine And.intro ?_ ?_|exact True.intro|refine rq fun _=>?_|simp only[go_sem,Nat.lt_irrefl,Int.lt_irrefl,zbb,zaL,zag,zad,zaa,zRs,Tryz.f13,Em2,Em1,zoH])
 refine zat hm zRB 13000 (lst [1000012]) (ι:=zcW a.rels.length 2 fun i=>a.rels.take i=b.rels.take i)
  ⟨fun q=>⟨frL [(2,.rp [.i .i64 a.size,.sl (a.consts.map enc),.sl (a.rels.map enc)]),(3,.rp [.i .i64 b.size,.sl (b.consts.map enc),.sl (b.rels.map enc)]),(52,.fz (.i .i64 a.rels.length)),(53,.fz (.i .i64 q.i))],hpL [],q.m⟩,fun q=>a.rels.length-q.i⟩
  ⟨0,2,by omega,by omega,rfl⟩ (by kernel_rfl) ?_ ?_
 ·refine zaj ?_ ?_ ?_<;>simp only[go_sem,e3'']
 rintro⟨i,m,hi,hm2,hpi⟩
 try simp only at hi hm2 hpi
 rcases Nat.lt_or_ge i a.rels.length with h1|h1
 ·have h2:i<b.rels.length:=by omega
  obtain⟨x,hx⟩:∃x,a.rels[i]=x:=⟨_,rfl⟩
  obtain⟨y,hy⟩:∃y,b.rels[i]=y:=⟨_,rfl⟩
  have hnn:x≠y→a≠b:=fun he h=>he (by subst h;rw[←hx,←hy])
  by_cases f1:x.name=y.name
  rotate_left
  ·have f1':(x.name=y.name)=False:=eq_false f1
   have hne:a≠b:=hnn fun e=>f1 (by rw[e])
   repeat'(first|refine zar (id:=12) hm zRB 13000 (lst [1000012]) zRs (by kernel_rfl) (by kernel_rfl) ?_|refine And.intro ?_ ?_|exact True.intro|refine rq fun _=>?_|simp only[go_sem,h1,h2,hx,hy,f1',zbb,zaL,zag,zad,zaa,zRs,Tryz.f13,Em2,Em1,zoH])
   all_goals first|done|exact kf.out hne|exact kt.out heq
  have f1':(x.name=y.name)=True:=eq_true f1
  by_cases f2:x.arity=y.arity
  rotate_left
  ·have f2':(x.arity=y.arity)=False:=eq_false f2
   have hne:a≠b:=hnn fun e=>f2 (by rw[e])
   repeat'(first|refine zar (id:=12) hm zRB 13000 (lst [1000012]) zRs (by kernel_rfl) (by kernel_rfl) ?_|refine And.intro ?_ ?_|exact True.intro|refine rq fun _=>?_|simp only[go_sem,h1,h2,hx,hy,f1',f2',zbb,zaL,zag,zad,zaa,zRs,Tryz.f13,Em2,Em1,zoH])
   all_goals first|done|exact kf.out hne|exact kt.out heq
  have f2':(x.arity=y.arity)=True:=eq_true f2
  by_cases f3:x.tuples=y.tuples
  rotate_left
  ·have f3':(x.tuples=y.tuples)=False:=eq_false f3
   have hne:a≠b:=hnn fun e=>f3 (by rw[e])
   repeat'(first|refine zar (id:=12) hm zRB 13000 (lst [1000012]) zRs (by kernel_rfl) (by kernel_rfl) ?_|refine And.intro ?_ ?_|exact True.intro|refine rq fun _=>?_|simp only[go_sem,h1,h2,hx,hy,f1',f2',f3',decide_false,zbb,zaL,zag,zad,zaa,zRs,Tryz.f13,Em2,Em1,zoH])
   all_goals first|done|exact kf.out hne|exact kt.out heq
  have f3':(x.tuples=y.tuples)=True:=eq_true f3
  have hxy:=zRI f1 f2 f3
  repeat'(first|refine zar (id:=12) hm zRB 13000 (lst [1000012]) zRs (by kernel_rfl) (by kernel_rfl) ?_|refine And.intro ?_ ?_|exact True.intro|refine rq fun _=>?_|simp only[go_sem,h1,h2,hx,hy,f1',f2',f3',decide_true,zbb,zaL,zag,zad,zaa,zRs,Tryz.f13,Em2,Em1,zoH])
  all_goals
   refine⟨⟨i+1,m+2,by omega,by omega,by rw[List.take_succ_eq_append_getElem h1,List.take_succ_eq_append_getElem h2,hpi,hx,hy,hxy]⟩,by simp only;omega,?_⟩
   refine zaj ?_ ?_ ?_<;>simp only[go_sem]
 obtain rfl:i=a.rels.length:=by omega
 have heq:a=b:=zRH e1 ec (zRt e3 hpi)
 clear ec
 repeat'(first|refine And.intro ?_ ?_|exact True.intro|refine rq fun _=>?_|simp only[go_sem,Nat.lt_irrefl,Int.lt_irrefl,zbb,zaL,zag,zad,zaa,zRs,Tryz.f13,Em2,Em1,zoH])
 all_goals first|done|exact kf.out hne|exact kt.out heq
end
end Go.Proofs.YtkkffhphodngkabGreatDoor
