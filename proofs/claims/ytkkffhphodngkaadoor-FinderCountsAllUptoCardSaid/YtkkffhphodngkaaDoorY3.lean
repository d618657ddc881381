/- several texts of this proof in one; no conditions -/
import Derived.Test.YtkkffhphodngkaaDoorAT
import Derived.Test.YtkkffhphodngkaaDoorQ8
import Derived.Test.YtkkffhphodngkaaDoorTR
import Derived.Test.YtkkffhphodngkaaDoorY7
import Derived.Test.YtkkffhphodngkaaDoorCN
import Derived.Test.YtkkffhphodngkaaDoorY2
set_option maxRecDepth 100000
set_option maxHeartbeats 1000000
set_option linter.unusedSimpArgs false
namespace Go.Proofs.YtkkffhphodngkaaDoor
open Go Go.Abs Go.Proofs
section
variable {G:Nat→List FD}
def A1:Tbl:=Q20.add 85 (sp1 (fun _:Str=>false) fun _=>True)
attribute [go_sem] A1
theorem hA1:zap Tryd.prog G A1:=by
 refine zb6 zE2 (zci zvv) fun s _ _=>?_
 refine zah (N:=6) hm (zci zvv) 85000 (lst []) zE2 Tryd.func85 rfl rfl (by simp) (by kernel_rfl) ?_
 repeat'(first|refine rq fun _=>?_|simp only[go_sem,Tryd.f85])
def A2:Tbl:=A1.add 86 (sp1 (fun _:Int=>false) fun _=>True)
attribute [go_sem] A2
theorem hA2:zap Tryd.prog G A2:=by
 refine zb6 zE3 hA1 fun s _ _=>?_
 refine zah (N:=6) hm (G:=G) hA1 86000 (lst []) zE3 Tryd.func86 rfl rfl (by simp) (by kernel_rfl) ?_
 repeat'(first|refine rq fun _=>?_|simp only[go_sem,Tryd.f86])
theorem zu3 {a b:Str}(h:a.l<b.l):zj6 a b= -1:=by unfold zj6;rw[if_pos h]
theorem zu2 {a b:Str}(h:¬a.l<b.l)(h2:b.l<a.l):zj6 a b=1:=by unfold zj6;rw[if_neg h,if_pos h2]
theorem zu1 {a b:Str}(h:¬a.l<b.l)(h2:¬b.l<a.l):zj6 a b=0:=by unfold zj6;rw[if_neg h,if_neg h2]
def A3:Tbl:=A2.add 71 (sp2 zj6 fun _ _=>True)
attribute [go_sem] A3
theorem hA3:zap Tryd.prog G A3:=by
 refine zb7 zAO hA2 fun a b _ _ _=>?_
 by_cases h:a.l<b.l
 ·have e:=zu3 h
  have h':Op.bytesLess a.l b.l=true:=by rw[zbh];exact decide_eq_true h
  rw[e]
  refine zah (N:=20) hm (G:=G) hA2 71000 (lst []) zAO Tryd.func71 rfl rfl (by simp) (by kernel_rfl) ?_
  repeat'(first|refine rq fun _=>?_|simp only[go_sem,h',Tryd.f71])
 ·have h':Op.bytesLess a.l b.l=false:=by rw[zbh];exact decide_eq_false h
  by_cases h2:b.l<a.l
  ·have e:=zu2 h h2
   have h2':(a.l==b.l)=false:=by simpa using fun e=>h (absurd h2 (by rw[e];exact zcm _))
   rw[e]
   refine zah (N:=20) hm (G:=G) hA2 71000 (lst []) zAO Tryd.func71 rfl rfl (by simp) (by kernel_rfl) ?_
   repeat'(first|refine rq fun _=>?_|simp only[go_sem,h',h2',Tryd.f71])
  ·have e:=zu1 h h2
   have h2':(a.l==b.l)=true:=by
    rcases zrU a.l b.l with h3|h3|h3
    ·exact absurd h3 h
    ·simpa using h3
    ·exact absurd h3 h2
   rw[e]
   refine zah (N:=20) hm (G:=G) hA2 71000 (lst []) zAO Tryd.func71 rfl rfl (by simp) (by kernel_rfl) ?_
   repeat'(first|refine rq fun _=>?_|simp only[go_sem,h',h2',Tryd.f71])
def A4:Tbl:=A3.add 72 (sp2 zje fun _ _=>True)
attribute [go_sem] A4
theorem hA4:zap Tryd.prog G A4:=by
 refine zb7 zAP hA3 fun a b _ _ _=>?_
 have hc:(a<b∧zje a b= -1)∨(b<a∧¬a<b∧zje a b=1)∨(¬a<b∧¬b<a∧zje a b=0):=by
  unfold zje;split
  ·omega
  ·split<;>omega
 rcases hc with⟨h,e⟩|⟨h2,h,e⟩|⟨h,h2,e⟩
 ·rw[e]
  refine zah (N:=20) hm (G:=G) hA3 72000 (lst []) zAP Tryd.func72 rfl rfl (by simp) (by kernel_rfl) ?_
  repeat'(first|refine rq fun _=>?_|simp only[go_sem,h,Tryd.f72])
 ·rw[e]
  refine zah (N:=20) hm (G:=G) hA3 72000 (lst []) zAP Tryd.func72 rfl rfl (by simp) (by kernel_rfl) ?_
  repeat'(first|refine rq fun _=>?_|simp only[go_sem,h,h2,Tryd.f72])
 ·rw[e]
  refine zah (N:=20) hm (G:=G) hA3 72000 (lst []) zAP Tryd.func72 rfl rfl (by simp) (by kernel_rfl) ?_
  repeat'(first|refine rq fun _=>?_|simp only[go_sem,h,h2,Tryd.f72])
def orM:List Int→Int
 |[]=>0
 |a::l=>if a≠0 then a else orM l
theorem zzb {l:List Int}{i:Nat}(h:i<l.length)(h2:∀j (hj:j<l.length),j<i→l[j]=0)(h3:l[i]≠0):orM l=l[i]:=by
 induction l generalizing i with
 |nil=>simp at h
 |cons a l ih=>
  cases i with
  |zero=>rw[orM];simp only[List.getElem_cons_zero]at h3 ⊢;rw[if_pos h3]
  |succ i=>
   have h0:=h2 0 (by simp) (by omega)
   simp only[List.getElem_cons_zero]at h0
   rw[orM,if_neg (by simp[h0])]
   simp only[List.getElem_cons_succ]at h3 ⊢
   exact ih (by simpa using h) (fun j hj hji=>by have:=h2 (j+1) (by simpa using hj) (by omega);simpa using this) h3
theorem ztz {l:List Int}(h2:∀j (hj:j<l.length),l[j]=0):orM l=0:=by
 induction l with
 |nil=>rfl
 |cons a l ih=>
  have h0:=h2 0 (by simp)
  simp only[List.getElem_cons_zero]at h0
  rw[orM,if_neg (by simp[h0])]
  exact ih fun j hj=>by have:=h2 (j+1) (by simpa using hj);simpa using this
def A5:Tbl:=A4.add 70 (sp1 orM fun _=>True)
attribute [go_sem] A5
theorem hA5:zap Tryd.prog G A5:=by
 refine zb6 zEV hA4 fun l _ hw=>?_
 have la:=zcA hw
 simp only[List.length_map,za4]at la
 obtain⟨r,hr⟩:∃r,orM l=r:=⟨_,rfl⟩
 have h1:∀i (h:i<l.length),(∀j (hj:j<l.length),j<i→l[j]=0)→l[i]≠0→l[i]=r:=fun i h a b=>by rw[←hr,zzb h a b]
 have h2:(∀j (hj:j<l.length),l[j]=0)→r=0:=fun h=>by rw[←hr,ztz h]
 have k1:=Kp.mk h1
 have k2:=Kp.mk h2
 rw[hr]
 clear h1 h2 hr
 refine zah (N:=18) hm (G:=G) hA4 70000 (lst []) zEV Tryd.func70 rfl rfl (by simp) (by kernel_rfl) ?_
 repeat'(first|refine rq fun _=>?_|simp only[go_sem,Tryd.f70])
 refine zak hm (G:=G) hA4 70000 (lst []) (ι:=zbL l.length fun i=>∀j (hj:j<l.length),j<i→l[j]=0)
  ⟨fun q=>⟨frL [(3,.fz (.i .i64 0)),(6,.fz (.sl (l.map enc))),(7,.fz (.i .i64 l.length)),(8,.fz (.i .i64 q.i))],hpL [],0⟩,fun q=>l.length-q.i⟩
  ⟨0,by omega,fun j hj h=>by omega⟩ (by kernel_rfl) ?_ ?_
 ·refine zaf ?_ ?_ ?_<;>simp only[go_sem]
 rintro⟨i,hi,hp⟩
 try simp only at hi
 rcases Nat.lt_or_ge i l.length with h|h
 ·obtain⟨x,hx⟩:∃x,l[i]=x:=⟨_,rfl⟩
  by_cases h0:x=0
  ·have hp2:∀j (hj:j<l.length),j<i+1→l[j]=0:=fun j hj h3=>by
    rcases Nat.lt_or_ge j i with h4|h4
    ·exact hp j hj h4
    ·obtain rfl:j=i:=by omega
     rw[hx,h0]
   have kp:=Kp.mk hp2
   clear hp2
   repeat'(first|refine rq fun _=>?_|simp only[go_sem,h,hx,h0,zaa,Tryd.f70])
   refine⟨⟨i+1,by omega,kp.out⟩,by simp only;omega,?_⟩
   refine zaf ?_ ?_ ?_<;>simp only[go_sem]
  ·have e:=k1.out i h hp (by rw[hx];exact h0)
   rw[hx]at e
   subst e
   clear k1 k2
   repeat'(first|refine rq fun _=>?_|simp only[go_sem,h,hx,h0,zaa,Tryd.f70])
 ·obtain rfl:i=l.length:=by omega
  have e:=k2.out fun j hj=>hp j hj hj
  subst e
  repeat'(first|refine rq fun _=>?_|simp only[go_sem,Nat.lt_irrefl,Tryd.f70])
theorem zvX {a b:Int}:orM [a,b]=if a≠0 then a else b:=by
 rw[orM,orM,orM]
 split
 ·rfl
 ·split
  ·rfl
  ·rename_i h;exact(Decidable.not_not.1 h).symm
theorem zu0 (a b:zdc):orM [zj6 a.name b.name,zje a.arity b.arity]=znk a b:=by rw[zvX];rfl
def A6:Tbl:=A5.add 46 (sp2 znk fun _ _=>True)
attribute [go_sem] A6
theorem hA6:zap Tryd.prog G A6:=by
 refine zb7 zEI hA5 fun a b _ _ _=>?_
 have e:=zu0 a b
 refine zah (N:=17) hm (G:=G) hA5 46000 (lst []) zEI Tryd.func46 rfl rfl (by simp) (by kernel_rfl) ?_
 repeat'(first|refine rq fun _=>?_|simp only[go_sem,e,zab,Tryd.f46])
end
end Go.Proofs.YtkkffhphodngkaaDoor
namespace Go.Abs
open Go
theorem zqz {a b:List Int}{i:Nat}(h:i<a.length)(h2:i<b.length):zcM (a.drop i) (b.drop i)=if zje a[i] b[i]≠0 then zje a[i] b[i]else zcM (a.drop (i+1)) (b.drop (i+1)):=by
 rw[List.drop_eq_getElem_cons h,List.drop_eq_getElem_cons h2,zcM]
theorem zqy {a b:List Int}{i:Nat}(h:i<a.length)(h2:b.length≤i):zcM (a.drop i) (b.drop i)=1:=by
 rw[List.drop_eq_getElem_cons h,List.drop_of_length_le h2,zcM]
theorem zsH {a b:List Int}{i:Nat}(h:a.length≤i):zcM (a.drop i) (b.drop i)=if i<b.length then-1 else 0:=by
 rw[List.drop_of_length_le h]
 split
 ·rename_i h2;rw[List.drop_eq_getElem_cons h2,zcM]
 ·rename_i h2;rw[List.drop_of_length_le (by omega),zcM]
def bsI {α:Type}(c:α→Int)(l:List α):Nat:=(l.filter fun x=>decide (c x<0)).length
def bsB {α:Type}[Inhabited α](c:α→Int)(l:List α):Bool:=decide (bsI c l<l.length)&&decide (c (l.getD (bsI c l) default)=0)
def zmP {α:Type}(c:α→Int)(l:List α):Prop:=∀i j (hi:i<l.length) (hj:j<l.length),i<j→c l[j]≤0→c l[i]<0
theorem zm6 {α:Type}{c:α→Int}{l:List α}{i:Nat}(hi:i≤l.length)(h1:∀j (h:j<l.length),j<i→c l[j]<0)(h2:∀j (h:j<l.length),i≤j→0≤c l[j]):bsI c l=i:=
 ziB _ l i hi (fun j h hji=>decide_eq_true (h1 j h hji)) (fun j h hij=>decide_eq_false (by have:=h2 j h hij;omega))
theorem zmr {α:Type}[Inhabited α]{c:α→Int}{l:List α}(hs:zmP c l):l.find? (fun x=>decide (c x=0))=if bsB c l then some (l.getD (bsI c l) default)else none:=by
 cases hf:l.find? (fun x=>decide (c x=0))with
 |none=>
  rw[List.find?_eq_none]at hf
  have:bsB c l=false:=by
   unfold bsB
   by_cases h:bsI c l<l.length
   ·have:=hf _ (List.getElem_mem h)
    rw[List.getD_eq_getElem?_getD,List.getElem?_eq_getElem h]
    simp only[Option.getD_some]
    simp only[decide_eq_true_eq]at this
    simp[this]
   ·simp[h]
  rw[this];rfl
 |some x=>
  obtain⟨hx,xs,bs,rfl,hb⟩:=List.find?_eq_some_iff_append.1 hf
  have hx:=of_decide_eq_true hx
  have hi:bsI c (xs++x::bs)=xs.length:=by
   refine zm6 (by simp) (fun j h hj=>?_) (fun j h hj=>?_)
   ·refine hs j xs.length h (by simp) hj ?_
    rw[List.getElem_append_right (Nat.le_refl _)]
    simp only[Nat.sub_self,List.getElem_cons_zero]
    omega
   ·rcases(show c (xs++x::bs)[j]<0∨0≤c (xs++x::bs)[j] by omega)with h3|h3
    ·rcases Nat.eq_or_lt_of_le hj with rfl|h4
     ·rw[List.getElem_append_right (Nat.le_refl _)]at h3 ⊢
      simp only[Nat.sub_self,List.getElem_cons_zero]at h3 ⊢
      omega
     ·have:=hs xs.length j (by simp) h h4 (by omega)
      rw[List.getElem_append_right (Nat.le_refl _)]at this
      simp only[Nat.sub_self,List.getElem_cons_zero]at this
      omega
    ·omega
  have hg:(xs++x::bs).getD xs.length default=x:=by
   rw[List.getD_eq_getElem?_getD,List.getElem?_append_right (Nat.le_refl _)];simp
  unfold bsB
  rw[hi,hg]
  simp[hx]
end Go.Abs
namespace Go.Proofs.YtkkffhphodngkaaDoor
open Go Go.Abs Go.Proofs
section
variable {G:Nat→List FD}
def A7:Tbl:=A6.add 47 (sp2 zcM fun _ _=>True)
attribute [go_sem] A7
theorem hA7:zap Tryd.prog G A7:=by
 refine zb7 zEJ hA6 fun a b _ hwa hwb=>?_
 have la:=zcA hwa
 have lb:=zcA hwb
 simp only[List.length_map,za4]at la lb
 obtain⟨C,hC⟩:∃C:Nat→Int,C=fun i=>zcM (a.drop i) (b.drop i):=⟨_,rfl⟩
 have h0:zcM a b=C 0:=by rw[hC];rfl
 have h1:∀i (h:i<a.length) (h2:i<b.length),C i=if zje a[i] b[i]≠0 then zje a[i] b[i]else C (i+1):=fun i h h2=>by rw[hC];exact zqz h h2
 have h2:∀i (h:i<a.length),b.length≤i→C i=1:=fun i h h2=>by rw[hC];exact zqy h h2
 have h3:C a.length=if a.length<b.length then-1 else 0:=by rw[hC];exact zsH (Nat.le_refl _)
 rw[h0]
 obtain⟨r,hr⟩:∃r,C 0=r:=⟨_,rfl⟩
 rw[hr]
 have k1:=Kp.mk h1
 have k2:=Kp.mk h2
 have k3:=Kp.mk h3
 clear h0 h1 h2 h3 hC
 refine zah (N:=36) hm (G:=G) hA6 47000 (lst []) zEJ Tryd.func47 rfl rfl (by simp) (by kernel_rfl) ?_
 repeat'(first|refine rq fun _=>?_|simp only[go_sem,Tryd.f47])
 refine zak hm (G:=G) hA6 47000 (lst []) (ι:=zbL a.length fun i=>C i=r)
  ⟨fun q=>⟨frL [(0,.fz (.sl (a.map enc))),(1,.fz (.sl (b.map enc))),(9,.fz (.sl (a.map enc))),(10,.fz (.i .i64 a.length)),(11,.fz (.i .i64 q.i))],hpL [],0⟩,fun q=>a.length-q.i⟩
  ⟨0,by omega,hr⟩ (by kernel_rfl) ?_ ?_
 ·refine zaf ?_ ?_ ?_<;>simp only[go_sem]
 rintro⟨i,hi,hp⟩
 try simp only at hi hp
 rcases Nat.lt_or_ge i a.length with h|h
 ·rcases Nat.lt_or_ge i b.length with h2|h2
  ·have e:=k1.out i h h2
   have hb':(b.length≤i)=False:=eq_false (by omega)
   obtain⟨x,hx⟩:∃x,a[i]=x:=⟨_,rfl⟩
   obtain⟨y,hy⟩:∃y,b[i]=y:=⟨_,rfl⟩
   rw[hx,hy,hp]at e
   by_cases hc:zje x y=0
   ·rw[if_neg (by simp[hc])]at e
    repeat'(first|refine rq fun _=>?_|simp only[go_sem,h,h2,hb',hx,hy,hc,zaa,Tryd.f47])
    refine⟨⟨i+1,by omega,e.symm⟩,by simp only;omega,?_⟩
    refine zaf ?_ ?_ ?_<;>simp only[go_sem]
   ·rw[if_pos hc]at e
    subst e
    repeat'(first|refine rq fun _=>?_|simp only[go_sem,h,h2,hb',hx,hy,hc,zaa,Tryd.f47])
  ·have e:=k2.out i h h2
   have e2:r=1:=by rw[←hp,e]
   have h2':(b.length≤i)=True:=eq_true h2
   subst e2
   repeat'(first|refine rq fun _=>?_|simp only[go_sem,h,h2,h2',zaa,Tryd.f47])
 ·obtain rfl:i=a.length:=by omega
  have e:=k3.out
  rw[hp]at e
  by_cases hl:a.length<b.length
  ·rw[if_pos hl]at e
   subst e
   have hl':((a.length:Int)<(b.length:Int))=True:=eq_true (by omega)
   repeat'(first|refine rq fun _=>?_|simp only[go_sem,Nat.lt_irrefl,hl,hl',Tryd.f47])
  ·rw[if_neg hl]at e
   subst e
   have hl':((a.length:Int)<(b.length:Int))=False:=eq_false (by omega)
   repeat'(first|refine rq fun _=>?_|simp only[go_sem,Nat.lt_irrefl,hl,hl',Tryd.f47])
def zjg (s:Str)(c:zaB):Int:=zj6 c.name s
def A8:Tbl:=A7.add 79 (sp2 (fun(c:zaB) (s:Str)=>zjg s c) fun _ _=>True)
attribute [go_sem] A8
theorem hA8:zap Tryd.prog G A8:=by
 refine zb7 zE0 hA7 fun a b _ _ _=>?_
 have e:zj6 a.name b=zjg b a:=rfl
 refine zah (N:=9) hm (G:=G) hA7 79000 (lst []) zE0 Tryd.func79 rfl rfl (by simp) (by kernel_rfl) ?_
 repeat'(first|refine rq fun _=>?_|simp only[go_sem,e,zab,Tryd.f79])
structure BsI (n:Nat)(p:Nat→Prop)(q:Nat→Prop) where
 i:Nat
 j:Nat
 hij:i≤j
 hj:j≤n
 hp:p i
 hq:q j
theorem zuV {l:List zaB}{s:Str}(hw:(enc l).Wf)(_hws:(enc s).Wf)(hs:zmP (zjg s) l):zaw Tryd.prog G 78 [.fz (enc l),.fz (enc s),.fn 79 []] (hpL []) 0
  (fun d _ _=>D.val d=some (.tup [.fz (.i .i64 (bsI (zjg s) l)),.fz (.b (bsB (zjg s) l))])):=by
 have la:=zcA hw
 simp only[List.length_map,za4]at la
 have hI:=@zm6 zaB (zjg s) l
 have hm1:∀h (hh:h<l.length),zjg s l[h]<0→∀j (hj:j<l.length),j<h+1→zjg s l[j]<0:=fun h hh h2 j hj h3=>by
  rcases Nat.eq_or_lt_of_le (Nat.le_of_lt_succ h3)with rfl|h4
  ·exact h2
  ·exact hs j h hj hh h4 (by omega)
 have hm2:∀h (hh:h<l.length),¬zjg s l[h]<0→∀j (hj:j<l.length),h≤j→0≤zjg s l[j]:=fun h hh h2 j hj h3=>by
  rcases Nat.eq_or_lt_of_le h3 with rfl|h4
  ·omega
  ·refine Decidable.byContradiction fun h5=>h2 (hs h j hh hj h4 (by omega))
 have k1:=Kp.mk hm1
 have k2:=Kp.mk hm2
 have kI:=Kp.mk @hI
 clear hm1 hm2 hI hs
 refine zah (N:=49) hm (G:=G) hA8 78000 (lst []) zGo Tryd.func78 rfl rfl (by simp) (by kernel_rfl) ?_
 repeat'(first|refine rq fun _=>?_|simp only[go_sem,Tryd.f78])
 refine zak hm (G:=G) hA8 78000 (lst []) (ι:=BsI l.length (fun i=>∀j (hj:j<l.length),j<i→zjg s l[j]<0) fun i=>∀j (hj:j<l.length),i≤j→0≤zjg s l[j])
  ⟨fun q=>⟨frL [(0,.fz (.sl (l.map enc))),(1,.fz (.s s.l)),(2,.fn 79 []),(8,.fz (.i .i64 l.length)),(9,.fz (.i .i64 q.i)),(10,.fz (.i .i64 q.j))],hpL [],0⟩,fun q=>q.j-q.i⟩
  ⟨0,l.length,by omega,by omega,fun j hj h=>by omega,fun j hj h=>by omega⟩ (by kernel_rfl) ?_ ?_
 ·refine zaf ?_ ?_ ?_<;>simp only[go_sem]
 rintro⟨i,j,hij,hj,hp,hq⟩
 try simp only at hij hj
 rcases Nat.lt_or_ge i j with h|h
 ·have h':((i:Int)<(j:Int))=True:=eq_true (by omega)
  repeat'(first|refine rq fun _=>?_|simp only[go_sem,h,h',Tryd.f78])
  obtain⟨H,hH⟩:∃H:Nat,(i+j) / 2=H:=⟨_,rfl⟩
  have hmid:(((i:Int)+(j:Int)) / 2^1)=(H:Int):=by omega
  have hl:H<l.length:=by omega
  refine zaF.i ⟨by show(0:Int)≤_;omega,by show _≤(18446744073709551615:Int);omega⟩ fun _=>?_
  have k3:=k1.out H hl
  have k4:=k2.out H hl
  obtain⟨x,hx⟩:∃x,l[H]=x:=⟨_,rfl⟩
  rw[hx]at k3 k4
  by_cases hc:zjg s x<0
  ·have hn:=k3 hc
   have kn:=Kp.mk hn
   clear k3 k4 hn
   repeat'(first|refine rq fun _=>?_|simp only[go_sem,hmid,hl,hx,hc,zab,zaH,zaa,Tryd.f78])
   refine⟨⟨H+1,j,by omega,by omega,kn.out,hq⟩,by simp only;omega,?_⟩
   refine zaf ?_ ?_ ?_<;>simp only[go_sem]
  ·have hn:=k4 hc
   have kn:=Kp.mk hn
   clear k3 k4 hn
   repeat'(first|refine rq fun _=>?_|simp only[go_sem,hmid,hl,hx,hc,zab,zaH,zaa,Tryd.f78])
   refine⟨⟨i,H,by omega,by omega,hp,kn.out⟩,by simp only;omega,?_⟩
   refine zaf ?_ ?_ ?_<;>simp only[go_sem]
 ·obtain rfl:i=j:=by omega
  have hbi:=kI.out hj hp hq
  have hbb:bsB (zjg s) l=(decide (i<l.length)&&decide (zjg s (l.getD i default)=0)):=by unfold bsB;rw[hbi]
  rw[hbi,hbb]
  clear hbi hbb
  rcases Nat.lt_or_ge i l.length with h1|h1
  ·obtain⟨x,hx⟩:∃x,l[i]=x:=⟨_,rfl⟩
   have hg:l.getD i default=x:=by rw[List.getD_eq_getElem?_getD,List.getElem?_eq_getElem h1,←hx];rfl
   have h1':((i:Int)<(l.length:Int))=True:=eq_true (by omega)
   rw[hg]
   repeat'(first|refine rq fun _=>?_|simp only[go_sem,Nat.lt_irrefl,h1,h1',hx,zab,zaH,zaa,Tryd.f78])
  ·have h1':((i:Int)<(l.length:Int))=False:=eq_false (by omega)
   have h1n:(i<l.length)=False:=eq_false (by omega)
   repeat'(first|refine rq fun _=>?_|simp only[go_sem,Nat.lt_irrefl,h1n,h1',zab,zaH,zaa,Tryd.f78])
end
end Go.Proofs.YtkkffhphodngkaaDoor
namespace Go.Abs
open Go
def zzl {α:Type}(lt:α→α→Prop)(l:List α):Prop:=∀i j (hi:i<l.length) (hj:j<l.length),i<j→lt l[i] l[j]
def okC (l:List zaB):Prop:=zzl (fun a b=>a.name.l<b.name.l) l
def okR (l:List zdc):Prop:=zzl ltR l
theorem znS {l:List zaB}(h:okC l)(s:Str):zmP (fun c=>zj6 c.name s) l:=fun i j hi hj hij h2=>by
 have h1:=h i j hi hj hij
 rw[zjf]
 rcases Int.lt_or_eq_of_le h2 with h3|h3
 ·exact zdm h1 (zjf.1 h3)
 ·rw[←zdA.1 h3];exact h1
theorem znT {l:List zdc}(h:okR l)(s:zdc):zmP (fun r=>znk r s) l:=fun i j hi hj hij h2=>by
 have h1:=h i j hi hj hij
 show znk _ _<0
 rw[zgH]
 rcases Int.lt_or_eq_of_le h2 with h3|h3
 ·exact zk8 h1 (zgH.1 h3)
 ·obtain⟨e1,e2⟩:=zkm.1 h3
  rcases h1 with h4|⟨h4,h5⟩
  ·exact .inl (by rw[←e1];exact h4)
  ·exact .inr ⟨h4.trans e1,by omega⟩
instance:Inhabited (List Int):=⟨[]⟩
end Go.Abs
namespace Go.Proofs.YtkkffhphodngkaaDoor
open Go Go.Abs Go.Proofs
section
variable {G:Nat→List FD}
def zd2 (s:zdc)(r:zdc):Int:=znk r s
def zlL (s:List Int)(t:List Int):Int:=zcM t s
theorem zBk {l:List zdc}{s:zdc}(hw:(enc l).Wf)(_hws:(enc s).Wf)(hs:zmP (zd2 s) l):zaw Tryd.prog G 80 [.fz (enc l),.fz (enc s),.fn 46 []] (hpL []) 0
  (fun d _ _=>D.val d=some (.tup [.fz (.i .i64 (bsI (zd2 s) l)),.fz (.b (bsB (zd2 s) l))])):=by
 have la:=zcA hw
 simp only[List.length_map,za4]at la
 have hI:=@zm6 zdc (zd2 s) l
 have hm1:∀h (hh:h<l.length),zd2 s l[h]<0→∀j (hj:j<l.length),j<h+1→zd2 s l[j]<0:=fun h hh h2 j hj h3=>by
  rcases Nat.eq_or_lt_of_le (Nat.le_of_lt_succ h3)with rfl|h4
  ·exact h2
  ·exact hs j h hj hh h4 (by omega)
 have hm2:∀h (hh:h<l.length),¬zd2 s l[h]<0→∀j (hj:j<l.length),h≤j→0≤zd2 s l[j]:=fun h hh h2 j hj h3=>by
  rcases Nat.eq_or_lt_of_le h3 with rfl|h4
  ·omega
  ·refine Decidable.byContradiction fun h5=>h2 (hs h j hh hj h4 (by omega))
 have k1:=Kp.mk hm1
 have k2:=Kp.mk hm2
 have kI:=Kp.mk @hI
 have hcu:∀x,znk x s=zd2 s x:=fun _=>rfl
 clear hm1 hm2 hI hs
 refine zah (N:=49) hm (G:=G) hA8 80000 (lst []) zGp Tryd.func80 rfl rfl (by simp) (by kernel_rfl) ?_
 repeat'(first|refine rq fun _=>?_|simp only[go_sem,Tryd.f80])
 refine zak hm (G:=G) hA8 80000 (lst []) (ι:=BsI l.length (fun i=>∀j (hj:j<l.length),j<i→zd2 s l[j]<0) fun i=>∀j (hj:j<l.length),i≤j→0≤zd2 s l[j])
  ⟨fun q=>⟨frL [(0,.fz (.sl (l.map enc))),(4,.ptr (80004,0) 0),(2,.fn 46 []),(8,.fz (.i .i64 l.length)),(9,.fz (.i .i64 q.i)),(10,.fz (.i .i64 q.j))],hpL [((80004,0),some ⟨[.fz (.s s.name.l),.fz (.i .i64 s.arity),.fz (.sl (s.tuples.map enc))],true,false⟩)],1⟩,fun q=>q.j-q.i⟩
  ⟨0,l.length,by omega,by omega,fun j hj h=>by omega,fun j hj h=>by omega⟩ (by kernel_rfl) ?_ ?_
 ·refine zaf ?_ ?_ ?_<;>simp only[go_sem]
 rintro⟨i,j,hij,hj,hp,hq⟩
 try simp only at hij hj
 rcases Nat.lt_or_ge i j with h|h
 ·have h':((i:Int)<(j:Int))=True:=eq_true (by omega)
  repeat'(first|refine rq fun _=>?_|simp only[go_sem,h,h',Tryd.f80])
  obtain⟨H,hH⟩:∃H:Nat,(i+j) / 2=H:=⟨_,rfl⟩
  have hmid:(((i:Int)+(j:Int)) / 2^1)=(H:Int):=by omega
  have hl:H<l.length:=by omega
  refine zaF.i ⟨by show(0:Int)≤_;omega,by show _≤(18446744073709551615:Int);omega⟩ fun _=>?_
  have k3:=k1.out H hl
  have k4:=k2.out H hl
  obtain⟨x,hx⟩:∃x,l[H]=x:=⟨_,rfl⟩
  rw[hx]at k3 k4
  by_cases hc:zd2 s x<0
  ·have hn:=k3 hc
   have kn:=Kp.mk hn
   clear k3 k4 hn
   repeat'(first|refine rq fun _=>?_|simp only[go_sem,hmid,hl,hx,hc,hcu,zab,zay,zaa,Tryd.f80])
   refine⟨⟨H+1,j,by omega,by omega,kn.out,hq⟩,by simp only;omega,?_⟩
   refine zaf ?_ ?_ ?_<;>simp only[go_sem]
  ·have hn:=k4 hc
   have kn:=Kp.mk hn
   clear k3 k4 hn
   repeat'(first|refine rq fun _=>?_|simp only[go_sem,hmid,hl,hx,hc,hcu,zab,zay,zaa,Tryd.f80])
   refine⟨⟨i,H,by omega,by omega,hp,kn.out⟩,by simp only;omega,?_⟩
   refine zaf ?_ ?_ ?_<;>simp only[go_sem]
 ·obtain rfl:i=j:=by omega
  have hbi:=kI.out hj hp hq
  have hbb:bsB (zd2 s) l=(decide (i<l.length)&&decide (zd2 s (l.getD i default)=0)):=by unfold bsB;rw[hbi]
  rw[hbi,hbb]
  clear hbi hbb
  rcases Nat.lt_or_ge i l.length with h1|h1
  ·obtain⟨x,hx⟩:∃x,l[i]=x:=⟨_,rfl⟩
   have hg:l.getD i default=x:=by rw[List.getD_eq_getElem?_getD,List.getElem?_eq_getElem h1,←hx];rfl
   have h1':((i:Int)<(l.length:Int))=True:=eq_true (by omega)
   rw[hg]
   repeat'(first|refine rq fun _=>?_|simp only[go_sem,Nat.lt_irrefl,h1,h1',hx,hcu,zab,zay,zaa,Tryd.f80])
  ·have h1':((i:Int)<(l.length:Int))=False:=eq_false (by omega)
   have h1n:(i<l.length)=False:=eq_false (by omega)
   repeat'(first|refine rq fun _=>?_|simp only[go_sem,Nat.lt_irrefl,h1n,h1',hcu,zab,zay,zaa,Tryd.f80])
theorem zBl {l:List (List Int)}{s:(List Int)}(hw:(enc l).Wf)(_hws:(enc s).Wf)(hs:zmP (zlL s) l):zaw Tryd.prog G 54 [.fz (enc l),.fz (enc s),.fn 47 []] (hpL []) 0
  (fun d _ _=>D.val d=some (.tup [.fz (.i .i64 (bsI (zlL s) l)),.fz (.b (bsB (zlL s) l))])):=by
 have la:=zcA hw
 simp only[List.length_map,za4]at la
 have hI:=@zm6 (List Int) (zlL s) l
 have hm1:∀h (hh:h<l.length),zlL s l[h]<0→∀j (hj:j<l.length),j<h+1→zlL s l[j]<0:=fun h hh h2 j hj h3=>by
  rcases Nat.eq_or_lt_of_le (Nat.le_of_lt_succ h3)with rfl|h4
  ·exact h2
  ·exact hs j h hj hh h4 (by omega)
 have hm2:∀h (hh:h<l.length),¬zlL s l[h]<0→∀j (hj:j<l.length),h≤j→0≤zlL s l[j]:=fun h hh h2 j hj h3=>by
  rcases Nat.eq_or_lt_of_le h3 with rfl|h4
  ·omega
  ·refine Decidable.byContradiction fun h5=>h2 (hs h j hh hj h4 (by omega))
 have k1:=Kp.mk hm1
 have k2:=Kp.mk hm2
 have kI:=Kp.mk @hI
 have hcu:∀x,zcM x s=zlL s x:=fun _=>rfl
 clear hm1 hm2 hI hs
 refine zah (N:=49) hm (G:=G) hA8 54000 (lst []) zGj Tryd.func54 rfl rfl (by simp) (by kernel_rfl) ?_
 repeat'(first|refine rq fun _=>?_|simp only[go_sem,Tryd.f54])
 refine zak hm (G:=G) hA8 54000 (lst []) (ι:=BsI l.length (fun i=>∀j (hj:j<l.length),j<i→zlL s l[j]<0) fun i=>∀j (hj:j<l.length),i≤j→0≤zlL s l[j])
  ⟨fun q=>⟨frL [(0,.fz (.sl (l.map enc))),(1,.fz (.sl (s.map enc))),(2,.fn 47 []),(8,.fz (.i .i64 l.length)),(9,.fz (.i .i64 q.i)),(10,.fz (.i .i64 q.j))],hpL [],0⟩,fun q=>q.j-q.i⟩
  ⟨0,l.length,by omega,by omega,fun j hj h=>by omega,fun j hj h=>by omega⟩ (by kernel_rfl) ?_ ?_
 ·refine zaf ?_ ?_ ?_<;>simp only[go_sem]
 rintro⟨i,j,hij,hj,hp,hq⟩
 try simp only at hij hj
 rcases Nat.lt_or_ge i j with h|h
 ·have h':((i:Int)<(j:Int))=True:=eq_true (by omega)
  repeat'(first|refine rq fun _=>?_|simp only[go_sem,h,h',Tryd.f54])
  obtain⟨H,hH⟩:∃H:Nat,(i+j) / 2=H:=⟨_,rfl⟩
  have hmid:(((i:Int)+(j:Int)) / 2^1)=(H:Int):=by omega
  have hl:H<l.length:=by omega
  refine zaF.i ⟨by show(0:Int)≤_;omega,by show _≤(18446744073709551615:Int);omega⟩ fun _=>?_
  have k3:=k1.out H hl
  have k4:=k2.out H hl
  obtain⟨x,hx⟩:∃x,l[H]=x:=⟨_,rfl⟩
  rw[hx]at k3 k4
  by_cases hc:zlL s x<0
  ·have hn:=k3 hc
   have kn:=Kp.mk hn
   clear k3 k4 hn
   repeat'(first|refine rq fun _=>?_|simp only[go_sem,hmid,hl,hx,hc,hcu,zab,zaa,Tryd.f54])
   refine⟨⟨H+1,j,by omega,by omega,kn.out,hq⟩,by simp only;omega,?_⟩
   refine zaf ?_ ?_ ?_<;>simp only[go_sem]
  ·have hn:=k4 hc
   have kn:=Kp.mk hn
   clear k3 k4 hn
   repeat'(first|refine rq fun _=>?_|simp only[go_sem,hmid,hl,hx,hc,hcu,zab,zaa,Tryd.f54])
   refine⟨⟨i,H,by omega,by omega,hp,kn.out⟩,by simp only;omega,?_⟩
   refine zaf ?_ ?_ ?_<;>simp only[go_sem]
 ·obtain rfl:i=j:=by omega
  have hbi:=kI.out hj hp hq
  have hbb:bsB (zlL s) l=(decide (i<l.length)&&decide (zlL s (l.getD i default)=0)):=by unfold bsB;rw[hbi]
  rw[hbi,hbb]
  clear hbi hbb
  rcases Nat.lt_or_ge i l.length with h1|h1
  ·obtain⟨x,hx⟩:∃x,l[i]=x:=⟨_,rfl⟩
   have hg:l.getD i default=x:=by rw[List.getD_eq_getElem?_getD,List.getElem?_eq_getElem h1,←hx];rfl
   have h1':((i:Int)<(l.length:Int))=True:=eq_true (by omega)
   rw[hg]
   repeat'(first|refine rq fun _=>?_|simp only[go_sem,Nat.lt_irrefl,h1,h1',hx,hcu,zab,zaa,Tryd.f54])
  ·have h1':((i:Int)<(l.length:Int))=False:=eq_false (by omega)
   have h1n:(i<l.length)=False:=eq_false (by omega)
   repeat'(first|refine rq fun _=>?_|simp only[go_sem,Nat.lt_irrefl,h1n,h1',hcu,zab,zaa,Tryd.f54])
def zgk (m:zal)(w:Str):Int×Bool:=(zeO m w,(zcl m w).isSome)
theorem ztc {m:zal}(h:okC m.consts)(w:Str):zcl m w=if bsB (zjg w) m.consts then some (m.consts.getD (bsI (zjg w) m.consts) default)else none:=by
 have:=zmr (znS h w)
 unfold zcl
 rw[show(fun c:zaB=>decide (c.name=w))=fun c=>decide (zj6 c.name w=0)from funext fun c=>decide_eq_decide.2 zdA.symm,this]
 rfl
theorem zud {α:Type}[Inhabited α]{c:α→Int}{l:List α}(h:bsB c l=true):bsI c l<l.length:=by
 unfold bsB at h
 simp only[Bool.and_eq_true,decide_eq_true_eq]at h
 exact h.1
def A9:Tbl:=A8.add 50 (zwf zgk fun m _=>okC m.consts)
attribute [go_sem] A9
theorem hA9:zap Tryd.prog G A9:=by
 refine zjZ zCQ hA8 fun m w hok hwm hww=>?_
 have hwl:(enc m.consts).Wf:=zbd (by have h:=hwm;rw[zcw]at h;exact h) (FD.sl (m.consts.map enc)) (by simp)
 have hbs:=zuV (G:=G) hwl hww (znS hok w)
 have hf:=ztc hok w
 obtain⟨I,hI⟩:∃I,bsI (zjg w) m.consts=I:=⟨_,rfl⟩
 cases hb:bsB (zjg w) m.consts with
 |true=>
  have hlt:=zud hb
  rw[hb,if_pos rfl]at hf
  rw[hI]at hf hlt
  obtain⟨x,hx⟩:∃x,m.consts[I]=x:=⟨_,rfl⟩
  have hg:m.consts.getD I default=x:=by rw[List.getD_eq_getElem?_getD,List.getElem?_eq_getElem hlt,←hx];rfl
  rw[hg]at hf
  have e:zgk m w=(x.value,true):=by unfold zgk zeO;rw[hf];rfl
  rw[hb,hI]at hbs
  simp only[e]
  clear hf hg e hwl
  refine zah (N:=23) hm (G:=G) hA8 50000 (lst []) zCQ Tryd.func50 rfl rfl (by simp) (by kernel_rfl) ?_
  repeat'(first|refine rq fun _=>?_|simp only[go_sem,Tryd.f50])
  refine zas.i (zaD (zcX (ds:=[_,_]) rfl hbs) ?_)
  rintro d' H' n1 ⟨rfl,rfl,rfl⟩
  repeat'(first|refine rq fun _=>?_|simp only[go_sem,hlt,hx,zaH,zab,zaa,Tryd.f50])
 |false=>
  rw[hb]at hf hbs
  have e:zgk m w=(0,false):=by unfold zgk zeO;rw[hf];rfl
  rw[hI]at hbs
  simp only[e]
  clear hf e hwl
  refine zah (N:=23) hm (G:=G) hA8 50000 (lst []) zCQ Tryd.func50 rfl rfl (by simp) (by kernel_rfl) ?_
  repeat'(first|refine rq fun _=>?_|simp only[go_sem,Tryd.f50])
  refine zas.i (zaD (zcX (ds:=[_,_]) rfl hbs) ?_)
  rintro d' H' n1 ⟨rfl,rfl,rfl⟩
  repeat'(first|refine rq fun _=>?_|simp only[go_sem,zaH,zab,zaa,Tryd.f50])
def zpo:zdc:=⟨⟨[]⟩,0,[]⟩
def zil (m:zal)(w:Str)(n:Int):zdc×Bool:=match zdR m w n with|some r=>(r,true)|none=>(zpo,false)
theorem ztd {m:zal}(h:okR m.rels)(w:Str)(n:Int):zdR m w n=if bsB (zd2 ⟨w,n,[]⟩) m.rels then some (m.rels.getD (bsI (zd2 ⟨w,n,[]⟩) m.rels) default)else none:=by
 have:=zmr (znT h ⟨w,n,[]⟩)
 unfold zdR
 rw[show(fun r:zdc=>decide (r.name=w∧r.arity=n))=fun r=>decide (znk r ⟨w,n,[]⟩=0)from funext fun c=>decide_eq_decide.2 (zkm (a:=c) (b:=⟨w,n,[]⟩)).symm,this]
 rfl
def A10:Tbl:=A9.add 52 (zAY zil fun m _ _=>okR m.rels)
attribute [go_sem] A10
theorem zFD:zap Tryd.prog G A10:=by
 refine zwi zCS hA9 fun m w n hok hwm hww hwn=>?_
 have hwl:(enc m.rels).Wf:=zbd (by have h:=hwm;rw[zcw]at h;exact h) (FD.sl (m.rels.map enc)) (by simp)
 have hwt:(enc (⟨w,n,[]⟩:zdc)).Wf:= .agg _ fun x hx=>by
  simp only[List.mem_cons,List.not_mem_nil,or_false]at hx
  rcases hx with rfl|rfl|rfl
  ·exact hww
  ·exact hwn
  ·exact .sl _ (by simp) (by simp)
 have hbs:=zBk (G:=G) hwl hwt (znT hok ⟨w,n,[]⟩)
 have hf:=ztd hok w n
 obtain⟨I,hI⟩:∃I,bsI (zd2 ⟨w,n,[]⟩) m.rels=I:=⟨_,rfl⟩
 cases hb:bsB (zd2 ⟨w,n,[]⟩) m.rels with
 |true=>
  have hlt:=zud hb
  rw[hb,if_pos rfl]at hf
  rw[hI]at hf hlt
  obtain⟨x,hx⟩:∃x,m.rels[I]=x:=⟨_,rfl⟩
  have hg:m.rels.getD I default=x:=by rw[List.getD_eq_getElem?_getD,List.getElem?_eq_getElem hlt,←hx];rfl
  rw[hg]at hf
  have e:zil m w n=(x,true):=by unfold zil;rw[hf]
  rw[hb,hI]at hbs
  simp only[e]
  clear hf hg e hwl hwt
  refine zah (N:=27) hm (G:=G) hA9 52000 (lst []) zCS Tryd.func52 rfl rfl (by simp) (by kernel_rfl) ?_
  repeat'(first|refine rq fun _=>?_|simp only[go_sem,Tryd.f52])
  refine zas.i (zaD (zcX (ds:=[_,_]) rfl hbs) ?_)
  rintro d' H' n1 ⟨rfl,rfl,rfl⟩
  repeat'(first|refine rq fun _=>?_|simp only[go_sem,hlt,hx,zay,zab,zaa,Tryd.f52])
 |false=>
  rw[hb]at hf hbs
  have e:zil m w n=(zpo,false):=by unfold zil;rw[hf];rfl
  rw[hI]at hbs
  simp only[e,zpo]
  clear hf e hwl hwt
  refine zah (N:=27) hm (G:=G) hA9 52000 (lst []) zCS Tryd.func52 rfl rfl (by simp) (by kernel_rfl) ?_
  repeat'(first|refine rq fun _=>?_|simp only[go_sem,Tryd.f52])
  refine zas.i (zaD (zcX (ds:=[_,_]) rfl hbs) ?_)
  rintro d' H' n1 ⟨rfl,rfl,rfl⟩
  repeat'(first|refine rq fun _=>?_|simp only[go_sem,zay,zab,zaa,Tryd.f52])
end
end Go.Proofs.YtkkffhphodngkaaDoor
namespace Go.Abs
open Go
theorem zf3 {f:zac}:zaY f=zbA f.subs+if isQ f.kind then 1 else 0:=by cases f;rw[zaY];rfl
theorem zhE:∀(l:List zac) (f:zac),zbA (l++[f])=max (zbA l) (zaY f)
 |[],f=>by simp[zbA]
 |g::l,f=>by rw[List.cons_append,zbA,zbA,zhE l f];omega
theorem zhF {fs:List zac}{j:Nat}(h:j<fs.length):zbA (fs.take (j+1))=max (zbA (fs.take j)) (zaY fs[j]):=by
 rw[List.take_succ_eq_append_getElem h,zhE]
mutual
theorem zeF:∀f:zac,zaY f≤f.size
 | .mk k n w s=>by
  rw[zaY,zac.size]
  have:=ziN s
  split<;>omega
theorem ziN:∀fs:List zac,zbA fs≤zac.sizes fs
 |[]=>by rw[zbA];omega
 |f::fs=>by rw[zbA,zac.sizes];have:=zeF f;have:=ziN fs;omega
end
theorem zeo:∀{l:List zac} {f:zac},f∈l→zaY f≤zbA l
 |g::l,f,h=>by
  rw[zbA]
  rcases List.mem_cons.1 h with rfl|h
  ·omega
  ·have:=zeo h;omega
def szP (f:zac):Prop:=f.fit=true∧f.size≤1000000
theorem ze3 {f g:zac}(h:szP f)(hg:g∈f.subs):g.size<f.size∧szP g:=
 ⟨zac.size_sub hg,zac.fits_mem (zac.fit_eq h.1).2.2 hg,by have:=zac.size_sub hg;have:=h.2;omega⟩
def zeK (size:Int)(t:List Int):Int:=t.foldl (fun n v=>n*size+v) 0
theorem zoE {size:Int}{t:List Int}{i:Nat}(h:i<t.length):zeK size (t.take (i+1))=zeK size (t.take i)*size+t[i]:=by
 unfold zeK
 rw[List.take_succ_eq_append_getElem h,List.foldl_append];rfl
theorem zsI {size:Int}(hs:1≤size)(hs2:size≤6):∀{t:List Int},(∀v∈t, -1≤v∧v<size)→t.length≤3→ -1000≤zeK size t∧zeK size t≤1000
 |[],_,_=>by simp[zeK]
 |[a],h,_=>by have:=h a (by simp);simp only[zeK,List.foldl_cons,List.foldl_nil];omega
 |[a,b],h,_=>by
  have ha:=h a (by simp)
  have hb:=h b (by simp)
  simp only[zeK,List.foldl_cons,List.foldl_nil]
  have h6:size=1∨size=2∨size=3∨size=4∨size=5∨size=6:=by omega
  rcases h6 with rfl|rfl|rfl|rfl|rfl|rfl<;>omega
 |[a,b,c],h,_=>by
  have ha:=h a (by simp)
  have hb:=h b (by simp)
  have hc:=h c (by simp)
  simp only[zeK,List.foldl_cons,List.foldl_nil]
  have h6:size=1∨size=2∨size=3∨size=4∨size=5∨size=6:=by omega
  rcases h6 with rfl|rfl|rfl|rfl|rfl|rfl<;>omega
 |_::_::_::_::_,_,h=>by simp at h
def zmc (t:List Int)(size:Int):Prop:=1≤size∧size≤6∧t.length≤3∧∀v∈t, -1≤v∧v<size
end Go.Abs
namespace Go.Proofs.YtkkffhphodngkaaDoor
open Go Go.Abs Go.Proofs
section
variable {G:Nat→List FD}
theorem zi5 {G:Nat→List FD}{N:Nat}{l:List (Nat×D)}{H:zav}{n:Nat}{id:Abs.Id}{t:Nat}{ys:List FD}{b:Bool}(ho:H id=some ⟨ys.map .fz,b,false⟩)(hs:frL l t= .ptr id 0):
  ze9 G N ⟨frL l,H,n⟩ ⟨frL ((t,.rp ys)::l),zaC H id none,n⟩:=zp6 (st:=⟨frL l,H,n⟩) ho hs
def A11:Tbl:=A10.add 32 (sp1 (fun f:Abs.zac=>(zaY f:Int)) szP)
attribute [go_sem] A11
theorem zFE:zap Tryd.prog G A11:=by
 refine zrO zac.size zEy zFD fun n hT f hn hpre _=>?_
 have hsl:=(zac.fit_eq hpre.1).2.1
 have hse:=zeF f
 have hz:=hpre.2
 have hr:∀g∈f.subs,g.size<n∧szP g:=fun g hg=>by have:=ze3 hpre hg;exact⟨by omega,this.2⟩
 have kT:=Kp.mk hT
 have kr:=Kp.mk hr
 obtain⟨S,hS⟩:∃S:Nat→Nat,S=fun j=>zbA (f.subs.take j):=⟨_,rfl⟩
 have hS0:S 0=0:=by rw[hS];simp[zbA]
 have hSs:∀j (h:j<f.subs.length),S (j+1)=max (S j) (zaY f.subs[j]):=fun j h=>by rw[hS];exact zhF h
 have hSe:zaY f=S f.subs.length+if isQ f.kind then 1 else 0:=by rw[hS,zf3];simp only[List.take_length]
 have kS:=Kp.mk hSs
 have hSn:S f.subs.length≤1000000:=by omega
 have hq:(isQ f.kind∧(f.kind=8∨f.kind=9))∨(¬isQ f.kind∧¬(f.kind=8∨f.kind=9)):=by
  by_cases h:isQ f.kind
  ·exact .inl ⟨h,h⟩
  ·exact .inr ⟨h,h⟩
 rw[hSe]
 clear hT hr hS hSs hSe hpre hn hse
 refine zah (N:=23) hm (G:=G) kT.out 32000 (lst []) zEy Tryd.func32 rfl rfl (by simp) (by kernel_rfl) ?_
 repeat'(first|refine rq fun _=>?_|simp only[go_sem,Tryd.f32])
 refine zbR (zi5 (id:=(32001,0)) (t:=1) (b:=true) (ys:=[.i .i64 f.kind,.s f.name.l,.sl (f.words.map enc),.sl (f.subs.map enc)]) (by simp only[go_sem]) (by simp only[go_sem])) ?_
 refine zak hm (G:=G) kT.out 32000 (lst []) (ι:=zbw f.subs.length 1 fun _=>True)
  ⟨fun q=>⟨frL [(1,.rp [.i .i64 f.kind,.s f.name.l,.sl (f.words.map enc),.sl (f.subs.map enc)]),(3,.fz (.i .i64 (S q.i:Nat))),(7,.fz (.sl (f.subs.map enc))),(8,.fz (.i .i64 f.subs.length)),(9,.fz (.i .i64 q.i))],hpL [],q.m⟩,fun q=>f.subs.length-q.i⟩
  ⟨0,1,by omega,by omega,trivial⟩ (by kernel_rfl) ?_ ?_
 ·refine zaf ?_ ?_ ?_<;>simp only[go_sem,hS0]
  all_goals first|done|rfl
 rintro⟨j,m,hj,hm1,_⟩
 try simp only at hj hm1
 rcases Nat.lt_or_ge j f.subs.length with h2|h2
 ·have hss:=kS.out j h2
  have hr:=kr.out _ (List.getElem_mem h2)
  obtain⟨x,hx⟩:∃x,f.subs[j]=x:=⟨_,rfl⟩
  rw[hx]at hss hr
  have hmx:max (S j:Int) (zaY x:Int)=(S (j+1):Int):=by omega
  repeat'(first|refine rq fun _=>?_|refine zaF.i hr fun _=>?_|simp only[go_sem,h2,hx,hmx,zag,zaa,Tryd.f32])
  refine⟨⟨j+1,m+1,by omega,by omega,trivial⟩,by simp only;omega,?_⟩
  refine zaf ?_ ?_ ?_<;>simp only[go_sem,hss,hmx]
  all_goals first|done|omega|rfl|(simp only[hss];omega)
 ·obtain rfl:j=f.subs.length:=by omega
  rcases hq with⟨h3,h4⟩|⟨h3,h4⟩
  ·rw[if_pos h3]
   repeat'(first|refine rq fun _=>?_|simp only[go_sem,Nat.lt_irrefl,h4,zag,Tryd.f32])
   all_goals first|done|rfl
  ·rw[if_neg h3]
   repeat'(first|refine rq fun _=>?_|simp only[go_sem,Nat.lt_irrefl,h4,zag,Tryd.f32])
   all_goals first|done|rfl
end
end Go.Proofs.YtkkffhphodngkaaDoor
namespace Go.Abs
open Go
theorem zvw {m:zal}{f:zac}:zgn m f=((!decide (f.kind=2)||(zdR m f.name f.words.length).isSome)&&zeL m f.subs):=by cases f;rw[zgn];rfl
theorem zhr {m:zal}:∀l:List zac,zeL m l=l.all (zgn m)
 |[]=>by rw[zeL];rfl
 |f::l=>by rw[zeL,zhr l];rfl
theorem zqd {α:Type}{p:α→Bool}{l:List α}{i:Nat}(h:i<l.length)(hp:p l[i]=false):l.all p=false:=by
 cases ha:l.all p with
 |false=>rfl
 |true=>rw[List.all_eq_true.1 ha _ (List.getElem_mem h)]at hp;cases hp
theorem zqe {α:Type}{p:α→Bool}{l:List α}(hp:∀j (h:j<l.length),p l[j]=true):l.all p=true:=by
 rw[List.all_eq_true]
 intro x hx
 obtain⟨j,hj,rfl⟩:=List.getElem_of_mem hx
 exact hp j hj
theorem zit {p:Nat→Prop}{n i:Nat}(h:∀j,j<n→j<i→p j)(hi:p i):∀j,j<n→j<i+1→p j:=fun j hj h2=>by
 rcases Nat.lt_or_ge j i with h3|h3
 ·exact h j hj h3
 ·obtain rfl:j=i:=by omega
  exact hi
section
variable {P:Program} {G:Nat→List FD} {T:Tbl}
end
end Go.Abs
namespace Go.Proofs.YtkkffhphodngkaaDoor
open Go Go.Abs Go.Proofs
section
variable {G:Nat→List FD}
def A12:Tbl:=A11.add 22 (sp1 (fun f:Abs.zac=>(zaY f:Int)) szP)
attribute [go_sem] A12
theorem zBu:zap Tryd.prog G A12:=by
 refine zrO zac.size zEv zFE fun n hT f hn hpre _=>?_
 have hsl:=(zac.fit_eq hpre.1).2.1
 have hse:=zeF f
 have hz:=hpre.2
 have hr:∀g∈f.subs,g.size<n∧szP g:=fun g hg=>by have:=ze3 hpre hg;exact⟨by omega,this.2⟩
 have kT:=Kp.mk hT
 have kr:=Kp.mk hr
 obtain⟨S,hS⟩:∃S:Nat→Nat,S=fun j=>zbA (f.subs.take j):=⟨_,rfl⟩
 have hS0:S 0=0:=by rw[hS];simp[zbA]
 have hSs:∀j (h:j<f.subs.length),S (j+1)=max (S j) (zaY f.subs[j]):=fun j h=>by rw[hS];exact zhF h
 have hSe:zaY f=S f.subs.length+if isQ f.kind then 1 else 0:=by rw[hS,zf3];simp only[List.take_length]
 have kS:=Kp.mk hSs
 have hSn:S f.subs.length≤1000000:=by omega
 have hq:(isQ f.kind∧f.kind=8)∨(isQ f.kind∧f.kind=9∧¬f.kind=8)∨(¬isQ f.kind∧¬f.kind=8∧¬f.kind=9):=by
  unfold isQ;omega
 rw[hSe]
 clear hT hr hS hSs hSe hpre hn hse
 refine zah (N:=34) hm (G:=G) kT.out 22000 (lst []) zEv Tryd.func22 rfl rfl (by simp) (by kernel_rfl) ?_
 repeat'(first|refine rq fun _=>?_|simp only[go_sem,Tryd.f22])
 refine zbR (zi5 (id:=(22001,0)) (t:=1) (b:=true) (ys:=[.i .i64 f.kind,.s f.name.l,.sl (f.words.map enc),.sl (f.subs.map enc)]) (by simp only[go_sem]) (by simp only[go_sem])) ?_
 refine zak hm (G:=G) kT.out 22000 (lst []) (ι:=zbL f.subs.length fun _=>True)
  ⟨fun q=>⟨frL [(1,.rp [.i .i64 f.kind,.s f.name.l,.sl (f.words.map enc),.sl (f.subs.map enc)]),(3,.fz (.i .i64 (S q.i:Nat))),(8,.fz (.i .i64 f.subs.length)),(9,.fz (.i .i64 q.i))],hpL [],1⟩,fun q=>f.subs.length-q.i⟩
  ⟨0,by omega,trivial⟩ (by kernel_rfl) ?_ ?_
 ·refine zaf ?_ ?_ ?_<;>simp only[go_sem,hS0]
  all_goals first|done|rfl
 rintro⟨j,hj,_⟩
 try simp only at hj
 rcases Nat.lt_or_ge j f.subs.length with h2|h2
 ·have hss:=kS.out j h2
  have hr:=kr.out _ (List.getElem_mem h2)
  obtain⟨x,hx⟩:∃x,f.subs[j]=x:=⟨_,rfl⟩
  rw[hx]at hss hr
  rcases Nat.lt_or_ge (S j) (zaY x)with h3|h3
  ·have h3':(S j:Int)<(zaY x:Int):=by omega
   have h4:S (j+1)=zaY x:=by omega
   repeat'(first|refine rq fun _=>?_|refine zaF.i hr fun _=>?_|simp only[go_sem,h2,hx,h3,h3',zaa,Tryd.f22])
   refine⟨⟨j+1,by omega,trivial⟩,by simp only;omega,?_⟩
   refine zaf ?_ ?_ ?_<;>simp only[go_sem,h4]
  ·have h3':¬(S j:Int)<(zaY x:Int):=by omega
   have h3'':¬S j<zaY x:=by omega
   have h4:S (j+1)=S j:=by omega
   repeat'(first|refine rq fun _=>?_|refine zaF.i hr fun _=>?_|simp only[go_sem,h2,hx,h3',h3'',zaa,Tryd.f22])
   refine⟨⟨j+1,by omega,trivial⟩,by simp only;omega,?_⟩
   refine zaf ?_ ?_ ?_<;>simp only[go_sem,h4]
 ·obtain rfl:j=f.subs.length:=by omega
  rcases hq with⟨h3,h4⟩|⟨h3,h4,h5⟩|⟨h3,h4,h5⟩
  ·rw[if_pos h3]
   repeat'(first|refine rq fun _=>?_|simp only[go_sem,Nat.lt_irrefl,h4,Tryd.f22])
   all_goals first|done|rfl
  ·rw[if_pos h3]
   repeat'(first|refine rq fun _=>?_|simp only[go_sem,Nat.lt_irrefl,h4,Tryd.f22])
   all_goals first|done|rfl
  ·rw[if_neg h3]
   repeat'(first|refine rq fun _=>?_|simp only[go_sem,Nat.lt_irrefl,h4,h5,Tryd.f22])
   all_goals first|done|rfl
def A13:Tbl:=A12.add 69 (sp2 (fun t size=>zeK size t) zmc)
attribute [go_sem] A13
theorem zFF:zap Tryd.prog G A13:=by
 refine zb7 zEU zBu fun t s hpre _ _=>?_
 obtain⟨hs1,hs2,hl,hv⟩:=hpre
 obtain⟨C,hC⟩:∃C:Nat→Int,C=fun i=>zeK s (t.take i):=⟨_,rfl⟩
 have h0:C 0=0:=by rw[hC];rfl
 have hs:∀i (h:i<t.length),C (i+1)=C i*s+t[i]:=fun i h=>by rw[hC];exact zoE h
 have hb:∀i, -1000≤C i∧C i≤1000:=fun i=>by
  rw[hC]
  exact zsI hs1 hs2 (fun v h=>hv v (List.mem_of_mem_take h)) (by rw[List.length_take];omega)
 have he:zeK s t=C t.length:=by rw[hC];simp only[List.take_length]
 rw[he]
 have k1:=Kp.mk hs
 have k2:=Kp.mk hb
 clear hs hb hC he hv
 refine zah (N:=21) hm (G:=G) zBu 69000 (lst []) zEU Tryd.func69 rfl rfl (by simp) (by kernel_rfl) ?_
 repeat'(first|refine rq fun _=>?_|simp only[go_sem,Tryd.f69])
 refine zak hm (G:=G) zBu 69000 (lst []) (ι:=zbL t.length fun _=>True)
  ⟨fun q=>⟨frL [(1,.fz (.i .i64 s)),(5,.fz (.i .i64 (C q.i))),(8,.fz (.sl (t.map enc))),(9,.fz (.i .i64 t.length)),(10,.fz (.i .i64 q.i))],hpL [],0⟩,fun q=>t.length-q.i⟩
  ⟨0,by omega,trivial⟩ (by kernel_rfl) ?_ ?_
 ·refine zaf ?_ ?_ ?_<;>simp only[go_sem,h0]
 rintro⟨i,hi,_⟩
 try simp only at hi
 rcases Nat.lt_or_ge i t.length with h1|h1
 ·have e:=k1.out i h1
  have b1:=k2.out i
  have b2:=k2.out (i+1)
  obtain⟨x,hx⟩:∃x,t[i]=x:=⟨_,rfl⟩
  rw[hx]at e
  have hmul: -6000≤C i*s∧C i*s≤6000:=by
   have h6:s=1∨s=2∨s=3∨s=4∨s=5∨s=6:=by omega
   rcases h6 with rfl|rfl|rfl|rfl|rfl|rfl<;>omega
  obtain⟨M,hM⟩:∃M,C i*s=M:=⟨_,rfl⟩
  rw[hM]at e hmul
  repeat'(first|refine rq fun _=>?_|simp only[go_sem,h1,hx,hM,zaa,Tryd.f69])
  refine⟨⟨i+1,by omega,trivial⟩,by simp only;omega,?_⟩
  refine zaf ?_ ?_ ?_<;>simp only[go_sem,e]
 ·obtain rfl:i=t.length:=by omega
  repeat'(first|refine rq fun _=>?_|simp only[go_sem,Nat.lt_irrefl,Tryd.f69])
def A14:Tbl:=A13
attribute [go_sem] A14
theorem zBv:zap Tryd.prog G A14:=zFF
end
end Go.Proofs.YtkkffhphodngkaaDoor
namespace Go.Proofs.YtkkffhphodngkaaDoor
open Go Go.Abs Go.Proofs
section
variable {G:Nat→List FD}
def zwR (p:Nat):Int:=(p:Int)-1
theorem zk1 (p:Nat):zwR (p+1)=(p:Int):=by unfold zwR;omega
theorem zq2:zwR 0= -1:=rfl
structure zA5 (n:Nat)(P:Nat→Prop) where
 p:Nat
 hn:p≤n
 hp:P p
theorem f53 {w:Str}{env:List zaB}{m:zal}{ie im:Abs.Id}{H:zav}{n:Nat}{R:D→zav→Nat→Prop}(hok:okC m.consts)(hl:env.length≤1000)
  (ho1:H ie=some ⟨[.fz (.sl (env.map enc))],true,false⟩)(ho2:H im=some ⟨[.fz (.i .i64 m.size),.fz (.sl (m.consts.map enc)),.fz (.sl (m.rels.map enc))],true,false⟩)
  (hR:R (.fz (.i .i64 (zbJ m env w))) H n):zaw Tryd.prog G 53 [.fz (enc w),.ptr ie 0,.ptr im 0] H n R:=by
 have hW:zbJ m env w=match zcD env w with|some v=>v|none=>zeO m w:=rfl
 have e0:H=hpX [] H:=rfl
 obtain⟨L,hL⟩:∃L:Nat→Option Int,L=fun p=>zcD (env.take p) w:=⟨_,rfl⟩
 have hL0:L 0=none:=by rw[hL];rfl
 have hLs:∀p (h:p<env.length),L (p+1)=if env[p].name=w then some env[p].value else L p:=fun p h=>by
  rw[hL];simp only[List.take_succ_eq_append_getElem h,zf1]
 have hLe:zcD env w=L env.length:=by rw[hL];simp only[List.take_length]
 rw[hLe]at hW
 have kL:=Kp.mk hLs
 have kR:=Kp.mk hR
 have kW:=Kp.mk hW
 clear hL hLs hLe hW hR
 rw[e0]
 refine zah (N:=34) hm (G:=G) zBv 53000 (lst []) zGi Tryd.func53 rfl rfl (by simp) (by kernel_rfl) ?_
 repeat'(first|refine rq fun _=>?_|simp only[go_sem,ho1,Tryd.f53])
 refine zak hm (G:=G) zBv 53000 (lst []) (ι:=zA5 env.length fun p=>L env.length=L p)
  ⟨fun q=>⟨frL [(0,.fz (.s w.l)),(1,.ptr ie 0),(2,.ptr im 0),(5,.fz (.i .i64 (zwR q.p)))],hpX [] H,n⟩,fun q=>q.p⟩
  ⟨env.length,Nat.le_refl _,rfl⟩ (by kernel_rfl) ?_ ?_
 ·refine zaO ?_ ?_ (fun id o ho=>?_) ?_
  ·simp only[go_sem,zwR]
  ·simp only[go_sem]
  ·simp only[go_sem];exact ho
  ·simp only[go_sem]
 rintro⟨p,hn,hp⟩
 try simp only at hn hp
 rcases p with _|p
 ·repeat'(first|refine zaF.i hok fun _=>?_|refine rq fun _=>?_|simp only[go_sem,zq2,ho1,ho2,zab,zae,Tryd.f53])
  have h:=kR.out
  rw[kW.out,hp,hL0]at h
  exact h
 ·have h1:p<env.length:=by omega
  have hs:=kL.out p h1
  obtain⟨x,hx⟩:∃x,env[p]=x:=⟨_,rfl⟩
  rw[hx]at hs
  by_cases hc:x.name=w
  ·rw[if_pos hc]at hs
   repeat'(first|refine rq fun _=>?_|simp only[go_sem,zk1,ho1,ho2,h1,hx,hc,zaH,zab,zaa,Tryd.f53])
   have h:=kR.out
   rw[kW.out,hp,hs]at h
   exact h
  ·rw[if_neg hc]at hs
   have hc':(x.name=w)=False:=eq_false hc
   repeat'(first|refine rq fun _=>?_|simp only[go_sem,zk1,ho1,ho2,h1,hx,hc',zaH,zab,zaa,Tryd.f53])
   refine⟨⟨p,by omega,hp.trans hs⟩,by simp only;omega,?_⟩
   refine zaO ?_ ?_ (fun id o ho=>?_) ?_
   ·simp only[go_sem,zwR]
   ·simp only[go_sem]
   ·simp only[go_sem];exact ho
   ·simp only[go_sem]
end
end Go.Proofs.YtkkffhphodngkaaDoor
namespace Go.Abs
open Go
section
variable {P:Program} {G:Nat→List FD} {T:Tbl}
theorem zn8 {α β γ ρ:Type}[Enc α][Enc β][Enc γ][Enc ρ]{f:FuncId}{g:α→β→γ→ρ}{pre:α→β→γ→Prop}(m:β→Nat)(hc:zao P f)(hT:zap P G T)
  (h:∀n,zap P G (T.add f (sp3 g fun a b c=>m b<n∧pre a b c))→∀a b c,m b=n→pre a b c→(enc a).Wf→(enc b).Wf→(enc c).Wf→zaw P G f [.fz (enc a),.fz (enc b),.fz (enc c)] (hpL []) 0 (fun d _ _=>D.val d=some (.fz (enc (g a b c))))):zap P G (T.add f (sp3 g pre)):=by
 have key:∀n,zap P G (T.add f (sp3 g fun a b c=>m b<n∧pre a b c)):=by
  intro n
  induction n with
  |zero=>exact zgs hc hT fun a b c ha=>by omega
  |succ n ih=>
   refine zgs hc hT fun a b c ha hw hw2 hw3=>?_
   rcases Nat.lt_or_ge (m b) n with h1|h1
   ·have h2:=ih f (sp3 g fun a b c=>m b<n∧pre a b c) [enc a,enc b,enc c] _ _ (by simp[Tbl.add]) (zyH) ⟨by rw[dec_enc],by rw[dec_enc],by rw[dec_enc],by rw[dec_enc,dec_enc,dec_enc];exact⟨h1,ha.2⟩⟩
    rw[dec_enc,dec_enc,dec_enc,zgW]at h2
    exact h2
   ·exact h n ih a b c (by omega) ha.2 hw hw2 hw3
 exact zgs hc hT fun a b c ha hw hw2 hw3=>h (m b) (key _) a b c rfl ha hw hw2 hw3
end
def zr0:Tv:=(.q 0 (.q 1 (.q 2 (.q 3 (.q 4 (.q 6 (.q 7 (.r 8 (.q 9 (.br [(5,(.q 10 (.br [(11,(.q 12 (.q 13 .leaf)))]))),(10,(.br [(5,(.br [(11,(.q 12 (.q 13 .leaf)))]))]))]))))))))))
structure zsq (m:zal)(f:zac)(env:List zaB):Prop where
 m:zrk m
 v:vok f
 s:szP f
 e:env.length+zaY f≤900
theorem zt6 {m:zal}{f g:zac}{env:List zaB}(h:zsq m f env)(hg:g∈f.subs):g.size<f.size∧zsq m g env:=by
 have hs:=ze3 h.s hg
 refine⟨hs.1,h.m,(zeI _).1 (zc9.1 h.v).2.2.2.2.2.2 g hg,hs.2,?_⟩
 have:=zeo hg
 have h2:=h.e
 rw[zf3]at h2
 omega
theorem zsa {m:zal}{f g:zac}{env:List zaB}(h:zsq m f env)(hg:g∈f.subs)(hq:isQ f.kind)(c:zaB):g.size<f.size∧zsq m g (env++[c]):=by
 have hs:=ze3 h.s hg
 refine⟨hs.1,h.m,(zeI _).1 (zc9.1 h.v).2.2.2.2.2.2 g hg,hs.2,?_⟩
 have:=zeo hg
 have h2:=h.e
 rw[zf3,if_pos hq]at h2
 rw[List.length_append,List.length_singleton]
 omega
theorem zC6 {m:zal}{f:zac}{env:List zaB}(h:f.kind=1):zbU m f env=true:=by cases f;simp only[zax]at h;subst h;rw[zbU,if_pos rfl]
theorem zC7 {m:zal}{f:zac}{env:List zaB}(h:f.kind=2):zbU m f env=decide (f.words.map (zbJ m env)∈zlM m f.name f.words.length):=by cases f;simp only[zax]at h;subst h;rw[zbU];rfl
theorem zC8 {m:zal}{f:zac}{env:List zaB}{a b:Str}(h:f.kind=3)(hw:f.words=[a,b]):zbU m f env=decide (zbJ m env a=zbJ m env b):=by cases f;simp only[zax,zdD]at h hw;subst h hw;rw[zbU];rfl
theorem zC9 {m:zal}{f x:zac}{env:List zaB}(h:f.kind=4)(hs:f.subs=[x]):zbU m f env= !zbU m x env:=by cases f;simp only[zax,zaN]at h hs;subst h hs;rw[zbU,zbs,zbs];rfl
theorem zDa {m:zal}{f x y:zac}{env:List zaB}(h:f.kind=5)(hs:f.subs=[x,y]):zbU m f env=(zbU m x env&&zbU m y env):=by cases f;simp only[zax,zaN]at h hs;subst h hs;rw[zbU,zbs,zbs,zbs];rfl
theorem zDb {m:zal}{f x y:zac}{env:List zaB}(h:f.kind=6)(hs:f.subs=[x,y]):zbU m f env=(zbU m x env||zbU m y env):=by cases f;simp only[zax,zaN]at h hs;subst h hs;rw[zbU,zbs,zbs,zbs];rfl
theorem zDc {m:zal}{f x y:zac}{env:List zaB}(h:f.kind=7)(hs:f.subs=[x,y]):zbU m f env=(!zbU m x env||zbU m y env):=by cases f;simp only[zax,zaN]at h hs;subst h hs;rw[zbU,zbs,zbs,zbs];rfl
theorem zDd {m:zal}{f x:zac}{env:List zaB}(h:f.kind=8)(hs:f.subs=[x]):zbU m f env=(zdT m).all fun v=>zbU m x (env++[⟨f.name,v⟩]):=by cases f;simp only[zax,zaN]at h hs;subst h hs;rw[zbU];simp only[zbs];rfl
theorem zDe {m:zal}{f x:zac}{env:List zaB}(h:f.kind=9)(hs:f.subs=[x]):zbU m f env=(zdT m).any fun v=>zbU m x (env++[⟨f.name,v⟩]):=by cases f;simp only[zax,zaN]at h hs;subst h hs;rw[zbU];simp only[zbs];rfl
theorem zmG {s:List zac}(h:s.length=1):∃a,s=[a]:=by
 match s,h with
 |[a],_=>exact⟨a,rfl⟩
theorem zmV {s:List zac}(h:s.length=2):∃a b,s=[a,b]:=by
 match s,h with
 |[a,b],_=>exact⟨a,b,rfl⟩
theorem zwr {s:List Str}(h:s.length=2):∃a b,s=[a,b]:=by
 match s,h with
 |[a,b],_=>exact⟨a,b,rfl⟩
end Go.Abs
namespace Go.Proofs.YtkkffhphodngkaaDoor
open Go Go.Abs Go.Proofs
section
variable {G:Nat→List FD}
theorem zoj {m:zal}(h:zrk m)(w:Str)(n:Int)(t:List Int):zmP (zlL t) (zil m w n).1.tuples:=by
 unfold zil
 split
 ·rename_i r hr
  have hm:=h.t r (List.mem_of_find?_eq_some hr)
  exact fun i j hi hj hij h2=>zfW (hm i j hi hj hij) h2
 ·exact fun i j hi=>absurd hi (by simp[zpo])
theorem zt0 (m:zal)(w:Str)(n:Int):zlM m w n=(zil m w n).1.tuples:=by
 unfold zlM zil
 cases zdR m w n<;>rfl
theorem zxL {m:zal}(h:zrk m)(w:Str)(n:Int)(t:List Int):bsB (zlL t) (zil m w n).1.tuples=decide (t∈zlM m w n):=by
 have:=zmr (zoj h w n t)
 rw[zt0]
 cases hb:bsB (zlL t) (zil m w n).1.tuples with
 |true=>
  rw[hb,if_pos rfl]at this
  have h1:=List.find?_some this
  have h2:=List.mem_of_find?_eq_some this
  rw[zhe.1 (of_decide_eq_true h1)]at h2
  exact(decide_eq_true h2).symm
 |false=>
  rw[hb]at this
  refine(decide_eq_false fun h2=>?_).symm
  have h3:=(List.find?_eq_none.1 this) t h2
  simp only[decide_eq_true_eq]at h3
  exact h3 (zhe.2 rfl)
theorem zua {m:zal}{env:List zaB}(h:(enc m).Wf)(h2:(enc env).Wf)(w:Str):(enc (zbJ m env w)).Wf:=by
 have hv:∀{l:List zaB},(enc l).Wf→∀c∈l,(enc c.value).Wf:=fun{l} h c hc=>by
  have h1:=zd5 h _ (List.mem_map_of_mem hc)
  exact zbd (by rw[zkH]at h1;exact h1) (FD.i .i64 c.value) (by simp)
 have hc:(enc m.consts).Wf:=zbd (by rw[zcw]at h;exact h) (FD.sl (m.consts.map enc)) (by simp)
 have key:∀(l:List zaB) (v:Int),zcD l w=some v→∃c∈l,c.value=v:=by
  intro l
  induction l with
  |nil=>intro v h;simp[zcD]at h
  |cons e l ih=>
   intro v h
   rw[zcD]at h
   cases hl:zcD l w with
   |some u=>
    rw[hl]at h
    obtain⟨c,h1,h2⟩:=ih u hl
    exact⟨c,List.mem_cons_of_mem _ h1,by rw[h2];exact Option.some.inj h⟩
   |none=>
    rw[hl]at h
    simp only at h
    split at h
    ·exact⟨e,by simp,Option.some.inj h⟩
    ·cases h
 unfold zbJ
 cases hl:zcD env w with
 |some v=>
  obtain⟨c,h3,rfl⟩:=key env v hl
  exact hv h2 c h3
 |none=>
  simp only
  unfold zeO
  cases hf:zcl m w with
  |some c=>exact hv hc c (List.mem_of_find?_eq_some hf)
  |none=>exact .i _ _ (by decide) (by decide)
def A15:Tbl:=A14.add 31 (sp3 zbU zsq)
attribute [go_sem] A15
set_option maxHeartbeats 8000000 in
theorem zFG:zap Tryd.prog G A15:=by
 refine zn8 zac.size zpp zBv fun n hT m f env hn hpre hwm hwf hwe=>?_
 have hm0:=hpre.m
 have hok:=hpre.m.c
 have hokr:=hpre.m.r
 have s1:=hpre.m.s1
 have s6:=hpre.m.s6
 have lc:=hpre.m.lc
 have lr:=hpre.m.lr
 have hel:env.length≤900:=by have:=hpre.e;omega
 have hwl:=(zac.fit_eq hpre.s.1).1
 have hsl:=(zac.fit_eq hpre.s.1).2.1
 have hsub:∀g∈f.subs,g.size<n∧zsq m g env:=fun g hg=>by have:=zt6 hpre hg;exact⟨by omega,this.2⟩
 have hsq:isQ f.kind→∀g∈f.subs,∀c,g.size<n∧zsq m g (env++[c]):=fun hq g hg c=>by have:=zsa hpre hg hq c;exact⟨by omega,this.2⟩
 have hv:=zc9.1 hpre.v
 obtain⟨v1,v9,v2,v3,v4,v5,_⟩:=hv
 have kT:=Kp.mk hT
 have kS:=Kp.mk hsub
 have kQ:=Kp.mk hsq
 clear hT hsub hsq hpre hn
 have hkk:f.kind=1∨f.kind=2∨f.kind=3∨f.kind=4∨f.kind=5∨f.kind=6∨f.kind=7∨f.kind=8∨f.kind=9:=by omega
 rcases hkk with hk|hk|hk|hk|hk|hk|hk|hk|hk
 ·rw[zC6 hk]
  refine zah (N:=168) hm (G:=G) kT.out 31000 (lsw [35] [1000016]) zpp Tryd.func31 rfl rfl (by simp) (by kernel_rfl) ?_
  repeat'(first|refine rq fun _=>?_|refine rf fun _=>?_|simp only[go_sem,hk,zag,zae,Tryd.f31])
 ·rw[zC7 hk]
  have hws:=v2 hk
  obtain⟨A,hA⟩:∃A:Nat→List Int,A=fun i=>(f.words.take i).map (zbJ m env):=⟨_,rfl⟩
  have hA0:A 0=[]:=by rw[hA];rfl
  have hAs:∀i (h:i<f.words.length),A (i+1)=A i++[zbJ m env f.words[i]]:=fun i h=>by rw[hA];simp only[List.take_succ_eq_append_getElem h,List.map_append,List.map_cons,List.map_nil]
  have hAl:∀i,i≤f.words.length→(A i).length=i:=fun i h=>by rw[hA];simp only[List.length_map,List.length_take];omega
  obtain⟨t,ht⟩:∃t,A f.words.length=t:=⟨_,rfl⟩
  have hte:f.words.map (zbJ m env)=t:=by rw[←ht,hA];simp only[List.take_length]
  have htl:t.length=f.words.length:=by rw[←ht];exact hAl _ (Nat.le_refl _)
  rw[hte]
  have hbm:=zxL hm0 f.name f.words.length t
  have hst:=zoj hm0 f.name f.words.length t
  rw[←hbm]
  obtain⟨rl,hrl⟩:∃rl,(zil m f.name f.words.length).1=rl:=⟨_,rfl⟩
  obtain⟨bl,hbl⟩:∃bl,(zil m f.name f.words.length).2=bl:=⟨_,rfl⟩
  have hrp:zil m f.name f.words.length=(rl,bl):=by rw[←hrl,←hbl]
  rw[hrl]at hst ⊢
  have hwt:(enc rl.tuples).Wf:=by
   rw[←hrl];unfold zil
   split
   ·rename_i r hr
    have h1:(enc r).Wf:=zd5 (zbd (by have h:=hwm;rw[zcw]at h;exact h) (FD.sl (m.rels.map enc)) (by simp)) _ (List.mem_map_of_mem (List.mem_of_find?_eq_some hr))
    exact zbd (by have h:=h1;rw[zjo]at h;exact h) (FD.sl (r.tuples.map enc)) (by simp)
   ·exact .sl _ (by simp[zpo]) (by simp[zpo])
  have hwtt:(enc t).Wf:=by
   rw[←hte]
   refine .sl _ (by simp only[List.length_map];unfold za4;omega) fun y hy=>?_
   obtain⟨v,hv2,rfl⟩:=List.mem_map.1 hy
   obtain⟨w,_,rfl⟩:=List.mem_map.1 hv2
   exact zua hwm hwe w
  have kA:=Kp.mk hAs
  have kL:=Kp.mk hAl
  have kw:=Kp.mk hwt
  have ks:=Kp.mk hst
  have kwt:=Kp.mk hwtt
  clear hA hAs hAl hte hbm hst hwt hrl hbl hwtt
  refine zah (N:=168) hm (G:=G) kT.out 31000 (lsw [35] [1000016]) zpp Tryd.func31 rfl rfl (by simp) (by kernel_rfl) ?_
  repeat'(first|refine rq fun _=>?_|refine rf fun _=>?_|simp only[go_sem,hk,zag,zae,Tryd.f31])
  refine zak hm (G:=G) kT.out 31000 (lsw [35] [1000016]) (ι:=zgX f.words.length 4 fun _=>True)
   ⟨fun q=>⟨frL [(3,.ptr (31003,0) 0),(4,.ptr (31004,1) 0),(5,.ptr (31005,2) 0),(7,.fn 53 [.ptr (31005,2) 0,.ptr (31003,0) 0]),(8,.ow (31035,q.g) 1 ((A q.i).map enc)),(24,.fz (.sl (f.words.map enc))),(25,.fz (.i .i64 f.words.length)),(26,.fz (.i .i64 q.i))],
    hpL [((31003,0),some ⟨[.fz (.i .i64 m.size),.fz (.sl (m.consts.map enc)),.fz (.sl (m.rels.map enc))],true,false⟩),((31004,1),some ⟨[.fz (.i .i64 f.kind),.fz (.s f.name.l),.fz (.sl (f.words.map enc)),.fz (.sl (f.subs.map enc))],true,false⟩),((31005,2),some ⟨[.fz (.sl (env.map enc))],true,false⟩),((31035,q.g),some tok)],q.m⟩,fun q=>f.words.length-q.i⟩
   ⟨0,3,4,by omega,by omega,by omega,trivial⟩ (by kernel_rfl) ?_ ?_
  ·refine zcu [] [(31035,3)] [] ?_ ?_ ?_ ?_ ?_<;>simp only[go_sem,hA0,hk]
   all_goals first|done|rfl|omega
  rintro⟨i,g,q,hi,hg,hq,_⟩
  try simp only at hi hg hq
  rcases Nat.lt_or_ge i f.words.length with h1|h1
  ·have hs:=kA.out i h1
   have hl:=kL.out i (by omega)
   obtain⟨w,hw⟩:∃w,f.words[i]=w:=⟨_,rfl⟩
   rw[hw]at hs
   repeat'(first|refine rq fun _=>?_|refine rf fun _=>?_|simp only[go_sem,h1,hw,zab,zaa,zag,zae,Tryd.f31])
   refine zas.i (f53 (env:=env) (m:=m) hok (by omega) (by simp only[go_sem]) (by simp only[go_sem]) ?_)
   repeat'(first|refine rq fun _=>?_|refine rf fun _=>?_|simp only[go_sem,h1,hw,zab,zaa,zag,zae,Tryd.f31])
   refine⟨⟨i+1,q,q+1,by omega,by omega,by omega,trivial⟩,by simp only;omega,?_⟩
   refine zaf ?_ ?_ ?_<;>(try simp only[go_sem,hs,List.map_append])
   all_goals first|done|omega|rfl
  obtain rfl:i=f.words.length:=by omega
  repeat'(first|refine zaF.i hokr fun _=>?_|refine rq fun _=>?_|refine rf fun _=>?_|simp only[go_sem,Nat.lt_irrefl,ht,htl,hrp,zab,zay,zag,zae,Tryd.f31])
  refine zas.i (zaD (zcX (ds:=[_,_]) rfl (zBl (G:=G) kw.out kwt.out ks.out)) ?_)
  rintro d' H' n1 ⟨rfl,rfl,rfl⟩
  repeat'(first|refine rq fun _=>?_|refine rf fun _=>?_|simp only[go_sem,Nat.lt_irrefl,ht,zab,zay,zag,zae,Tryd.f31])
 ·obtain⟨a,b,hab⟩:=zwr (v3 hk)
  rw[zC8 hk hab]
  refine zah (N:=168) hm (G:=G) kT.out 31000 (lsw [35] [1000016]) zpp Tryd.func31 rfl rfl (by simp) (by kernel_rfl) ?_
  repeat'(first|refine rq fun _=>?_|refine rf fun _=>?_|simp only[go_sem,hk,hab,zag,zae,Tryd.f31])
  refine zbR (zi5 (id:=(31004,1)) (t:=4) (b:=true) (ys:=[.i .i64 f.kind,.s f.name.l,.sl (f.words.map enc),.sl (f.subs.map enc)]) (by simp only[go_sem,hk,hab]) (by simp only[go_sem])) ?_
  refine za6 hm (G:=G) kT.out 31000 (lsw [35] [1000016]) zr0 (by kernel_rfl) (by kernel_rfl) ?_
  repeat'(first|refine And.intro ?_ ?_|exact True.intro|refine zas.i (f53 (env:=env) (m:=m) hok (by omega) (by simp only[go_sem]) (by simp only[go_sem]) ?_)|refine rq fun _=>?_|refine rf fun _=>?_|simp only[go_sem,zr0,hk,hab,zab,zag,zae,Tryd.f31])
 ·obtain⟨x,hx⟩:=zmG (v4 (.inl hk))
  rw[zC9 hk hx]
  have hz:=kS.out x (by rw[hx];simp)
  obtain⟨b,hb⟩:∃b,zbU m x env=b:=⟨_,rfl⟩
  rw[hb]
  refine zah (N:=168) hm (G:=G) kT.out 31000 (lsw [35] [1000016]) zpp Tryd.func31 rfl rfl (by simp) (by kernel_rfl) ?_
  repeat'(first|refine zaF.i hz fun _=>?_|refine rq fun _=>?_|refine rf fun _=>?_|simp only[go_sem,hk,hx,hb,zag,zae,Tryd.f31])
 ·obtain⟨x,y,hxy⟩:=zmV (v5 (by omega))
  rw[zDa hk hxy]
  have hz:=kS.out x (by rw[hxy];simp)
  have hz2:=kS.out y (by rw[hxy];simp)
  obtain⟨b2,hb2⟩:∃b,zbU m y env=b:=⟨_,rfl⟩
  rw[hb2]
  cases hb:zbU m x env
  ·refine zah (N:=168) hm (G:=G) kT.out 31000 (lsw [35] [1000016]) zpp Tryd.func31 rfl rfl (by simp) (by kernel_rfl) ?_
   repeat'(first|refine zaF.i hz fun _=>?_|refine zaF.i hz2 fun _=>?_|refine rq fun _=>?_|refine rf fun _=>?_|simp only[go_sem,hk,hxy,hb,hb2,zag,zae,Tryd.f31])
  ·refine zah (N:=168) hm (G:=G) kT.out 31000 (lsw [35] [1000016]) zpp Tryd.func31 rfl rfl (by simp) (by kernel_rfl) ?_
   repeat'(first|refine zaF.i hz fun _=>?_|refine zaF.i hz2 fun _=>?_|refine rq fun _=>?_|refine rf fun _=>?_|simp only[go_sem,hk,hxy,hb,hb2,zag,zae,Tryd.f31])
 ·obtain⟨x,y,hxy⟩:=zmV (v5 (by omega))
  rw[zDb hk hxy]
  have hz:=kS.out x (by rw[hxy];simp)
  have hz2:=kS.out y (by rw[hxy];simp)
  obtain⟨b2,hb2⟩:∃b,zbU m y env=b:=⟨_,rfl⟩
  rw[hb2]
  cases hb:zbU m x env
  ·refine zah (N:=168) hm (G:=G) kT.out 31000 (lsw [35] [1000016]) zpp Tryd.func31 rfl rfl (by simp) (by kernel_rfl) ?_
   repeat'(first|refine zaF.i hz fun _=>?_|refine zaF.i hz2 fun _=>?_|refine rq fun _=>?_|refine rf fun _=>?_|simp only[go_sem,hk,hxy,hb,hb2,zag,zae,Tryd.f31])
  ·refine zah (N:=168) hm (G:=G) kT.out 31000 (lsw [35] [1000016]) zpp Tryd.func31 rfl rfl (by simp) (by kernel_rfl) ?_
   repeat'(first|refine zaF.i hz fun _=>?_|refine zaF.i hz2 fun _=>?_|refine rq fun _=>?_|refine rf fun _=>?_|simp only[go_sem,hk,hxy,hb,hb2,zag,zae,Tryd.f31])
 ·obtain⟨x,y,hxy⟩:=zmV (v5 (by omega))
  rw[zDc hk hxy]
  have hz:=kS.out x (by rw[hxy];simp)
  have hz2:=kS.out y (by rw[hxy];simp)
  obtain⟨b2,hb2⟩:∃b,zbU m y env=b:=⟨_,rfl⟩
  rw[hb2]
  cases hb:zbU m x env
  ·refine zah (N:=168) hm (G:=G) kT.out 31000 (lsw [35] [1000016]) zpp Tryd.func31 rfl rfl (by simp) (by kernel_rfl) ?_
   repeat'(first|refine zaF.i hz fun _=>?_|refine zaF.i hz2 fun _=>?_|refine rq fun _=>?_|refine rf fun _=>?_|simp only[go_sem,hk,hxy,hb,hb2,zag,zae,Tryd.f31])
  ·refine zah (N:=168) hm (G:=G) kT.out 31000 (lsw [35] [1000016]) zpp Tryd.func31 rfl rfl (by simp) (by kernel_rfl) ?_
   repeat'(first|refine zaF.i hz fun _=>?_|refine zaF.i hz2 fun _=>?_|refine rq fun _=>?_|refine rf fun _=>?_|simp only[go_sem,hk,hxy,hb,hb2,zag,zae,Tryd.f31])
 ·obtain⟨x,hx⟩:=zmG (v4 (by omega))
  rw[zDd hk hx]
  have hz:=fun c=>kQ.out (by unfold isQ;omega) x (by rw[hx];simp) c
  obtain⟨V,hV⟩:∃V:Int→Bool,V=fun v=>zbU m x (env++[⟨f.name,v⟩]):=⟨_,rfl⟩
  rw[←hV]
  have hVv:∀v,zbU m x (env++[⟨f.name,v⟩])=V v:=fun v=>by rw[hV]
  have kz:=Kp.mk hz
  have kV:=Kp.mk hVv
  clear hV hz hVv
  obtain⟨r,hr⟩:∃r,(zdT m).all V=r:=⟨_,rfl⟩
  have kr:=Kp.mk hr
  rw[hr]
  clear hr
  refine zah (N:=168) hm (G:=G) kT.out 31000 (lsw [35] [1000016]) zpp Tryd.func31 rfl rfl (by simp) (by kernel_rfl) ?_
  repeat'(first|refine rq fun _=>?_|refine rf fun _=>?_|simp only[go_sem,hk,hx,zag,zae,Tryd.f31])
  refine zak hm (G:=G) kT.out 31000 (lsw [35] [1000016]) (ι:=zbw m.size.toNat 3 fun i=>∀v:Nat,v<m.size.toNat→v<i→V v=true)
   ⟨fun q=>⟨frL [(3,.ptr (31003,0) 0),(4,.ptr (31004,1) 0),(5,.ptr (31005,2) 0),(135,.fz (.i .i64 m.size)),(136,.fz (.i .i64 q.i))],
    hpL [((31003,0),some ⟨[.fz (.i .i64 m.size),.fz (.sl (m.consts.map enc)),.fz (.sl (m.rels.map enc))],true,false⟩),((31004,1),some ⟨[.fz (.i .i64 f.kind),.fz (.s f.name.l),.fz (.sl (f.words.map enc)),.fz (.sl (f.subs.map enc))],true,false⟩),((31005,2),some ⟨[.fz (.sl (env.map enc))],true,false⟩)],q.m⟩,fun q=>m.size.toNat-q.i⟩
   ⟨0,3,by omega,by omega,fun v h h2=>by omega⟩ (by kernel_rfl) ?_ ?_
  ·refine zaf ?_ ?_ ?_<;>simp only[go_sem,hk,hx]
  rintro⟨i,q,hi,hq,hp⟩
  try simp only at hi hq
  rcases Nat.lt_or_ge i m.size.toNat with h1|h1
  ·have h1':((i:Int)<m.size)=True:=eq_true (by omega)
   have hz:=kz.out ⟨f.name,(i:Int)⟩
   have hvi:=kV.out (i:Int)
   have hbb:V i=false∨V i=true:=by cases V i<;>simp
   rcases hbb with hb|hb
   ·have hrr:r=false:=by rw[←kr.out];exact zjE (v:=i) (by omega) hb
    subst hrr
    repeat'(first|refine zaF.i hz fun _=>?_|refine rq fun _=>?_|refine rf fun _=>?_|simp only[go_sem,hk,hx,h1,h1',hvi,hb,zab,List.map_append,zez,zdP,zdB,zfk,zag,zae,Tryd.f31])
   ·have hp2:=zit hp hb
    have kp:=Kp.mk hp2
    clear hp2
    repeat'(first|refine zaF.i hz fun _=>?_|refine rq fun _=>?_|refine rf fun _=>?_|simp only[go_sem,hk,hx,h1,h1',hvi,hb,zab,List.map_append,zez,zdP,zdB,zfk,zag,zae,Tryd.f31])
    refine⟨⟨i+1,q+1,by omega,by omega,kp.out⟩,by simp only;omega,?_⟩
    refine zaf ?_ ?_ ?_<;>simp only[go_sem,hk,hx]
    all_goals first|done|omega
  ·obtain rfl:i=m.size.toNat:=by omega
   have hrr:r=true:=by rw[←kr.out];exact zq3 fun v hv=>hp v (by omega) (by omega)
   have h1':((m.size.toNat:Int)<m.size)=False:=eq_false (by omega)
   subst hrr
   repeat'(first|refine rq fun _=>?_|refine rf fun _=>?_|simp only[go_sem,hk,hx,Nat.lt_irrefl,h1',zag,zae,Tryd.f31])
 ·obtain⟨x,hx⟩:=zmG (v4 (by omega))
  rw[zDe hk hx]
  have hz:=fun c=>kQ.out (by unfold isQ;omega) x (by rw[hx];simp) c
  obtain⟨V,hV⟩:∃V:Int→Bool,V=fun v=>zbU m x (env++[⟨f.name,v⟩]):=⟨_,rfl⟩
  rw[←hV]
  have hVv:∀v,zbU m x (env++[⟨f.name,v⟩])=V v:=fun v=>by rw[hV]
  have kz:=Kp.mk hz
  have kV:=Kp.mk hVv
  clear hV hz hVv
  obtain⟨r,hr⟩:∃r,(zdT m).any V=r:=⟨_,rfl⟩
  have kr:=Kp.mk hr
  rw[hr]
  clear hr
  refine zah (N:=168) hm (G:=G) kT.out 31000 (lsw [35] [1000016]) zpp Tryd.func31 rfl rfl (by simp) (by kernel_rfl) ?_
  repeat'(first|refine rq fun _=>?_|refine rf fun _=>?_|simp only[go_sem,hk,hx,zag,zae,Tryd.f31])
  refine zak hm (G:=G) kT.out 31000 (lsw [35] [1000016]) (ι:=zbw m.size.toNat 3 fun i=>∀v:Nat,v<m.size.toNat→v<i→V v=false)
   ⟨fun q=>⟨frL [(3,.ptr (31003,0) 0),(4,.ptr (31004,1) 0),(5,.ptr (31005,2) 0),(135,.fz (.i .i64 m.size)),(136,.fz (.i .i64 q.i))],
    hpL [((31003,0),some ⟨[.fz (.i .i64 m.size),.fz (.sl (m.consts.map enc)),.fz (.sl (m.rels.map enc))],true,false⟩),((31004,1),some ⟨[.fz (.i .i64 f.kind),.fz (.s f.name.l),.fz (.sl (f.words.map enc)),.fz (.sl (f.subs.map enc))],true,false⟩),((31005,2),some ⟨[.fz (.sl (env.map enc))],true,false⟩)],q.m⟩,fun q=>m.size.toNat-q.i⟩
   ⟨0,3,by omega,by omega,fun v h h2=>by omega⟩ (by kernel_rfl) ?_ ?_
  ·refine zaf ?_ ?_ ?_<;>simp only[go_sem,hk,hx]
  rintro⟨i,q,hi,hq,hp⟩
  try simp only at hi hq
  rcases Nat.lt_or_ge i m.size.toNat with h1|h1
  ·have h1':((i:Int)<m.size)=True:=eq_true (by omega)
   have hz:=kz.out ⟨f.name,(i:Int)⟩
   have hvi:=kV.out (i:Int)
   have hbb:V i=false∨V i=true:=by cases V i<;>simp
   rcases hbb with hb|hb
   ·have hp2:=zit hp hb
    have kp:=Kp.mk hp2
    clear hp2
    repeat'(first|refine zaF.i hz fun _=>?_|refine rq fun _=>?_|refine rf fun _=>?_|simp only[go_sem,hk,hx,h1,h1',hvi,hb,zab,List.map_append,zez,zdP,zdB,zfk,zag,zae,Tryd.f31])
    refine⟨⟨i+1,q+1,by omega,by omega,kp.out⟩,by simp only;omega,?_⟩
    refine zaf ?_ ?_ ?_<;>simp only[go_sem,hk,hx]
    all_goals first|done|omega
   ·have hrr:r=true:=by rw[←kr.out];exact zq4 (v:=i) (by omega) hb
    subst hrr
    repeat'(first|refine zaF.i hz fun _=>?_|refine rq fun _=>?_|refine rf fun _=>?_|simp only[go_sem,hk,hx,h1,h1',hvi,hb,zab,List.map_append,zez,zdP,zdB,zfk,zag,zae,Tryd.f31])
  ·obtain rfl:i=m.size.toNat:=by omega
   have hrr:r=false:=by rw[←kr.out];exact zjF fun v hv=>hp v (by omega) (by omega)
   have h1':((m.size.toNat:Int)<m.size)=False:=eq_false (by omega)
   subst hrr
   repeat'(first|refine rq fun _=>?_|refine rf fun _=>?_|simp only[go_sem,hk,hx,Nat.lt_irrefl,h1',zag,zae,Tryd.f31])
end
end Go.Proofs.YtkkffhphodngkaaDoor
namespace Go.Proofs.YtkkffhphodngkaaDoor
open Go Go.Abs Go.Proofs
section
variable {G:Nat→List FD}
theorem zFA:∀(k:Nat) (f:Abs.zac) (bd acc:List Str) (g n:Nat) (X:zav),f.size≤k→(enc f).Wf→g<n→2<n→acc.length+(cst f bd).length≤1000000→bd.length+f.size≤1000000→
  (∀id o,X id=some o→id.2<n∧id.1≠49003∧id.1≠49004∧id.1≠76024)→
  zaw Tryd.prog G 76 [.fz (enc f),.fz (enc bd),.ptr (49003,1) 0,.ptr (49004,2) 0] (hpX (HHk acc g) X) n
   (fun d' H' n'=>d'= .tup []∧n≤n'∧(∃g',g'<n'∧zgG H' (HHk (acc++cst f bd) g'))∧∀id o,X id=some o→H' id=some o):=by
 intro k
 induction k with
 |zero=>intro f bd acc g n X hs;have:=f.size_pos;omega
 |succ k ih=>
  intro f bd acc g n X hs hw hg hn hlen hbl hX
  obtain⟨Q,hQ⟩:∃Q:D→zav→Nat→Prop,Q=(fun d' H' n'=>d'= .tup []∧n≤n'∧(∃g',g'<n'∧zgG H' (HHk (acc++cst f bd) g'))∧∀id o,X id=some o→H' id=some o):=⟨_,rfl⟩
  rw[←hQ]
  have hX':∀{l:List (Abs.Id×Option O)} (id o),X id=some o→(id.2<n∧id.1≠49003∧id.1≠49004∧id.1≠76024→zg4 id l)→hpX l X id=some o:=fun id o h1 h2=>(zdj (h2 (hX id o h1))).trans h1
  have hwl:f.words.length≤za4:=by
   have h:=zbd (by have h:=hw;rw[zaG]at h;exact h) (FD.sl (f.words.map enc)) (by simp)
   have:=zcA h
   simpa using this
  have hsl:f.subs.length≤za4:=by
   have h:=zbd (by have h:=hw;rw[zaG]at h;exact h) (FD.sl (f.subs.map enc)) (by simp)
   have:=zcA h
   simpa using this
  have hsw:∀g∈f.subs,(enc g).Wf:=fun g hg=>zd5 (zbd (by have h:=hw;rw[zaG]at h;exact h) (FD.sl (f.subs.map enc)) (by simp)) _ (List.mem_map_of_mem hg)
  have hss:∀g∈f.subs,g.size≤k∧g.size+1≤f.size:=fun g hg=>by have:=zac.size_sub hg;omega
  unfold za4 at hwl hsl
  rw[znn,List.length_append]at hlen
  obtain⟨A,hA⟩:∃A:Nat→List Str,A=fun i=>acc++(f.words.take i).filter (fun w=>decide (w∉bd)):=⟨_,rfl⟩
  have hA0:A 0=acc:=by rw[hA];simp
  have hAl:∀i,(A i).length≤acc.length+(f.words.filter (fun w=>decide (w∉bd))).length:=fun i=>by
   rw[hA];simp only[List.length_append];have:=@zek f.words bd i;omega
  have hAs:∀i (h:i<f.words.length),A (i+1)=A i++if f.words[i]∈bd then[]else[f.words[i]]:=fun i h=>by
   rw[hA];simp only[zd0 h,List.append_assoc]
  have hAe:A f.words.length=acc++f.words.filter (fun w=>decide (w∉bd)):=by rw[hA];simp only[List.take_length]
  have kA:=Kp.mk hAl
  have kB:=Kp.mk hAs
  have kC:=Kp.mk hAe
  clear hA hAl hAs hAe
  have kX:=Kp.mk @hX'
  have kQ:=Kp.mk hQ
  have kI:=Kp.mk ih
  have kS:=Kp.mk hsw
  have kZ:=Kp.mk hss
  have kx:=Kp.mk hX
  clear hX' hQ ih hsw hss hX
  refine zah (N:=50) hm (zci (G:=G) zvv) 76000 (lst [24]) zEY Tryd.func76 rfl rfl (by simp) (by kernel_rfl) ?_
  repeat'(first|refine rq fun _=>?_|simp only[go_sem,HHk,Tryd.f76, *])
  refine zak hm (zci (G:=G) zvv) 76000 (lst [24]) (ι:=zgX f.words.length (n+1) fun _=>True)
   ⟨fun q=>⟨frL [(1,.fz (.sl (bd.map enc))),(2,.ptr (49003,1) 0),(3,.ptr (49004,2) 0),(4,.ptr (76004,n) 0),(11,.fz (.sl (f.words.map enc))),(12,.fz (.i .i64 f.words.length)),(13,.fz (.i .i64 q.i))],
    hpX (((76004,n),some ⟨[.fz (.i .i64 f.kind),.fz (.s f.name.l),.fz (.sl (f.words.map enc)),.fz (.sl (f.subs.map enc))],true,false⟩)::HHk (A q.i) q.g) X,q.m⟩,fun q=>f.words.length-q.i⟩
   ⟨0,g,n+1,by omega,by omega,by omega,trivial⟩ (by kernel_rfl) ?_ ?_
  ·refine zaO ?_ ?_ (fun id o ho=>?_) ?_
   ·simp only[go_sem]
   ·simp only[go_sem,HHk,hA0]
   ·refine kX.out id o ho fun h1=>?_
    ((repeat'(first|exact trivial|apply And.intro))<;>(rintro rfl;simp only at h1;omega))
   ·simp only[go_sem]
  rintro⟨i,g1,m1,hi,hg1,hm1,_⟩
  try simp only at hi hg1 hm1
  rcases Nat.lt_or_ge i f.words.length with h1|h1
  ·have hfl:=kB.out i h1
   have hl1:=kA.out i
   have hl2:=kA.out (i+1)
   by_cases hin:f.words[i]∈bd
   ·rw[if_pos hin,List.append_nil]at hfl
    repeat'(first|refine rq fun _=>?_|simp only[go_sem,HHk,h1,hin,zab,zaa,Tryd.f76])
    refine⟨⟨i+1,g1,m1,by omega,by omega,by omega,trivial⟩,by simp only;omega,?_⟩
    refine zaO ?_ ?_ (fun id o ho=>?_) ?_
    ·simp only[go_sem]
    ·simp only[go_sem,HHk,hfl]
    ·refine kX.out id o ho fun h1=>?_
     ((repeat'(first|exact trivial|apply And.intro))<;>(rintro rfl;simp only at h1;omega))
    ·simp only[go_sem]
   ·rw[if_neg hin]at hfl
    have hl3:(zad ((A i).map enc)).length=(A i).length:=by rw[zkV (zdV (f:=enc) (k:=1) (fun _=>rfl) _),List.length_map]
    repeat'(first|refine rq fun _=>?_|refine zaF.i (zca (by omega) (by decide)) fun _=>?_|simp only[go_sem,HHk,h1,hin,zab,zaa,Tryd.f76])
    refine⟨⟨i+1,m1,m1+1,by omega,by omega,by omega,trivial⟩,by simp only;omega,?_⟩
    refine zaO ?_ ?_ (fun id o ho=>?_) ?_
    ·simp only[go_sem]
    ·simp only[go_sem,HHk,hfl,ziD]
    ·refine kX.out id o ho fun h1=>?_
     ((repeat'(first|exact trivial|apply And.intro))<;>(rintro rfl;simp only at h1;omega))
    ·simp only[go_sem]
  ·obtain rfl:i=f.words.length:=by omega
   have hAe:=kC.out
   obtain⟨bd2,hbd⟩:∃bd2,bd2=if isQ f.kind then bd++[f.name]else bd:=⟨_,rfl⟩
   rw[←hbd]at hlen
   obtain⟨B,hB⟩:∃B:Nat→List Str,B=fun j=>A f.words.length++zbW (f.subs.take j) bd2:=⟨_,rfl⟩
   have hB0:B 0=A f.words.length:=by rw[hB];simp[zbW]
   have hBs:∀j (h:j<f.subs.length),B (j+1)=B j++cst f.subs[j] bd2:=fun j h=>by rw[hB];simp only[zeQ h,List.append_assoc]
   have hBl:∀j,(B j).length≤1000000:=fun j=>by rw[hB,List.length_append,hAe,List.length_append];have:=@zfj f.subs bd2 j;omega
   have hBe:B f.subs.length=acc++cst f bd:=by rw[hB,znn,←hbd,hAe];simp only[List.take_length,List.append_assoc]
   have hb2:bd2.length≤bd.length+1:=by
    rw[hbd];split
    ·simp
    ·omega
   have kBs:=Kp.mk hBs
   have kBl:=Kp.mk hBl
   have kBe:=Kp.mk hBe
   clear hBs hBl hBe hB hAe
   rcases Decidable.em (isQ f.kind)with hq|hq
   all_goals
    (first|rw[if_pos hq]at hbd|rw[if_neg hq]at hbd)
    unfold isQ at hq
    repeat'(first|refine rq fun _=>?_|refine zaF.i (zca (by omega) (by decide)) fun _=>?_|simp only[go_sem,HHk,hq,Nat.lt_irrefl,zab,Tryd.f76])
    refine zak hm (zci (G:=G) zvv) 76000 (lst [24]) (ι:=zgX f.subs.length (n+1) fun _=>True)
     ⟨fun q=>⟨frL [(1,.fz (.sl (bd2.map enc))),(2,.ptr (49003,1) 0),(3,.ptr (49004,2) 0),(39,.fz (.sl (f.subs.map enc))),(40,.fz (.i .i64 f.subs.length)),(41,.fz (.i .i64 q.i))],hpX (HHk (B q.i) q.g) X,q.m⟩,fun q=>f.subs.length-q.i⟩
     ⟨0,g1,m1,by omega,by omega,by omega,trivial⟩ (by kernel_rfl) ?_ ?_
    ·refine zaO ?_ ?_ (fun id o ho=>?_) ?_
     ·simp only[go_sem,hbd,List.map_append]
     ·simp only[go_sem,HHk,hB0]
     ·refine kX.out id o ho fun h1=>?_
      ((repeat'(first|exact trivial|apply And.intro))<;>(rintro rfl;simp only at h1;omega))
     ·simp only[go_sem]
    rintro⟨j,g2,m2,hj,hg2,hm2,_⟩
    try simp only at hj hg2 hm2
    rcases Nat.lt_or_ge j f.subs.length with h2|h2
    ·have hmem:=List.getElem_mem h2
     have hBj:=kBs.out j h2
     have hl4:=kBl.out (j+1)
     have hz:=kZ.out _ hmem
     rw[hBj,List.length_append]at hl4
     have ih2:=kI.out f.subs[j] bd2 (B j) g2 (m2+1) X hz.1 (kS.out _ hmem) (by omega) (by omega) hl4 (by omega) (fun id o ho=>by have:=kx.out id o ho;omega)
     rw[zaG]at ih2
     repeat'(first|refine rq fun _=>?_|simp only[go_sem,HHk,h2,zaa,Tryd.f76])
     refine zas.i (zb9 rfl (zdw (by simp only[go_sem,zg5]) (by simp only[go_sem,HHk]) (fun id o ho=>?_) (Nat.le_refl _) (zaD ih2 ?_)))
     ·refine kX.out id o ho fun h1=>?_
      ((repeat'(first|exact trivial|apply And.intro))<;>(rintro rfl;simp only at h1;omega))
     rintro d' H' n' ⟨rfl,e1,⟨g3,hg3,e2⟩,e3⟩
     rw[←hBj]at e2
     simp only[go_sem,HHk]at e2
     obtain⟨b1,b2,b3⟩:=e2
     rw[show H'=hpX [] H' from rfl]
     repeat'(first|refine rq fun _=>?_|simp only[go_sem,HHk,h2,Tryd.f76])
     refine⟨⟨j+1,g3,n',by omega,by omega,by omega,trivial⟩,by simp only;omega,?_⟩
     refine zaO ?_ ?_ (fun id o ho=>?_) ?_
     ·simp only[go_sem]
     ·simp only[go_sem,HHk,b1,b2,b3]
     ·exact e3 id o ho
     ·simp only[go_sem]
    ·obtain rfl:j=f.subs.length:=by omega
     repeat'(first|refine rq fun _=>?_|simp only[go_sem,HHk,Nat.lt_irrefl,Tryd.f76])
     rw[kQ.out]
     refine⟨rfl,by omega,⟨g2,by omega,?_⟩,fun id o ho=>kX.out id o ho fun h1=>?_⟩
     ·rw[←kBe.out];simp only[go_sem,HHk]
     ·((repeat'(first|exact trivial|apply And.intro))<;>(rintro rfl;simp only at h1;omega))
theorem zlC {H:zav}{id:Abs.Id}{l:List Str}{bx vt:Bool}{n:Nat}{R:D→zav→Nat→Prop}(ho:H id=some ⟨zad (l.map enc),bx,vt⟩)
  (hR:R (.tup []) (hpX [(id,some ⟨zad ((zfC l).map enc),bx,vt⟩)] H) n):zaw Tryd.prog G 59 [.arr id 1 0 l.length] H n R:=by
 rw[zdC]at ho
 have h:=zip (G:=G) (n:=n) zEN Tryd.slices_Sort_string Tryd.slices_Sort_string_none ho
 rw[List.length_map]at h
 refine zaD h ?_
 rintro d H' n' ⟨rfl,rfl,rfl⟩
 rw[zjD,zey]
 exact hR
theorem zkn {H:zav}{id:Abs.Id}{l:List Str}{bx vt:Bool}{n:Nat}{R:D→zav→Nat→Prop}(ho:H id=some ⟨zad (l.map enc),bx,vt⟩)
  (hR:R (.arr id 1 0 (zeV l).length) (hpX [(id,some ⟨zad ((zeV l).map enc),bx,vt⟩)] H) n):zaw Tryd.prog G 60 [.arr id 1 0 l.length] H n R:=by
 rw[zdC]at ho
 have h:=ze8 (G:=G) (n:=n) zEO Tryd.slices_Compact_string Tryd.slices_Compact_string_empty ho
 rw[List.length_map]at h
 refine zaD h ?_
 rintro d H' n' ⟨rfl,rfl,rfl⟩
 rw[zjD,zey,show(zcZ (l.map (·.l))).length=(zeV l).length by unfold zeV;rw[List.length_map]]
 exact hR
theorem zFz {f:Abs.zac}(hw:(enc f).Wf)(hl:(cst f []).length≤1000000)(hs:f.size≤1000000):zaw Tryd.prog G 49 [.fz (enc f)] (hpL []) 0
  (fun d H n=>∃g,g<n∧d= .arr (76024,g) 1 0 (zbv f).length∧H (76024,g)=some ⟨zad ((zbv f).map enc),false,(cst f []).isEmpty⟩):=by
 obtain⟨Q,hQ⟩:∃Q:D→zav→Nat→Prop,Q=(fun d H n=>∃g,g<n∧d= .arr (76024,g) 1 0 (zbv f).length∧H (76024,g)=some ⟨zad ((zbv f).map enc),false,(cst f []).isEmpty⟩):=⟨_,rfl⟩
 rw[←hQ]
 refine zah (N:=13) hm (zci (G:=G) zvv) 49000 (lst []) zCP Tryd.func49 rfl rfl (by simp) (by kernel_rfl) ?_
 have h:=zFA (G:=G) f.size f [] [] 3 4 (fun _=>none) (Nat.le_refl _) hw (by omega) (by omega) (by simpa using hl) (by simpa using hs) (fun id o ho=>by cases ho)
 rw[zaG]at h
 repeat'(first|refine rq fun _=>?_|simp only[go_sem,Tryd.f49])
 refine zas.i (zb9 rfl (zp4 (args':=[.fz (.agg [.i .i64 f.kind,.s f.name.l,.sl (f.words.map enc),.sl (f.subs.map enc)]),.fz (enc ([]:List Str)),.ptr (49003,1) 0,.ptr (49004,2) 0])
  (hl:=HHk [] 3) (n':=4) [] [(76024,3)] [] rfl ?_ ?_ ?_ ?_ ?_ ?_))
 case _=>omega
 case _=>simp only[go_sem]
 case _=>simp only[go_sem,HHk];first|done|rfl
 case _=>simp only[go_sem,HHk];first|done|rfl
 case _=>simp only[go_sem];first|done|rfl
 rw[show hpL (HHk [] 3)=hpX (HHk [] 3) (fun _=>none)from rfl]
 refine zaD h ?_
 rintro d' H' n' ⟨rfl,e1,⟨g,hg,e2⟩,_⟩
 rw[List.nil_append]at e2
 obtain⟨C,hC⟩:∃C,C=cst f []:=⟨_,rfl⟩
 rw[←hC]at e2
 rw[zol,←hC]at hQ
 simp only[go_sem,HHk]at e2
 obtain⟨b1,b2,b3⟩:=e2
 rw[show H'=hpX [] H' from rfl]
 repeat'(first|refine rq fun _=>?_|simp only[go_sem,b1,b2,b3,Tryd.f49])
 refine zas.i (zlC (l:=C) (bx:=false) (vt:=C.isEmpty) (by simp only[go_sem,b3]) ?_)
 rw[←zfD C]at b1
 repeat'(first|refine rq fun _=>?_|simp only[go_sem,b1,b2,b3,Tryd.f49])
 refine zas.i (zkn (l:=zfC C) (bx:=false) (vt:=C.isEmpty) (by simp only[go_sem]) ?_)
 repeat'(first|refine rq fun _=>?_|simp only[go_sem,b1,b2,b3,Tryd.f49])
 rw[hQ]
 exact⟨g,hg,by simp only[go_sem],by simp only[go_sem]⟩
def A16:Tbl:=A15.add 49 (sp1 zbv fun f=>(cst f []).length≤1000000∧f.size≤1000000)
attribute [go_sem] A16
theorem zr8 {f:Abs.zac}(h:(cst f []).isEmpty=true):zbv f=[]:=by
 cases hu:zbv f with
 |nil=>rfl
 |cons x l=>
  have:=(zdF f x).1 (by rw[hu];simp)
  rw[List.isEmpty_iff.1 h]at this
  simp at this
theorem zzT:zap Tryd.prog G A16:=by
 refine zb6 zCP zFG fun f hp hw=>?_
 refine zck (zFz (G:=G) hw hp.1 hp.2) ?_
 rintro d H n ⟨g,hg,rfl,ho⟩
 obtain⟨U,hU⟩:∃U,zbv f=U:=⟨_,rfl⟩
 have hn:(cst f []).isEmpty=true→U=[]:=fun h=>by rw[←hU];exact zr8 h
 rw[hU]at ho ⊢
 refine⟨.fz (.sl (U.map enc)),H0,n,?_,rfl⟩
 have e:H0=hpL []:=rfl
 rw[e]
 refine zcu [] [] [((76024,g),U.map enc)] ?_ ?_ ?_ ?_ ?_<;>simp only[go_sem,ho]
 intro h
 rw[hn h];rfl
def A17:Tbl:=A16.add 40 (sp2 ziR fun l _=>l.length≤1000000)
attribute [go_sem] A17
theorem zFH:zap Tryd.prog G A17:=by
 refine zb7 zCO zzT fun l s hl _ _=>?_
 by_cases hin:s∈l
 ·have e:ziR l s=l:=by unfold ziR;rw[if_pos hin]
  rw[e]
  refine zah (N:=39) hm (G:=G) zzT 40000 (lsw [29,33,38] []) zCO Tryd.func40 rfl rfl (by simp) (by kernel_rfl) ?_
  repeat'(first|refine rq fun _=>?_|simp only[go_sem,hin,Tryd.f40])
 ·have e:ziR l s=l.take (twN l s)++[s]++l.drop (twN l s):=by unfold ziR;rw[if_neg hin];rfl
  rw[e]
  clear e
  have hlt:∀i (h:i<l.length),i<twN l s→Op.bytesLess l[i].l s.l=true:=fun i h h2=>by rw[zd7];exact decide_eq_true (zuK h h2)
  have hat:∀i (h:i<l.length),i=twN l s→Op.bytesLess l[i].l s.l=false:=fun i h h2=>by rw[zd7];exact decide_eq_false (zuI h h2)
  have htl:=zuJ s l
  obtain⟨T,hT⟩:∃T,twN l s=T:=⟨_,rfl⟩
  rw[hT]at hlt hat htl ⊢
  clear hT
  have kl:=Kp.mk hlt
  have ka:=Kp.mk hat
  clear hlt hat
  refine zah (N:=39) hm (G:=G) zzT 40000 (lsw [29,33,38] []) zCO Tryd.func40 rfl rfl (by simp) (by kernel_rfl) ?_
  repeat'(first|refine rq fun _=>?_|simp only[go_sem,hin,Tryd.f40])
  refine zak hm (G:=G) zzT 40000 (lsw [29,33,38] []) (ι:=zbL T fun _=>True)
   ⟨fun q=>⟨frL [(0,.fz (.sl (l.map enc))),(1,.fz (.s s.l)),(5,.full []),(6,.fz (.i .i64 q.i))],hpL [],0⟩,fun q=>T-q.i⟩
   ⟨0,by omega,trivial⟩ (by kernel_rfl) ?_ ?_
  ·refine zaf ?_ ?_ ?_<;>simp only[go_sem]
  rintro⟨i,hi,_⟩
  try simp only at hi
  rcases Nat.lt_or_ge i T with h1|h1
  ·have h2:i<l.length:=by omega
   have h3:=kl.out i h2 h1
   repeat'(first|refine rq fun _=>?_|simp only[go_sem,h2,h3,zaa,Tryd.f40])
   refine⟨⟨i+1,by omega,trivial⟩,by simp only;omega,?_⟩
   refine zaf ?_ ?_ ?_<;>simp only[go_sem]
  ·obtain rfl:i=T:=by omega
   have hlt:(l.take i).length=i:=by rw[List.length_take];omega
   rcases Nat.lt_or_ge i l.length with h2|h2
   case' inl=>have h3:=ka.out i h2 rfl
   case' inr=>have h3:¬i<l.length:=by omega
   all_goals
    repeat'(first|refine rq fun _=>?_|refine zaF.i (zca (by first|omega|(simp only[List.length_map,List.length_take,List.length_drop,List.length_append,List.length_cons,List.length_nil];omega)) (by decide)) fun _=>?_|refine rq fun _=>?_|simp only[go_sem,h2,h3,zu7,zaa,Tryd.f40])
   all_goals first|done|(simp only[List.map_append,List.map_take,List.map_drop,List.map_cons,List.map_nil,zvb])
def A18:Tbl:=A17.add 67 (sp3 zji znm)
attribute [go_sem] A18
theorem zDs:zap Tryd.prog G A18:=by
 refine zwh zac.size zES zFH fun n hT f bd l hn hpre hw _ _=>?_
 obtain⟨hfit,hbl,hll⟩:=hpre
 obtain⟨hwl,hsl,hfs⟩:=zac.fit_eq hfit
 have hszs:f.size=zac.sizes f.subs+1:=by cases f;rw[zac.size];rfl
 have hsz:∀g∈f.subs,g.size<n∧g.fit=true:=fun g hg=>⟨by have:=zac.size_sub hg;omega,zac.fits_mem hfs hg⟩
 obtain⟨L,hL⟩:∃L:Nat→List Str,L=fun i=>(f.words.take i).foldl (fun l w=>if w∈bd then l else ziR l w) l:=⟨_,rfl⟩
 have hL0:L 0=l:=by rw[hL];rfl
 have hLs:∀i (h:i<f.words.length),L (i+1)=if f.words[i]∈bd then L i else ziR (L i) f.words[i]:=fun i h=>by
  rw[hL];simp only[List.take_succ_eq_append_getElem h,List.foldl_append,List.foldl_cons,List.foldl_nil]
 have hLl:∀i,(L i).length≤l.length+1000:=fun i=>by
  have:=zfq bd (f.words.take i) l
  rw[hL];simp only;rw[List.length_take]at this;omega
 obtain⟨bd2,hbd2⟩:∃bd2,(if isQ f.kind then bd++[f.name]else bd)=bd2:=⟨_,rfl⟩
 have hbl2:bd2.length≤bd.length+1:=by rw[←hbd2];split<;>simp
 obtain⟨lw,hlw⟩:∃lw,L f.words.length=lw:=⟨_,rfl⟩
 have hlwl:lw.length≤l.length+1000:=by rw[←hlw];exact hLl _
 have hcst:zji f bd l=zdd f.subs bd2 lw:=by rw[zu5,hbd2,←hlw,hL];simp only[List.take_length]
 obtain⟨M,hM⟩:∃M:Nat→List Str,M=fun j=>zdd (f.subs.take j) bd2 lw:=⟨_,rfl⟩
 have hM0:M 0=lw:=by rw[hM];simp only[List.take_zero,zdd]
 have hMs:∀j (h:j<f.subs.length),M (j+1)=zji f.subs[j] bd2 (M j):=fun j h=>by
  rw[hM];simp only[List.take_succ_eq_append_getElem h,zkq,zdd]
 have hMl:∀j (h:j<f.subs.length),znm f.subs[j] bd2 (M j):=fun j h=>by
  have h1:=zhf (f.subs.take j) bd2 lw (zkU j hfs)
  have h2:=ziS h
  have h3:=zac.size_mem (List.getElem_mem h)
  refine⟨(hsz _ (List.getElem_mem h)).2,by omega,?_⟩
  rw[hM];simp only;omega
 have hMe:M f.subs.length=zji f bd l:=by rw[hcst,hM];simp only[List.take_length]
 have kT:=Kp.mk hT
 have kz:=Kp.mk hsz
 have kL:=Kp.mk hLs
 have kM:=Kp.mk hMs
 have kN:=Kp.mk hMl
 have kb:=Kp.mk hbd2
 have kl:=Kp.mk hLl
 rw[←hMe]
 clear hT hsz hLs hMs hMl hbd2 hL hM hcst hLl hw hMe hfit hfs
 refine zah (N:=56) hm (G:=G) kT.out 67000 (lsw [35,39] [1000008]) zES Tryd.func67 rfl rfl (by simp) (by kernel_rfl) ?_
 repeat'(first|refine rq fun _=>?_|simp only[go_sem,Tryd.f67])
 refine zbR (zcL (id:=(67003,0)) (t:=3) (b:=true) (ys:=[.i .i64 f.kind,.s f.name.l,.sl (f.words.map enc),.sl (f.subs.map enc)]) (by simp only[go_sem]) (by simp only[go_sem])) ?_
 refine zak hm (G:=G) kT.out 67000 (lsw [35,39] [1000008]) (ι:=zbL f.words.length fun _=>True)
  ⟨fun q=>⟨frL [(1,.fz (.sl (bd.map enc))),(2,.fz (.sl ((L q.i).map enc))),(3,.rp [.i .i64 f.kind,.s f.name.l,.sl (f.words.map enc),.sl (f.subs.map enc)]),(11,.fz (.sl (f.words.map enc))),(12,.fz (.i .i64 f.words.length)),(13,.fz (.i .i64 q.i))],hpL [],1⟩,fun q=>f.words.length-q.i⟩
  ⟨0,by omega,trivial⟩ (by kernel_rfl) ?_ ?_
 ·refine zaf ?_ ?_ ?_<;>simp only[go_sem,hL0]
 rintro⟨i,hi,_⟩
 try simp only at hi
 rcases Nat.lt_or_ge i f.words.length with h1|h1
 ·have hls:=kL.out i h1
  have hll2:=kl.out i
  obtain⟨w,hwi⟩:∃w,f.words[i]=w:=⟨_,rfl⟩
  rw[hwi]at hls
  by_cases hin:w∈bd
  ·rw[if_pos hin]at hls
   repeat'(first|refine rq fun _=>?_|simp only[go_sem,h1,hwi,hin,zab,zaa,Tryd.f67])
   refine⟨⟨i+1,by omega,trivial⟩,by simp only;omega,?_⟩
   refine zaf ?_ ?_ ?_<;>simp only[go_sem,hls]
  ·rw[if_neg hin]at hls
   repeat'(first|refine rq fun _=>?_|simp only[go_sem,h1,hwi,hin,zab,zaa,Tryd.f67])
   refine⟨⟨i+1,by omega,trivial⟩,by simp only;omega,?_⟩
   refine zaf ?_ ?_ ?_<;>simp only[go_sem,hls]
 ·obtain rfl:i=f.words.length:=by omega
  by_cases hq:isQ f.kind
  case' pos=>
   have hb2:=kb.out
   rw[if_pos hq]at hb2
   unfold isQ at hq
   have hq8:((f.kind=8)=True∧(f.kind=8)=True)∨((f.kind=8)=False∧(f.kind=9)=True):=by
    rcases hq with h|h
    ·exact .inl ⟨eq_true h,eq_true h⟩
    ·exact .inr ⟨eq_false (by omega),eq_true h⟩
   rcases hq8 with⟨h8,h9⟩|⟨h8,h9⟩
   all_goals
    repeat'(first|refine rq fun _=>?_|simp only[go_sem,h8,h9,hlw,Nat.lt_irrefl,Tryd.f67])
   all_goals
    refine za6 hm (G:=G) kT.out 67000 (lsw [35,39] [1000008]) zrZ (by kernel_rfl) (by kernel_rfl) ?_
    repeat'(first|refine And.intro ?_ ?_|exact True.intro|refine rq fun _=>?_|refine zaF.i (zca (by first|omega|(simp only[List.length_map,List.length_append,List.length_cons,List.length_nil];omega)) (by decide)) fun _=>?_|simp only[go_sem,zrZ,hlw,Tryd.f67])
  case' neg=>
   have hb2:=kb.out
   rw[if_neg hq]at hb2
   unfold isQ at hq
   have h8:(f.kind=8)=False:=eq_false fun h=>hq (.inl h)
   have h9:(f.kind=9)=False:=eq_false fun h=>hq (.inr h)
   repeat'(first|refine rq fun _=>?_|simp only[go_sem,h8,h9,hlw,Nat.lt_irrefl,Tryd.f67])
  all_goals
   refine zak hm (G:=G) kT.out 67000 (lsw [35,39] [1000008]) (ι:=zbL f.subs.length fun _=>True)
    ⟨fun q=>⟨frL [(1,.fz (.sl (bd2.map enc))),(2,.fz (.sl ((M q.i).map enc))),(3,.rp [.i .i64 f.kind,.s f.name.l,.sl (f.words.map enc),.sl (f.subs.map enc)]),(42,.fz (.i .i64 f.subs.length)),(43,.fz (.i .i64 q.i))],hpL [],100⟩,fun q=>f.subs.length-q.i⟩
    ⟨0,by omega,trivial⟩ (by kernel_rfl) ?_ ?_
   ·refine zp7 (zsx (l:=[(1,.fz (.sl (bd2.map enc))),(2,.fz (.sl (lw.map enc))),(3,.rp [.i .i64 f.kind,.s f.name.l,.sl (f.words.map enc),.sl (f.subs.map enc)]),(42,.fz (.i .i64 f.subs.length)),(43,.fz (.i .i64 0))]) (by simp only[go_sem,←hb2,List.map_append])) (zaf ?_ ?_ ?_)<;>simp only[go_sem,hM0]
   rintro⟨j,hj,_⟩
   try simp only at hj
   rcases Nat.lt_or_ge j f.subs.length with h2|h2
   ·have hms:=kM.out j h2
    have hmn:=kN.out j h2
    have hsz:=(kz.out _ (List.getElem_mem h2)).1
    obtain⟨x,hx⟩:∃x,f.subs[j]=x:=⟨_,rfl⟩
    rw[hx]at hms hmn hsz
    repeat'(first|refine rq fun _=>?_|refine zaF.i ⟨hsz,hmn⟩ fun _=>?_|simp only[go_sem,h2,hx,hsz,zaa,Tryd.f67])
    refine⟨⟨j+1,by omega,trivial⟩,by simp only;omega,?_⟩
    refine zaf ?_ ?_ ?_<;>simp only[go_sem,hms]
   ·obtain rfl:j=f.subs.length:=by omega
    repeat'(first|refine rq fun _=>?_|simp only[go_sem,Nat.lt_irrefl,Tryd.f67])
def A19:Tbl:=A18.add 39 (sp1 (fun f=>zji f [] []) fun f=>f.fit=true∧f.size≤1000)
attribute [go_sem] A19
theorem zvt:zap Tryd.prog G A19:=by
 refine zb6 zEE zDs fun f hpre _=>?_
 have hp:znm f [] []:=⟨hpre.1,by simp only[List.length_nil];omega,by simp only[List.length_nil];omega⟩
 refine zah (N:=5) hm (G:=G) zDs 39000 (lst []) zEE Tryd.func39 rfl rfl (by simp) (by kernel_rfl) ?_
 repeat'(first|refine rq fun _=>?_|refine zaF.i hp fun _=>?_|simp only[go_sem,Tryd.f39])
end
end Go.Proofs.YtkkffhphodngkaaDoor
