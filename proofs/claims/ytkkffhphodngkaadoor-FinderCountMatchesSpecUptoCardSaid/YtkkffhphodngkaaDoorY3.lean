/- several texts of this proof in one; no conditions -/
import Derived.Test.YtkkffhphodngkaaDoorAT
import Derived.Test.YtkkffhphodngkaaDoorQ8
import Derived.Test.YtkkffhphodngkaaDoorTR
import Derived.Test.YtkkffhphodngkaaDoorY7
import Derived.Test.YtkkffhphodngkaaDoorCN
import Derived.Test.YtkkffhphodngkaaDoorY2
set_option maxRecDepth 100000
set_option maxHeartbeats 1000000
set_option linter.unusedSimpArgs false
namespace Go.Proofs.YtkkffhphodngkaaDoor
open Go Go.Abs Go.Proofs
section
variable {G:Nat→List FD}
def A1:Tbl:=Q20.add 85 (sp1 (fun _:Str=>false) fun _=>True)
attribute [go_sem] A1
theorem hA1:zan Tryd.prog G A1:=by
 refine zb4 zGq (zcq zwH) fun s _ _=>?_
 refine zah (N:=6) hm (zcq zwH) 85000 (lst []) zGq Tryd.func85 rfl rfl (by simp) (by kernel_rfl) ?_
 repeat'(first|refine rq fun _=>?_|simp only[go_sem,Tryd.f85])
def A2:Tbl:=A1.add 86 (sp1 (fun _:Int=>false) fun _=>True)
attribute [go_sem] A2
theorem hA2:zan Tryd.prog G A2:=by
 refine zb4 zGr hA1 fun s _ _=>?_
 refine zah (N:=6) hm (G:=G) hA1 86000 (lst []) zGr Tryd.func86 rfl rfl (by simp) (by kernel_rfl) ?_
 repeat'(first|refine rq fun _=>?_|simp only[go_sem,Tryd.f86])
theorem zwh {a b:Str}(h:a.l<b.l):zkN a b= -1:=by unfold zkN;rw[if_pos h]
theorem zwg {a b:Str}(h:¬a.l<b.l)(h2:b.l<a.l):zkN a b=1:=by unfold zkN;rw[if_neg h,if_pos h2]
theorem zwf {a b:Str}(h:¬a.l<b.l)(h2:¬b.l<a.l):zkN a b=0:=by unfold zkN;rw[if_neg h,if_neg h2]
def A3:Tbl:=A2.add 71 (sp2 zkN fun _ _=>True)
attribute [go_sem] A3
theorem hA3:zan Tryd.prog G A3:=by
 refine zbq zB5 hA2 fun a b _ _ _=>?_
 by_cases h:a.l<b.l
 ·have e:=zwh h
  have h':Op.bytesLess a.l b.l=true:=by rw[za6];exact decide_eq_true h
  rw[e]
  refine zah (N:=20) hm (G:=G) hA2 71000 (lst []) zB5 Tryd.func71 rfl rfl (by simp) (by kernel_rfl) ?_
  repeat'(first|refine rq fun _=>?_|simp only[go_sem,h',Tryd.f71])
 ·have h':Op.bytesLess a.l b.l=false:=by rw[za6];exact decide_eq_false h
  by_cases h2:b.l<a.l
  ·have e:=zwg h h2
   have h2':(a.l==b.l)=false:=by simpa using fun e=>h (absurd h2 (by rw[e];exact zcu _))
   rw[e]
   refine zah (N:=20) hm (G:=G) hA2 71000 (lst []) zB5 Tryd.func71 rfl rfl (by simp) (by kernel_rfl) ?_
   repeat'(first|refine rq fun _=>?_|simp only[go_sem,h',h2',Tryd.f71])
  ·have e:=zwf h h2
   have h2':(a.l==b.l)=true:=by
    rcases zsU a.l b.l with h3|h3|h3
    ·exact absurd h3 h
    ·simpa using h3
    ·exact absurd h3 h2
   rw[e]
   refine zah (N:=20) hm (G:=G) hA2 71000 (lst []) zB5 Tryd.func71 rfl rfl (by simp) (by kernel_rfl) ?_
   repeat'(first|refine rq fun _=>?_|simp only[go_sem,h',h2',Tryd.f71])
def A4:Tbl:=A3.add 72 (sp2 zjS fun _ _=>True)
attribute [go_sem] A4
theorem hA4:zan Tryd.prog G A4:=by
 refine zbq zB6 hA3 fun a b _ _ _=>?_
 have hc:(a<b∧zjS a b= -1)∨(b<a∧¬a<b∧zjS a b=1)∨(¬a<b∧¬b<a∧zjS a b=0):=by
  unfold zjS;split
  ·omega
  ·split<;>omega
 rcases hc with⟨h,e⟩|⟨h2,h,e⟩|⟨h,h2,e⟩
 ·rw[e]
  refine zah (N:=20) hm (G:=G) hA3 72000 (lst []) zB6 Tryd.func72 rfl rfl (by simp) (by kernel_rfl) ?_
  repeat'(first|refine rq fun _=>?_|simp only[go_sem,h,Tryd.f72])
 ·rw[e]
  refine zah (N:=20) hm (G:=G) hA3 72000 (lst []) zB6 Tryd.func72 rfl rfl (by simp) (by kernel_rfl) ?_
  repeat'(first|refine rq fun _=>?_|simp only[go_sem,h,h2,Tryd.f72])
 ·rw[e]
  refine zah (N:=20) hm (G:=G) hA3 72000 (lst []) zB6 Tryd.func72 rfl rfl (by simp) (by kernel_rfl) ?_
  repeat'(first|refine rq fun _=>?_|simp only[go_sem,h,h2,Tryd.f72])
def orM:List Int→Int
 |[]=>0
 |a::l=>if a≠0 then a else orM l
theorem zAo {l:List Int}{i:Nat}(h:i<l.length)(h2:∀j (hj:j<l.length),j<i→l[j]=0)(h3:l[i]≠0):orM l=l[i]:=by
 induction l generalizing i with
 |nil=>simp at h
 |cons a l ih=>
  cases i with
  |zero=>rw[orM];simp only[List.getElem_cons_zero]at h3 ⊢;rw[if_pos h3]
  |succ i=>
   have h0:=h2 0 (by simp) (by omega)
   simp only[List.getElem_cons_zero]at h0
   rw[orM,if_neg (by simp[h0])]
   simp only[List.getElem_cons_succ]at h3 ⊢
   exact ih (by simpa using h) (fun j hj hji=>by have:=h2 (j+1) (by simpa using hj) (by omega);simpa using this) h3
theorem zuI {l:List Int}(h2:∀j (hj:j<l.length),l[j]=0):orM l=0:=by
 induction l with
 |nil=>rfl
 |cons a l ih=>
  have h0:=h2 0 (by simp)
  simp only[List.getElem_cons_zero]at h0
  rw[orM,if_neg (by simp[h0])]
  exact ih fun j hj=>by have:=h2 (j+1) (by simpa using hj);simpa using this
def A5:Tbl:=A4.add 70 (sp1 orM fun _=>True)
attribute [go_sem] A5
theorem hA5:zan Tryd.prog G A5:=by
 refine zb4 zGj hA4 fun l _ hw=>?_
 have la:=zbV hw
 simp only[List.length_map,zba]at la
 obtain⟨r,hr⟩:∃r,orM l=r:=⟨_,rfl⟩
 have h1:∀i (h:i<l.length),(∀j (hj:j<l.length),j<i→l[j]=0)→l[i]≠0→l[i]=r:=fun i h a b=>by rw[←hr,zAo h a b]
 have h2:(∀j (hj:j<l.length),l[j]=0)→r=0:=fun h=>by rw[←hr,zuI h]
 have k1:=Kp.mk h1
 have k2:=Kp.mk h2
 rw[hr]
 clear h1 h2 hr
 refine zah (N:=18) hm (G:=G) hA4 70000 (lst []) zGj Tryd.func70 rfl rfl (by simp) (by kernel_rfl) ?_
 repeat'(first|refine rq fun _=>?_|simp only[go_sem,Tryd.f70])
 refine zai hm (G:=G) hA4 70000 (lst []) (ι:=za5 l.length fun i=>∀j (hj:j<l.length),j<i→l[j]=0)
  ⟨fun q=>⟨frL [(3,.fz (.i .i64 0)),(6,.fz (.sl (l.map enc))),(7,.fz (.i .i64 l.length)),(8,.fz (.i .i64 q.i))],hpL [],0⟩,fun q=>l.length-q.i⟩
  ⟨0,by omega,fun j hj h=>by omega⟩ (by kernel_rfl) ?_ ?_
 ·refine zag ?_ ?_ ?_<;>simp only[go_sem]
 rintro⟨i,hi,hp⟩
 try simp only at hi
 rcases Nat.lt_or_ge i l.length with h|h
 ·obtain⟨x,hx⟩:∃x,l[i]=x:=⟨_,rfl⟩
  by_cases h0:x=0
  ·have hp2:∀j (hj:j<l.length),j<i+1→l[j]=0:=fun j hj h3=>by
    rcases Nat.lt_or_ge j i with h4|h4
    ·exact hp j hj h4
    ·obtain rfl:j=i:=by omega
     rw[hx,h0]
   have kp:=Kp.mk hp2
   clear hp2
   repeat'(first|refine rq fun _=>?_|simp only[go_sem,h,hx,h0,zaa,Tryd.f70])
   refine⟨⟨i+1,by omega,kp.out⟩,by simp only;omega,?_⟩
   refine zag ?_ ?_ ?_<;>simp only[go_sem]
  ·have e:=k1.out i h hp (by rw[hx];exact h0)
   rw[hx]at e
   subst e
   clear k1 k2
   repeat'(first|refine rq fun _=>?_|simp only[go_sem,h,hx,h0,zaa,Tryd.f70])
 ·obtain rfl:i=l.length:=by omega
  have e:=k2.out fun j hj=>hp j hj hj
  subst e
  repeat'(first|refine rq fun _=>?_|simp only[go_sem,Nat.lt_irrefl,Tryd.f70])
theorem zxe {a b:Int}:orM [a,b]=if a≠0 then a else b:=by
 rw[orM,orM,orM]
 split
 ·rfl
 ·split
  ·rfl
  ·rename_i h;exact(Decidable.not_not.1 h).symm
theorem zwe (a b:zdq):orM [zkN a.name b.name,zjS a.arity b.arity]=zoe a b:=by rw[zxe];rfl
def A6:Tbl:=A5.add 46 (sp2 zoe fun _ _=>True)
attribute [go_sem] A6
theorem hA6:zan Tryd.prog G A6:=by
 refine zbq zF6 hA5 fun a b _ _ _=>?_
 have e:=zwe a b
 refine zah (N:=17) hm (G:=G) hA5 46000 (lst []) zF6 Tryd.func46 rfl rfl (by simp) (by kernel_rfl) ?_
 repeat'(first|refine rq fun _=>?_|simp only[go_sem,e,zac,Tryd.f46])
end
end Go.Proofs.YtkkffhphodngkaaDoor
namespace Go.Abs
open Go
theorem zrs {a b:List Int}{i:Nat}(h:i<a.length)(h2:i<b.length):zc9 (a.drop i) (b.drop i)=if zjS a[i] b[i]≠0 then zjS a[i] b[i]else zc9 (a.drop (i+1)) (b.drop (i+1)):=by
 rw[List.drop_eq_getElem_cons h,List.drop_eq_getElem_cons h2,zc9]
theorem zrr {a b:List Int}{i:Nat}(h:i<a.length)(h2:b.length≤i):zc9 (a.drop i) (b.drop i)=1:=by
 rw[List.drop_eq_getElem_cons h,List.drop_of_length_le h2,zc9]
theorem ztL {a b:List Int}{i:Nat}(h:a.length≤i):zc9 (a.drop i) (b.drop i)=if i<b.length then-1 else 0:=by
 rw[List.drop_of_length_le h]
 split
 ·rename_i h2;rw[List.drop_eq_getElem_cons h2,zc9]
 ·rename_i h2;rw[List.drop_of_length_le (by omega),zc9]
def bsI {α:Type}(c:α→Int)(l:List α):Nat:=(l.filter fun x=>decide (c x<0)).length
def bsB {α:Type}[Inhabited α](c:α→Int)(l:List α):Bool:=decide (bsI c l<l.length)&&decide (c (l.getD (bsI c l) default)=0)
def znG {α:Type}(c:α→Int)(l:List α):Prop:=∀i j (hi:i<l.length) (hj:j<l.length),i<j→c l[j]≤0→c l[i]<0
theorem znZ {α:Type}{c:α→Int}{l:List α}{i:Nat}(hi:i≤l.length)(h1:∀j (h:j<l.length),j<i→c l[j]<0)(h2:∀j (h:j<l.length),i≤j→0≤c l[j]):bsI c l=i:=
 zjg _ l i hi (fun j h hji=>decide_eq_true (h1 j h hji)) (fun j h hij=>decide_eq_false (by have:=h2 j h hij;omega))
theorem znh {α:Type}[Inhabited α]{c:α→Int}{l:List α}(hs:znG c l):l.find? (fun x=>decide (c x=0))=if bsB c l then some (l.getD (bsI c l) default)else none:=by
 cases hf:l.find? (fun x=>decide (c x=0))with
 |none=>
  rw[List.find?_eq_none]at hf
  have:bsB c l=false:=by
   unfold bsB
   by_cases h:bsI c l<l.length
   ·have:=hf _ (List.getElem_mem h)
    rw[List.getD_eq_getElem?_getD,List.getElem?_eq_getElem h]
    simp only[Option.getD_some]
    simp only[decide_eq_true_eq]at this
    simp[this]
   ·simp[h]
  rw[this];rfl
 |some x=>
  obtain⟨hx,xs,bs,rfl,hb⟩:=List.find?_eq_some_iff_append.1 hf
  have hx:=of_decide_eq_true hx
  have hi:bsI c (xs++x::bs)=xs.length:=by
   refine znZ (by simp) (fun j h hj=>?_) (fun j h hj=>?_)
   ·refine hs j xs.length h (by simp) hj ?_
    rw[List.getElem_append_right (Nat.le_refl _)]
    simp only[Nat.sub_self,List.getElem_cons_zero]
    omega
   ·rcases(show c (xs++x::bs)[j]<0∨0≤c (xs++x::bs)[j] by omega)with h3|h3
    ·rcases Nat.eq_or_lt_of_le hj with rfl|h4
     ·rw[List.getElem_append_right (Nat.le_refl _)]at h3 ⊢
      simp only[Nat.sub_self,List.getElem_cons_zero]at h3 ⊢
      omega
     ·have:=hs xs.length j (by simp) h h4 (by omega)
      rw[List.getElem_append_right (Nat.le_refl _)]at this
      simp only[Nat.sub_self,List.getElem_cons_zero]at this
      omega
    ·omega
  have hg:(xs++x::bs).getD xs.length default=x:=by
   rw[List.getD_eq_getElem?_getD,List.getElem?_append_right (Nat.le_refl _)];simp
  unfold bsB
  rw[hi,hg]
  simp[hx]
end Go.Abs
namespace Go.Proofs.YtkkffhphodngkaaDoor
open Go Go.Abs Go.Proofs
section
variable {G:Nat→List FD}
def A7:Tbl:=A6.add 47 (sp2 zc9 fun _ _=>True)
attribute [go_sem] A7
theorem hA7:zan Tryd.prog G A7:=by
 refine zbq zF7 hA6 fun a b _ hwa hwb=>?_
 have la:=zbV hwa
 have lb:=zbV hwb
 simp only[List.length_map,zba]at la lb
 obtain⟨C,hC⟩:∃C:Nat→Int,C=fun i=>zc9 (a.drop i) (b.drop i):=⟨_,rfl⟩
 have h0:zc9 a b=C 0:=by rw[hC];rfl
 have h1:∀i (h:i<a.length) (h2:i<b.length),C i=if zjS a[i] b[i]≠0 then zjS a[i] b[i]else C (i+1):=fun i h h2=>by rw[hC];exact zrs h h2
 have h2:∀i (h:i<a.length),b.length≤i→C i=1:=fun i h h2=>by rw[hC];exact zrr h h2
 have h3:C a.length=if a.length<b.length then-1 else 0:=by rw[hC];exact ztL (Nat.le_refl _)
 rw[h0]
 obtain⟨r,hr⟩:∃r,C 0=r:=⟨_,rfl⟩
 rw[hr]
 have k1:=Kp.mk h1
 have k2:=Kp.mk h2
 have k3:=Kp.mk h3
 clear h0 h1 h2 h3 hC
 refine zah (N:=36) hm (G:=G) hA6 47000 (lst []) zF7 Tryd.func47 rfl rfl (by simp) (by kernel_rfl) ?_
 repeat'(first|refine rq fun _=>?_|simp only[go_sem,Tryd.f47])
 refine zai hm (G:=G) hA6 47000 (lst []) (ι:=za5 a.length fun i=>C i=r)
  ⟨fun q=>⟨frL [(0,.fz (.sl (a.map enc))),(1,.fz (.sl (b.map enc))),(9,.fz (.sl (a.map enc))),(10,.fz (.i .i64 a.length)),(11,.fz (.i .i64 q.i))],hpL [],0⟩,fun q=>a.length-q.i⟩
  ⟨0,by omega,hr⟩ (by kernel_rfl) ?_ ?_
 ·refine zag ?_ ?_ ?_<;>simp only[go_sem]
 rintro⟨i,hi,hp⟩
 try simp only at hi hp
 rcases Nat.lt_or_ge i a.length with h|h
 ·rcases Nat.lt_or_ge i b.length with h2|h2
  ·have e:=k1.out i h h2
   have hb':(b.length≤i)=False:=eq_false (by omega)
   obtain⟨x,hx⟩:∃x,a[i]=x:=⟨_,rfl⟩
   obtain⟨y,hy⟩:∃y,b[i]=y:=⟨_,rfl⟩
   rw[hx,hy,hp]at e
   by_cases hc:zjS x y=0
   ·rw[if_neg (by simp[hc])]at e
    repeat'(first|refine rq fun _=>?_|simp only[go_sem,h,h2,hb',hx,hy,hc,zaa,Tryd.f47])
    refine⟨⟨i+1,by omega,e.symm⟩,by simp only;omega,?_⟩
    refine zag ?_ ?_ ?_<;>simp only[go_sem]
   ·rw[if_pos hc]at e
    subst e
    repeat'(first|refine rq fun _=>?_|simp only[go_sem,h,h2,hb',hx,hy,hc,zaa,Tryd.f47])
  ·have e:=k2.out i h h2
   have e2:r=1:=by rw[←hp,e]
   have h2':(b.length≤i)=True:=eq_true h2
   subst e2
   repeat'(first|refine rq fun _=>?_|simp only[go_sem,h,h2,h2',zaa,Tryd.f47])
 ·obtain rfl:i=a.length:=by omega
  have e:=k3.out
  rw[hp]at e
  by_cases hl:a.length<b.length
  ·rw[if_pos hl]at e
   subst e
   have hl':((a.length:Int)<(b.length:Int))=True:=eq_true (by omega)
   repeat'(first|refine rq fun _=>?_|simp only[go_sem,Nat.lt_irrefl,hl,hl',Tryd.f47])
  ·rw[if_neg hl]at e
   subst e
   have hl':((a.length:Int)<(b.length:Int))=False:=eq_false (by omega)
   repeat'(first|refine rq fun _=>?_|simp only[go_sem,Nat.lt_irrefl,hl,hl',Tryd.f47])
def zjV (s:Str)(c:zaF):Int:=zkN c.name s
def A8:Tbl:=A7.add 79 (sp2 (fun(c:zaF) (s:Str)=>zjV s c) fun _ _=>True)
attribute [go_sem] A8
theorem hA8:zan Tryd.prog G A8:=by
 refine zbq zGo hA7 fun a b _ _ _=>?_
 have e:zkN a.name b=zjV b a:=rfl
 refine zah (N:=9) hm (G:=G) hA7 79000 (lst []) zGo Tryd.func79 rfl rfl (by simp) (by kernel_rfl) ?_
 repeat'(first|refine rq fun _=>?_|simp only[go_sem,e,zac,Tryd.f79])
structure BsI (n:Nat)(p:Nat→Prop)(q:Nat→Prop) where
 i:Nat
 j:Nat
 hij:i≤j
 hj:j≤n
 hp:p i
 hq:q j
theorem zv9 {l:List zaF}{s:Str}(hw:(enc l).Wf)(_hws:(enc s).Wf)(hs:znG (zjV s) l):zay Tryd.prog G 78 [.fz (enc l),.fz (enc s),.fn 79 []] (hpL []) 0
  (fun d _ _=>D.val d=some (.tup [.fz (.i .i64 (bsI (zjV s) l)),.fz (.b (bsB (zjV s) l))])):=by
 have la:=zbV hw
 simp only[List.length_map,zba]at la
 have hI:=@znZ zaF (zjV s) l
 have hm1:∀h (hh:h<l.length),zjV s l[h]<0→∀j (hj:j<l.length),j<h+1→zjV s l[j]<0:=fun h hh h2 j hj h3=>by
  rcases Nat.eq_or_lt_of_le (Nat.le_of_lt_succ h3)with rfl|h4
  ·exact h2
  ·exact hs j h hj hh h4 (by omega)
 have hm2:∀h (hh:h<l.length),¬zjV s l[h]<0→∀j (hj:j<l.length),h≤j→0≤zjV s l[j]:=fun h hh h2 j hj h3=>by
  rcases Nat.eq_or_lt_of_le h3 with rfl|h4
  ·omega
  ·refine Decidable.byContradiction fun h5=>h2 (hs h j hh hj h4 (by omega))
 have k1:=Kp.mk hm1
 have k2:=Kp.mk hm2
 have kI:=Kp.mk @hI
 clear hm1 hm2 hI hs
 refine zah (N:=49) hm (G:=G) hA8 78000 (lst []) zHO Tryd.func78 rfl rfl (by simp) (by kernel_rfl) ?_
 repeat'(first|refine rq fun _=>?_|simp only[go_sem,Tryd.f78])
 refine zai hm (G:=G) hA8 78000 (lst []) (ι:=BsI l.length (fun i=>∀j (hj:j<l.length),j<i→zjV s l[j]<0) fun i=>∀j (hj:j<l.length),i≤j→0≤zjV s l[j])
  ⟨fun q=>⟨frL [(0,.fz (.sl (l.map enc))),(1,.fz (.s s.l)),(2,.fn 79 []),(8,.fz (.i .i64 l.length)),(9,.fz (.i .i64 q.i)),(10,.fz (.i .i64 q.j))],hpL [],0⟩,fun q=>q.j-q.i⟩
  ⟨0,l.length,by omega,by omega,fun j hj h=>by omega,fun j hj h=>by omega⟩ (by kernel_rfl) ?_ ?_
 ·refine zag ?_ ?_ ?_<;>simp only[go_sem]
 rintro⟨i,j,hij,hj,hp,hq⟩
 try simp only at hij hj
 rcases Nat.lt_or_ge i j with h|h
 ·have h':((i:Int)<(j:Int))=True:=eq_true (by omega)
  repeat'(first|refine rq fun _=>?_|simp only[go_sem,h,h',Tryd.f78])
  obtain⟨H,hH⟩:∃H:Nat,(i+j) / 2=H:=⟨_,rfl⟩
  have hmid:(((i:Int)+(j:Int)) / 2^1)=(H:Int):=by omega
  have hl:H<l.length:=by omega
  refine zaB.i ⟨by show(0:Int)≤_;omega,by show _≤(18446744073709551615:Int);omega⟩ fun _=>?_
  have k3:=k1.out H hl
  have k4:=k2.out H hl
  obtain⟨x,hx⟩:∃x,l[H]=x:=⟨_,rfl⟩
  rw[hx]at k3 k4
  by_cases hc:zjV s x<0
  ·have hn:=k3 hc
   have kn:=Kp.mk hn
   clear k3 k4 hn
   repeat'(first|refine rq fun _=>?_|simp only[go_sem,hmid,hl,hx,hc,zac,zat,zaa,Tryd.f78])
   refine⟨⟨H+1,j,by omega,by omega,kn.out,hq⟩,by simp only;omega,?_⟩
   refine zag ?_ ?_ ?_<;>simp only[go_sem]
  ·have hn:=k4 hc
   have kn:=Kp.mk hn
   clear k3 k4 hn
   repeat'(first|refine rq fun _=>?_|simp only[go_sem,hmid,hl,hx,hc,zac,zat,zaa,Tryd.f78])
   refine⟨⟨i,H,by omega,by omega,hp,kn.out⟩,by simp only;omega,?_⟩
   refine zag ?_ ?_ ?_<;>simp only[go_sem]
 ·obtain rfl:i=j:=by omega
  have hbi:=kI.out hj hp hq
  have hbb:bsB (zjV s) l=(decide (i<l.length)&&decide (zjV s (l.getD i default)=0)):=by unfold bsB;rw[hbi]
  rw[hbi,hbb]
  clear hbi hbb
  rcases Nat.lt_or_ge i l.length with h1|h1
  ·obtain⟨x,hx⟩:∃x,l[i]=x:=⟨_,rfl⟩
   have hg:l.getD i default=x:=by rw[List.getD_eq_getElem?_getD,List.getElem?_eq_getElem h1,←hx];rfl
   have h1':((i:Int)<(l.length:Int))=True:=eq_true (by omega)
   rw[hg]
   repeat'(first|refine rq fun _=>?_|simp only[go_sem,Nat.lt_irrefl,h1,h1',hx,zac,zat,zaa,Tryd.f78])
  ·have h1':((i:Int)<(l.length:Int))=False:=eq_false (by omega)
   have h1n:(i<l.length)=False:=eq_false (by omega)
   repeat'(first|refine rq fun _=>?_|simp only[go_sem,Nat.lt_irrefl,h1n,h1',zac,zat,zaa,Tryd.f78])
end
end Go.Proofs.YtkkffhphodngkaaDoor
namespace Go.Abs
open Go
def zAy {α:Type}(lt:α→α→Prop)(l:List α):Prop:=∀i j (hi:i<l.length) (hj:j<l.length),i<j→lt l[i] l[j]
def okC (l:List zaF):Prop:=zAy (fun a b=>a.name.l<b.name.l) l
def okR (l:List zdq):Prop:=zAy ltR l
theorem zoJ {l:List zaF}(h:okC l)(s:Str):znG (fun c=>zkN c.name s) l:=fun i j hi hj hij h2=>by
 have h1:=h i j hi hj hij
 rw[zjU]
 rcases Int.lt_or_eq_of_le h2 with h3|h3
 ·exact zdC h1 (zjU.1 h3)
 ·rw[←zdS.1 h3];exact h1
theorem zoK {l:List zdq}(h:okR l)(s:zdq):znG (fun r=>zoe r s) l:=fun i j hi hj hij h2=>by
 have h1:=h i j hi hj hij
 show zoe _ _<0
 rw[zjT]
 rcases Int.lt_or_eq_of_le h2 with h3|h3
 ·exact zlT h1 (zjT.1 h3)
 ·obtain⟨e1,e2⟩:=zk4.1 h3
  rcases h1 with h4|⟨h4,h5⟩
  ·exact .inl (by rw[←e1];exact h4)
  ·exact .inr ⟨h4.trans e1,by omega⟩
instance:Inhabited (List Int):=⟨[]⟩
end Go.Abs
namespace Go.Proofs.YtkkffhphodngkaaDoor
open Go Go.Abs Go.Proofs
section
variable {G:Nat→List FD}
def zep (s:zdq)(r:zdq):Int:=zoe r s
def zmu (s:List Int)(t:List Int):Int:=zc9 t s
theorem zCz {l:List zdq}{s:zdq}(hw:(enc l).Wf)(_hws:(enc s).Wf)(hs:znG (zep s) l):zay Tryd.prog G 80 [.fz (enc l),.fz (enc s),.fn 46 []] (hpL []) 0
  (fun d _ _=>D.val d=some (.tup [.fz (.i .i64 (bsI (zep s) l)),.fz (.b (bsB (zep s) l))])):=by
 have la:=zbV hw
 simp only[List.length_map,zba]at la
 have hI:=@znZ zdq (zep s) l
 have hm1:∀h (hh:h<l.length),zep s l[h]<0→∀j (hj:j<l.length),j<h+1→zep s l[j]<0:=fun h hh h2 j hj h3=>by
  rcases Nat.eq_or_lt_of_le (Nat.le_of_lt_succ h3)with rfl|h4
  ·exact h2
  ·exact hs j h hj hh h4 (by omega)
 have hm2:∀h (hh:h<l.length),¬zep s l[h]<0→∀j (hj:j<l.length),h≤j→0≤zep s l[j]:=fun h hh h2 j hj h3=>by
  rcases Nat.eq_or_lt_of_le h3 with rfl|h4
  ·omega
  ·refine Decidable.byContradiction fun h5=>h2 (hs h j hh hj h4 (by omega))
 have k1:=Kp.mk hm1
 have k2:=Kp.mk hm2
 have kI:=Kp.mk @hI
 have hcu:∀x,zoe x s=zep s x:=fun _=>rfl
 clear hm1 hm2 hI hs
 refine zah (N:=49) hm (G:=G) hA8 80000 (lst []) zHP Tryd.func80 rfl rfl (by simp) (by kernel_rfl) ?_
 repeat'(first|refine rq fun _=>?_|simp only[go_sem,Tryd.f80])
 refine zai hm (G:=G) hA8 80000 (lst []) (ι:=BsI l.length (fun i=>∀j (hj:j<l.length),j<i→zep s l[j]<0) fun i=>∀j (hj:j<l.length),i≤j→0≤zep s l[j])
  ⟨fun q=>⟨frL [(0,.fz (.sl (l.map enc))),(4,.ptr (80004,0) 0),(2,.fn 46 []),(8,.fz (.i .i64 l.length)),(9,.fz (.i .i64 q.i)),(10,.fz (.i .i64 q.j))],hpL [((80004,0),some ⟨[.fz (.s s.name.l),.fz (.i .i64 s.arity),.fz (.sl (s.tuples.map enc))],true,false⟩)],1⟩,fun q=>q.j-q.i⟩
  ⟨0,l.length,by omega,by omega,fun j hj h=>by omega,fun j hj h=>by omega⟩ (by kernel_rfl) ?_ ?_
 ·refine zag ?_ ?_ ?_<;>simp only[go_sem]
 rintro⟨i,j,hij,hj,hp,hq⟩
 try simp only at hij hj
 rcases Nat.lt_or_ge i j with h|h
 ·have h':((i:Int)<(j:Int))=True:=eq_true (by omega)
  repeat'(first|refine rq fun _=>?_|simp only[go_sem,h,h',Tryd.f80])
  obtain⟨H,hH⟩:∃H:Nat,(i+j) / 2=H:=⟨_,rfl⟩
  have hmid:(((i:Int)+(j:Int)) / 2^1)=(H:Int):=by omega
  have hl:H<l.length:=by omega
  refine zaB.i ⟨by show(0:Int)≤_;omega,by show _≤(18446744073709551615:Int);omega⟩ fun _=>?_
  have k3:=k1.out H hl
  have k4:=k2.out H hl
  obtain⟨x,hx⟩:∃x,l[H]=x:=⟨_,rfl⟩
  rw[hx]at k3 k4
  by_cases hc:zep s x<0
  ·have hn:=k3 hc
   have kn:=Kp.mk hn
   clear k3 k4 hn
   repeat'(first|refine rq fun _=>?_|simp only[go_sem,hmid,hl,hx,hc,hcu,zac,zaq,zaa,Tryd.f80])
   refine⟨⟨H+1,j,by omega,by omega,kn.out,hq⟩,by simp only;omega,?_⟩
   refine zag ?_ ?_ ?_<;>simp only[go_sem]
  ·have hn:=k4 hc
   have kn:=Kp.mk hn
   clear k3 k4 hn
   repeat'(first|refine rq fun _=>?_|simp only[go_sem,hmid,hl,hx,hc,hcu,zac,zaq,zaa,Tryd.f80])
   refine⟨⟨i,H,by omega,by omega,hp,kn.out⟩,by simp only;omega,?_⟩
   refine zag ?_ ?_ ?_<;>simp only[go_sem]
 ·obtain rfl:i=j:=by omega
  have hbi:=kI.out hj hp hq
  have hbb:bsB (zep s) l=(decide (i<l.length)&&decide (zep s (l.getD i default)=0)):=by unfold bsB;rw[hbi]
  rw[hbi,hbb]
  clear hbi hbb
  rcases Nat.lt_or_ge i l.length with h1|h1
  ·obtain⟨x,hx⟩:∃x,l[i]=x:=⟨_,rfl⟩
   have hg:l.getD i default=x:=by rw[List.getD_eq_getElem?_getD,List.getElem?_eq_getElem h1,←hx];rfl
   have h1':((i:Int)<(l.length:Int))=True:=eq_true (by omega)
   rw[hg]
   repeat'(first|refine rq fun _=>?_|simp only[go_sem,Nat.lt_irrefl,h1,h1',hx,hcu,zac,zaq,zaa,Tryd.f80])
  ·have h1':((i:Int)<(l.length:Int))=False:=eq_false (by omega)
   have h1n:(i<l.length)=False:=eq_false (by omega)
   repeat'(first|refine rq fun _=>?_|simp only[go_sem,Nat.lt_irrefl,h1n,h1',hcu,zac,zaq,zaa,Tryd.f80])
theorem zCA {l:List (List Int)}{s:(List Int)}(hw:(enc l).Wf)(_hws:(enc s).Wf)(hs:znG (zmu s) l):zay Tryd.prog G 54 [.fz (enc l),.fz (enc s),.fn 47 []] (hpL []) 0
  (fun d _ _=>D.val d=some (.tup [.fz (.i .i64 (bsI (zmu s) l)),.fz (.b (bsB (zmu s) l))])):=by
 have la:=zbV hw
 simp only[List.length_map,zba]at la
 have hI:=@znZ (List Int) (zmu s) l
 have hm1:∀h (hh:h<l.length),zmu s l[h]<0→∀j (hj:j<l.length),j<h+1→zmu s l[j]<0:=fun h hh h2 j hj h3=>by
  rcases Nat.eq_or_lt_of_le (Nat.le_of_lt_succ h3)with rfl|h4
  ·exact h2
  ·exact hs j h hj hh h4 (by omega)
 have hm2:∀h (hh:h<l.length),¬zmu s l[h]<0→∀j (hj:j<l.length),h≤j→0≤zmu s l[j]:=fun h hh h2 j hj h3=>by
  rcases Nat.eq_or_lt_of_le h3 with rfl|h4
  ·omega
  ·refine Decidable.byContradiction fun h5=>h2 (hs h j hh hj h4 (by omega))
 have k1:=Kp.mk hm1
 have k2:=Kp.mk hm2
 have kI:=Kp.mk @hI
 have hcu:∀x,zc9 x s=zmu s x:=fun _=>rfl
 clear hm1 hm2 hI hs
 refine zah (N:=49) hm (G:=G) hA8 54000 (lst []) zHJ Tryd.func54 rfl rfl (by simp) (by kernel_rfl) ?_
 repeat'(first|refine rq fun _=>?_|simp only[go_sem,Tryd.f54])
 refine zai hm (G:=G) hA8 54000 (lst []) (ι:=BsI l.length (fun i=>∀j (hj:j<l.length),j<i→zmu s l[j]<0) fun i=>∀j (hj:j<l.length),i≤j→0≤zmu s l[j])
  ⟨fun q=>⟨frL [(0,.fz (.sl (l.map enc))),(1,.fz (.sl (s.map enc))),(2,.fn 47 []),(8,.fz (.i .i64 l.length)),(9,.fz (.i .i64 q.i)),(10,.fz (.i .i64 q.j))],hpL [],0⟩,fun q=>q.j-q.i⟩
  ⟨0,l.length,by omega,by omega,fun j hj h=>by omega,fun j hj h=>by omega⟩ (by kernel_rfl) ?_ ?_
 ·refine zag ?_ ?_ ?_<;>simp only[go_sem]
 rintro⟨i,j,hij,hj,hp,hq⟩
 try simp only at hij hj
 rcases Nat.lt_or_ge i j with h|h
 ·have h':((i:Int)<(j:Int))=True:=eq_true (by omega)
  repeat'(first|refine rq fun _=>?_|simp only[go_sem,h,h',Tryd.f54])
  obtain⟨H,hH⟩:∃H:Nat,(i+j) / 2=H:=⟨_,rfl⟩
  have hmid:(((i:Int)+(j:Int)) / 2^1)=(H:Int):=by omega
  have hl:H<l.length:=by omega
  refine zaB.i ⟨by show(0:Int)≤_;omega,by show _≤(18446744073709551615:Int);omega⟩ fun _=>?_
  have k3:=k1.out H hl
  have k4:=k2.out H hl
  obtain⟨x,hx⟩:∃x,l[H]=x:=⟨_,rfl⟩
  rw[hx]at k3 k4
  by_cases hc:zmu s x<0
  ·have hn:=k3 hc
   have kn:=Kp.mk hn
   clear k3 k4 hn
   repeat'(first|refine rq fun _=>?_|simp only[go_sem,hmid,hl,hx,hc,hcu,zac,zaa,Tryd.f54])
   refine⟨⟨H+1,j,by omega,by omega,kn.out,hq⟩,by simp only;omega,?_⟩
   refine zag ?_ ?_ ?_<;>simp only[go_sem]
  ·have hn:=k4 hc
   have kn:=Kp.mk hn
   clear k3 k4 hn
   repeat'(first|refine rq fun _=>?_|simp only[go_sem,hmid,hl,hx,hc,hcu,zac,zaa,Tryd.f54])
   refine⟨⟨i,H,by omega,by omega,hp,kn.out⟩,by simp only;omega,?_⟩
   refine zag ?_ ?_ ?_<;>simp only[go_sem]
 ·obtain rfl:i=j:=by omega
  have hbi:=kI.out hj hp hq
  have hbb:bsB (zmu s) l=(decide (i<l.length)&&decide (zmu s (l.getD i default)=0)):=by unfold bsB;rw[hbi]
  rw[hbi,hbb]
  clear hbi hbb
  rcases Nat.lt_or_ge i l.length with h1|h1
  ·obtain⟨x,hx⟩:∃x,l[i]=x:=⟨_,rfl⟩
   have hg:l.getD i default=x:=by rw[List.getD_eq_getElem?_getD,List.getElem?_eq_getElem h1,←hx];rfl
   have h1':((i:Int)<(l.length:Int))=True:=eq_true (by omega)
   rw[hg]
   repeat'(first|refine rq fun _=>?_|simp only[go_sem,Nat.lt_irrefl,h1,h1',hx,hcu,zac,zaa,Tryd.f54])
  ·have h1':((i:Int)<(l.length:Int))=False:=eq_false (by omega)
   have h1n:(i<l.length)=False:=eq_false (by omega)
   repeat'(first|refine rq fun _=>?_|simp only[go_sem,Nat.lt_irrefl,h1n,h1',hcu,zac,zaa,Tryd.f54])
def zgW (m:zal)(w:Str):Int×Bool:=(zfb m w,(zct m w).isSome)
theorem zuh {m:zal}(h:okC m.consts)(w:Str):zct m w=if bsB (zjV w) m.consts then some (m.consts.getD (bsI (zjV w) m.consts) default)else none:=by
 have:=znh (zoJ h w)
 unfold zct
 rw[show(fun c:zaF=>decide (c.name=w))=fun c=>decide (zkN c.name w=0)from funext fun c=>decide_eq_decide.2 zdS.symm,this]
 rfl
theorem zvo {α:Type}[Inhabited α]{c:α→Int}{l:List α}(h:bsB c l=true):bsI c l<l.length:=by
 unfold bsB at h
 simp only[Bool.and_eq_true,decide_eq_true_eq]at h
 exact h.1
def A9:Tbl:=A8.add 50 (zxv zgW fun m _=>okC m.consts)
attribute [go_sem] A9
theorem hA9:zan Tryd.prog G A9:=by
 refine zkH zEa hA8 fun m w hok hwm hww=>?_
 have hwl:(enc m.consts).Wf:=za9 (by have h:=hwm;rw[zb0]at h;exact h) (FD.sl (m.consts.map enc)) (by simp)
 have hbs:=zv9 (G:=G) hwl hww (zoJ hok w)
 have hf:=zuh hok w
 obtain⟨I,hI⟩:∃I,bsI (zjV w) m.consts=I:=⟨_,rfl⟩
 cases hb:bsB (zjV w) m.consts with
 |true=>
  have hlt:=zvo hb
  rw[hb,if_pos rfl]at hf
  rw[hI]at hf hlt
  obtain⟨x,hx⟩:∃x,m.consts[I]=x:=⟨_,rfl⟩
  have hg:m.consts.getD I default=x:=by rw[List.getD_eq_getElem?_getD,List.getElem?_eq_getElem hlt,←hx];rfl
  rw[hg]at hf
  have e:zgW m w=(x.value,true):=by unfold zgW zfb;rw[hf];rfl
  rw[hb,hI]at hbs
  simp only[e]
  clear hf hg e hwl
  refine zah (N:=23) hm (G:=G) hA8 50000 (lst []) zEa Tryd.func50 rfl rfl (by simp) (by kernel_rfl) ?_
  repeat'(first|refine rq fun _=>?_|simp only[go_sem,Tryd.f50])
  refine zas.i (zaI (zc7 (ds:=[_,_]) rfl hbs) ?_)
  rintro d' H' n1 ⟨rfl,rfl,rfl⟩
  repeat'(first|refine rq fun _=>?_|simp only[go_sem,hlt,hx,zat,zac,zaa,Tryd.f50])
 |false=>
  rw[hb]at hf hbs
  have e:zgW m w=(0,false):=by unfold zgW zfb;rw[hf];rfl
  rw[hI]at hbs
  simp only[e]
  clear hf e hwl
  refine zah (N:=23) hm (G:=G) hA8 50000 (lst []) zEa Tryd.func50 rfl rfl (by simp) (by kernel_rfl) ?_
  repeat'(first|refine rq fun _=>?_|simp only[go_sem,Tryd.f50])
  refine zas.i (zaI (zc7 (ds:=[_,_]) rfl hbs) ?_)
  rintro d' H' n1 ⟨rfl,rfl,rfl⟩
  repeat'(first|refine rq fun _=>?_|simp only[go_sem,zat,zac,zaa,Tryd.f50])
def zqg:zdq:=⟨⟨[]⟩,0,[]⟩
def ziZ (m:zal)(w:Str)(n:Int):zdq×Bool:=match zeH m w n with|some r=>(r,true)|none=>(zqg,false)
theorem zui {m:zal}(h:okR m.rels)(w:Str)(n:Int):zeH m w n=if bsB (zep ⟨w,n,[]⟩) m.rels then some (m.rels.getD (bsI (zep ⟨w,n,[]⟩) m.rels) default)else none:=by
 have:=znh (zoK h ⟨w,n,[]⟩)
 unfold zeH
 rw[show(fun r:zdq=>decide (r.name=w∧r.arity=n))=fun r=>decide (zoe r ⟨w,n,[]⟩=0)from funext fun c=>decide_eq_decide.2 (zk4 (a:=c) (b:=⟨w,n,[]⟩)).symm,this]
 rfl
def A10:Tbl:=A9.add 52 (zAG ziZ fun m _ _=>okR m.rels)
attribute [go_sem] A10
theorem zG1:zan Tryd.prog G A10:=by
 refine zsO zEc hA9 fun m w n hok hwm hww hwn=>?_
 have hwl:(enc m.rels).Wf:=za9 (by have h:=hwm;rw[zb0]at h;exact h) (FD.sl (m.rels.map enc)) (by simp)
 have hwt:(enc (⟨w,n,[]⟩:zdq)).Wf:= .agg _ fun x hx=>by
  simp only[List.mem_cons,List.not_mem_nil,or_false]at hx
  rcases hx with rfl|rfl|rfl
  ·exact hww
  ·exact hwn
  ·exact .sl _ (by simp) (by simp)
 have hbs:=zCz (G:=G) hwl hwt (zoK hok ⟨w,n,[]⟩)
 have hf:=zui hok w n
 obtain⟨I,hI⟩:∃I,bsI (zep ⟨w,n,[]⟩) m.rels=I:=⟨_,rfl⟩
 cases hb:bsB (zep ⟨w,n,[]⟩) m.rels with
 |true=>
  have hlt:=zvo hb
  rw[hb,if_pos rfl]at hf
  rw[hI]at hf hlt
  obtain⟨x,hx⟩:∃x,m.rels[I]=x:=⟨_,rfl⟩
  have hg:m.rels.getD I default=x:=by rw[List.getD_eq_getElem?_getD,List.getElem?_eq_getElem hlt,←hx];rfl
  rw[hg]at hf
  have e:ziZ m w n=(x,true):=by unfold ziZ;rw[hf]
  rw[hb,hI]at hbs
  simp only[e]
  clear hf hg e hwl hwt
  refine zah (N:=27) hm (G:=G) hA9 52000 (lst []) zEc Tryd.func52 rfl rfl (by simp) (by kernel_rfl) ?_
  repeat'(first|refine rq fun _=>?_|simp only[go_sem,Tryd.f52])
  refine zas.i (zaI (zc7 (ds:=[_,_]) rfl hbs) ?_)
  rintro d' H' n1 ⟨rfl,rfl,rfl⟩
  repeat'(first|refine rq fun _=>?_|simp only[go_sem,hlt,hx,zaq,zac,zaa,Tryd.f52])
 |false=>
  rw[hb]at hf hbs
  have e:ziZ m w n=(zqg,false):=by unfold ziZ;rw[hf];rfl
  rw[hI]at hbs
  simp only[e,zqg]
  clear hf e hwl hwt
  refine zah (N:=27) hm (G:=G) hA9 52000 (lst []) zEc Tryd.func52 rfl rfl (by simp) (by kernel_rfl) ?_
  repeat'(first|refine rq fun _=>?_|simp only[go_sem,Tryd.f52])
  refine zas.i (zaI (zc7 (ds:=[_,_]) rfl hbs) ?_)
  rintro d' H' n1 ⟨rfl,rfl,rfl⟩
  repeat'(first|refine rq fun _=>?_|simp only[go_sem,zaq,zac,zaa,Tryd.f52])
end
end Go.Proofs.YtkkffhphodngkaaDoor
namespace Go.Abs
open Go
theorem zgF {f:zaf}:zbf f=zbL f.subs+if isQ f.kind then 1 else 0:=by cases f;rw[zbf];rfl
theorem zim:∀(l:List zaf) (f:zaf),zbL (l++[f])=max (zbL l) (zbf f)
 |[],f=>by simp[zbL]
 |g::l,f=>by rw[List.cons_append,zbL,zbL,zim l f];omega
theorem zin {fs:List zaf}{j:Nat}(h:j<fs.length):zbL (fs.take (j+1))=max (zbL (fs.take j)) (zbf fs[j]):=by
 rw[List.take_succ_eq_append_getElem h,zim]
mutual
theorem ze2:∀f:zaf,zbf f≤f.size
 | .mk k n w s=>by
  rw[zbf,zaf.size]
  have:=zjp s
  split<;>omega
theorem zjp:∀fs:List zaf,zbL fs≤zaf.sizes fs
 |[]=>by rw[zbL];omega
 |f::fs=>by rw[zbL,zaf.sizes];have:=ze2 f;have:=zjp fs;omega
end
theorem zeK:∀{l:List zaf} {f:zaf},f∈l→zbf f≤zbL l
 |g::l,f,h=>by
  rw[zbL]
  rcases List.mem_cons.1 h with rfl|h
  ·omega
  ·have:=zeK h;omega
def szP (f:zaf):Prop:=f.fit=true∧f.size≤1000000
theorem zfs {f g:zaf}(h:szP f)(hg:g∈f.subs):g.size<f.size∧szP g:=
 ⟨zaf.size_sub hg,zaf.fits_mem (zaf.fit_eq h.1).2.2 hg,by have:=zaf.size_sub hg;have:=h.2;omega⟩
def ze7 (size:Int)(t:List Int):Int:=t.foldl (fun n v=>n*size+v) 0
theorem zpy {size:Int}{t:List Int}{i:Nat}(h:i<t.length):ze7 size (t.take (i+1))=ze7 size (t.take i)*size+t[i]:=by
 unfold ze7
 rw[List.take_succ_eq_append_getElem h,List.foldl_append];rfl
theorem ztM {size:Int}(hs:1≤size)(hs2:size≤6):∀{t:List Int},(∀v∈t, -1≤v∧v<size)→t.length≤3→ -1000≤ze7 size t∧ze7 size t≤1000
 |[],_,_=>by simp[ze7]
 |[a],h,_=>by have:=h a (by simp);simp only[ze7,List.foldl_cons,List.foldl_nil];omega
 |[a,b],h,_=>by
  have ha:=h a (by simp)
  have hb:=h b (by simp)
  simp only[ze7,List.foldl_cons,List.foldl_nil]
  have h6:size=1∨size=2∨size=3∨size=4∨size=5∨size=6:=by omega
  rcases h6 with rfl|rfl|rfl|rfl|rfl|rfl<;>omega
 |[a,b,c],h,_=>by
  have ha:=h a (by simp)
  have hb:=h b (by simp)
  have hc:=h c (by simp)
  simp only[ze7,List.foldl_cons,List.foldl_nil]
  have h6:size=1∨size=2∨size=3∨size=4∨size=5∨size=6:=by omega
  rcases h6 with rfl|rfl|rfl|rfl|rfl|rfl<;>omega
 |_::_::_::_::_,_,h=>by simp at h
def zm3 (t:List Int)(size:Int):Prop:=1≤size∧size≤6∧t.length≤3∧∀v∈t, -1≤v∧v<size
end Go.Abs
namespace Go.Proofs.YtkkffhphodngkaaDoor
open Go Go.Abs Go.Proofs
section
variable {G:Nat→List FD}
theorem zjJ {G:Nat→List FD}{N:Nat}{l:List (Nat×D)}{H:zau}{n:Nat}{id:Abs.Id}{t:Nat}{ys:List FD}{b:Bool}(ho:H id=some ⟨ys.map .fz,b,false⟩)(hs:frL l t= .ptr id 0):
  zfv G N ⟨frL l,H,n⟩ ⟨frL ((t,.rp ys)::l),zaG H id none,n⟩:=zmP (st:=⟨frL l,H,n⟩) ho hs
def A11:Tbl:=A10.add 32 (sp1 (fun f:Abs.zaf=>(zbf f:Int)) szP)
attribute [go_sem] A11
theorem zG2:zan Tryd.prog G A11:=by
 refine zsM zaf.size zFV zG1 fun n hT f hn hpre _=>?_
 have hsl:=(zaf.fit_eq hpre.1).2.1
 have hse:=ze2 f
 have hz:=hpre.2
 have hr:∀g∈f.subs,g.size<n∧szP g:=fun g hg=>by have:=zfs hpre hg;exact⟨by omega,this.2⟩
 have kT:=Kp.mk hT
 have kr:=Kp.mk hr
 obtain⟨S,hS⟩:∃S:Nat→Nat,S=fun j=>zbL (f.subs.take j):=⟨_,rfl⟩
 have hS0:S 0=0:=by rw[hS];simp[zbL]
 have hSs:∀j (h:j<f.subs.length),S (j+1)=max (S j) (zbf f.subs[j]):=fun j h=>by rw[hS];exact zin h
 have hSe:zbf f=S f.subs.length+if isQ f.kind then 1 else 0:=by rw[hS,zgF];simp only[List.take_length]
 have kS:=Kp.mk hSs
 have hSn:S f.subs.length≤1000000:=by omega
 have hq:(isQ f.kind∧(f.kind=8∨f.kind=9))∨(¬isQ f.kind∧¬(f.kind=8∨f.kind=9)):=by
  by_cases h:isQ f.kind
  ·exact .inl ⟨h,h⟩
  ·exact .inr ⟨h,h⟩
 rw[hSe]
 clear hT hr hS hSs hSe hpre hn hse
 refine zah (N:=23) hm (G:=G) kT.out 32000 (lst []) zFV Tryd.func32 rfl rfl (by simp) (by kernel_rfl) ?_
 repeat'(first|refine rq fun _=>?_|simp only[go_sem,Tryd.f32])
 refine zbD (zjJ (id:=(32001,0)) (t:=1) (b:=true) (ys:=[.i .i64 f.kind,.s f.name.l,.sl (f.words.map enc),.sl (f.subs.map enc)]) (by simp only[go_sem]) (by simp only[go_sem])) ?_
 refine zai hm (G:=G) kT.out 32000 (lst []) (ι:=zbG f.subs.length 1 fun _=>True)
  ⟨fun q=>⟨frL [(1,.rp [.i .i64 f.kind,.s f.name.l,.sl (f.words.map enc),.sl (f.subs.map enc)]),(3,.fz (.i .i64 (S q.i:Nat))),(7,.fz (.sl (f.subs.map enc))),(8,.fz (.i .i64 f.subs.length)),(9,.fz (.i .i64 q.i))],hpL [],q.m⟩,fun q=>f.subs.length-q.i⟩
  ⟨0,1,by omega,by omega,trivial⟩ (by kernel_rfl) ?_ ?_
 ·refine zag ?_ ?_ ?_<;>simp only[go_sem,hS0]
  all_goals first|done|rfl
 rintro⟨j,m,hj,hm1,_⟩
 try simp only at hj hm1
 rcases Nat.lt_or_ge j f.subs.length with h2|h2
 ·have hss:=kS.out j h2
  have hr:=kr.out _ (List.getElem_mem h2)
  obtain⟨x,hx⟩:∃x,f.subs[j]=x:=⟨_,rfl⟩
  rw[hx]at hss hr
  have hmx:max (S j:Int) (zbf x:Int)=(S (j+1):Int):=by omega
  repeat'(first|refine rq fun _=>?_|refine zaB.i hr fun _=>?_|simp only[go_sem,h2,hx,hmx,zad,zaa,Tryd.f32])
  refine⟨⟨j+1,m+1,by omega,by omega,trivial⟩,by simp only;omega,?_⟩
  refine zag ?_ ?_ ?_<;>simp only[go_sem,hss,hmx]
  all_goals first|done|omega|rfl|(simp only[hss];omega)
 ·obtain rfl:j=f.subs.length:=by omega
  rcases hq with⟨h3,h4⟩|⟨h3,h4⟩
  ·rw[if_pos h3]
   repeat'(first|refine rq fun _=>?_|simp only[go_sem,Nat.lt_irrefl,h4,zad,Tryd.f32])
   all_goals first|done|rfl
  ·rw[if_neg h3]
   repeat'(first|refine rq fun _=>?_|simp only[go_sem,Nat.lt_irrefl,h4,zad,Tryd.f32])
   all_goals first|done|rfl
end
end Go.Proofs.YtkkffhphodngkaaDoor
namespace Go.Abs
open Go
theorem zwI {m:zal}{f:zaf}:zgZ m f=((!decide (f.kind=2)||(zeH m f.name f.words.length).isSome)&&ze8 m f.subs):=by cases f;rw[zgZ];rfl
theorem zia {m:zal}:∀l:List zaf,ze8 m l=l.all (zgZ m)
 |[]=>by rw[ze8];rfl
 |f::l=>by rw[ze8,zia l];rfl
theorem zq7 {α:Type}{p:α→Bool}{l:List α}{i:Nat}(h:i<l.length)(hp:p l[i]=false):l.all p=false:=by
 cases ha:l.all p with
 |false=>rfl
 |true=>rw[List.all_eq_true.1 ha _ (List.getElem_mem h)]at hp;cases hp
theorem zq8 {α:Type}{p:α→Bool}{l:List α}(hp:∀j (h:j<l.length),p l[j]=true):l.all p=true:=by
 rw[List.all_eq_true]
 intro x hx
 obtain⟨j,hj,rfl⟩:=List.getElem_of_mem hx
 exact hp j hj
theorem zi7 {p:Nat→Prop}{n i:Nat}(h:∀j,j<n→j<i→p j)(hi:p i):∀j,j<n→j<i+1→p j:=fun j hj h2=>by
 rcases Nat.lt_or_ge j i with h3|h3
 ·exact h j hj h3
 ·obtain rfl:j=i:=by omega
  exact hi
section
variable {P:Program} {G:Nat→List FD} {T:Tbl}
end
end Go.Abs
namespace Go.Proofs.YtkkffhphodngkaaDoor
open Go Go.Abs Go.Proofs
section
variable {G:Nat→List FD}
def A12:Tbl:=A11.add 22 (sp1 (fun f:Abs.zaf=>(zbf f:Int)) szP)
attribute [go_sem] A12
theorem zCJ:zan Tryd.prog G A12:=by
 refine zsM zaf.size zFQ zG2 fun n hT f hn hpre _=>?_
 have hsl:=(zaf.fit_eq hpre.1).2.1
 have hse:=ze2 f
 have hz:=hpre.2
 have hr:∀g∈f.subs,g.size<n∧szP g:=fun g hg=>by have:=zfs hpre hg;exact⟨by omega,this.2⟩
 have kT:=Kp.mk hT
 have kr:=Kp.mk hr
 obtain⟨S,hS⟩:∃S:Nat→Nat,S=fun j=>zbL (f.subs.take j):=⟨_,rfl⟩
 have hS0:S 0=0:=by rw[hS];simp[zbL]
 have hSs:∀j (h:j<f.subs.length),S (j+1)=max (S j) (zbf f.subs[j]):=fun j h=>by rw[hS];exact zin h
 have hSe:zbf f=S f.subs.length+if isQ f.kind then 1 else 0:=by rw[hS,zgF];simp only[List.take_length]
 have kS:=Kp.mk hSs
 have hSn:S f.subs.length≤1000000:=by omega
 have hq:(isQ f.kind∧f.kind=8)∨(isQ f.kind∧f.kind=9∧¬f.kind=8)∨(¬isQ f.kind∧¬f.kind=8∧¬f.kind=9):=by
  unfold isQ;omega
 rw[hSe]
 clear hT hr hS hSs hSe hpre hn hse
 refine zah (N:=34) hm (G:=G) kT.out 22000 (lst []) zFQ Tryd.func22 rfl rfl (by simp) (by kernel_rfl) ?_
 repeat'(first|refine rq fun _=>?_|simp only[go_sem,Tryd.f22])
 refine zbD (zjJ (id:=(22001,0)) (t:=1) (b:=true) (ys:=[.i .i64 f.kind,.s f.name.l,.sl (f.words.map enc),.sl (f.subs.map enc)]) (by simp only[go_sem]) (by simp only[go_sem])) ?_
 refine zai hm (G:=G) kT.out 22000 (lst []) (ι:=za5 f.subs.length fun _=>True)
  ⟨fun q=>⟨frL [(1,.rp [.i .i64 f.kind,.s f.name.l,.sl (f.words.map enc),.sl (f.subs.map enc)]),(3,.fz (.i .i64 (S q.i:Nat))),(8,.fz (.i .i64 f.subs.length)),(9,.fz (.i .i64 q.i))],hpL [],1⟩,fun q=>f.subs.length-q.i⟩
  ⟨0,by omega,trivial⟩ (by kernel_rfl) ?_ ?_
 ·refine zag ?_ ?_ ?_<;>simp only[go_sem,hS0]
  all_goals first|done|rfl
 rintro⟨j,hj,_⟩
 try simp only at hj
 rcases Nat.lt_or_ge j f.subs.length with h2|h2
 ·have hss:=kS.out j h2
  have hr:=kr.out _ (List.getElem_mem h2)
  obtain⟨x,hx⟩:∃x,f.subs[j]=x:=⟨_,rfl⟩
  rw[hx]at hss hr
  rcases Nat.lt_or_ge (S j) (zbf x)with h3|h3
  ·have h3':(S j:Int)<(zbf x:Int):=by omega
   have h4:S (j+1)=zbf x:=by omega
   repeat'(first|refine rq fun _=>?_|refine zaB.i hr fun _=>?_|simp only[go_sem,h2,hx,h3,h3',zaa,Tryd.f22])
   refine⟨⟨j+1,by omega,trivial⟩,by simp only;omega,?_⟩
   refine zag ?_ ?_ ?_<;>simp only[go_sem,h4]
  ·have h3':¬(S j:Int)<(zbf x:Int):=by omega
   have h3'':¬S j<zbf x:=by omega
   have h4:S (j+1)=S j:=by omega
   repeat'(first|refine rq fun _=>?_|refine zaB.i hr fun _=>?_|simp only[go_sem,h2,hx,h3',h3'',zaa,Tryd.f22])
   refine⟨⟨j+1,by omega,trivial⟩,by simp only;omega,?_⟩
   refine zag ?_ ?_ ?_<;>simp only[go_sem,h4]
 ·obtain rfl:j=f.subs.length:=by omega
  rcases hq with⟨h3,h4⟩|⟨h3,h4,h5⟩|⟨h3,h4,h5⟩
  ·rw[if_pos h3]
   repeat'(first|refine rq fun _=>?_|simp only[go_sem,Nat.lt_irrefl,h4,Tryd.f22])
   all_goals first|done|rfl
  ·rw[if_pos h3]
   repeat'(first|refine rq fun _=>?_|simp only[go_sem,Nat.lt_irrefl,h4,Tryd.f22])
   all_goals first|done|rfl
  ·rw[if_neg h3]
   repeat'(first|refine rq fun _=>?_|simp only[go_sem,Nat.lt_irrefl,h4,h5,Tryd.f22])
   all_goals first|done|rfl
def A13:Tbl:=A12.add 69 (sp2 (fun t size=>ze7 size t) zm3)
attribute [go_sem] A13
theorem zG3:zan Tryd.prog G A13:=by
 refine zbq zGi zCJ fun t s hpre _ _=>?_
 obtain⟨hs1,hs2,hl,hv⟩:=hpre
 obtain⟨C,hC⟩:∃C:Nat→Int,C=fun i=>ze7 s (t.take i):=⟨_,rfl⟩
 have h0:C 0=0:=by rw[hC];rfl
 have hs:∀i (h:i<t.length),C (i+1)=C i*s+t[i]:=fun i h=>by rw[hC];exact zpy h
 have hb:∀i, -1000≤C i∧C i≤1000:=fun i=>by
  rw[hC]
  exact ztM hs1 hs2 (fun v h=>hv v (List.mem_of_mem_take h)) (by rw[List.length_take];omega)
 have he:ze7 s t=C t.length:=by rw[hC];simp only[List.take_length]
 rw[he]
 have k1:=Kp.mk hs
 have k2:=Kp.mk hb
 clear hs hb hC he hv
 refine zah (N:=21) hm (G:=G) zCJ 69000 (lst []) zGi Tryd.func69 rfl rfl (by simp) (by kernel_rfl) ?_
 repeat'(first|refine rq fun _=>?_|simp only[go_sem,Tryd.f69])
 refine zai hm (G:=G) zCJ 69000 (lst []) (ι:=za5 t.length fun _=>True)
  ⟨fun q=>⟨frL [(1,.fz (.i .i64 s)),(5,.fz (.i .i64 (C q.i))),(8,.fz (.sl (t.map enc))),(9,.fz (.i .i64 t.length)),(10,.fz (.i .i64 q.i))],hpL [],0⟩,fun q=>t.length-q.i⟩
  ⟨0,by omega,trivial⟩ (by kernel_rfl) ?_ ?_
 ·refine zag ?_ ?_ ?_<;>simp only[go_sem,h0]
 rintro⟨i,hi,_⟩
 try simp only at hi
 rcases Nat.lt_or_ge i t.length with h1|h1
 ·have e:=k1.out i h1
  have b1:=k2.out i
  have b2:=k2.out (i+1)
  obtain⟨x,hx⟩:∃x,t[i]=x:=⟨_,rfl⟩
  rw[hx]at e
  have hmul: -6000≤C i*s∧C i*s≤6000:=by
   have h6:s=1∨s=2∨s=3∨s=4∨s=5∨s=6:=by omega
   rcases h6 with rfl|rfl|rfl|rfl|rfl|rfl<;>omega
  obtain⟨M,hM⟩:∃M,C i*s=M:=⟨_,rfl⟩
  rw[hM]at e hmul
  repeat'(first|refine rq fun _=>?_|simp only[go_sem,h1,hx,hM,zaa,Tryd.f69])
  refine⟨⟨i+1,by omega,trivial⟩,by simp only;omega,?_⟩
  refine zag ?_ ?_ ?_<;>simp only[go_sem,e]
 ·obtain rfl:i=t.length:=by omega
  repeat'(first|refine rq fun _=>?_|simp only[go_sem,Nat.lt_irrefl,Tryd.f69])
def A14:Tbl:=A13
attribute [go_sem] A14
theorem zCK:zan Tryd.prog G A14:=zG3
end
end Go.Proofs.YtkkffhphodngkaaDoor
namespace Go.Proofs.YtkkffhphodngkaaDoor
open Go Go.Abs Go.Proofs
section
variable {G:Nat→List FD}
def zx5 (p:Nat):Int:=(p:Int)-1
theorem zlK (p:Nat):zx5 (p+1)=(p:Int):=by unfold zx5;omega
theorem zrS:zx5 0= -1:=rfl
structure zCk (n:Nat)(P:Nat→Prop) where
 p:Nat
 hn:p≤n
 hp:P p
theorem f53 {w:Str}{env:List zaF}{m:zal}{ie im:Abs.Id}{H:zau}{n:Nat}{R:D→zau→Nat→Prop}(hok:okC m.consts)(hl:env.length≤1000)
  (ho1:H ie=some ⟨[.fz (.sl (env.map enc))],true,false⟩)(ho2:H im=some ⟨[.fz (.i .i64 m.size),.fz (.sl (m.consts.map enc)),.fz (.sl (m.rels.map enc))],true,false⟩)
  (hR:R (.fz (.i .i64 (zbW m env w))) H n):zay Tryd.prog G 53 [.fz (enc w),.ptr ie 0,.ptr im 0] H n R:=by
 have hW:zbW m env w=match zcL env w with|some v=>v|none=>zfb m w:=rfl
 have e0:H=hpX [] H:=rfl
 obtain⟨L,hL⟩:∃L:Nat→Option Int,L=fun p=>zcL (env.take p) w:=⟨_,rfl⟩
 have hL0:L 0=none:=by rw[hL];rfl
 have hLs:∀p (h:p<env.length),L (p+1)=if env[p].name=w then some env[p].value else L p:=fun p h=>by
  rw[hL];simp only[List.take_succ_eq_append_getElem h,zgC]
 have hLe:zcL env w=L env.length:=by rw[hL];simp only[List.take_length]
 rw[hLe]at hW
 have kL:=Kp.mk hLs
 have kR:=Kp.mk hR
 have kW:=Kp.mk hW
 clear hL hLs hLe hW hR
 rw[e0]
 refine zah (N:=34) hm (G:=G) zCK 53000 (lst []) zHI Tryd.func53 rfl rfl (by simp) (by kernel_rfl) ?_
 repeat'(first|refine rq fun _=>?_|simp only[go_sem,ho1,Tryd.f53])
 refine zai hm (G:=G) zCK 53000 (lst []) (ι:=zCk env.length fun p=>L env.length=L p)
  ⟨fun q=>⟨frL [(0,.fz (.s w.l)),(1,.ptr ie 0),(2,.ptr im 0),(5,.fz (.i .i64 (zx5 q.p)))],hpX [] H,n⟩,fun q=>q.p⟩
  ⟨env.length,Nat.le_refl _,rfl⟩ (by kernel_rfl) ?_ ?_
 ·refine zaX ?_ ?_ (fun id o ho=>?_) ?_
  ·simp only[go_sem,zx5]
  ·simp only[go_sem]
  ·simp only[go_sem];exact ho
  ·simp only[go_sem]
 rintro⟨p,hn,hp⟩
 try simp only at hn hp
 rcases p with _|p
 ·repeat'(first|refine zaB.i hok fun _=>?_|refine rq fun _=>?_|simp only[go_sem,zrS,ho1,ho2,zac,zab,Tryd.f53])
  have h:=kR.out
  rw[kW.out,hp,hL0]at h
  exact h
 ·have h1:p<env.length:=by omega
  have hs:=kL.out p h1
  obtain⟨x,hx⟩:∃x,env[p]=x:=⟨_,rfl⟩
  rw[hx]at hs
  by_cases hc:x.name=w
  ·rw[if_pos hc]at hs
   repeat'(first|refine rq fun _=>?_|simp only[go_sem,zlK,ho1,ho2,h1,hx,hc,zat,zac,zaa,Tryd.f53])
   have h:=kR.out
   rw[kW.out,hp,hs]at h
   exact h
  ·rw[if_neg hc]at hs
   have hc':(x.name=w)=False:=eq_false hc
   repeat'(first|refine rq fun _=>?_|simp only[go_sem,zlK,ho1,ho2,h1,hx,hc',zat,zac,zaa,Tryd.f53])
   refine⟨⟨p,by omega,hp.trans hs⟩,by simp only;omega,?_⟩
   refine zaX ?_ ?_ (fun id o ho=>?_) ?_
   ·simp only[go_sem,zx5]
   ·simp only[go_sem]
   ·simp only[go_sem];exact ho
   ·simp only[go_sem]
end
end Go.Proofs.YtkkffhphodngkaaDoor
namespace Go.Abs
open Go
section
variable {P:Program} {G:Nat→List FD} {T:Tbl}
theorem zoZ {α β γ ρ:Type}[Enc α][Enc β][Enc γ][Enc ρ]{f:FuncId}{g:α→β→γ→ρ}{pre:α→β→γ→Prop}(m:β→Nat)(hc:zam P f)(hT:zan P G T)
  (h:∀n,zan P G (T.add f (sp3 g fun a b c=>m b<n∧pre a b c))→∀a b c,m b=n→pre a b c→(enc a).Wf→(enc b).Wf→(enc c).Wf→zay P G f [.fz (enc a),.fz (enc b),.fz (enc c)] (hpL []) 0 (fun d _ _=>D.val d=some (.fz (enc (g a b c))))):zan P G (T.add f (sp3 g pre)):=by
 have key:∀n,zan P G (T.add f (sp3 g fun a b c=>m b<n∧pre a b c)):=by
  intro n
  induction n with
  |zero=>exact zg3 hc hT fun a b c ha=>by omega
  |succ n ih=>
   refine zg3 hc hT fun a b c ha hw hw2 hw3=>?_
   rcases Nat.lt_or_ge (m b) n with h1|h1
   ·have h2:=ih f (sp3 g fun a b c=>m b<n∧pre a b c) [enc a,enc b,enc c] _ _ (by simp[Tbl.add]) (zzU) ⟨by rw[dec_enc],by rw[dec_enc],by rw[dec_enc],by rw[dec_enc,dec_enc,dec_enc];exact⟨h1,ha.2⟩⟩
    rw[dec_enc,dec_enc,dec_enc,zhe]at h2
    exact h2
   ·exact h n ih a b c (by omega) ha.2 hw hw2 hw3
 exact zg3 hc hT fun a b c ha hw hw2 hw3=>h (m b) (key _) a b c rfl ha hw hw2 hw3
end
def zs5:Tv:=(.q 0 (.q 1 (.q 2 (.q 3 (.q 4 (.q 6 (.q 7 (.r 8 (.q 9 (.br [(5,(.q 10 (.br [(11,(.q 12 (.q 13 .leaf)))]))),(10,(.br [(5,(.br [(11,(.q 12 (.q 13 .leaf)))]))]))]))))))))))
structure ztt (m:zal)(f:zaf)(env:List zaF):Prop where
 m:zsd m
 v:vok f
 s:szP f
 e:env.length+zbf f≤900
theorem zvg {m:zal}{f g:zaf}{env:List zaF}(h:ztt m f env)(hg:g∈f.subs):g.size<f.size∧ztt m g env:=by
 have hs:=zfs h.s hg
 refine⟨hs.1,h.m,(ze5 _).1 (zdm.1 h.v).2.2.2.2.2.2 g hg,hs.2,?_⟩
 have:=zeK hg
 have h2:=h.e
 rw[zgF]at h2
 omega
theorem zte {m:zal}{f g:zaf}{env:List zaF}(h:ztt m f env)(hg:g∈f.subs)(hq:isQ f.kind)(c:zaF):g.size<f.size∧ztt m g (env++[c]):=by
 have hs:=zfs h.s hg
 refine⟨hs.1,h.m,(ze5 _).1 (zdm.1 h.v).2.2.2.2.2.2 g hg,hs.2,?_⟩
 have:=zeK hg
 have h2:=h.e
 rw[zgF,if_pos hq]at h2
 rw[List.length_append,List.length_singleton]
 omega
theorem zEp {m:zal}{f:zaf}{env:List zaF}(h:f.kind=1):zbY m f env=true:=by cases f;simp only[zaz]at h;subst h;rw[zbY,if_pos rfl]
theorem zEq {m:zal}{f:zaf}{env:List zaF}(h:f.kind=2):zbY m f env=decide (f.words.map (zbW m env)∈zmx m f.name f.words.length):=by cases f;simp only[zaz]at h;subst h;rw[zbY];rfl
theorem zEr {m:zal}{f:zaf}{env:List zaF}{a b:Str}(h:f.kind=3)(hw:f.words=[a,b]):zbY m f env=decide (zbW m env a=zbW m env b):=by cases f;simp only[zaz,zdX]at h hw;subst h hw;rw[zbY];rfl
theorem zEs {m:zal}{f x:zaf}{env:List zaF}(h:f.kind=4)(hs:f.subs=[x]):zbY m f env= !zbY m x env:=by cases f;simp only[zaz,zaW]at h hs;subst h hs;rw[zbY,zbC,zbC];rfl
theorem zEt {m:zal}{f x y:zaf}{env:List zaF}(h:f.kind=5)(hs:f.subs=[x,y]):zbY m f env=(zbY m x env&&zbY m y env):=by cases f;simp only[zaz,zaW]at h hs;subst h hs;rw[zbY,zbC,zbC,zbC];rfl
theorem zEu {m:zal}{f x y:zaf}{env:List zaF}(h:f.kind=6)(hs:f.subs=[x,y]):zbY m f env=(zbY m x env||zbY m y env):=by cases f;simp only[zaz,zaW]at h hs;subst h hs;rw[zbY,zbC,zbC,zbC];rfl
theorem zEv {m:zal}{f x y:zaf}{env:List zaF}(h:f.kind=7)(hs:f.subs=[x,y]):zbY m f env=(!zbY m x env||zbY m y env):=by cases f;simp only[zaz,zaW]at h hs;subst h hs;rw[zbY,zbC,zbC,zbC];rfl
theorem zEw {m:zal}{f x:zaf}{env:List zaF}(h:f.kind=8)(hs:f.subs=[x]):zbY m f env=(zee m).all fun v=>zbY m x (env++[⟨f.name,v⟩]):=by cases f;simp only[zaz,zaW]at h hs;subst h hs;rw[zbY];simp only[zbC];rfl
theorem zEx {m:zal}{f x:zaf}{env:List zaF}(h:f.kind=9)(hs:f.subs=[x]):zbY m f env=(zee m).any fun v=>zbY m x (env++[⟨f.name,v⟩]):=by cases f;simp only[zaz,zaW]at h hs;subst h hs;rw[zbY];simp only[zbC];rfl
theorem znx {s:List zaf}(h:s.length=1):∃a,s=[a]:=by
 match s,h with
 |[a],_=>exact⟨a,rfl⟩
theorem znM {s:List zaf}(h:s.length=2):∃a b,s=[a,b]:=by
 match s,h with
 |[a,b],_=>exact⟨a,b,rfl⟩
theorem zxG {s:List Str}(h:s.length=2):∃a b,s=[a,b]:=by
 match s,h with
 |[a,b],_=>exact⟨a,b,rfl⟩
end Go.Abs
namespace Go.Proofs.YtkkffhphodngkaaDoor
open Go Go.Abs Go.Proofs
section
variable {G:Nat→List FD}
theorem zpe {m:zal}(h:zsd m)(w:Str)(n:Int)(t:List Int):znG (zmu t) (ziZ m w n).1.tuples:=by
 unfold ziZ
 split
 ·rename_i r hr
  have hm:=h.t r (List.mem_of_find?_eq_some hr)
  exact fun i j hi hj hij h2=>zgu (hm i j hi hj hij) h2
 ·exact fun i j hi=>absurd hi (by simp[zqg])
theorem zva (m:zal)(w:Str)(n:Int):zmx m w n=(ziZ m w n).1.tuples:=by
 unfold zmx ziZ
 cases zeH m w n<;>rfl
theorem zyW {m:zal}(h:zsd m)(w:Str)(n:Int)(t:List Int):bsB (zmu t) (ziZ m w n).1.tuples=decide (t∈zmx m w n):=by
 have:=znh (zpe h w n t)
 rw[zva]
 cases hb:bsB (zmu t) (ziZ m w n).1.tuples with
 |true=>
  rw[hb,if_pos rfl]at this
  have h1:=List.find?_some this
  have h2:=List.mem_of_find?_eq_some this
  rw[zhT.1 (of_decide_eq_true h1)]at h2
  exact(decide_eq_true h2).symm
 |false=>
  rw[hb]at this
  refine(decide_eq_false fun h2=>?_).symm
  have h3:=(List.find?_eq_none.1 this) t h2
  simp only[decide_eq_true_eq]at h3
  exact h3 (zhT.2 rfl)
theorem zvk {m:zal}{env:List zaF}(h:(enc m).Wf)(h2:(enc env).Wf)(w:Str):(enc (zbW m env w)).Wf:=by
 have hv:∀{l:List zaF},(enc l).Wf→∀c∈l,(enc c.value).Wf:=fun{l} h c hc=>by
  have h1:=zdO h _ (List.mem_map_of_mem hc)
  exact za9 (by rw[zlq]at h1;exact h1) (FD.i .i64 c.value) (by simp)
 have hc:(enc m.consts).Wf:=za9 (by rw[zb0]at h;exact h) (FD.sl (m.consts.map enc)) (by simp)
 have key:∀(l:List zaF) (v:Int),zcL l w=some v→∃c∈l,c.value=v:=by
  intro l
  induction l with
  |nil=>intro v h;simp[zcL]at h
  |cons e l ih=>
   intro v h
   rw[zcL]at h
   cases hl:zcL l w with
   |some u=>
    rw[hl]at h
    obtain⟨c,h1,h2⟩:=ih u hl
    exact⟨c,List.mem_cons_of_mem _ h1,by rw[h2];exact Option.some.inj h⟩
   |none=>
    rw[hl]at h
    simp only at h
    split at h
    ·exact⟨e,by simp,Option.some.inj h⟩
    ·cases h
 unfold zbW
 cases hl:zcL env w with
 |some v=>
  obtain⟨c,h3,rfl⟩:=key env v hl
  exact hv h2 c h3
 |none=>
  simp only
  unfold zfb
  cases hf:zct m w with
  |some c=>exact hv hc c (List.mem_of_find?_eq_some hf)
  |none=>exact .i _ _ (by decide) (by decide)
def A15:Tbl:=A14.add 31 (sp3 zbY ztt)
attribute [go_sem] A15
set_option maxHeartbeats 8000000 in
theorem zG4:zan Tryd.prog G A15:=by
 refine zoZ zaf.size zqh zCK fun n hT m f env hn hpre hwm hwf hwe=>?_
 have hm0:=hpre.m
 have hok:=hpre.m.c
 have hokr:=hpre.m.r
 have s1:=hpre.m.s1
 have s6:=hpre.m.s6
 have lc:=hpre.m.lc
 have lr:=hpre.m.lr
 have hel:env.length≤900:=by have:=hpre.e;omega
 have hwl:=(zaf.fit_eq hpre.s.1).1
 have hsl:=(zaf.fit_eq hpre.s.1).2.1
 have hsub:∀g∈f.subs,g.size<n∧ztt m g env:=fun g hg=>by have:=zvg hpre hg;exact⟨by omega,this.2⟩
 have hsq:isQ f.kind→∀g∈f.subs,∀c,g.size<n∧ztt m g (env++[c]):=fun hq g hg c=>by have:=zte hpre hg hq c;exact⟨by omega,this.2⟩
 have hv:=zdm.1 hpre.v
 obtain⟨v1,v9,v2,v3,v4,v5,_⟩:=hv
 have kT:=Kp.mk hT
 have kS:=Kp.mk hsub
 have kQ:=Kp.mk hsq
 clear hT hsub hsq hpre hn
 have hkk:f.kind=1∨f.kind=2∨f.kind=3∨f.kind=4∨f.kind=5∨f.kind=6∨f.kind=7∨f.kind=8∨f.kind=9:=by omega
 rcases hkk with hk|hk|hk|hk|hk|hk|hk|hk|hk
 ·rw[zEp hk]
  refine zah (N:=168) hm (G:=G) kT.out 31000 (lsw [35] [1000016]) zqh Tryd.func31 rfl rfl (by simp) (by kernel_rfl) ?_
  repeat'(first|refine rq fun _=>?_|refine rf fun _=>?_|simp only[go_sem,hk,zad,zab,Tryd.f31])
 ·rw[zEq hk]
  have hws:=v2 hk
  obtain⟨A,hA⟩:∃A:Nat→List Int,A=fun i=>(f.words.take i).map (zbW m env):=⟨_,rfl⟩
  have hA0:A 0=[]:=by rw[hA];rfl
  have hAs:∀i (h:i<f.words.length),A (i+1)=A i++[zbW m env f.words[i]]:=fun i h=>by rw[hA];simp only[List.take_succ_eq_append_getElem h,List.map_append,List.map_cons,List.map_nil]
  have hAl:∀i,i≤f.words.length→(A i).length=i:=fun i h=>by rw[hA];simp only[List.length_map,List.length_take];omega
  obtain⟨t,ht⟩:∃t,A f.words.length=t:=⟨_,rfl⟩
  have hte:f.words.map (zbW m env)=t:=by rw[←ht,hA];simp only[List.take_length]
  have htl:t.length=f.words.length:=by rw[←ht];exact hAl _ (Nat.le_refl _)
  rw[hte]
  have hbm:=zyW hm0 f.name f.words.length t
  have hst:=zpe hm0 f.name f.words.length t
  rw[←hbm]
  obtain⟨rl,hrl⟩:∃rl,(ziZ m f.name f.words.length).1=rl:=⟨_,rfl⟩
  obtain⟨bl,hbl⟩:∃bl,(ziZ m f.name f.words.length).2=bl:=⟨_,rfl⟩
  have hrp:ziZ m f.name f.words.length=(rl,bl):=by rw[←hrl,←hbl]
  rw[hrl]at hst ⊢
  have hwt:(enc rl.tuples).Wf:=by
   rw[←hrl];unfold ziZ
   split
   ·rename_i r hr
    have h1:(enc r).Wf:=zdO (za9 (by have h:=hwm;rw[zb0]at h;exact h) (FD.sl (m.rels.map enc)) (by simp)) _ (List.mem_map_of_mem (List.mem_of_find?_eq_some hr))
    exact za9 (by have h:=h1;rw[zj2]at h;exact h) (FD.sl (r.tuples.map enc)) (by simp)
   ·exact .sl _ (by simp[zqg]) (by simp[zqg])
  have hwtt:(enc t).Wf:=by
   rw[←hte]
   refine .sl _ (by simp only[List.length_map];unfold zba;omega) fun y hy=>?_
   obtain⟨v,hv2,rfl⟩:=List.mem_map.1 hy
   obtain⟨w,_,rfl⟩:=List.mem_map.1 hv2
   exact zvk hwm hwe w
  have kA:=Kp.mk hAs
  have kL:=Kp.mk hAl
  have kw:=Kp.mk hwt
  have ks:=Kp.mk hst
  have kwt:=Kp.mk hwtt
  clear hA hAs hAl hte hbm hst hwt hrl hbl hwtt
  refine zah (N:=168) hm (G:=G) kT.out 31000 (lsw [35] [1000016]) zqh Tryd.func31 rfl rfl (by simp) (by kernel_rfl) ?_
  repeat'(first|refine rq fun _=>?_|refine rf fun _=>?_|simp only[go_sem,hk,zad,zab,Tryd.f31])
  refine zai hm (G:=G) kT.out 31000 (lsw [35] [1000016]) (ι:=zen f.words.length 4 fun _=>True)
   ⟨fun q=>⟨frL [(3,.ptr (31003,0) 0),(4,.ptr (31004,1) 0),(5,.ptr (31005,2) 0),(7,.fn 53 [.ptr (31005,2) 0,.ptr (31003,0) 0]),(8,.ow (31035,q.g) 1 ((A q.i).map enc)),(24,.fz (.sl (f.words.map enc))),(25,.fz (.i .i64 f.words.length)),(26,.fz (.i .i64 q.i))],
    hpL [((31003,0),some ⟨[.fz (.i .i64 m.size),.fz (.sl (m.consts.map enc)),.fz (.sl (m.rels.map enc))],true,false⟩),((31004,1),some ⟨[.fz (.i .i64 f.kind),.fz (.s f.name.l),.fz (.sl (f.words.map enc)),.fz (.sl (f.subs.map enc))],true,false⟩),((31005,2),some ⟨[.fz (.sl (env.map enc))],true,false⟩),((31035,q.g),some tok)],q.m⟩,fun q=>f.words.length-q.i⟩
   ⟨0,3,4,by omega,by omega,by omega,trivial⟩ (by kernel_rfl) ?_ ?_
  ·refine zbc [] [(31035,3)] [] ?_ ?_ ?_ ?_ ?_<;>simp only[go_sem,hA0,hk]
   all_goals first|done|rfl|omega
  rintro⟨i,g,q,hi,hg,hq,_⟩
  try simp only at hi hg hq
  rcases Nat.lt_or_ge i f.words.length with h1|h1
  ·have hs:=kA.out i h1
   have hl:=kL.out i (by omega)
   obtain⟨w,hw⟩:∃w,f.words[i]=w:=⟨_,rfl⟩
   rw[hw]at hs
   repeat'(first|refine rq fun _=>?_|refine rf fun _=>?_|simp only[go_sem,h1,hw,zac,zaa,zad,zab,Tryd.f31])
   refine zas.i (f53 (env:=env) (m:=m) hok (by omega) (by simp only[go_sem]) (by simp only[go_sem]) ?_)
   repeat'(first|refine rq fun _=>?_|refine rf fun _=>?_|simp only[go_sem,h1,hw,zac,zaa,zad,zab,Tryd.f31])
   refine⟨⟨i+1,q,q+1,by omega,by omega,by omega,trivial⟩,by simp only;omega,?_⟩
   refine zag ?_ ?_ ?_<;>(try simp only[go_sem,hs,List.map_append])
   all_goals first|done|omega|rfl
  obtain rfl:i=f.words.length:=by omega
  repeat'(first|refine zaB.i hokr fun _=>?_|refine rq fun _=>?_|refine rf fun _=>?_|simp only[go_sem,Nat.lt_irrefl,ht,htl,hrp,zac,zaq,zad,zab,Tryd.f31])
  refine zas.i (zaI (zc7 (ds:=[_,_]) rfl (zCA (G:=G) kw.out kwt.out ks.out)) ?_)
  rintro d' H' n1 ⟨rfl,rfl,rfl⟩
  repeat'(first|refine rq fun _=>?_|refine rf fun _=>?_|simp only[go_sem,Nat.lt_irrefl,ht,zac,zaq,zad,zab,Tryd.f31])
 ·obtain⟨a,b,hab⟩:=zxG (v3 hk)
  rw[zEr hk hab]
  refine zah (N:=168) hm (G:=G) kT.out 31000 (lsw [35] [1000016]) zqh Tryd.func31 rfl rfl (by simp) (by kernel_rfl) ?_
  repeat'(first|refine rq fun _=>?_|refine rf fun _=>?_|simp only[go_sem,hk,hab,zad,zab,Tryd.f31])
  refine zbD (zjJ (id:=(31004,1)) (t:=4) (b:=true) (ys:=[.i .i64 f.kind,.s f.name.l,.sl (f.words.map enc),.sl (f.subs.map enc)]) (by simp only[go_sem,hk,hab]) (by simp only[go_sem])) ?_
  refine zaK hm (G:=G) kT.out 31000 (lsw [35] [1000016]) zs5 (by kernel_rfl) (by kernel_rfl) ?_
  repeat'(first|refine And.intro ?_ ?_|exact True.intro|refine zas.i (f53 (env:=env) (m:=m) hok (by omega) (by simp only[go_sem]) (by simp only[go_sem]) ?_)|refine rq fun _=>?_|refine rf fun _=>?_|simp only[go_sem,zs5,hk,hab,zac,zad,zab,Tryd.f31])
 ·obtain⟨x,hx⟩:=znx (v4 (.inl hk))
  rw[zEs hk hx]
  have hz:=kS.out x (by rw[hx];simp)
  obtain⟨b,hb⟩:∃b,zbY m x env=b:=⟨_,rfl⟩
  rw[hb]
  refine zah (N:=168) hm (G:=G) kT.out 31000 (lsw [35] [1000016]) zqh Tryd.func31 rfl rfl (by simp) (by kernel_rfl) ?_
  repeat'(first|refine zaB.i hz fun _=>?_|refine rq fun _=>?_|refine rf fun _=>?_|simp only[go_sem,hk,hx,hb,zad,zab,Tryd.f31])
 ·obtain⟨x,y,hxy⟩:=znM (v5 (by omega))
  rw[zEt hk hxy]
  have hz:=kS.out x (by rw[hxy];simp)
  have hz2:=kS.out y (by rw[hxy];simp)
  obtain⟨b2,hb2⟩:∃b,zbY m y env=b:=⟨_,rfl⟩
  rw[hb2]
  cases hb:zbY m x env
  ·refine zah (N:=168) hm (G:=G) kT.out 31000 (lsw [35] [1000016]) zqh Tryd.func31 rfl rfl (by simp) (by kernel_rfl) ?_
   repeat'(first|refine zaB.i hz fun _=>?_|refine zaB.i hz2 fun _=>?_|refine rq fun _=>?_|refine rf fun _=>?_|simp only[go_sem,hk,hxy,hb,hb2,zad,zab,Tryd.f31])
  ·refine zah (N:=168) hm (G:=G) kT.out 31000 (lsw [35] [1000016]) zqh Tryd.func31 rfl rfl (by simp) (by kernel_rfl) ?_
   repeat'(first|refine zaB.i hz fun _=>?_|refine zaB.i hz2 fun _=>?_|refine rq fun _=>?_|refine rf fun _=>?_|simp only[go_sem,hk,hxy,hb,hb2,zad,zab,Tryd.f31])
 ·obtain⟨x,y,hxy⟩:=znM (v5 (by omega))
  rw[zEu hk hxy]
  have hz:=kS.out x (by rw[hxy];simp)
  have hz2:=kS.out y (by rw[hxy];simp)
  obtain⟨b2,hb2⟩:∃b,zbY m y env=b:=⟨_,rfl⟩
  rw[hb2]
  cases hb:zbY m x env
  ·refine zah (N:=168) hm (G:=G) kT.out 31000 (lsw [35] [1000016]) zqh Tryd.func31 rfl rfl (by simp) (by kernel_rfl) ?_
   repeat'(first|refine zaB.i hz fun _=>?_|refine zaB.i hz2 fun _=>?_|refine rq fun _=>?_|refine rf fun _=>?_|simp only[go_sem,hk,hxy,hb,hb2,zad,zab,Tryd.f31])
  ·refine zah (N:=168) hm (G:=G) kT.out 31000 (lsw [35] [1000016]) zqh Tryd.func31 rfl rfl (by simp) (by kernel_rfl) ?_
   repeat'(first|refine zaB.i hz fun _=>?_|refine zaB.i hz2 fun _=>?_|refine rq fun _=>?_|refine rf fun _=>?_|simp only[go_sem,hk,hxy,hb,hb2,zad,zab,Tryd.f31])
 ·obtain⟨x,y,hxy⟩:=znM (v5 (by omega))
  rw[zEv hk hxy]
  have hz:=kS.out x (by rw[hxy];simp)
  have hz2:=kS.out y (by rw[hxy];simp)
  obtain⟨b2,hb2⟩:∃b,zbY m y env=b:=⟨_,rfl⟩
  rw[hb2]
  cases hb:zbY m x env
  ·refine zah (N:=168) hm (G:=G) kT.out 31000 (lsw [35] [1000016]) zqh Tryd.func31 rfl rfl (by simp) (by kernel_rfl) ?_
   repeat'(first|refine zaB.i hz fun _=>?_|refine zaB.i hz2 fun _=>?_|refine rq fun _=>?_|refine rf fun _=>?_|simp only[go_sem,hk,hxy,hb,hb2,zad,zab,Tryd.f31])
  ·refine zah (N:=168) hm (G:=G) kT.out 31000 (lsw [35] [1000016]) zqh Tryd.func31 rfl rfl (by simp) (by kernel_rfl) ?_
   repeat'(first|refine zaB.i hz fun _=>?_|refine zaB.i hz2 fun _=>?_|refine rq fun _=>?_|refine rf fun _=>?_|simp only[go_sem,hk,hxy,hb,hb2,zad,zab,Tryd.f31])
 ·obtain⟨x,hx⟩:=znx (v4 (by omega))
  rw[zEw hk hx]
  have hz:=fun c=>kQ.out (by unfold isQ;omega) x (by rw[hx];simp) c
  obtain⟨V,hV⟩:∃V:Int→Bool,V=fun v=>zbY m x (env++[⟨f.name,v⟩]):=⟨_,rfl⟩
  rw[←hV]
  have hVv:∀v,zbY m x (env++[⟨f.name,v⟩])=V v:=fun v=>by rw[hV]
  have kz:=Kp.mk hz
  have kV:=Kp.mk hVv
  clear hV hz hVv
  obtain⟨r,hr⟩:∃r,(zee m).all V=r:=⟨_,rfl⟩
  have kr:=Kp.mk hr
  rw[hr]
  clear hr
  refine zah (N:=168) hm (G:=G) kT.out 31000 (lsw [35] [1000016]) zqh Tryd.func31 rfl rfl (by simp) (by kernel_rfl) ?_
  repeat'(first|refine rq fun _=>?_|refine rf fun _=>?_|simp only[go_sem,hk,hx,zad,zab,Tryd.f31])
  refine zai hm (G:=G) kT.out 31000 (lsw [35] [1000016]) (ι:=zbG m.size.toNat 3 fun i=>∀v:Nat,v<m.size.toNat→v<i→V v=true)
   ⟨fun q=>⟨frL [(3,.ptr (31003,0) 0),(4,.ptr (31004,1) 0),(5,.ptr (31005,2) 0),(135,.fz (.i .i64 m.size)),(136,.fz (.i .i64 q.i))],
    hpL [((31003,0),some ⟨[.fz (.i .i64 m.size),.fz (.sl (m.consts.map enc)),.fz (.sl (m.rels.map enc))],true,false⟩),((31004,1),some ⟨[.fz (.i .i64 f.kind),.fz (.s f.name.l),.fz (.sl (f.words.map enc)),.fz (.sl (f.subs.map enc))],true,false⟩),((31005,2),some ⟨[.fz (.sl (env.map enc))],true,false⟩)],q.m⟩,fun q=>m.size.toNat-q.i⟩
   ⟨0,3,by omega,by omega,fun v h h2=>by omega⟩ (by kernel_rfl) ?_ ?_
  ·refine zag ?_ ?_ ?_<;>simp only[go_sem,hk,hx]
  rintro⟨i,q,hi,hq,hp⟩
  try simp only at hi hq
  rcases Nat.lt_or_ge i m.size.toNat with h1|h1
  ·have h1':((i:Int)<m.size)=True:=eq_true (by omega)
   have hz:=kz.out ⟨f.name,(i:Int)⟩
   have hvi:=kV.out (i:Int)
   have hbb:V i=false∨V i=true:=by cases V i<;>simp
   rcases hbb with hb|hb
   ·have hrr:r=false:=by rw[←kr.out];exact zki (v:=i) (by omega) hb
    subst hrr
    repeat'(first|refine zaB.i hz fun _=>?_|refine rq fun _=>?_|refine rf fun _=>?_|simp only[go_sem,hk,hx,h1,h1',hvi,hb,zac,List.map_append,zeV,zea,zdU,zfO,zad,zab,Tryd.f31])
   ·have hp2:=zi7 hp hb
    have kp:=Kp.mk hp2
    clear hp2
    repeat'(first|refine zaB.i hz fun _=>?_|refine rq fun _=>?_|refine rf fun _=>?_|simp only[go_sem,hk,hx,h1,h1',hvi,hb,zac,List.map_append,zeV,zea,zdU,zfO,zad,zab,Tryd.f31])
    refine⟨⟨i+1,q+1,by omega,by omega,kp.out⟩,by simp only;omega,?_⟩
    refine zag ?_ ?_ ?_<;>simp only[go_sem,hk,hx]
    all_goals first|done|omega
  ·obtain rfl:i=m.size.toNat:=by omega
   have hrr:r=true:=by rw[←kr.out];exact zrT fun v hv=>hp v (by omega) (by omega)
   have h1':((m.size.toNat:Int)<m.size)=False:=eq_false (by omega)
   subst hrr
   repeat'(first|refine rq fun _=>?_|refine rf fun _=>?_|simp only[go_sem,hk,hx,Nat.lt_irrefl,h1',zad,zab,Tryd.f31])
 ·obtain⟨x,hx⟩:=znx (v4 (by omega))
  rw[zEx hk hx]
  have hz:=fun c=>kQ.out (by unfold isQ;omega) x (by rw[hx];simp) c
  obtain⟨V,hV⟩:∃V:Int→Bool,V=fun v=>zbY m x (env++[⟨f.name,v⟩]):=⟨_,rfl⟩
  rw[←hV]
  have hVv:∀v,zbY m x (env++[⟨f.name,v⟩])=V v:=fun v=>by rw[hV]
  have kz:=Kp.mk hz
  have kV:=Kp.mk hVv
  clear hV hz hVv
  obtain⟨r,hr⟩:∃r,(zee m).any V=r:=⟨_,rfl⟩
  have kr:=Kp.mk hr
  rw[hr]
  clear hr
  refine zah (N:=168) hm (G:=G) kT.out 31000 (lsw [35] [1000016]) zqh Tryd.func31 rfl rfl (by simp) (by kernel_rfl) ?_
  repeat'(first|refine rq fun _=>?_|refine rf fun _=>?_|simp only[go_sem,hk,hx,zad,zab,Tryd.f31])
  refine zai hm (G:=G) kT.out 31000 (lsw [35] [1000016]) (ι:=zbG m.size.toNat 3 fun i=>∀v:Nat,v<m.size.toNat→v<i→V v=false)
   ⟨fun q=>⟨frL [(3,.ptr (31003,0) 0),(4,.ptr (31004,1) 0),(5,.ptr (31005,2) 0),(135,.fz (.i .i64 m.size)),(136,.fz (.i .i64 q.i))],
    hpL [((31003,0),some ⟨[.fz (.i .i64 m.size),.fz (.sl (m.consts.map enc)),.fz (.sl (m.rels.map enc))],true,false⟩),((31004,1),some ⟨[.fz (.i .i64 f.kind),.fz (.s f.name.l),.fz (.sl (f.words.map enc)),.fz (.sl (f.subs.map enc))],true,false⟩),((31005,2),some ⟨[.fz (.sl (env.map enc))],true,false⟩)],q.m⟩,fun q=>m.size.toNat-q.i⟩
   ⟨0,3,by omega,by omega,fun v h h2=>by omega⟩ (by kernel_rfl) ?_ ?_
  ·refine zag ?_ ?_ ?_<;>simp only[go_sem,hk,hx]
  rintro⟨i,q,hi,hq,hp⟩
  try simp only at hi hq
  rcases Nat.lt_or_ge i m.size.toNat with h1|h1
  ·have h1':((i:Int)<m.size)=True:=eq_true (by omega)
   have hz:=kz.out ⟨f.name,(i:Int)⟩
   have hvi:=kV.out (i:Int)
   have hbb:V i=false∨V i=true:=by cases V i<;>simp
   rcases hbb with hb|hb
   ·have hp2:=zi7 hp hb
    have kp:=Kp.mk hp2
    clear hp2
    repeat'(first|refine zaB.i hz fun _=>?_|refine rq fun _=>?_|refine rf fun _=>?_|simp only[go_sem,hk,hx,h1,h1',hvi,hb,zac,List.map_append,zeV,zea,zdU,zfO,zad,zab,Tryd.f31])
    refine⟨⟨i+1,q+1,by omega,by omega,kp.out⟩,by simp only;omega,?_⟩
    refine zag ?_ ?_ ?_<;>simp only[go_sem,hk,hx]
    all_goals first|done|omega
   ·have hrr:r=true:=by rw[←kr.out];exact zrU (v:=i) (by omega) hb
    subst hrr
    repeat'(first|refine zaB.i hz fun _=>?_|refine rq fun _=>?_|refine rf fun _=>?_|simp only[go_sem,hk,hx,h1,h1',hvi,hb,zac,List.map_append,zeV,zea,zdU,zfO,zad,zab,Tryd.f31])
  ·obtain rfl:i=m.size.toNat:=by omega
   have hrr:r=false:=by rw[←kr.out];exact zkj fun v hv=>hp v (by omega) (by omega)
   have h1':((m.size.toNat:Int)<m.size)=False:=eq_false (by omega)
   subst hrr
   repeat'(first|refine rq fun _=>?_|refine rf fun _=>?_|simp only[go_sem,hk,hx,Nat.lt_irrefl,h1',zad,zab,Tryd.f31])
end
end Go.Proofs.YtkkffhphodngkaaDoor
namespace Go.Proofs.YtkkffhphodngkaaDoor
open Go Go.Abs Go.Proofs
section
variable {G:Nat→List FD}
theorem zGY:∀(k:Nat) (f:Abs.zaf) (bd acc:List Str) (g n:Nat) (X:zau),f.size≤k→(enc f).Wf→g<n→2<n→acc.length+(cst f bd).length≤1000000→bd.length+f.size≤1000000→
  (∀id o,X id=some o→id.2<n∧id.1≠49003∧id.1≠49004∧id.1≠76024)→
  zay Tryd.prog G 76 [.fz (enc f),.fz (enc bd),.ptr (49003,1) 0,.ptr (49004,2) 0] (hpX (HHk acc g) X) n
   (fun d' H' n'=>d'= .tup []∧n≤n'∧(∃g',g'<n'∧zhk H' (HHk (acc++cst f bd) g'))∧∀id o,X id=some o→H' id=some o):=by
 intro k
 induction k with
 |zero=>intro f bd acc g n X hs;have:=f.size_pos;omega
 |succ k ih=>
  intro f bd acc g n X hs hw hg hn hlen hbl hX
  obtain⟨Q,hQ⟩:∃Q:D→zau→Nat→Prop,Q=(fun d' H' n'=>d'= .tup []∧n≤n'∧(∃g',g'<n'∧zhk H' (HHk (acc++cst f bd) g'))∧∀id o,X id=some o→H' id=some o):=⟨_,rfl⟩
  rw[←hQ]
  have hX':∀{l:List (Abs.Id×Option O)} (id o),X id=some o→(id.2<n∧id.1≠49003∧id.1≠49004∧id.1≠76024→zhL id l)→hpX l X id=some o:=fun id o h1 h2=>(zdy (h2 (hX id o h1))).trans h1
  have hwl:f.words.length≤zba:=by
   have h:=za9 (by have h:=hw;rw[zaH]at h;exact h) (FD.sl (f.words.map enc)) (by simp)
   have:=zbV h
   simpa using this
  have hsl:f.subs.length≤zba:=by
   have h:=za9 (by have h:=hw;rw[zaH]at h;exact h) (FD.sl (f.subs.map enc)) (by simp)
   have:=zbV h
   simpa using this
  have hsw:∀g∈f.subs,(enc g).Wf:=fun g hg=>zdO (za9 (by have h:=hw;rw[zaH]at h;exact h) (FD.sl (f.subs.map enc)) (by simp)) _ (List.mem_map_of_mem hg)
  have hss:∀g∈f.subs,g.size≤k∧g.size+1≤f.size:=fun g hg=>by have:=zaf.size_sub hg;omega
  unfold zba at hwl hsl
  rw[zoi,List.length_append]at hlen
  obtain⟨A,hA⟩:∃A:Nat→List Str,A=fun i=>acc++(f.words.take i).filter (fun w=>decide (w∉bd)):=⟨_,rfl⟩
  have hA0:A 0=acc:=by rw[hA];simp
  have hAl:∀i,(A i).length≤acc.length+(f.words.filter (fun w=>decide (w∉bd))).length:=fun i=>by
   rw[hA];simp only[List.length_append];have:=@zeG f.words bd i;omega
  have hAs:∀i (h:i<f.words.length),A (i+1)=A i++if f.words[i]∈bd then[]else[f.words[i]]:=fun i h=>by
   rw[hA];simp only[zel h,List.append_assoc]
  have hAe:A f.words.length=acc++f.words.filter (fun w=>decide (w∉bd)):=by rw[hA];simp only[List.take_length]
  have kA:=Kp.mk hAl
  have kB:=Kp.mk hAs
  have kC:=Kp.mk hAe
  clear hA hAl hAs hAe
  have kX:=Kp.mk @hX'
  have kQ:=Kp.mk hQ
  have kI:=Kp.mk ih
  have kS:=Kp.mk hsw
  have kZ:=Kp.mk hss
  have kx:=Kp.mk hX
  clear hX' hQ ih hsw hss hX
  refine zah (N:=50) hm (zcq (G:=G) zwH) 76000 (lst [24]) zGm Tryd.func76 rfl rfl (by simp) (by kernel_rfl) ?_
  repeat'(first|refine rq fun _=>?_|simp only[go_sem,HHk,Tryd.f76, *])
  refine zai hm (zcq (G:=G) zwH) 76000 (lst [24]) (ι:=zen f.words.length (n+1) fun _=>True)
   ⟨fun q=>⟨frL [(1,.fz (.sl (bd.map enc))),(2,.ptr (49003,1) 0),(3,.ptr (49004,2) 0),(4,.ptr (76004,n) 0),(11,.fz (.sl (f.words.map enc))),(12,.fz (.i .i64 f.words.length)),(13,.fz (.i .i64 q.i))],
    hpX (((76004,n),some ⟨[.fz (.i .i64 f.kind),.fz (.s f.name.l),.fz (.sl (f.words.map enc)),.fz (.sl (f.subs.map enc))],true,false⟩)::HHk (A q.i) q.g) X,q.m⟩,fun q=>f.words.length-q.i⟩
   ⟨0,g,n+1,by omega,by omega,by omega,trivial⟩ (by kernel_rfl) ?_ ?_
  ·refine zaX ?_ ?_ (fun id o ho=>?_) ?_
   ·simp only[go_sem]
   ·simp only[go_sem,HHk,hA0]
   ·refine kX.out id o ho fun h1=>?_
    ((repeat'(first|exact trivial|apply And.intro))<;>(rintro rfl;simp only at h1;omega))
   ·simp only[go_sem]
  rintro⟨i,g1,m1,hi,hg1,hm1,_⟩
  try simp only at hi hg1 hm1
  rcases Nat.lt_or_ge i f.words.length with h1|h1
  ·have hfl:=kB.out i h1
   have hl1:=kA.out i
   have hl2:=kA.out (i+1)
   by_cases hin:f.words[i]∈bd
   ·rw[if_pos hin,List.append_nil]at hfl
    repeat'(first|refine rq fun _=>?_|simp only[go_sem,HHk,h1,hin,zac,zaa,Tryd.f76])
    refine⟨⟨i+1,g1,m1,by omega,by omega,by omega,trivial⟩,by simp only;omega,?_⟩
    refine zaX ?_ ?_ (fun id o ho=>?_) ?_
    ·simp only[go_sem]
    ·simp only[go_sem,HHk,hfl]
    ·refine kX.out id o ho fun h1=>?_
     ((repeat'(first|exact trivial|apply And.intro))<;>(rintro rfl;simp only at h1;omega))
    ·simp only[go_sem]
   ·rw[if_neg hin]at hfl
    have hl3:(zae ((A i).map enc)).length=(A i).length:=by rw[zlE (zeg (f:=enc) (k:=1) (fun _=>rfl) _),List.length_map]
    repeat'(first|refine rq fun _=>?_|refine zaB.i (zaL (by omega) (by decide)) fun _=>?_|simp only[go_sem,HHk,h1,hin,zac,zaa,Tryd.f76])
    refine⟨⟨i+1,m1,m1+1,by omega,by omega,by omega,trivial⟩,by simp only;omega,?_⟩
    refine zaX ?_ ?_ (fun id o ho=>?_) ?_
    ·simp only[go_sem]
    ·simp only[go_sem,HHk,hfl,zji]
    ·refine kX.out id o ho fun h1=>?_
     ((repeat'(first|exact trivial|apply And.intro))<;>(rintro rfl;simp only at h1;omega))
    ·simp only[go_sem]
  ·obtain rfl:i=f.words.length:=by omega
   have hAe:=kC.out
   obtain⟨bd2,hbd⟩:∃bd2,bd2=if isQ f.kind then bd++[f.name]else bd:=⟨_,rfl⟩
   rw[←hbd]at hlen
   obtain⟨B,hB⟩:∃B:Nat→List Str,B=fun j=>A f.words.length++zb8 (f.subs.take j) bd2:=⟨_,rfl⟩
   have hB0:B 0=A f.words.length:=by rw[hB];simp[zb8]
   have hBs:∀j (h:j<f.subs.length),B (j+1)=B j++cst f.subs[j] bd2:=fun j h=>by rw[hB];simp only[zfc h,List.append_assoc]
   have hBl:∀j,(B j).length≤1000000:=fun j=>by rw[hB,List.length_append,hAe,List.length_append];have:=@zfN f.subs bd2 j;omega
   have hBe:B f.subs.length=acc++cst f bd:=by rw[hB,zoi,←hbd,hAe];simp only[List.take_length,List.append_assoc]
   have hb2:bd2.length≤bd.length+1:=by
    rw[hbd];split
    ·simp
    ·omega
   have kBs:=Kp.mk hBs
   have kBl:=Kp.mk hBl
   have kBe:=Kp.mk hBe
   clear hBs hBl hBe hB hAe
   rcases Decidable.em (isQ f.kind)with hq|hq
   all_goals
    (first|rw[if_pos hq]at hbd|rw[if_neg hq]at hbd)
    unfold isQ at hq
    repeat'(first|refine rq fun _=>?_|refine zaB.i (zaL (by omega) (by decide)) fun _=>?_|simp only[go_sem,HHk,hq,Nat.lt_irrefl,zac,Tryd.f76])
    refine zai hm (zcq (G:=G) zwH) 76000 (lst [24]) (ι:=zen f.subs.length (n+1) fun _=>True)
     ⟨fun q=>⟨frL [(1,.fz (.sl (bd2.map enc))),(2,.ptr (49003,1) 0),(3,.ptr (49004,2) 0),(39,.fz (.sl (f.subs.map enc))),(40,.fz (.i .i64 f.subs.length)),(41,.fz (.i .i64 q.i))],hpX (HHk (B q.i) q.g) X,q.m⟩,fun q=>f.subs.length-q.i⟩
     ⟨0,g1,m1,by omega,by omega,by omega,trivial⟩ (by kernel_rfl) ?_ ?_
    ·refine zaX ?_ ?_ (fun id o ho=>?_) ?_
     ·simp only[go_sem,hbd,List.map_append]
     ·simp only[go_sem,HHk,hB0]
     ·refine kX.out id o ho fun h1=>?_
      ((repeat'(first|exact trivial|apply And.intro))<;>(rintro rfl;simp only at h1;omega))
     ·simp only[go_sem]
    rintro⟨j,g2,m2,hj,hg2,hm2,_⟩
    try simp only at hj hg2 hm2
    rcases Nat.lt_or_ge j f.subs.length with h2|h2
    ·have hmem:=List.getElem_mem h2
     have hBj:=kBs.out j h2
     have hl4:=kBl.out (j+1)
     have hz:=kZ.out _ hmem
     rw[hBj,List.length_append]at hl4
     have ih2:=kI.out f.subs[j] bd2 (B j) g2 (m2+1) X hz.1 (kS.out _ hmem) (by omega) (by omega) hl4 (by omega) (fun id o ho=>by have:=kx.out id o ho;omega)
     rw[zaH]at ih2
     repeat'(first|refine rq fun _=>?_|simp only[go_sem,HHk,h2,zaa,Tryd.f76])
     refine zas.i (zci rfl (zdM (by simp only[go_sem,zhM]) (by simp only[go_sem,HHk]) (fun id o ho=>?_) (Nat.le_refl _) (zaI ih2 ?_)))
     ·refine kX.out id o ho fun h1=>?_
      ((repeat'(first|exact trivial|apply And.intro))<;>(rintro rfl;simp only at h1;omega))
     rintro d' H' n' ⟨rfl,e1,⟨g3,hg3,e2⟩,e3⟩
     rw[←hBj]at e2
     simp only[go_sem,HHk]at e2
     obtain⟨b1,b2,b3⟩:=e2
     rw[show H'=hpX [] H' from rfl]
     repeat'(first|refine rq fun _=>?_|simp only[go_sem,HHk,h2,Tryd.f76])
     refine⟨⟨j+1,g3,n',by omega,by omega,by omega,trivial⟩,by simp only;omega,?_⟩
     refine zaX ?_ ?_ (fun id o ho=>?_) ?_
     ·simp only[go_sem]
     ·simp only[go_sem,HHk,b1,b2,b3]
     ·exact e3 id o ho
     ·simp only[go_sem]
    ·obtain rfl:j=f.subs.length:=by omega
     repeat'(first|refine rq fun _=>?_|simp only[go_sem,HHk,Nat.lt_irrefl,Tryd.f76])
     rw[kQ.out]
     refine⟨rfl,by omega,⟨g2,by omega,?_⟩,fun id o ho=>kX.out id o ho fun h1=>?_⟩
     ·rw[←kBe.out];simp only[go_sem,HHk]
     ·((repeat'(first|exact trivial|apply And.intro))<;>(rintro rfl;simp only at h1;omega))
theorem zml {H:zau}{id:Abs.Id}{l:List Str}{bx vt:Bool}{n:Nat}{R:D→zau→Nat→Prop}(ho:H id=some ⟨zae (l.map enc),bx,vt⟩)
  (hR:R (.tup []) (hpX [(id,some ⟨zae ((zf8 l).map enc),bx,vt⟩)] H) n):zay Tryd.prog G 59 [.arr id 1 0 l.length] H n R:=by
 rw[zdW]at ho
 have h:=zi3 (G:=G) (n:=n) zGb Tryd.slices_Sort_string Tryd.slices_Sort_string_none ho
 rw[List.length_map]at h
 refine zaI h ?_
 rintro d H' n' ⟨rfl,rfl,rfl⟩
 rw[zkh,zeU]
 exact hR
theorem zk5 {H:zau}{id:Abs.Id}{l:List Str}{bx vt:Bool}{n:Nat}{R:D→zau→Nat→Prop}(ho:H id=some ⟨zae (l.map enc),bx,vt⟩)
  (hR:R (.arr id 1 0 (zfh l).length) (hpX [(id,some ⟨zae ((zfh l).map enc),bx,vt⟩)] H) n):zay Tryd.prog G 60 [.arr id 1 0 l.length] H n R:=by
 rw[zdW]at ho
 have h:=zfz (G:=G) (n:=n) zGc Tryd.slices_Compact_string Tryd.slices_Compact_string_empty ho
 rw[List.length_map]at h
 refine zaI h ?_
 rintro d H' n' ⟨rfl,rfl,rfl⟩
 rw[zkh,zeU,show(zda (l.map (·.l))).length=(zfh l).length by unfold zfh;rw[List.length_map]]
 exact hR
theorem zGX {f:Abs.zaf}(hw:(enc f).Wf)(hl:(cst f []).length≤1000000)(hs:f.size≤1000000):zay Tryd.prog G 49 [.fz (enc f)] (hpL []) 0
  (fun d H n=>∃g,g<n∧d= .arr (76024,g) 1 0 (zbH f).length∧H (76024,g)=some ⟨zae ((zbH f).map enc),false,(cst f []).isEmpty⟩):=by
 obtain⟨Q,hQ⟩:∃Q:D→zau→Nat→Prop,Q=(fun d H n=>∃g,g<n∧d= .arr (76024,g) 1 0 (zbH f).length∧H (76024,g)=some ⟨zae ((zbH f).map enc),false,(cst f []).isEmpty⟩):=⟨_,rfl⟩
 rw[←hQ]
 refine zah (N:=13) hm (zcq (G:=G) zwH) 49000 (lst []) zD9 Tryd.func49 rfl rfl (by simp) (by kernel_rfl) ?_
 have h:=zGY (G:=G) f.size f [] [] 3 4 (fun _=>none) (Nat.le_refl _) hw (by omega) (by omega) (by simpa using hl) (by simpa using hs) (fun id o ho=>by cases ho)
 rw[zaH]at h
 repeat'(first|refine rq fun _=>?_|simp only[go_sem,Tryd.f49])
 refine zas.i (zci rfl (zqY (args':=[.fz (.agg [.i .i64 f.kind,.s f.name.l,.sl (f.words.map enc),.sl (f.subs.map enc)]),.fz (enc ([]:List Str)),.ptr (49003,1) 0,.ptr (49004,2) 0])
  (hl:=HHk [] 3) (n':=4) [] [(76024,3)] [] rfl ?_ ?_ ?_ ?_ ?_ ?_))
 case _=>omega
 case _=>simp only[go_sem]
 case _=>simp only[go_sem,HHk];first|done|rfl
 case _=>simp only[go_sem,HHk];first|done|rfl
 case _=>simp only[go_sem];first|done|rfl
 rw[show hpL (HHk [] 3)=hpX (HHk [] 3) (fun _=>none)from rfl]
 refine zaI h ?_
 rintro d' H' n' ⟨rfl,e1,⟨g,hg,e2⟩,_⟩
 rw[List.nil_append]at e2
 obtain⟨C,hC⟩:∃C,C=cst f []:=⟨_,rfl⟩
 rw[←hC]at e2
 rw[zpf,←hC]at hQ
 simp only[go_sem,HHk]at e2
 obtain⟨b1,b2,b3⟩:=e2
 rw[show H'=hpX [] H' from rfl]
 repeat'(first|refine rq fun _=>?_|simp only[go_sem,b1,b2,b3,Tryd.f49])
 refine zas.i (zml (l:=C) (bx:=false) (vt:=C.isEmpty) (by simp only[go_sem,b3]) ?_)
 rw[←zf9 C]at b1
 repeat'(first|refine rq fun _=>?_|simp only[go_sem,b1,b2,b3,Tryd.f49])
 refine zas.i (zk5 (l:=zf8 C) (bx:=false) (vt:=C.isEmpty) (by simp only[go_sem]) ?_)
 repeat'(first|refine rq fun _=>?_|simp only[go_sem,b1,b2,b3,Tryd.f49])
 rw[hQ]
 exact⟨g,hg,by simp only[go_sem],by simp only[go_sem]⟩
def A16:Tbl:=A15.add 49 (sp1 zbH fun f=>(cst f []).length≤1000000∧f.size≤1000000)
attribute [go_sem] A16
theorem ztc {f:Abs.zaf}(h:(cst f []).isEmpty=true):zbH f=[]:=by
 cases hu:zbH f with
 |nil=>rfl
 |cons x l=>
  have:=(zd0 f x).1 (by rw[hu];simp)
  rw[List.isEmpty_iff.1 h]at this
  simp at this
theorem zA8:zan Tryd.prog G A16:=by
 refine zb4 zD9 zG4 fun f hp hw=>?_
 refine zcs (zGX (G:=G) hw hp.1 hp.2) ?_
 rintro d H n ⟨g,hg,rfl,ho⟩
 obtain⟨U,hU⟩:∃U,zbH f=U:=⟨_,rfl⟩
 have hn:(cst f []).isEmpty=true→U=[]:=fun h=>by rw[←hU];exact ztc h
 rw[hU]at ho ⊢
 refine⟨.fz (.sl (U.map enc)),H0,n,?_,rfl⟩
 have e:H0=hpL []:=rfl
 rw[e]
 refine zbc [] [] [((76024,g),U.map enc)] ?_ ?_ ?_ ?_ ?_<;>simp only[go_sem,ho]
 intro h
 rw[hn h];rfl
def A17:Tbl:=A16.add 40 (sp2 zeo fun l _=>l.length≤1000000)
attribute [go_sem] A17
theorem zG5:zan Tryd.prog G A17:=by
 refine zbq zD8 zA8 fun l s hl _ _=>?_
 by_cases hin:s∈l
 ·have e:zeo l s=l:=by unfold zeo;rw[if_pos hin]
  rw[e]
  refine zah (N:=39) hm (G:=G) zA8 40000 (lsw [29,33,38] []) zD8 Tryd.func40 rfl rfl (by simp) (by kernel_rfl) ?_
  repeat'(first|refine rq fun _=>?_|simp only[go_sem,hin,Tryd.f40])
 ·have e:zeo l s=l.take (twN l s)++[s]++l.drop (twN l s):=by unfold zeo;rw[if_neg hin];rfl
  rw[e]
  clear e
  have hlt:∀i (h:i<l.length),i<twN l s→Op.bytesLess l[i].l s.l=true:=fun i h h2=>by rw[zet];exact decide_eq_true (zvZ h h2)
  have hat:∀i (h:i<l.length),i=twN l s→Op.bytesLess l[i].l s.l=false:=fun i h h2=>by rw[zet];exact decide_eq_false (zvX h h2)
  have htl:=zvY s l
  obtain⟨T,hT⟩:∃T,twN l s=T:=⟨_,rfl⟩
  rw[hT]at hlt hat htl ⊢
  clear hT
  have kl:=Kp.mk hlt
  have ka:=Kp.mk hat
  clear hlt hat
  refine zah (N:=39) hm (G:=G) zA8 40000 (lsw [29,33,38] []) zD8 Tryd.func40 rfl rfl (by simp) (by kernel_rfl) ?_
  repeat'(first|refine rq fun _=>?_|simp only[go_sem,hin,Tryd.f40])
  refine zai hm (G:=G) zA8 40000 (lsw [29,33,38] []) (ι:=za5 T fun _=>True)
   ⟨fun q=>⟨frL [(0,.fz (.sl (l.map enc))),(1,.fz (.s s.l)),(5,.full []),(6,.fz (.i .i64 q.i))],hpL [],0⟩,fun q=>T-q.i⟩
   ⟨0,by omega,trivial⟩ (by kernel_rfl) ?_ ?_
  ·refine zag ?_ ?_ ?_<;>simp only[go_sem]
  rintro⟨i,hi,_⟩
  try simp only at hi
  rcases Nat.lt_or_ge i T with h1|h1
  ·have h2:i<l.length:=by omega
   have h3:=kl.out i h2 h1
   repeat'(first|refine rq fun _=>?_|simp only[go_sem,h2,h3,zaa,Tryd.f40])
   refine⟨⟨i+1,by omega,trivial⟩,by simp only;omega,?_⟩
   refine zag ?_ ?_ ?_<;>simp only[go_sem]
  ·obtain rfl:i=T:=by omega
   have hlt:(l.take i).length=i:=by rw[List.length_take];omega
   rcases Nat.lt_or_ge i l.length with h2|h2
   case' inl=>have h3:=ka.out i h2 rfl
   case' inr=>have h3:¬i<l.length:=by omega
   all_goals
    repeat'(first|refine rq fun _=>?_|refine zaB.i (zaL (by first|omega|(simp only[List.length_map,List.length_take,List.length_drop,List.length_append,List.length_cons,List.length_nil];omega)) (by decide)) fun _=>?_|refine rq fun _=>?_|simp only[go_sem,h2,h3,zjZ,zaa,Tryd.f40])
   all_goals first|done|(simp only[List.map_append,List.map_take,List.map_drop,List.map_cons,List.map_nil,zwo])
def A18:Tbl:=A17.add 67 (sp3 zgv zog)
attribute [go_sem] A18
theorem zEK:zan Tryd.prog G A18:=by
 refine zxw zaf.size zGg zG5 fun n hT f bd l hn hpre hw _ _=>?_
 obtain⟨hfit,hbl,hll⟩:=hpre
 obtain⟨hwl,hsl,hfs⟩:=zaf.fit_eq hfit
 have hszs:f.size=zaf.sizes f.subs+1:=by cases f;rw[zaf.size];rfl
 have hsz:∀g∈f.subs,g.size<n∧g.fit=true:=fun g hg=>⟨by have:=zaf.size_sub hg;omega,zaf.fits_mem hfs hg⟩
 obtain⟨L,hL⟩:∃L:Nat→List Str,L=fun i=>(f.words.take i).foldl (fun l w=>if w∈bd then l else zeo l w) l:=⟨_,rfl⟩
 have hL0:L 0=l:=by rw[hL];rfl
 have hLs:∀i (h:i<f.words.length),L (i+1)=if f.words[i]∈bd then L i else zeo (L i) f.words[i]:=fun i h=>by
  rw[hL];simp only[List.take_succ_eq_append_getElem h,List.foldl_append,List.foldl_cons,List.foldl_nil]
 have hLl:∀i,(L i).length≤l.length+1000:=fun i=>by
  have:=zfU bd (f.words.take i) l
  rw[hL];simp only;rw[List.length_take]at this;omega
 obtain⟨bd2,hbd2⟩:∃bd2,(if isQ f.kind then bd++[f.name]else bd)=bd2:=⟨_,rfl⟩
 have hbl2:bd2.length≤bd.length+1:=by rw[←hbd2];split<;>simp
 obtain⟨lw,hlw⟩:∃lw,L f.words.length=lw:=⟨_,rfl⟩
 have hlwl:lw.length≤l.length+1000:=by rw[←hlw];exact hLl _
 have hcst:zgv f bd l=zdr f.subs bd2 lw:=by rw[zwj,hbd2,←hlw,hL];simp only[List.take_length]
 obtain⟨M,hM⟩:∃M:Nat→List Str,M=fun j=>zdr (f.subs.take j) bd2 lw:=⟨_,rfl⟩
 have hM0:M 0=lw:=by rw[hM];simp only[List.take_zero,zdr]
 have hMs:∀j (h:j<f.subs.length),M (j+1)=zgv f.subs[j] bd2 (M j):=fun j h=>by
  rw[hM];simp only[List.take_succ_eq_append_getElem h,zk9,zdr]
 have hMl:∀j (h:j<f.subs.length),zog f.subs[j] bd2 (M j):=fun j h=>by
  have h1:=zhU (f.subs.take j) bd2 lw (zlD j hfs)
  have h2:=zju h
  have h3:=zaf.size_mem (List.getElem_mem h)
  refine⟨(hsz _ (List.getElem_mem h)).2,by omega,?_⟩
  rw[hM];simp only;omega
 have hMe:M f.subs.length=zgv f bd l:=by rw[hcst,hM];simp only[List.take_length]
 have kT:=Kp.mk hT
 have kz:=Kp.mk hsz
 have kL:=Kp.mk hLs
 have kM:=Kp.mk hMs
 have kN:=Kp.mk hMl
 have kb:=Kp.mk hbd2
 have kl:=Kp.mk hLl
 rw[←hMe]
 clear hT hsz hLs hMs hMl hbd2 hL hM hcst hLl hw hMe hfit hfs
 refine zah (N:=56) hm (G:=G) kT.out 67000 (lsw [35,39] [1000008]) zGg Tryd.func67 rfl rfl (by simp) (by kernel_rfl) ?_
 repeat'(first|refine rq fun _=>?_|simp only[go_sem,Tryd.f67])
 refine zbD (zcW (id:=(67003,0)) (t:=3) (b:=true) (ys:=[.i .i64 f.kind,.s f.name.l,.sl (f.words.map enc),.sl (f.subs.map enc)]) (by simp only[go_sem]) (by simp only[go_sem])) ?_
 refine zai hm (G:=G) kT.out 67000 (lsw [35,39] [1000008]) (ι:=za5 f.words.length fun _=>True)
  ⟨fun q=>⟨frL [(1,.fz (.sl (bd.map enc))),(2,.fz (.sl ((L q.i).map enc))),(3,.rp [.i .i64 f.kind,.s f.name.l,.sl (f.words.map enc),.sl (f.subs.map enc)]),(11,.fz (.sl (f.words.map enc))),(12,.fz (.i .i64 f.words.length)),(13,.fz (.i .i64 q.i))],hpL [],1⟩,fun q=>f.words.length-q.i⟩
  ⟨0,by omega,trivial⟩ (by kernel_rfl) ?_ ?_
 ·refine zag ?_ ?_ ?_<;>simp only[go_sem,hL0]
 rintro⟨i,hi,_⟩
 try simp only at hi
 rcases Nat.lt_or_ge i f.words.length with h1|h1
 ·have hls:=kL.out i h1
  have hll2:=kl.out i
  obtain⟨w,hwi⟩:∃w,f.words[i]=w:=⟨_,rfl⟩
  rw[hwi]at hls
  by_cases hin:w∈bd
  ·rw[if_pos hin]at hls
   repeat'(first|refine rq fun _=>?_|simp only[go_sem,h1,hwi,hin,zac,zaa,Tryd.f67])
   refine⟨⟨i+1,by omega,trivial⟩,by simp only;omega,?_⟩
   refine zag ?_ ?_ ?_<;>simp only[go_sem,hls]
  ·rw[if_neg hin]at hls
   repeat'(first|refine rq fun _=>?_|simp only[go_sem,h1,hwi,hin,zac,zaa,Tryd.f67])
   refine⟨⟨i+1,by omega,trivial⟩,by simp only;omega,?_⟩
   refine zag ?_ ?_ ?_<;>simp only[go_sem,hls]
 ·obtain rfl:i=f.words.length:=by omega
  by_cases hq:isQ f.kind
  case' pos=>
   have hb2:=kb.out
   rw[if_pos hq]at hb2
   unfold isQ at hq
   have hq8:((f.kind=8)=True∧(f.kind=8)=True)∨((f.kind=8)=False∧(f.kind=9)=True):=by
    rcases hq with h|h
    ·exact .inl ⟨eq_true h,eq_true h⟩
    ·exact .inr ⟨eq_false (by omega),eq_true h⟩
   rcases hq8 with⟨h8,h9⟩|⟨h8,h9⟩
   all_goals
    repeat'(first|refine rq fun _=>?_|simp only[go_sem,h8,h9,hlw,Nat.lt_irrefl,Tryd.f67])
   all_goals
    refine zaK hm (G:=G) kT.out 67000 (lsw [35,39] [1000008]) zs1 (by kernel_rfl) (by kernel_rfl) ?_
    repeat'(first|refine And.intro ?_ ?_|exact True.intro|refine rq fun _=>?_|refine zaB.i (zaL (by first|omega|(simp only[List.length_map,List.length_append,List.length_cons,List.length_nil];omega)) (by decide)) fun _=>?_|simp only[go_sem,zs1,hlw,Tryd.f67])
  case' neg=>
   have hb2:=kb.out
   rw[if_neg hq]at hb2
   unfold isQ at hq
   have h8:(f.kind=8)=False:=eq_false fun h=>hq (.inl h)
   have h9:(f.kind=9)=False:=eq_false fun h=>hq (.inr h)
   repeat'(first|refine rq fun _=>?_|simp only[go_sem,h8,h9,hlw,Nat.lt_irrefl,Tryd.f67])
  all_goals
   refine zai hm (G:=G) kT.out 67000 (lsw [35,39] [1000008]) (ι:=za5 f.subs.length fun _=>True)
    ⟨fun q=>⟨frL [(1,.fz (.sl (bd2.map enc))),(2,.fz (.sl ((M q.i).map enc))),(3,.rp [.i .i64 f.kind,.s f.name.l,.sl (f.words.map enc),.sl (f.subs.map enc)]),(42,.fz (.i .i64 f.subs.length)),(43,.fz (.i .i64 q.i))],hpL [],100⟩,fun q=>f.subs.length-q.i⟩
    ⟨0,by omega,trivial⟩ (by kernel_rfl) ?_ ?_
   ·refine zq0 (ztB (l:=[(1,.fz (.sl (bd2.map enc))),(2,.fz (.sl (lw.map enc))),(3,.rp [.i .i64 f.kind,.s f.name.l,.sl (f.words.map enc),.sl (f.subs.map enc)]),(42,.fz (.i .i64 f.subs.length)),(43,.fz (.i .i64 0))]) (by simp only[go_sem,←hb2,List.map_append])) (zag ?_ ?_ ?_)<;>simp only[go_sem,hM0]
   rintro⟨j,hj,_⟩
   try simp only at hj
   rcases Nat.lt_or_ge j f.subs.length with h2|h2
   ·have hms:=kM.out j h2
    have hmn:=kN.out j h2
    have hsz:=(kz.out _ (List.getElem_mem h2)).1
    obtain⟨x,hx⟩:∃x,f.subs[j]=x:=⟨_,rfl⟩
    rw[hx]at hms hmn hsz
    repeat'(first|refine rq fun _=>?_|refine zaB.i ⟨hsz,hmn⟩ fun _=>?_|simp only[go_sem,h2,hx,hsz,zaa,Tryd.f67])
    refine⟨⟨j+1,by omega,trivial⟩,by simp only;omega,?_⟩
    refine zag ?_ ?_ ?_<;>simp only[go_sem,hms]
   ·obtain rfl:j=f.subs.length:=by omega
    repeat'(first|refine rq fun _=>?_|simp only[go_sem,Nat.lt_irrefl,Tryd.f67])
def A19:Tbl:=A18.add 39 (sp1 (fun f=>zgv f [] []) fun f=>f.fit=true∧f.size≤1000)
attribute [go_sem] A19
theorem zwF:zan Tryd.prog G A19:=by
 refine zb4 zF1 zEK fun f hpre _=>?_
 have hp:zog f [] []:=⟨hpre.1,by simp only[List.length_nil];omega,by simp only[List.length_nil];omega⟩
 refine zah (N:=5) hm (G:=G) zEK 39000 (lst []) zF1 Tryd.func39 rfl rfl (by simp) (by kernel_rfl) ?_
 repeat'(first|refine rq fun _=>?_|refine zaB.i hp fun _=>?_|simp only[go_sem,Tryd.f39])
end
end Go.Proofs.YtkkffhphodngkaaDoor
