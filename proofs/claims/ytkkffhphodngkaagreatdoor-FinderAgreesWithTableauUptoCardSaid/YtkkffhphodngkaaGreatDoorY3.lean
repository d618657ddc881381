/- several texts of this proof in one; no conditions -/
import Derived.Test.YtkkffhphodngkaaGreatDoorAT
import Derived.Test.YtkkffhphodngkaaGreatDoorY0
import Derived.Test.YtkkffhphodngkaaGreatDoorTR
import Derived.Test.YtkkffhphodngkaaGreatDoorY9
import Derived.Test.YtkkffhphodngkaaGreatDoorY16
import Derived.Test.YtkkffhphodngkaaGreatDoorY2
set_option maxRecDepth 100000
set_option maxHeartbeats 1000000
set_option linter.unusedSimpArgs false
namespace Go.Proofs.YtkkffhphodngkaaGreatDoor
open Go Go.Abs Go.Proofs
section
variable {G:Nat→List FD}
def A1:Tbl:=Q20.add 117 (sp1 (fun _:Str=>false) fun _=>True)
attribute [go_sem] A1
theorem hA1:zan Tryz.prog G A1:=by
 refine zbE zDI (zcP zz2) fun s _ _=>?_
 refine zag (N:=6) hm (zcP zz2) 117000 (lst []) zDI Tryz.func117 rfl rfl (by simp) (by kernel_rfl) ?_
 repeat'(first|refine rq fun _=>?_|simp only[go_sem,Tryz.f117])
def A2:Tbl:=A1.add 126 (sp1 (fun _:Int=>false) fun _=>True)
attribute [go_sem] A2
theorem hA2:zan Tryz.prog G A2:=by
 refine zbE zDK hA1 fun s _ _=>?_
 refine zag (N:=6) hm (G:=G) hA1 126000 (lst []) zDK Tryz.func126 rfl rfl (by simp) (by kernel_rfl) ?_
 repeat'(first|refine rq fun _=>?_|simp only[go_sem,Tryz.f126])
theorem zzA {a b:Str}(h:a.l<b.l):zlT a b= -1:=by unfold zlT;rw[if_pos h]
theorem zzz {a b:Str}(h:¬a.l<b.l)(h2:b.l<a.l):zlT a b=1:=by unfold zlT;rw[if_neg h,if_pos h2]
theorem zzy {a b:Str}(h:¬a.l<b.l)(h2:¬b.l<a.l):zlT a b=0:=by unfold zlT;rw[if_neg h,if_neg h2]
def A3:Tbl:=A2.add 108 (sp2 zlT fun _ _=>True)
attribute [go_sem] A3
theorem hA3:zan Tryz.prog G A3:=by
 refine zcx zxF hA2 fun a b _ _ _=>?_
 by_cases h:a.l<b.l
 ·have e:=zzA h
  have h':Op.bytesLess a.l b.l=true:=by rw[zcE];exact decide_eq_true h
  rw[e]
  refine zag (N:=20) hm (G:=G) hA2 108000 (lst []) zxF Tryz.func108 rfl rfl (by simp) (by kernel_rfl) ?_
  repeat'(first|refine rq fun _=>?_|simp only[go_sem,h',Tryz.f108])
 ·have h':Op.bytesLess a.l b.l=false:=by rw[zcE];exact decide_eq_false h
  by_cases h2:b.l<a.l
  ·have e:=zzz h h2
   have h2':(a.l==b.l)=false:=by simpa using fun e=>h (absurd h2 (by rw[e];exact zeg _))
   rw[e]
   refine zag (N:=20) hm (G:=G) hA2 108000 (lst []) zxF Tryz.func108 rfl rfl (by simp) (by kernel_rfl) ?_
   repeat'(first|refine rq fun _=>?_|simp only[go_sem,h',h2',Tryz.f108])
  ·have e:=zzy h h2
   have h2':(a.l==b.l)=true:=by
    rcases zvl a.l b.l with h3|h3|h3
    ·exact absurd h3 h
    ·simpa using h3
    ·exact absurd h3 h2
   rw[e]
   refine zag (N:=20) hm (G:=G) hA2 108000 (lst []) zxF Tryz.func108 rfl rfl (by simp) (by kernel_rfl) ?_
   repeat'(first|refine rq fun _=>?_|simp only[go_sem,h',h2',Tryz.f108])
def A4:Tbl:=A3.add 111 (sp2 zkA fun _ _=>True)
attribute [go_sem] A4
theorem hA4:zan Tryz.prog G A4:=by
 refine zcx zxG hA3 fun a b _ _ _=>?_
 have hc:(a<b∧zkA a b= -1)∨(b<a∧¬a<b∧zkA a b=1)∨(¬a<b∧¬b<a∧zkA a b=0):=by
  unfold zkA;split
  ·omega
  ·split<;>omega
 rcases hc with⟨h,e⟩|⟨h2,h,e⟩|⟨h,h2,e⟩
 ·rw[e]
  refine zag (N:=20) hm (G:=G) hA3 111000 (lst []) zxG Tryz.func111 rfl rfl (by simp) (by kernel_rfl) ?_
  repeat'(first|refine rq fun _=>?_|simp only[go_sem,h,Tryz.f111])
 ·rw[e]
  refine zag (N:=20) hm (G:=G) hA3 111000 (lst []) zxG Tryz.func111 rfl rfl (by simp) (by kernel_rfl) ?_
  repeat'(first|refine rq fun _=>?_|simp only[go_sem,h,h2,Tryz.f111])
 ·rw[e]
  refine zag (N:=20) hm (G:=G) hA3 111000 (lst []) zxG Tryz.func111 rfl rfl (by simp) (by kernel_rfl) ?_
  repeat'(first|refine rq fun _=>?_|simp only[go_sem,h,h2,Tryz.f111])
def orM:List Int→Int
 |[]=>0
 |a::l=>if a≠0 then a else orM l
theorem zDP {l:List Int}{i:Nat}(h:i<l.length)(h2:∀j (hj:j<l.length),j<i→l[j]=0)(h3:l[i]≠0):orM l=l[i]:=by
 induction l generalizing i with
 |nil=>simp at h
 |cons a l ih=>
  cases i with
  |zero=>rw[orM];simp only[List.getElem_cons_zero]at h3 ⊢;rw[if_pos h3]
  |succ i=>
   have h0:=h2 0 (by simp) (by omega)
   simp only[List.getElem_cons_zero]at h0
   rw[orM,if_neg (by simp[h0])]
   simp only[List.getElem_cons_succ]at h3 ⊢
   exact ih (by simpa using h) (fun j hj hji=>by have:=h2 (j+1) (by simpa using hj) (by omega);simpa using this) h3
theorem zxH {l:List Int}(h2:∀j (hj:j<l.length),l[j]=0):orM l=0:=by
 induction l with
 |nil=>rfl
 |cons a l ih=>
  have h0:=h2 0 (by simp)
  simp only[List.getElem_cons_zero]at h0
  rw[orM,if_neg (by simp[h0])]
  exact ih fun j hj=>by have:=h2 (j+1) (by simpa using hj);simpa using this
def A5:Tbl:=A4.add 125 (sp1 orM fun _=>True)
attribute [go_sem] A5
theorem hA5:zan Tryz.prog G A5:=by
 refine zbE zDJ hA4 fun l _ hw=>?_
 have la:=zdZ hw
 simp only[List.length_map,zbh]at la
 obtain⟨r,hr⟩:∃r,orM l=r:=⟨_,rfl⟩
 have h1:∀i (h:i<l.length),(∀j (hj:j<l.length),j<i→l[j]=0)→l[i]≠0→l[i]=r:=fun i h a b=>by rw[←hr,zDP h a b]
 have h2:(∀j (hj:j<l.length),l[j]=0)→r=0:=fun h=>by rw[←hr,zxH h]
 have k1:=Kp.mk h1
 have k2:=Kp.mk h2
 rw[hr]
 clear h1 h2 hr
 refine zag (N:=18) hm (G:=G) hA4 125000 (lst []) zDJ Tryz.func125 rfl rfl (by simp) (by kernel_rfl) ?_
 repeat'(first|refine rq fun _=>?_|simp only[go_sem,Tryz.f125])
 refine zaq hm (G:=G) hA4 125000 (lst []) (ι:=zhD l.length fun i=>∀j (hj:j<l.length),j<i→l[j]=0)
  ⟨fun q=>⟨frL [(3,.fz (.i .i64 0)),(6,.fz (.sl (l.map enc))),(7,.fz (.i .i64 l.length)),(8,.fz (.i .i64 q.i))],hpL [],0⟩,fun q=>l.length-q.i⟩
  ⟨0,by omega,fun j hj h=>by omega⟩ (by kernel_rfl) ?_ ?_
 ·refine zaj ?_ ?_ ?_<;>simp only[go_sem]
 rintro⟨i,hi,hp⟩
 try simp only at hi
 rcases Nat.lt_or_ge i l.length with h|h
 ·obtain⟨x,hx⟩:∃x,l[i]=x:=⟨_,rfl⟩
  by_cases h0:x=0
  ·have hp2:∀j (hj:j<l.length),j<i+1→l[j]=0:=fun j hj h3=>by
    rcases Nat.lt_or_ge j i with h4|h4
    ·exact hp j hj h4
    ·obtain rfl:j=i:=by omega
     rw[hx,h0]
   have kp:=Kp.mk hp2
   clear hp2
   repeat'(first|refine rq fun _=>?_|simp only[go_sem,h,hx,h0,zaa,Tryz.f125])
   refine⟨⟨i+1,by omega,kp.out⟩,by simp only;omega,?_⟩
   refine zaj ?_ ?_ ?_<;>simp only[go_sem]
  ·have e:=k1.out i h hp (by rw[hx];exact h0)
   rw[hx]at e
   subst e
   clear k1 k2
   repeat'(first|refine rq fun _=>?_|simp only[go_sem,h,hx,h0,zaa,Tryz.f125])
 ·obtain rfl:i=l.length:=by omega
  have e:=k2.out fun j hj=>hp j hj hj
  subst e
  repeat'(first|refine rq fun _=>?_|simp only[go_sem,Nat.lt_irrefl,Tryz.f125])
theorem zAC {a b:Int}:orM [a,b]=if a≠0 then a else b:=by
 rw[orM,orM,orM]
 split
 ·rfl
 ·split
  ·rfl
  ·rename_i h;exact(Decidable.not_not.1 h).symm
theorem zzx (a b:zeT):orM [zlT a.name b.name,zkA a.arity b.arity]=ztz a b:=by rw[zAC];rfl
def A6:Tbl:=A5.add 110 (sp2 ztz fun _ _=>True)
attribute [go_sem] A6
theorem hA6:zan Tryz.prog G A6:=by
 refine zcx zDH hA5 fun a b _ _ _=>?_
 have e:=zzx a b
 refine zag (N:=17) hm (G:=G) hA5 110000 (lst []) zDH Tryz.func110 rfl rfl (by simp) (by kernel_rfl) ?_
 repeat'(first|refine rq fun _=>?_|simp only[go_sem,e,zae,Tryz.f110])
end
end Go.Proofs.YtkkffhphodngkaaGreatDoor
namespace Go.Abs
open Go
theorem zty {a b:List Int}{i:Nat}(h:i<a.length)(h2:i<b.length):zer (a.drop i) (b.drop i)=if zkA a[i] b[i]≠0 then zkA a[i] b[i]else zer (a.drop (i+1)) (b.drop (i+1)):=by
 rw[List.drop_eq_getElem_cons h,List.drop_eq_getElem_cons h2,zer]
theorem ztx {a b:List Int}{i:Nat}(h:i<a.length)(h2:b.length≤i):zer (a.drop i) (b.drop i)=1:=by
 rw[List.drop_eq_getElem_cons h,List.drop_of_length_le h2,zer]
theorem zww {a b:List Int}{i:Nat}(h:a.length≤i):zer (a.drop i) (b.drop i)=if i<b.length then-1 else 0:=by
 rw[List.drop_of_length_le h]
 split
 ·rename_i h2;rw[List.drop_eq_getElem_cons h2,zer]
 ·rename_i h2;rw[List.drop_of_length_le (by omega),zer]
def bsI {α:Type}(c:α→Int)(l:List α):Nat:=(l.filter fun x=>decide (c x<0)).length
def bsB {α:Type}[Inhabited α](c:α→Int)(l:List α):Bool:=decide (bsI c l<l.length)&&decide (c (l.getD (bsI c l) default)=0)
def zpk {α:Type}(c:α→Int)(l:List α):Prop:=∀i j (hi:i<l.length) (hj:j<l.length),i<j→c l[j]≤0→c l[i]<0
theorem zpA {α:Type}{c:α→Int}{l:List α}{i:Nat}(hi:i≤l.length)(h1:∀j (h:j<l.length),j<i→c l[j]<0)(h2:∀j (h:j<l.length),i≤j→0≤c l[j]):bsI c l=i:=
 zjR _ l i hi (fun j h hji=>decide_eq_true (h1 j h hji)) (fun j h hij=>decide_eq_false (by have:=h2 j h hij;omega))
theorem zoM {α:Type}[Inhabited α]{c:α→Int}{l:List α}(hs:zpk c l):l.find? (fun x=>decide (c x=0))=if bsB c l then some (l.getD (bsI c l) default)else none:=by
 cases hf:l.find? (fun x=>decide (c x=0))with
 |none=>
  rw[List.find?_eq_none]at hf
  have:bsB c l=false:=by
   unfold bsB
   by_cases h:bsI c l<l.length
   ·have:=hf _ (List.getElem_mem h)
    rw[List.getD_eq_getElem?_getD,List.getElem?_eq_getElem h]
    simp only[Option.getD_some]
    simp only[decide_eq_true_eq]at this
    simp[this]
   ·simp[h]
  rw[this];rfl
 |some x=>
  obtain⟨hx,xs,bs,rfl,hb⟩:=List.find?_eq_some_iff_append.1 hf
  have hx:=of_decide_eq_true hx
  have hi:bsI c (xs++x::bs)=xs.length:=by
   refine zpA (by simp) (fun j h hj=>?_) (fun j h hj=>?_)
   ·refine hs j xs.length h (by simp) hj ?_
    rw[List.getElem_append_right (Nat.le_refl _)]
    simp only[Nat.sub_self,List.getElem_cons_zero]
    omega
   ·rcases(show c (xs++x::bs)[j]<0∨0≤c (xs++x::bs)[j] by omega)with h3|h3
    ·rcases Nat.eq_or_lt_of_le hj with rfl|h4
     ·rw[List.getElem_append_right (Nat.le_refl _)]at h3 ⊢
      simp only[Nat.sub_self,List.getElem_cons_zero]at h3 ⊢
      omega
     ·have:=hs xs.length j (by simp) h h4 (by omega)
      rw[List.getElem_append_right (Nat.le_refl _)]at this
      simp only[Nat.sub_self,List.getElem_cons_zero]at this
      omega
    ·omega
  have hg:(xs++x::bs).getD xs.length default=x:=by
   rw[List.getD_eq_getElem?_getD,List.getElem?_append_right (Nat.le_refl _)];simp
  unfold bsB
  rw[hi,hg]
  simp[hx]
end Go.Abs
namespace Go.Proofs.YtkkffhphodngkaaGreatDoor
open Go Go.Abs Go.Proofs
section
variable {G:Nat→List FD}
def A7:Tbl:=A6.add 82 (sp2 zer fun _ _=>True)
attribute [go_sem] A7
theorem hA7:zan Tryz.prog G A7:=by
 refine zcx zKf hA6 fun a b _ hwa hwb=>?_
 have la:=zdZ hwa
 have lb:=zdZ hwb
 simp only[List.length_map,zbh]at la lb
 obtain⟨C,hC⟩:∃C:Nat→Int,C=fun i=>zer (a.drop i) (b.drop i):=⟨_,rfl⟩
 have h0:zer a b=C 0:=by rw[hC];rfl
 have h1:∀i (h:i<a.length) (h2:i<b.length),C i=if zkA a[i] b[i]≠0 then zkA a[i] b[i]else C (i+1):=fun i h h2=>by rw[hC];exact zty h h2
 have h2:∀i (h:i<a.length),b.length≤i→C i=1:=fun i h h2=>by rw[hC];exact ztx h h2
 have h3:C a.length=if a.length<b.length then-1 else 0:=by rw[hC];exact zww (Nat.le_refl _)
 rw[h0]
 obtain⟨r,hr⟩:∃r,C 0=r:=⟨_,rfl⟩
 rw[hr]
 have k1:=Kp.mk h1
 have k2:=Kp.mk h2
 have k3:=Kp.mk h3
 clear h0 h1 h2 h3 hC
 refine zag (N:=36) hm (G:=G) hA6 82000 (lst []) zKf Tryz.func82 rfl rfl (by simp) (by kernel_rfl) ?_
 repeat'(first|refine rq fun _=>?_|simp only[go_sem,Tryz.f82])
 refine zaq hm (G:=G) hA6 82000 (lst []) (ι:=zhD a.length fun i=>C i=r)
  ⟨fun q=>⟨frL [(0,.fz (.sl (a.map enc))),(1,.fz (.sl (b.map enc))),(9,.fz (.sl (a.map enc))),(10,.fz (.i .i64 a.length)),(11,.fz (.i .i64 q.i))],hpL [],0⟩,fun q=>a.length-q.i⟩
  ⟨0,by omega,hr⟩ (by kernel_rfl) ?_ ?_
 ·refine zaj ?_ ?_ ?_<;>simp only[go_sem]
 rintro⟨i,hi,hp⟩
 try simp only at hi hp
 rcases Nat.lt_or_ge i a.length with h|h
 ·rcases Nat.lt_or_ge i b.length with h2|h2
  ·have e:=k1.out i h h2
   have hb':(b.length≤i)=False:=eq_false (by omega)
   obtain⟨x,hx⟩:∃x,a[i]=x:=⟨_,rfl⟩
   obtain⟨y,hy⟩:∃y,b[i]=y:=⟨_,rfl⟩
   rw[hx,hy,hp]at e
   by_cases hc:zkA x y=0
   ·rw[if_neg (by simp[hc])]at e
    repeat'(first|refine rq fun _=>?_|simp only[go_sem,h,h2,hb',hx,hy,hc,zaa,Tryz.f82])
    refine⟨⟨i+1,by omega,e.symm⟩,by simp only;omega,?_⟩
    refine zaj ?_ ?_ ?_<;>simp only[go_sem]
   ·rw[if_pos hc]at e
    subst e
    repeat'(first|refine rq fun _=>?_|simp only[go_sem,h,h2,hb',hx,hy,hc,zaa,Tryz.f82])
  ·have e:=k2.out i h h2
   have e2:r=1:=by rw[←hp,e]
   have h2':(b.length≤i)=True:=eq_true h2
   subst e2
   repeat'(first|refine rq fun _=>?_|simp only[go_sem,h,h2,h2',zaa,Tryz.f82])
 ·obtain rfl:i=a.length:=by omega
  have e:=k3.out
  rw[hp]at e
  by_cases hl:a.length<b.length
  ·rw[if_pos hl]at e
   subst e
   have hl':((a.length:Int)<(b.length:Int))=True:=eq_true (by omega)
   repeat'(first|refine rq fun _=>?_|simp only[go_sem,Nat.lt_irrefl,hl,hl',Tryz.f82])
  ·rw[if_neg hl]at e
   subst e
   have hl':((a.length:Int)<(b.length:Int))=False:=eq_false (by omega)
   repeat'(first|refine rq fun _=>?_|simp only[go_sem,Nat.lt_irrefl,hl,hl',Tryz.f82])
def zkC (s:Str)(c:zaH):Int:=zlT c.name s
def A8:Tbl:=A7.add 107 (sp2 (fun(c:zaH) (s:Str)=>zkC s c) fun _ _=>True)
attribute [go_sem] A8
theorem hA8:zan Tryz.prog G A8:=by
 refine zcx zDG hA7 fun a b _ _ _=>?_
 have e:zlT a.name b=zkC b a:=rfl
 refine zag (N:=9) hm (G:=G) hA7 107000 (lst []) zDG Tryz.func107 rfl rfl (by simp) (by kernel_rfl) ?_
 repeat'(first|refine rq fun _=>?_|simp only[go_sem,e,zae,Tryz.f107])
structure BsI (n:Nat)(p:Nat→Prop)(q:Nat→Prop) where
 i:Nat
 j:Nat
 hij:i≤j
 hj:j≤n
 hp:p i
 hq:q j
theorem zzs {l:List zaH}{s:Str}(hw:(enc l).Wf)(_hws:(enc s).Wf)(hs:zpk (zkC s) l):zau Tryz.prog G 106 [.fz (enc l),.fz (enc s),.fn 107 []] (hpL []) 0
  (fun d _ _=>D.val d=some (.tup [.fz (.i .i64 (bsI (zkC s) l)),.fz (.b (bsB (zkC s) l))])):=by
 have la:=zdZ hw
 simp only[List.length_map,zbh]at la
 have hI:=@zpA zaH (zkC s) l
 have hm1:∀h (hh:h<l.length),zkC s l[h]<0→∀j (hj:j<l.length),j<h+1→zkC s l[j]<0:=fun h hh h2 j hj h3=>by
  rcases Nat.eq_or_lt_of_le (Nat.le_of_lt_succ h3)with rfl|h4
  ·exact h2
  ·exact hs j h hj hh h4 (by omega)
 have hm2:∀h (hh:h<l.length),¬zkC s l[h]<0→∀j (hj:j<l.length),h≤j→0≤zkC s l[j]:=fun h hh h2 j hj h3=>by
  rcases Nat.eq_or_lt_of_le h3 with rfl|h4
  ·omega
  ·refine Decidable.byContradiction fun h5=>h2 (hs h j hh hj h4 (by omega))
 have k1:=Kp.mk hm1
 have k2:=Kp.mk hm2
 have kI:=Kp.mk @hI
 clear hm1 hm2 hI hs
 refine zag (N:=49) hm (G:=G) hA8 106000 (lst []) zHy Tryz.func106 rfl rfl (by simp) (by kernel_rfl) ?_
 repeat'(first|refine rq fun _=>?_|simp only[go_sem,Tryz.f106])
 refine zaq hm (G:=G) hA8 106000 (lst []) (ι:=BsI l.length (fun i=>∀j (hj:j<l.length),j<i→zkC s l[j]<0) fun i=>∀j (hj:j<l.length),i≤j→0≤zkC s l[j])
  ⟨fun q=>⟨frL [(0,.fz (.sl (l.map enc))),(1,.fz (.s s.l)),(2,.fn 107 []),(8,.fz (.i .i64 l.length)),(9,.fz (.i .i64 q.i)),(10,.fz (.i .i64 q.j))],hpL [],0⟩,fun q=>q.j-q.i⟩
  ⟨0,l.length,by omega,by omega,fun j hj h=>by omega,fun j hj h=>by omega⟩ (by kernel_rfl) ?_ ?_
 ·refine zaj ?_ ?_ ?_<;>simp only[go_sem]
 rintro⟨i,j,hij,hj,hp,hq⟩
 try simp only at hij hj
 rcases Nat.lt_or_ge i j with h|h
 ·have h':((i:Int)<(j:Int))=True:=eq_true (by omega)
  repeat'(first|refine rq fun _=>?_|simp only[go_sem,h,h',Tryz.f106])
  obtain⟨H,hH⟩:∃H:Nat,(i+j) / 2=H:=⟨_,rfl⟩
  have hmid:(((i:Int)+(j:Int)) / 2^1)=(H:Int):=by omega
  have hl:H<l.length:=by omega
  refine zaJ.i ⟨by show(0:Int)≤_;omega,by show _≤(18446744073709551615:Int);omega⟩ fun _=>?_
  have k3:=k1.out H hl
  have k4:=k2.out H hl
  obtain⟨x,hx⟩:∃x,l[H]=x:=⟨_,rfl⟩
  rw[hx]at k3 k4
  by_cases hc:zkC s x<0
  ·have hn:=k3 hc
   have kn:=Kp.mk hn
   clear k3 k4 hn
   repeat'(first|refine rq fun _=>?_|simp only[go_sem,hmid,hl,hx,hc,zae,zc4,zaa,Tryz.f106])
   refine⟨⟨H+1,j,by omega,by omega,kn.out,hq⟩,by simp only;omega,?_⟩
   refine zaj ?_ ?_ ?_<;>simp only[go_sem]
  ·have hn:=k4 hc
   have kn:=Kp.mk hn
   clear k3 k4 hn
   repeat'(first|refine rq fun _=>?_|simp only[go_sem,hmid,hl,hx,hc,zae,zc4,zaa,Tryz.f106])
   refine⟨⟨i,H,by omega,by omega,hp,kn.out⟩,by simp only;omega,?_⟩
   refine zaj ?_ ?_ ?_<;>simp only[go_sem]
 ·obtain rfl:i=j:=by omega
  have hbi:=kI.out hj hp hq
  have hbb:bsB (zkC s) l=(decide (i<l.length)&&decide (zkC s (l.getD i default)=0)):=by unfold bsB;rw[hbi]
  rw[hbi,hbb]
  clear hbi hbb
  rcases Nat.lt_or_ge i l.length with h1|h1
  ·obtain⟨x,hx⟩:∃x,l[i]=x:=⟨_,rfl⟩
   have hg:l.getD i default=x:=by rw[List.getD_eq_getElem?_getD,List.getElem?_eq_getElem h1,←hx];rfl
   have h1':((i:Int)<(l.length:Int))=True:=eq_true (by omega)
   rw[hg]
   repeat'(first|refine rq fun _=>?_|simp only[go_sem,Nat.lt_irrefl,h1,h1',hx,zae,zc4,zaa,Tryz.f106])
  ·have h1':((i:Int)<(l.length:Int))=False:=eq_false (by omega)
   have h1n:(i<l.length)=False:=eq_false (by omega)
   repeat'(first|refine rq fun _=>?_|simp only[go_sem,Nat.lt_irrefl,h1n,h1',zae,zc4,zaa,Tryz.f106])
end
end Go.Proofs.YtkkffhphodngkaaGreatDoor
namespace Go.Abs
open Go
def zD0 {α:Type}(lt:α→α→Prop)(l:List α):Prop:=∀i j (hi:i<l.length) (hj:j<l.length),i<j→lt l[i] l[j]
def okC (l:List zaH):Prop:=zD0 (fun a b=>a.name.l<b.name.l) l
def okR (l:List zeT):Prop:=zD0 ltR l
theorem zqr {l:List zaH}(h:okC l)(s:Str):zpk (fun c=>zlT c.name s) l:=fun i j hi hj hij h2=>by
 have h1:=h i j hi hj hij
 rw[zkB]
 rcases Int.lt_or_eq_of_le h2 with h3|h3
 ·exact zfm h1 (zkB.1 h3)
 ·rw[←zeb.1 h3];exact h1
theorem zqs {l:List zeT}(h:okR l)(s:zeT):zpk (fun r=>ztz r s) l:=fun i j hi hj hij h2=>by
 have h1:=h i j hi hj hij
 show ztz _ _<0
 rw[zpR]
 rcases Int.lt_or_eq_of_le h2 with h3|h3
 ·exact zux h1 (zpR.1 h3)
 ·obtain⟨e1,e2⟩:=zml.1 h3
  rcases h1 with h4|⟨h4,h5⟩
  ·exact .inl (by rw[←e1];exact h4)
  ·exact .inr ⟨h4.trans e1,by omega⟩
instance:Inhabited (List Int):=⟨[]⟩
end Go.Abs
namespace Go.Proofs.YtkkffhphodngkaaGreatDoor
open Go Go.Abs Go.Proofs
section
variable {G:Nat→List FD}
def zeR (s:zeT)(r:zeT):Int:=ztz r s
def znZ (s:List Int)(t:List Int):Int:=zer t s
theorem zF6 {l:List zeT}{s:zeT}(hw:(enc l).Wf)(_hws:(enc s).Wf)(hs:zpk (zeR s) l):zau Tryz.prog G 109 [.fz (enc l),.fz (enc s),.fn 110 []] (hpL []) 0
  (fun d _ _=>D.val d=some (.tup [.fz (.i .i64 (bsI (zeR s) l)),.fz (.b (bsB (zeR s) l))])):=by
 have la:=zdZ hw
 simp only[List.length_map,zbh]at la
 have hI:=@zpA zeT (zeR s) l
 have hm1:∀h (hh:h<l.length),zeR s l[h]<0→∀j (hj:j<l.length),j<h+1→zeR s l[j]<0:=fun h hh h2 j hj h3=>by
  rcases Nat.eq_or_lt_of_le (Nat.le_of_lt_succ h3)with rfl|h4
  ·exact h2
  ·exact hs j h hj hh h4 (by omega)
 have hm2:∀h (hh:h<l.length),¬zeR s l[h]<0→∀j (hj:j<l.length),h≤j→0≤zeR s l[j]:=fun h hh h2 j hj h3=>by
  rcases Nat.eq_or_lt_of_le h3 with rfl|h4
  ·omega
  ·refine Decidable.byContradiction fun h5=>h2 (hs h j hh hj h4 (by omega))
 have k1:=Kp.mk hm1
 have k2:=Kp.mk hm2
 have kI:=Kp.mk @hI
 have hcu:∀x,ztz x s=zeR s x:=fun _=>rfl
 clear hm1 hm2 hI hs
 refine zag (N:=49) hm (G:=G) hA8 109000 (lst []) zHz Tryz.func109 rfl rfl (by simp) (by kernel_rfl) ?_
 repeat'(first|refine rq fun _=>?_|simp only[go_sem,Tryz.f109])
 refine zaq hm (G:=G) hA8 109000 (lst []) (ι:=BsI l.length (fun i=>∀j (hj:j<l.length),j<i→zeR s l[j]<0) fun i=>∀j (hj:j<l.length),i≤j→0≤zeR s l[j])
  ⟨fun q=>⟨frL [(0,.fz (.sl (l.map enc))),(4,.ptr (109004,0) 0),(2,.fn 110 []),(8,.fz (.i .i64 l.length)),(9,.fz (.i .i64 q.i)),(10,.fz (.i .i64 q.j))],hpL [((109004,0),some ⟨[.fz (.s s.name.l),.fz (.i .i64 s.arity),.fz (.sl (s.tuples.map enc))],true,false⟩)],1⟩,fun q=>q.j-q.i⟩
  ⟨0,l.length,by omega,by omega,fun j hj h=>by omega,fun j hj h=>by omega⟩ (by kernel_rfl) ?_ ?_
 ·refine zaj ?_ ?_ ?_<;>simp only[go_sem]
 rintro⟨i,j,hij,hj,hp,hq⟩
 try simp only at hij hj
 rcases Nat.lt_or_ge i j with h|h
 ·have h':((i:Int)<(j:Int))=True:=eq_true (by omega)
  repeat'(first|refine rq fun _=>?_|simp only[go_sem,h,h',Tryz.f109])
  obtain⟨H,hH⟩:∃H:Nat,(i+j) / 2=H:=⟨_,rfl⟩
  have hmid:(((i:Int)+(j:Int)) / 2^1)=(H:Int):=by omega
  have hl:H<l.length:=by omega
  refine zaJ.i ⟨by show(0:Int)≤_;omega,by show _≤(18446744073709551615:Int);omega⟩ fun _=>?_
  have k3:=k1.out H hl
  have k4:=k2.out H hl
  obtain⟨x,hx⟩:∃x,l[H]=x:=⟨_,rfl⟩
  rw[hx]at k3 k4
  by_cases hc:zeR s x<0
  ·have hn:=k3 hc
   have kn:=Kp.mk hn
   clear k3 k4 hn
   repeat'(first|refine rq fun _=>?_|simp only[go_sem,hmid,hl,hx,hc,hcu,zae,zfh,zaa,Tryz.f109])
   refine⟨⟨H+1,j,by omega,by omega,kn.out,hq⟩,by simp only;omega,?_⟩
   refine zaj ?_ ?_ ?_<;>simp only[go_sem]
  ·have hn:=k4 hc
   have kn:=Kp.mk hn
   clear k3 k4 hn
   repeat'(first|refine rq fun _=>?_|simp only[go_sem,hmid,hl,hx,hc,hcu,zae,zfh,zaa,Tryz.f109])
   refine⟨⟨i,H,by omega,by omega,hp,kn.out⟩,by simp only;omega,?_⟩
   refine zaj ?_ ?_ ?_<;>simp only[go_sem]
 ·obtain rfl:i=j:=by omega
  have hbi:=kI.out hj hp hq
  have hbb:bsB (zeR s) l=(decide (i<l.length)&&decide (zeR s (l.getD i default)=0)):=by unfold bsB;rw[hbi]
  rw[hbi,hbb]
  clear hbi hbb
  rcases Nat.lt_or_ge i l.length with h1|h1
  ·obtain⟨x,hx⟩:∃x,l[i]=x:=⟨_,rfl⟩
   have hg:l.getD i default=x:=by rw[List.getD_eq_getElem?_getD,List.getElem?_eq_getElem h1,←hx];rfl
   have h1':((i:Int)<(l.length:Int))=True:=eq_true (by omega)
   rw[hg]
   repeat'(first|refine rq fun _=>?_|simp only[go_sem,Nat.lt_irrefl,h1,h1',hx,hcu,zae,zfh,zaa,Tryz.f109])
  ·have h1':((i:Int)<(l.length:Int))=False:=eq_false (by omega)
   have h1n:(i<l.length)=False:=eq_false (by omega)
   repeat'(first|refine rq fun _=>?_|simp only[go_sem,Nat.lt_irrefl,h1n,h1',hcu,zae,zfh,zaa,Tryz.f109])
theorem zF7 {l:List (List Int)}{s:(List Int)}(hw:(enc l).Wf)(_hws:(enc s).Wf)(hs:zpk (znZ s) l):zau Tryz.prog G 81 [.fz (enc l),.fz (enc s),.fn 82 []] (hpL []) 0
  (fun d _ _=>D.val d=some (.tup [.fz (.i .i64 (bsI (znZ s) l)),.fz (.b (bsB (znZ s) l))])):=by
 have la:=zdZ hw
 simp only[List.length_map,zbh]at la
 have hI:=@zpA (List Int) (znZ s) l
 have hm1:∀h (hh:h<l.length),znZ s l[h]<0→∀j (hj:j<l.length),j<h+1→znZ s l[j]<0:=fun h hh h2 j hj h3=>by
  rcases Nat.eq_or_lt_of_le (Nat.le_of_lt_succ h3)with rfl|h4
  ·exact h2
  ·exact hs j h hj hh h4 (by omega)
 have hm2:∀h (hh:h<l.length),¬znZ s l[h]<0→∀j (hj:j<l.length),h≤j→0≤znZ s l[j]:=fun h hh h2 j hj h3=>by
  rcases Nat.eq_or_lt_of_le h3 with rfl|h4
  ·omega
  ·refine Decidable.byContradiction fun h5=>h2 (hs h j hh hj h4 (by omega))
 have k1:=Kp.mk hm1
 have k2:=Kp.mk hm2
 have kI:=Kp.mk @hI
 have hcu:∀x,zer x s=znZ s x:=fun _=>rfl
 clear hm1 hm2 hI hs
 refine zag (N:=49) hm (G:=G) hA8 81000 (lst []) zLN Tryz.func81 rfl rfl (by simp) (by kernel_rfl) ?_
 repeat'(first|refine rq fun _=>?_|simp only[go_sem,Tryz.f81])
 refine zaq hm (G:=G) hA8 81000 (lst []) (ι:=BsI l.length (fun i=>∀j (hj:j<l.length),j<i→znZ s l[j]<0) fun i=>∀j (hj:j<l.length),i≤j→0≤znZ s l[j])
  ⟨fun q=>⟨frL [(0,.fz (.sl (l.map enc))),(1,.fz (.sl (s.map enc))),(2,.fn 82 []),(8,.fz (.i .i64 l.length)),(9,.fz (.i .i64 q.i)),(10,.fz (.i .i64 q.j))],hpL [],0⟩,fun q=>q.j-q.i⟩
  ⟨0,l.length,by omega,by omega,fun j hj h=>by omega,fun j hj h=>by omega⟩ (by kernel_rfl) ?_ ?_
 ·refine zaj ?_ ?_ ?_<;>simp only[go_sem]
 rintro⟨i,j,hij,hj,hp,hq⟩
 try simp only at hij hj
 rcases Nat.lt_or_ge i j with h|h
 ·have h':((i:Int)<(j:Int))=True:=eq_true (by omega)
  repeat'(first|refine rq fun _=>?_|simp only[go_sem,h,h',Tryz.f81])
  obtain⟨H,hH⟩:∃H:Nat,(i+j) / 2=H:=⟨_,rfl⟩
  have hmid:(((i:Int)+(j:Int)) / 2^1)=(H:Int):=by omega
  have hl:H<l.length:=by omega
  refine zaJ.i ⟨by show(0:Int)≤_;omega,by show _≤(18446744073709551615:Int);omega⟩ fun _=>?_
  have k3:=k1.out H hl
  have k4:=k2.out H hl
  obtain⟨x,hx⟩:∃x,l[H]=x:=⟨_,rfl⟩
  rw[hx]at k3 k4
  by_cases hc:znZ s x<0
  ·have hn:=k3 hc
   have kn:=Kp.mk hn
   clear k3 k4 hn
   repeat'(first|refine rq fun _=>?_|simp only[go_sem,hmid,hl,hx,hc,hcu,zae,zaa,Tryz.f81])
   refine⟨⟨H+1,j,by omega,by omega,kn.out,hq⟩,by simp only;omega,?_⟩
   refine zaj ?_ ?_ ?_<;>simp only[go_sem]
  ·have hn:=k4 hc
   have kn:=Kp.mk hn
   clear k3 k4 hn
   repeat'(first|refine rq fun _=>?_|simp only[go_sem,hmid,hl,hx,hc,hcu,zae,zaa,Tryz.f81])
   refine⟨⟨i,H,by omega,by omega,hp,kn.out⟩,by simp only;omega,?_⟩
   refine zaj ?_ ?_ ?_<;>simp only[go_sem]
 ·obtain rfl:i=j:=by omega
  have hbi:=kI.out hj hp hq
  have hbb:bsB (znZ s) l=(decide (i<l.length)&&decide (znZ s (l.getD i default)=0)):=by unfold bsB;rw[hbi]
  rw[hbi,hbb]
  clear hbi hbb
  rcases Nat.lt_or_ge i l.length with h1|h1
  ·obtain⟨x,hx⟩:∃x,l[i]=x:=⟨_,rfl⟩
   have hg:l.getD i default=x:=by rw[List.getD_eq_getElem?_getD,List.getElem?_eq_getElem h1,←hx];rfl
   have h1':((i:Int)<(l.length:Int))=True:=eq_true (by omega)
   rw[hg]
   repeat'(first|refine rq fun _=>?_|simp only[go_sem,Nat.lt_irrefl,h1,h1',hx,hcu,zae,zaa,Tryz.f81])
  ·have h1':((i:Int)<(l.length:Int))=False:=eq_false (by omega)
   have h1n:(i<l.length)=False:=eq_false (by omega)
   repeat'(first|refine rq fun _=>?_|simp only[go_sem,Nat.lt_irrefl,h1n,h1',hcu,zae,zaa,Tryz.f81])
def zmn (m:zaB)(w:Str):Int×Bool:=(ze2 m w,(zoL m w).isSome)
theorem zw2 {m:zaB}(h:okC m.consts)(w:Str):zoL m w=if bsB (zkC w) m.consts then some (m.consts.getD (bsI (zkC w) m.consts) default)else none:=by
 have:=zoM (zqr h w)
 unfold zoL
 rw[show(fun c:zaH=>decide (c.name=w))=fun c=>decide (zlT c.name w=0)from funext fun c=>decide_eq_decide.2 zeb.symm,this]
 rfl
theorem zyy {α:Type}[Inhabited α]{c:α→Int}{l:List α}(h:bsB c l=true):bsI c l<l.length:=by
 unfold bsB at h
 simp only[Bool.and_eq_true,decide_eq_true_eq]at h
 exact h.1
def A9:Tbl:=A8.add 79 (zBW zmn fun m _=>okC m.consts)
attribute [go_sem] A9
theorem hA9:zan Tryz.prog G A9:=by
 refine zpf zHI hA8 fun m w hok hwm hww=>?_
 have hwl:(enc m.consts).Wf:=zbW (by have h:=hwm;rw[zgb]at h;exact h) (FD.sl (m.consts.map enc)) (by simp)
 have hbs:=zzs (G:=G) hwl hww (zqr hok w)
 have hf:=zw2 hok w
 obtain⟨I,hI⟩:∃I,bsI (zkC w) m.consts=I:=⟨_,rfl⟩
 cases hb:bsB (zkC w) m.consts with
 |true=>
  have hlt:=zyy hb
  rw[hb,if_pos rfl]at hf
  rw[hI]at hf hlt
  obtain⟨x,hx⟩:∃x,m.consts[I]=x:=⟨_,rfl⟩
  have hg:m.consts.getD I default=x:=by rw[List.getD_eq_getElem?_getD,List.getElem?_eq_getElem hlt,←hx];rfl
  rw[hg]at hf
  have e:zmn m w=(x.value,true):=by unfold zmn ze2;rw[hf];rfl
  rw[hb,hI]at hbs
  simp only[e]
  clear hf hg e hwl
  refine zag (N:=23) hm (G:=G) hA8 79000 (lst []) zHI Tryz.func79 rfl rfl (by simp) (by kernel_rfl) ?_
  repeat'(first|refine rq fun _=>?_|simp only[go_sem,Tryz.f79])
  refine zav.i (zaG (zdB (ds:=[_,_]) rfl hbs) ?_)
  rintro d' H' n1 ⟨rfl,rfl,rfl⟩
  repeat'(first|refine rq fun _=>?_|simp only[go_sem,hlt,hx,zc4,zae,zaa,Tryz.f79])
 |false=>
  rw[hb]at hf hbs
  have e:zmn m w=(0,false):=by unfold zmn ze2;rw[hf];rfl
  rw[hI]at hbs
  simp only[e]
  clear hf e hwl
  refine zag (N:=23) hm (G:=G) hA8 79000 (lst []) zHI Tryz.func79 rfl rfl (by simp) (by kernel_rfl) ?_
  repeat'(first|refine rq fun _=>?_|simp only[go_sem,Tryz.f79])
  refine zav.i (zaG (zdB (ds:=[_,_]) rfl hbs) ?_)
  rintro d' H' n1 ⟨rfl,rfl,rfl⟩
  repeat'(first|refine rq fun _=>?_|simp only[go_sem,zc4,zae,zaa,Tryz.f79])
def zr8:zeT:=⟨⟨[]⟩,0,[]⟩
def zpb (m:zaB)(w:Str)(n:Int):zeT×Bool:=match zkP m w n with|some r=>(r,true)|none=>(zr8,false)
theorem zw3 {m:zaB}(h:okR m.rels)(w:Str)(n:Int):zkP m w n=if bsB (zeR ⟨w,n,[]⟩) m.rels then some (m.rels.getD (bsI (zeR ⟨w,n,[]⟩) m.rels) default)else none:=by
 have:=zoM (zqs h ⟨w,n,[]⟩)
 unfold zkP
 rw[show(fun r:zeT=>decide (r.name=w∧r.arity=n))=fun r=>decide (ztz r ⟨w,n,[]⟩=0)from funext fun c=>decide_eq_decide.2 (zml (a:=c) (b:=⟨w,n,[]⟩)).symm,this]
 rfl
def A10:Tbl:=A9.add 80 (zFF zpb fun m _ _=>okR m.rels)
attribute [go_sem] A10
theorem zKU:zan Tryz.prog G A10:=by
 refine zAQ zHJ hA9 fun m w n hok hwm hww hwn=>?_
 have hwl:(enc m.rels).Wf:=zbW (by have h:=hwm;rw[zgb]at h;exact h) (FD.sl (m.rels.map enc)) (by simp)
 have hwt:(enc (⟨w,n,[]⟩:zeT)).Wf:= .agg _ fun x hx=>by
  simp only[List.mem_cons,List.not_mem_nil,or_false]at hx
  rcases hx with rfl|rfl|rfl
  ·exact hww
  ·exact hwn
  ·exact .sl _ (by simp) (by simp)
 have hbs:=zF6 (G:=G) hwl hwt (zqs hok ⟨w,n,[]⟩)
 have hf:=zw3 hok w n
 obtain⟨I,hI⟩:∃I,bsI (zeR ⟨w,n,[]⟩) m.rels=I:=⟨_,rfl⟩
 cases hb:bsB (zeR ⟨w,n,[]⟩) m.rels with
 |true=>
  have hlt:=zyy hb
  rw[hb,if_pos rfl]at hf
  rw[hI]at hf hlt
  obtain⟨x,hx⟩:∃x,m.rels[I]=x:=⟨_,rfl⟩
  have hg:m.rels.getD I default=x:=by rw[List.getD_eq_getElem?_getD,List.getElem?_eq_getElem hlt,←hx];rfl
  rw[hg]at hf
  have e:zpb m w n=(x,true):=by unfold zpb;rw[hf]
  rw[hb,hI]at hbs
  simp only[e]
  clear hf hg e hwl hwt
  refine zag (N:=27) hm (G:=G) hA9 80000 (lst []) zHJ Tryz.func80 rfl rfl (by simp) (by kernel_rfl) ?_
  repeat'(first|refine rq fun _=>?_|simp only[go_sem,Tryz.f80])
  refine zav.i (zaG (zdB (ds:=[_,_]) rfl hbs) ?_)
  rintro d' H' n1 ⟨rfl,rfl,rfl⟩
  repeat'(first|refine rq fun _=>?_|simp only[go_sem,hlt,hx,zfh,zae,zaa,Tryz.f80])
 |false=>
  rw[hb]at hf hbs
  have e:zpb m w n=(zr8,false):=by unfold zpb;rw[hf];rfl
  rw[hI]at hbs
  simp only[e,zr8]
  clear hf e hwl hwt
  refine zag (N:=27) hm (G:=G) hA9 80000 (lst []) zHJ Tryz.func80 rfl rfl (by simp) (by kernel_rfl) ?_
  repeat'(first|refine rq fun _=>?_|simp only[go_sem,Tryz.f80])
  refine zav.i (zaG (zdB (ds:=[_,_]) rfl hbs) ?_)
  rintro d' H' n1 ⟨rfl,rfl,rfl⟩
  repeat'(first|refine rq fun _=>?_|simp only[go_sem,zfh,zae,zaa,Tryz.f80])
end
end Go.Proofs.YtkkffhphodngkaaGreatDoor
namespace Go.Abs
open Go
theorem zo3 {f:zab}:zco f=zce f.subs+if isQ f.kind then 1 else 0:=by cases f;rw[zco];rfl
theorem ziJ:∀(l:List zab) (f:zab),zce (l++[f])=max (zce l) (zco f)
 |[],f=>by simp[zce]
 |g::l,f=>by rw[List.cons_append,zce,zce,ziJ l f];omega
theorem zo2 {fs:List zab}{j:Nat}(h:j<fs.length):zce (fs.take (j+1))=max (zce (fs.take j)) (zco fs[j]):=by
 rw[List.take_succ_eq_append_getElem h,ziJ]
mutual
theorem zj3:∀f:zab,zco f≤f.size
 | .mk k n w s=>by
  rw[zco,zab.size]
  have:=zj4 s
  split<;>omega
theorem zj4:∀fs:List zab,zce fs≤zab.sizes fs
 |[]=>by rw[zce];omega
 |f::fs=>by rw[zce,zab.sizes];have:=zj3 f;have:=zj4 fs;omega
end
theorem ziK:∀{l:List zab} {f:zab},f∈l→zco f≤zce l
 |g::l,f,h=>by
  rw[zce]
  rcases List.mem_cons.1 h with rfl|h
  ·omega
  ·have:=ziK h;omega
def szP (f:zab):Prop:=f.fit=true∧f.size≤1000000
theorem zpm {f g:zab}(h:szP f)(hg:g∈f.subs):g.size<f.size∧szP g:=
 ⟨zab.size_sub hg,zab.fits_mem (zab.fit_eq h.1).2.2 hg,by have:=zab.size_sub hg;have:=h.2;omega⟩
end Go.Abs
namespace Go.Proofs.YtkkffhphodngkaaGreatDoor
open Go Go.Abs Go.Proofs
section
variable {G:Nat→List FD}
theorem zpt {G:Nat→List FD}{N:Nat}{l:List (Nat×D)}{H:zas}{n:Nat}{id:Abs.Id}{t:Nat}{ys:List FD}{b:Bool}(ho:H id=some ⟨ys.map .fz,b,false⟩)(hs:frL l t= .ptr id 0):
  zeQ G N ⟨frL l,H,n⟩ ⟨frL ((t,.rp ys)::l),zaE H id none,n⟩:=zs2 (st:=⟨frL l,H,n⟩) ho hs
def A11:Tbl:=A10.add 38 (sp1 (fun f:Abs.zab=>(zco f:Int)) szP)
attribute [go_sem] A11
theorem zKV:zan Tryz.prog G A11:=by
 refine zvh zab.size zJS zKU fun n hT f hn hpre _=>?_
 have hsl:=(zab.fit_eq hpre.1).2.1
 have hse:=zj3 f
 have hz:=hpre.2
 have hr:∀g∈f.subs,g.size<n∧szP g:=fun g hg=>by have:=zpm hpre hg;exact⟨by omega,this.2⟩
 have kT:=Kp.mk hT
 have kr:=Kp.mk hr
 obtain⟨S,hS⟩:∃S:Nat→Nat,S=fun j=>zce (f.subs.take j):=⟨_,rfl⟩
 have hS0:S 0=0:=by rw[hS];simp[zce]
 have hSs:∀j (h:j<f.subs.length),S (j+1)=max (S j) (zco f.subs[j]):=fun j h=>by rw[hS];exact zo2 h
 have hSe:zco f=S f.subs.length+if isQ f.kind then 1 else 0:=by rw[hS,zo3];simp only[List.take_length]
 have kS:=Kp.mk hSs
 have hSn:S f.subs.length≤1000000:=by omega
 have hq:(isQ f.kind∧(f.kind=8∨f.kind=9))∨(¬isQ f.kind∧¬(f.kind=8∨f.kind=9)):=by
  by_cases h:isQ f.kind
  ·exact .inl ⟨h,h⟩
  ·exact .inr ⟨h,h⟩
 rw[hSe]
 clear hT hr hS hSs hSe hpre hn hse
 refine zag (N:=23) hm (G:=G) kT.out 38000 (lst []) zJS Tryz.func38 rfl rfl (by simp) (by kernel_rfl) ?_
 repeat'(first|refine rq fun _=>?_|simp only[go_sem,Tryz.f38])
 refine zhM (zpt (id:=(38001,0)) (t:=1) (b:=true) (ys:=[.i .i64 f.kind,.s f.name.l,.sl (f.words.map enc),.sl (f.subs.map enc)]) (by simp only[go_sem]) (by simp only[go_sem])) ?_
 refine zaq hm (G:=G) kT.out 38000 (lst []) (ι:=zd7 f.subs.length 1 fun _=>True)
  ⟨fun q=>⟨frL [(1,.rp [.i .i64 f.kind,.s f.name.l,.sl (f.words.map enc),.sl (f.subs.map enc)]),(3,.fz (.i .i64 (S q.i:Nat))),(7,.fz (.sl (f.subs.map enc))),(8,.fz (.i .i64 f.subs.length)),(9,.fz (.i .i64 q.i))],hpL [],q.m⟩,fun q=>f.subs.length-q.i⟩
  ⟨0,1,by omega,by omega,trivial⟩ (by kernel_rfl) ?_ ?_
 ·refine zaj ?_ ?_ ?_<;>simp only[go_sem,hS0]
  all_goals first|done|rfl
 rintro⟨j,m,hj,hm1,_⟩
 try simp only at hj hm1
 rcases Nat.lt_or_ge j f.subs.length with h2|h2
 ·have hss:=kS.out j h2
  have hr:=kr.out _ (List.getElem_mem h2)
  obtain⟨x,hx⟩:∃x,f.subs[j]=x:=⟨_,rfl⟩
  rw[hx]at hss hr
  have hmx:max (S j:Int) (zco x:Int)=(S (j+1):Int):=by omega
  repeat'(first|refine rq fun _=>?_|refine zaJ.i hr fun _=>?_|simp only[go_sem,h2,hx,hmx,zac,zaa,Tryz.f38])
  refine⟨⟨j+1,m+1,by omega,by omega,trivial⟩,by simp only;omega,?_⟩
  refine zaj ?_ ?_ ?_<;>simp only[go_sem,hss,hmx]
  all_goals first|done|omega|rfl|(simp only[hss];omega)
 ·obtain rfl:j=f.subs.length:=by omega
  rcases hq with⟨h3,h4⟩|⟨h3,h4⟩
  ·rw[if_pos h3]
   repeat'(first|refine rq fun _=>?_|simp only[go_sem,Nat.lt_irrefl,h4,zac,Tryz.f38])
   all_goals first|done|rfl
  ·rw[if_neg h3]
   repeat'(first|refine rq fun _=>?_|simp only[go_sem,Nat.lt_irrefl,h4,zac,Tryz.f38])
   all_goals first|done|rfl
end
end Go.Proofs.YtkkffhphodngkaaGreatDoor
namespace Go.Abs
open Go
theorem zjG {p:Nat→Prop}{n i:Nat}(h:∀j,j<n→j<i→p j)(hi:p i):∀j,j<n→j<i+1→p j:=fun j hj h2=>by
 rcases Nat.lt_or_ge j i with h3|h3
 ·exact h j hj h3
 ·obtain rfl:j=i:=by omega
  exact hi
section
variable {P:Program} {G:Nat→List FD} {T:Tbl}
end
end Go.Abs
namespace Go.Proofs.YtkkffhphodngkaaGreatDoor
open Go Go.Abs Go.Proofs
section
variable {G:Nat→List FD}
def A12:Tbl:=A11
attribute [go_sem] A12
theorem zKW:zan Tryz.prog G A12:=zKV
def A13:Tbl:=A12
attribute [go_sem] A13
theorem zKX:zan Tryz.prog G A13:=zKW
def A14:Tbl:=A13
attribute [go_sem] A14
theorem zGi:zan Tryz.prog G A14:=zKX
end
end Go.Proofs.YtkkffhphodngkaaGreatDoor
namespace Go.Proofs.YtkkffhphodngkaaGreatDoor
open Go Go.Abs Go.Proofs
section
variable {G:Nat→List FD}
def zBn (p:Nat):Int:=(p:Int)-1
theorem zm2 (p:Nat):zBn (p+1)=(p:Int):=by unfold zBn;omega
theorem zug:zBn 0= -1:=rfl
structure zFO (n:Nat)(P:Nat→Prop) where
 p:Nat
 hn:p≤n
 hp:P p
theorem f78 {w:Str}{env:List zaH}{m:zaB}{ie im:Abs.Id}{H:zas}{n:Nat}{R:D→zas→Nat→Prop}(hok:okC m.consts)(hl:env.length≤1000)
  (ho1:H ie=some ⟨[.fz (.sl (env.map enc))],true,false⟩)(ho2:H im=some ⟨[.fz (.i .i64 m.size),.fz (.sl (m.consts.map enc)),.fz (.sl (m.rels.map enc))],true,false⟩)
  (hR:R (.fz (.i .i64 (za1 m env w))) H n):zau Tryz.prog G 78 [.fz (enc w),.ptr ie 0,.ptr im 0] H n R:=by
 have hW:za1 m env w=match zdH env w with|some v=>v|none=>ze2 m w:=rfl
 have e0:H=hpX [] H:=rfl
 obtain⟨L,hL⟩:∃L:Nat→Option Int,L=fun p=>zdH (env.take p) w:=⟨_,rfl⟩
 have hL0:L 0=none:=by rw[hL];rfl
 have hLs:∀p (h:p<env.length),L (p+1)=if env[p].name=w then some env[p].value else L p:=fun p h=>by
  rw[hL];simp only[List.take_succ_eq_append_getElem h,zjY]
 have hLe:zdH env w=L env.length:=by rw[hL];simp only[List.take_length]
 rw[hLe]at hW
 have kL:=Kp.mk hLs
 have kR:=Kp.mk hR
 have kW:=Kp.mk hW
 clear hL hLs hLe hW hR
 rw[e0]
 refine zag (N:=34) hm (G:=G) zGi 78000 (lst []) zLM Tryz.func78 rfl rfl (by simp) (by kernel_rfl) ?_
 repeat'(first|refine rq fun _=>?_|simp only[go_sem,ho1,Tryz.f78])
 refine zaq hm (G:=G) zGi 78000 (lst []) (ι:=zFO env.length fun p=>L env.length=L p)
  ⟨fun q=>⟨frL [(0,.fz (.s w.l)),(1,.ptr ie 0),(2,.ptr im 0),(5,.fz (.i .i64 (zBn q.p)))],hpX [] H,n⟩,fun q=>q.p⟩
  ⟨env.length,Nat.le_refl _,rfl⟩ (by kernel_rfl) ?_ ?_
 ·refine zaO ?_ ?_ (fun id o ho=>?_) ?_
  ·simp only[go_sem,zBn]
  ·simp only[go_sem]
  ·simp only[go_sem];exact ho
  ·simp only[go_sem]
 rintro⟨p,hn,hp⟩
 try simp only at hn hp
 rcases p with _|p
 ·repeat'(first|refine zaJ.i hok fun _=>?_|refine rq fun _=>?_|simp only[go_sem,zug,ho1,ho2,zae,zai,Tryz.f78])
  have h:=kR.out
  rw[kW.out,hp,hL0]at h
  exact h
 ·have h1:p<env.length:=by omega
  have hs:=kL.out p h1
  obtain⟨x,hx⟩:∃x,env[p]=x:=⟨_,rfl⟩
  rw[hx]at hs
  by_cases hc:x.name=w
  ·rw[if_pos hc]at hs
   repeat'(first|refine rq fun _=>?_|simp only[go_sem,zm2,ho1,ho2,h1,hx,hc,zc4,zae,zaa,Tryz.f78])
   have h:=kR.out
   rw[kW.out,hp,hs]at h
   exact h
  ·rw[if_neg hc]at hs
   have hc':(x.name=w)=False:=eq_false hc
   repeat'(first|refine rq fun _=>?_|simp only[go_sem,zm2,ho1,ho2,h1,hx,hc',zc4,zae,zaa,Tryz.f78])
   refine⟨⟨p,by omega,hp.trans hs⟩,by simp only;omega,?_⟩
   refine zaO ?_ ?_ (fun id o ho=>?_) ?_
   ·simp only[go_sem,zBn]
   ·simp only[go_sem]
   ·simp only[go_sem];exact ho
   ·simp only[go_sem]
end
end Go.Proofs.YtkkffhphodngkaaGreatDoor
namespace Go.Abs
open Go
section
variable {P:Program} {G:Nat→List FD} {T:Tbl}
theorem zx3 {α β γ ρ:Type}[Enc α][Enc β][Enc γ][Enc ρ]{f:FuncId}{g:α→β→γ→ρ}{pre:α→β→γ→Prop}(m:β→Nat)(hc:zam P f)(hT:zan P G T)
  (h:∀n,zan P G (T.add f (sp3 g fun a b c=>m b<n∧pre a b c))→∀a b c,m b=n→pre a b c→(enc a).Wf→(enc b).Wf→(enc c).Wf→zau P G f [.fz (enc a),.fz (enc b),.fz (enc c)] (hpL []) 0 (fun d _ _=>D.val d=some (.fz (enc (g a b c))))):zan P G (T.add f (sp3 g pre)):=by
 have key:∀n,zan P G (T.add f (sp3 g fun a b c=>m b<n∧pre a b c)):=by
  intro n
  induction n with
  |zero=>exact zfk hc hT fun a b c ha=>by omega
  |succ n ih=>
   refine zfk hc hT fun a b c ha hw hw2 hw3=>?_
   rcases Nat.lt_or_ge (m b) n with h1|h1
   ·have h2:=ih f (sp3 g fun a b c=>m b<n∧pre a b c) [enc a,enc b,enc c] _ _ (by simp[Tbl.add]) (zDe) ⟨by rw[dec_enc],by rw[dec_enc],by rw[dec_enc],by rw[dec_enc,dec_enc,dec_enc];exact⟨h1,ha.2⟩⟩
    rw[dec_enc,dec_enc,dec_enc,zes]at h2
    exact h2
   ·exact h n ih a b c (by omega) ha.2 hw hw2 hw3
 exact zfk hc hT fun a b c ha hw hw2 hw3=>h (m b) (key _) a b c rfl ha hw hw2 hw3
end
def zvE:Tv:=(.q 0 (.q 1 (.q 2 (.q 3 (.q 4 (.q 6 (.q 7 (.r 8 (.q 9 (.br [(5,(.q 10 (.br [(11,(.q 12 (.q 13 .leaf)))]))),(10,(.br [(5,(.br [(11,(.q 12 (.q 13 .leaf)))]))]))]))))))))))
structure zyg (m:zaB)(f:zab)(env:List zaH):Prop where
 m:zAw m
 v:vok f
 s:szP f
 e:env.length+zco f≤900
theorem zyh {m:zaB}{f g:zab}{env:List zaH}(h:zyg m f env)(hg:g∈f.subs):g.size<f.size∧zyg m g env:=by
 have hs:=zpm h.s hg
 refine⟨hs.1,h.m,(zfC _).1 (zbM.1 h.v).2.2.2.2.2.2 g hg,hs.2,?_⟩
 have:=ziK hg
 have h2:=h.e
 rw[zo3]at h2
 omega
theorem zvP {m:zaB}{f g:zab}{env:List zaH}(h:zyg m f env)(hg:g∈f.subs)(hq:isQ f.kind)(c:zaH):g.size<f.size∧zyg m g (env++[c]):=by
 have hs:=zpm h.s hg
 refine⟨hs.1,h.m,(zfC _).1 (zbM.1 h.v).2.2.2.2.2.2 g hg,hs.2,?_⟩
 have:=ziK hg
 have h2:=h.e
 rw[zo3,if_pos hq]at h2
 rw[List.length_append,List.length_singleton]
 omega
theorem zIb {m:zaB}{f:zab}{env:List zaH}(h:f.kind=1):zaT m f env=true:=by cases f;simp only[zah]at h;subst h;rw[zaT,if_pos rfl]
theorem zIc {m:zaB}{f:zab}{env:List zaH}(h:f.kind=2):zaT m f env=decide (f.words.map (za1 m env)∈zi8 m f.name f.words.length):=by cases f;simp only[zah]at h;subst h;rw[zaT];rfl
theorem zId {m:zaB}{f:zab}{env:List zaH}{a b:Str}(h:f.kind=3)(hw:f.words=[a,b]):zaT m f env=decide (za1 m env a=za1 m env b):=by cases f;simp only[zah,zct]at h hw;subst h hw;rw[zaT];rfl
theorem zIe {m:zaB}{f x:zab}{env:List zaH}(h:f.kind=4)(hs:f.subs=[x]):zaT m f env= !zaT m x env:=by cases f;simp only[zah,zaK]at h hs;subst h hs;rw[zaT,zbL,zbL];rfl
theorem zIf {m:zaB}{f x y:zab}{env:List zaH}(h:f.kind=5)(hs:f.subs=[x,y]):zaT m f env=(zaT m x env&&zaT m y env):=by cases f;simp only[zah,zaK]at h hs;subst h hs;rw[zaT,zbL,zbL,zbL];rfl
theorem zIg {m:zaB}{f x y:zab}{env:List zaH}(h:f.kind=6)(hs:f.subs=[x,y]):zaT m f env=(zaT m x env||zaT m y env):=by cases f;simp only[zah,zaK]at h hs;subst h hs;rw[zaT,zbL,zbL,zbL];rfl
theorem zIh {m:zaB}{f x y:zab}{env:List zaH}(h:f.kind=7)(hs:f.subs=[x,y]):zaT m f env=(!zaT m x env||zaT m y env):=by cases f;simp only[zah,zaK]at h hs;subst h hs;rw[zaT,zbL,zbL,zbL];rfl
theorem zIi {m:zaB}{f x:zab}{env:List zaH}(h:f.kind=8)(hs:f.subs=[x]):zaT m f env=(zc7 m).all fun v=>zaT m x (env++[⟨f.name,v⟩]):=by cases f;simp only[zah,zaK]at h hs;subst h hs;rw[zaT];simp only[zbL];rfl
theorem zIj {m:zaB}{f x:zab}{env:List zaH}(h:f.kind=9)(hs:f.subs=[x]):zaT m f env=(zc7 m).any fun v=>zaT m x (env++[⟨f.name,v⟩]):=by cases f;simp only[zah,zaK]at h hs;subst h hs;rw[zaT];simp only[zbL];rfl
theorem zo6 {s:List zab}(h:s.length=1):∃a,s=[a]:=by
 match s,h with
 |[a],_=>exact⟨a,rfl⟩
theorem zpq {s:List zab}(h:s.length=2):∃a b,s=[a,b]:=by
 match s,h with
 |[a,b],_=>exact⟨a,b,rfl⟩
theorem zAY {s:List Str}(h:s.length=2):∃a b,s=[a,b]:=by
 match s,h with
 |[a,b],_=>exact⟨a,b,rfl⟩
end Go.Abs
namespace Go.Proofs.YtkkffhphodngkaaGreatDoor
open Go Go.Abs Go.Proofs
section
variable {G:Nat→List FD}
theorem zqR {m:zaB}(h:zAw m)(w:Str)(n:Int)(t:List Int):zpk (znZ t) (zpb m w n).1.tuples:=by
 unfold zpb
 split
 ·rename_i r hr
  have hm:=h.t r (List.mem_of_find?_eq_some hr)
  exact fun i j hi hj hij h2=>zjK (hm i j hi hj hij) h2
 ·exact fun i j hi=>absurd hi (by simp[zr8])
theorem zyc (m:zaB)(w:Str)(n:Int):zi8 m w n=(zpb m w n).1.tuples:=by
 unfold zi8 zpb
 cases zkP m w n<;>rfl
theorem zCh {m:zaB}(h:zAw m)(w:Str)(n:Int)(t:List Int):bsB (znZ t) (zpb m w n).1.tuples=decide (t∈zi8 m w n):=by
 have:=zoM (zqR h w n t)
 rw[zyc]
 cases hb:bsB (znZ t) (zpb m w n).1.tuples with
 |true=>
  rw[hb,if_pos rfl]at this
  have h1:=List.find?_some this
  have h2:=List.mem_of_find?_eq_some this
  rw[zik.1 (of_decide_eq_true h1)]at h2
  exact(decide_eq_true h2).symm
 |false=>
  rw[hb]at this
  refine(decide_eq_false fun h2=>?_).symm
  have h3:=(List.find?_eq_none.1 this) t h2
  simp only[decide_eq_true_eq]at h3
  exact h3 (zik.2 rfl)
theorem zyo {m:zaB}{env:List zaH}(h:(enc m).Wf)(h2:(enc env).Wf)(w:Str):(enc (za1 m env w)).Wf:=by
 have hv:∀{l:List zaH},(enc l).Wf→∀c∈l,(enc c.value).Wf:=fun{l} h c hc=>by
  have h1:=zfZ h _ (List.mem_map_of_mem hc)
  exact zbW (by rw[zmG]at h1;exact h1) (FD.i .i64 c.value) (by simp)
 have hc:(enc m.consts).Wf:=zbW (by rw[zgb]at h;exact h) (FD.sl (m.consts.map enc)) (by simp)
 have key:∀(l:List zaH) (v:Int),zdH l w=some v→∃c∈l,c.value=v:=by
  intro l
  induction l with
  |nil=>intro v h;simp[zdH]at h
  |cons e l ih=>
   intro v h
   rw[zdH]at h
   cases hl:zdH l w with
   |some u=>
    rw[hl]at h
    obtain⟨c,h1,h2⟩:=ih u hl
    exact⟨c,List.mem_cons_of_mem _ h1,by rw[h2];exact Option.some.inj h⟩
   |none=>
    rw[hl]at h
    simp only at h
    split at h
    ·exact⟨e,by simp,Option.some.inj h⟩
    ·cases h
 unfold za1
 cases hl:zdH env w with
 |some v=>
  obtain⟨c,h3,rfl⟩:=key env v hl
  exact hv h2 c h3
 |none=>
  simp only
  unfold ze2
  cases hf:zoL m w with
  |some c=>exact hv hc c (List.mem_of_find?_eq_some hf)
  |none=>exact .i _ _ (by decide) (by decide)
def A15:Tbl:=A14.add 62 (sp3 zaT zyg)
attribute [go_sem] A15
set_option maxHeartbeats 8000000 in
theorem zKY:zan Tryz.prog G A15:=by
 refine zx3 zab.size zr9 zGi fun n hT m f env hn hpre hwm hwf hwe=>?_
 have hm0:=hpre.m
 have hok:=hpre.m.c
 have hokr:=hpre.m.r
 have s1:=hpre.m.s1
 have s6:=hpre.m.s6
 have lc:=hpre.m.lc
 have lr:=hpre.m.lr
 have hel:env.length≤900:=by have:=hpre.e;omega
 have hwl:=(zab.fit_eq hpre.s.1).1
 have hsl:=(zab.fit_eq hpre.s.1).2.1
 have hsub:∀g∈f.subs,g.size<n∧zyg m g env:=fun g hg=>by have:=zyh hpre hg;exact⟨by omega,this.2⟩
 have hsq:isQ f.kind→∀g∈f.subs,∀c,g.size<n∧zyg m g (env++[c]):=fun hq g hg c=>by have:=zvP hpre hg hq c;exact⟨by omega,this.2⟩
 have hv:=zbM.1 hpre.v
 obtain⟨v1,v9,v2,v3,v4,v5,_⟩:=hv
 have kT:=Kp.mk hT
 have kS:=Kp.mk hsub
 have kQ:=Kp.mk hsq
 clear hT hsub hsq hpre hn
 have hkk:f.kind=1∨f.kind=2∨f.kind=3∨f.kind=4∨f.kind=5∨f.kind=6∨f.kind=7∨f.kind=8∨f.kind=9:=by omega
 rcases hkk with hk|hk|hk|hk|hk|hk|hk|hk|hk
 ·rw[zIb hk]
  refine zag (N:=168) hm (G:=G) kT.out 62000 (lsw [35] [1000016]) zr9 Tryz.func62 rfl rfl (by simp) (by kernel_rfl) ?_
  repeat'(first|refine rq fun _=>?_|refine rf fun _=>?_|simp only[go_sem,hk,zac,zai,Tryz.f62])
 ·rw[zIc hk]
  have hws:=v2 hk
  obtain⟨A,hA⟩:∃A:Nat→List Int,A=fun i=>(f.words.take i).map (za1 m env):=⟨_,rfl⟩
  have hA0:A 0=[]:=by rw[hA];rfl
  have hAs:∀i (h:i<f.words.length),A (i+1)=A i++[za1 m env f.words[i]]:=fun i h=>by rw[hA];simp only[List.take_succ_eq_append_getElem h,List.map_append,List.map_cons,List.map_nil]
  have hAl:∀i,i≤f.words.length→(A i).length=i:=fun i h=>by rw[hA];simp only[List.length_map,List.length_take];omega
  obtain⟨t,ht⟩:∃t,A f.words.length=t:=⟨_,rfl⟩
  have hte:f.words.map (za1 m env)=t:=by rw[←ht,hA];simp only[List.take_length]
  have htl:t.length=f.words.length:=by rw[←ht];exact hAl _ (Nat.le_refl _)
  rw[hte]
  have hbm:=zCh hm0 f.name f.words.length t
  have hst:=zqR hm0 f.name f.words.length t
  rw[←hbm]
  obtain⟨rl,hrl⟩:∃rl,(zpb m f.name f.words.length).1=rl:=⟨_,rfl⟩
  obtain⟨bl,hbl⟩:∃bl,(zpb m f.name f.words.length).2=bl:=⟨_,rfl⟩
  have hrp:zpb m f.name f.words.length=(rl,bl):=by rw[←hrl,←hbl]
  rw[hrl]at hst ⊢
  have hwt:(enc rl.tuples).Wf:=by
   rw[←hrl];unfold zpb
   split
   ·rename_i r hr
    have h1:(enc r).Wf:=zfZ (zbW (by have h:=hwm;rw[zgb]at h;exact h) (FD.sl (m.rels.map enc)) (by simp)) _ (List.mem_map_of_mem (List.mem_of_find?_eq_some hr))
    exact zbW (by have h:=h1;rw[ztX]at h;exact h) (FD.sl (r.tuples.map enc)) (by simp)
   ·exact .sl _ (by simp[zr8]) (by simp[zr8])
  have hwtt:(enc t).Wf:=by
   rw[←hte]
   refine .sl _ (by simp only[List.length_map];unfold zbh;omega) fun y hy=>?_
   obtain⟨v,hv2,rfl⟩:=List.mem_map.1 hy
   obtain⟨w,_,rfl⟩:=List.mem_map.1 hv2
   exact zyo hwm hwe w
  have kA:=Kp.mk hAs
  have kL:=Kp.mk hAl
  have kw:=Kp.mk hwt
  have ks:=Kp.mk hst
  have kwt:=Kp.mk hwtt
  clear hA hAs hAl hte hbm hst hwt hrl hbl hwtt
  refine zag (N:=168) hm (G:=G) kT.out 62000 (lsw [35] [1000016]) zr9 Tryz.func62 rfl rfl (by simp) (by kernel_rfl) ?_
  repeat'(first|refine rq fun _=>?_|refine rf fun _=>?_|simp only[go_sem,hk,zac,zai,Tryz.f62])
  refine zaq hm (G:=G) kT.out 62000 (lsw [35] [1000016]) (ι:=zhC f.words.length 4 fun _=>True)
   ⟨fun q=>⟨frL [(3,.ptr (62003,0) 0),(4,.ptr (62004,1) 0),(5,.ptr (62005,2) 0),(7,.fn 78 [.ptr (62005,2) 0,.ptr (62003,0) 0]),(8,.ow (62035,q.g) 1 ((A q.i).map enc)),(24,.fz (.sl (f.words.map enc))),(25,.fz (.i .i64 f.words.length)),(26,.fz (.i .i64 q.i))],
    hpL [((62003,0),some ⟨[.fz (.i .i64 m.size),.fz (.sl (m.consts.map enc)),.fz (.sl (m.rels.map enc))],true,false⟩),((62004,1),some ⟨[.fz (.i .i64 f.kind),.fz (.s f.name.l),.fz (.sl (f.words.map enc)),.fz (.sl (f.subs.map enc))],true,false⟩),((62005,2),some ⟨[.fz (.sl (env.map enc))],true,false⟩),((62035,q.g),some tok)],q.m⟩,fun q=>f.words.length-q.i⟩
   ⟨0,3,4,by omega,by omega,by omega,trivial⟩ (by kernel_rfl) ?_ ?_
  ·refine zbg [] [(62035,3)] [] ?_ ?_ ?_ ?_ ?_<;>simp only[go_sem,hA0,hk]
   all_goals first|done|rfl|omega
  rintro⟨i,g,q,hi,hg,hq,_⟩
  try simp only at hi hg hq
  rcases Nat.lt_or_ge i f.words.length with h1|h1
  ·have hs:=kA.out i h1
   have hl:=kL.out i (by omega)
   obtain⟨w,hw⟩:∃w,f.words[i]=w:=⟨_,rfl⟩
   rw[hw]at hs
   repeat'(first|refine rq fun _=>?_|refine rf fun _=>?_|simp only[go_sem,h1,hw,zae,zaa,zac,zai,Tryz.f62])
   refine zav.i (f78 (env:=env) (m:=m) hok (by omega) (by simp only[go_sem]) (by simp only[go_sem]) ?_)
   repeat'(first|refine rq fun _=>?_|refine rf fun _=>?_|simp only[go_sem,h1,hw,zae,zaa,zac,zai,Tryz.f62])
   refine⟨⟨i+1,q,q+1,by omega,by omega,by omega,trivial⟩,by simp only;omega,?_⟩
   refine zaj ?_ ?_ ?_<;>(try simp only[go_sem,hs,List.map_append])
   all_goals first|done|omega|rfl
  obtain rfl:i=f.words.length:=by omega
  repeat'(first|refine zaJ.i hokr fun _=>?_|refine rq fun _=>?_|refine rf fun _=>?_|simp only[go_sem,Nat.lt_irrefl,ht,htl,hrp,zae,zfh,zac,zai,Tryz.f62])
  refine zav.i (zaG (zdB (ds:=[_,_]) rfl (zF7 (G:=G) kw.out kwt.out ks.out)) ?_)
  rintro d' H' n1 ⟨rfl,rfl,rfl⟩
  repeat'(first|refine rq fun _=>?_|refine rf fun _=>?_|simp only[go_sem,Nat.lt_irrefl,ht,zae,zfh,zac,zai,Tryz.f62])
 ·obtain⟨a,b,hab⟩:=zAY (v3 hk)
  rw[zId hk hab]
  refine zag (N:=168) hm (G:=G) kT.out 62000 (lsw [35] [1000016]) zr9 Tryz.func62 rfl rfl (by simp) (by kernel_rfl) ?_
  repeat'(first|refine rq fun _=>?_|refine rf fun _=>?_|simp only[go_sem,hk,hab,zac,zai,Tryz.f62])
  refine zhM (zpt (id:=(62004,1)) (t:=4) (b:=true) (ys:=[.i .i64 f.kind,.s f.name.l,.sl (f.words.map enc),.sl (f.subs.map enc)]) (by simp only[go_sem,hk,hab]) (by simp only[go_sem])) ?_
  refine zaC hm (G:=G) kT.out 62000 (lsw [35] [1000016]) zvE (by kernel_rfl) (by kernel_rfl) ?_
  repeat'(first|refine And.intro ?_ ?_|exact True.intro|refine zav.i (f78 (env:=env) (m:=m) hok (by omega) (by simp only[go_sem]) (by simp only[go_sem]) ?_)|refine rq fun _=>?_|refine rf fun _=>?_|simp only[go_sem,zvE,hk,hab,zae,zac,zai,Tryz.f62])
 ·obtain⟨x,hx⟩:=zo6 (v4 (.inl hk))
  rw[zIe hk hx]
  have hz:=kS.out x (by rw[hx];simp)
  obtain⟨b,hb⟩:∃b,zaT m x env=b:=⟨_,rfl⟩
  rw[hb]
  refine zag (N:=168) hm (G:=G) kT.out 62000 (lsw [35] [1000016]) zr9 Tryz.func62 rfl rfl (by simp) (by kernel_rfl) ?_
  repeat'(first|refine zaJ.i hz fun _=>?_|refine rq fun _=>?_|refine rf fun _=>?_|simp only[go_sem,hk,hx,hb,zac,zai,Tryz.f62])
 ·obtain⟨x,y,hxy⟩:=zpq (v5 (by omega))
  rw[zIf hk hxy]
  have hz:=kS.out x (by rw[hxy];simp)
  have hz2:=kS.out y (by rw[hxy];simp)
  obtain⟨b2,hb2⟩:∃b,zaT m y env=b:=⟨_,rfl⟩
  rw[hb2]
  cases hb:zaT m x env
  ·refine zag (N:=168) hm (G:=G) kT.out 62000 (lsw [35] [1000016]) zr9 Tryz.func62 rfl rfl (by simp) (by kernel_rfl) ?_
   repeat'(first|refine zaJ.i hz fun _=>?_|refine zaJ.i hz2 fun _=>?_|refine rq fun _=>?_|refine rf fun _=>?_|simp only[go_sem,hk,hxy,hb,hb2,zac,zai,Tryz.f62])
  ·refine zag (N:=168) hm (G:=G) kT.out 62000 (lsw [35] [1000016]) zr9 Tryz.func62 rfl rfl (by simp) (by kernel_rfl) ?_
   repeat'(first|refine zaJ.i hz fun _=>?_|refine zaJ.i hz2 fun _=>?_|refine rq fun _=>?_|refine rf fun _=>?_|simp only[go_sem,hk,hxy,hb,hb2,zac,zai,Tryz.f62])
 ·obtain⟨x,y,hxy⟩:=zpq (v5 (by omega))
  rw[zIg hk hxy]
  have hz:=kS.out x (by rw[hxy];simp)
  have hz2:=kS.out y (by rw[hxy];simp)
  obtain⟨b2,hb2⟩:∃b,zaT m y env=b:=⟨_,rfl⟩
  rw[hb2]
  cases hb:zaT m x env
  ·refine zag (N:=168) hm (G:=G) kT.out 62000 (lsw [35] [1000016]) zr9 Tryz.func62 rfl rfl (by simp) (by kernel_rfl) ?_
   repeat'(first|refine zaJ.i hz fun _=>?_|refine zaJ.i hz2 fun _=>?_|refine rq fun _=>?_|refine rf fun _=>?_|simp only[go_sem,hk,hxy,hb,hb2,zac,zai,Tryz.f62])
  ·refine zag (N:=168) hm (G:=G) kT.out 62000 (lsw [35] [1000016]) zr9 Tryz.func62 rfl rfl (by simp) (by kernel_rfl) ?_
   repeat'(first|refine zaJ.i hz fun _=>?_|refine zaJ.i hz2 fun _=>?_|refine rq fun _=>?_|refine rf fun _=>?_|simp only[go_sem,hk,hxy,hb,hb2,zac,zai,Tryz.f62])
 ·obtain⟨x,y,hxy⟩:=zpq (v5 (by omega))
  rw[zIh hk hxy]
  have hz:=kS.out x (by rw[hxy];simp)
  have hz2:=kS.out y (by rw[hxy];simp)
  obtain⟨b2,hb2⟩:∃b,zaT m y env=b:=⟨_,rfl⟩
  rw[hb2]
  cases hb:zaT m x env
  ·refine zag (N:=168) hm (G:=G) kT.out 62000 (lsw [35] [1000016]) zr9 Tryz.func62 rfl rfl (by simp) (by kernel_rfl) ?_
   repeat'(first|refine zaJ.i hz fun _=>?_|refine zaJ.i hz2 fun _=>?_|refine rq fun _=>?_|refine rf fun _=>?_|simp only[go_sem,hk,hxy,hb,hb2,zac,zai,Tryz.f62])
  ·refine zag (N:=168) hm (G:=G) kT.out 62000 (lsw [35] [1000016]) zr9 Tryz.func62 rfl rfl (by simp) (by kernel_rfl) ?_
   repeat'(first|refine zaJ.i hz fun _=>?_|refine zaJ.i hz2 fun _=>?_|refine rq fun _=>?_|refine rf fun _=>?_|simp only[go_sem,hk,hxy,hb,hb2,zac,zai,Tryz.f62])
 ·obtain⟨x,hx⟩:=zo6 (v4 (by omega))
  rw[zIi hk hx]
  have hz:=fun c=>kQ.out (by unfold isQ;omega) x (by rw[hx];simp) c
  obtain⟨V,hV⟩:∃V:Int→Bool,V=fun v=>zaT m x (env++[⟨f.name,v⟩]):=⟨_,rfl⟩
  rw[←hV]
  have hVv:∀v,zaT m x (env++[⟨f.name,v⟩])=V v:=fun v=>by rw[hV]
  have kz:=Kp.mk hz
  have kV:=Kp.mk hVv
  clear hV hz hVv
  obtain⟨r,hr⟩:∃r,(zc7 m).all V=r:=⟨_,rfl⟩
  have kr:=Kp.mk hr
  rw[hr]
  clear hr
  refine zag (N:=168) hm (G:=G) kT.out 62000 (lsw [35] [1000016]) zr9 Tryz.func62 rfl rfl (by simp) (by kernel_rfl) ?_
  repeat'(first|refine rq fun _=>?_|refine rf fun _=>?_|simp only[go_sem,hk,hx,zac,zai,Tryz.f62])
  refine zaq hm (G:=G) kT.out 62000 (lsw [35] [1000016]) (ι:=zd7 m.size.toNat 3 fun i=>∀v:Nat,v<m.size.toNat→v<i→V v=true)
   ⟨fun q=>⟨frL [(3,.ptr (62003,0) 0),(4,.ptr (62004,1) 0),(5,.ptr (62005,2) 0),(135,.fz (.i .i64 m.size)),(136,.fz (.i .i64 q.i))],
    hpL [((62003,0),some ⟨[.fz (.i .i64 m.size),.fz (.sl (m.consts.map enc)),.fz (.sl (m.rels.map enc))],true,false⟩),((62004,1),some ⟨[.fz (.i .i64 f.kind),.fz (.s f.name.l),.fz (.sl (f.words.map enc)),.fz (.sl (f.subs.map enc))],true,false⟩),((62005,2),some ⟨[.fz (.sl (env.map enc))],true,false⟩)],q.m⟩,fun q=>m.size.toNat-q.i⟩
   ⟨0,3,by omega,by omega,fun v h h2=>by omega⟩ (by kernel_rfl) ?_ ?_
  ·refine zaj ?_ ?_ ?_<;>simp only[go_sem,hk,hx]
  rintro⟨i,q,hi,hq,hp⟩
  try simp only at hi hq
  rcases Nat.lt_or_ge i m.size.toNat with h1|h1
  ·have h1':((i:Int)<m.size)=True:=eq_true (by omega)
   have hz:=kz.out ⟨f.name,(i:Int)⟩
   have hvi:=kV.out (i:Int)
   have hbb:V i=false∨V i=true:=by cases V i<;>simp
   rcases hbb with hb|hb
   ·have hrr:r=false:=by rw[←kr.out];exact zk4 (v:=i) (by omega) hb
    subst hrr
    repeat'(first|refine zaJ.i hz fun _=>?_|refine rq fun _=>?_|refine rf fun _=>?_|simp only[go_sem,hk,hx,h1,h1',hvi,hb,zae,List.map_append,zft,zey,zfu,zga,zac,zai,Tryz.f62])
   ·have hp2:=zjG hp hb
    have kp:=Kp.mk hp2
    clear hp2
    repeat'(first|refine zaJ.i hz fun _=>?_|refine rq fun _=>?_|refine rf fun _=>?_|simp only[go_sem,hk,hx,h1,h1',hvi,hb,zae,List.map_append,zft,zey,zfu,zga,zac,zai,Tryz.f62])
    refine⟨⟨i+1,q+1,by omega,by omega,kp.out⟩,by simp only;omega,?_⟩
    refine zaj ?_ ?_ ?_<;>simp only[go_sem,hk,hx]
    all_goals first|done|omega
  ·obtain rfl:i=m.size.toNat:=by omega
   have hrr:r=true:=by rw[←kr.out];exact zui fun v hv=>hp v (by omega) (by omega)
   have h1':((m.size.toNat:Int)<m.size)=False:=eq_false (by omega)
   subst hrr
   repeat'(first|refine rq fun _=>?_|refine rf fun _=>?_|simp only[go_sem,hk,hx,Nat.lt_irrefl,h1',zac,zai,Tryz.f62])
 ·obtain⟨x,hx⟩:=zo6 (v4 (by omega))
  rw[zIj hk hx]
  have hz:=fun c=>kQ.out (by unfold isQ;omega) x (by rw[hx];simp) c
  obtain⟨V,hV⟩:∃V:Int→Bool,V=fun v=>zaT m x (env++[⟨f.name,v⟩]):=⟨_,rfl⟩
  rw[←hV]
  have hVv:∀v,zaT m x (env++[⟨f.name,v⟩])=V v:=fun v=>by rw[hV]
  have kz:=Kp.mk hz
  have kV:=Kp.mk hVv
  clear hV hz hVv
  obtain⟨r,hr⟩:∃r,(zc7 m).any V=r:=⟨_,rfl⟩
  have kr:=Kp.mk hr
  rw[hr]
  clear hr
  refine zag (N:=168) hm (G:=G) kT.out 62000 (lsw [35] [1000016]) zr9 Tryz.func62 rfl rfl (by simp) (by kernel_rfl) ?_
  repeat'(first|refine rq fun _=>?_|refine rf fun _=>?_|simp only[go_sem,hk,hx,zac,zai,Tryz.f62])
  refine zaq hm (G:=G) kT.out 62000 (lsw [35] [1000016]) (ι:=zd7 m.size.toNat 3 fun i=>∀v:Nat,v<m.size.toNat→v<i→V v=false)
   ⟨fun q=>⟨frL [(3,.ptr (62003,0) 0),(4,.ptr (62004,1) 0),(5,.ptr (62005,2) 0),(135,.fz (.i .i64 m.size)),(136,.fz (.i .i64 q.i))],
    hpL [((62003,0),some ⟨[.fz (.i .i64 m.size),.fz (.sl (m.consts.map enc)),.fz (.sl (m.rels.map enc))],true,false⟩),((62004,1),some ⟨[.fz (.i .i64 f.kind),.fz (.s f.name.l),.fz (.sl (f.words.map enc)),.fz (.sl (f.subs.map enc))],true,false⟩),((62005,2),some ⟨[.fz (.sl (env.map enc))],true,false⟩)],q.m⟩,fun q=>m.size.toNat-q.i⟩
   ⟨0,3,by omega,by omega,fun v h h2=>by omega⟩ (by kernel_rfl) ?_ ?_
  ·refine zaj ?_ ?_ ?_<;>simp only[go_sem,hk,hx]
  rintro⟨i,q,hi,hq,hp⟩
  try simp only at hi hq
  rcases Nat.lt_or_ge i m.size.toNat with h1|h1
  ·have h1':((i:Int)<m.size)=True:=eq_true (by omega)
   have hz:=kz.out ⟨f.name,(i:Int)⟩
   have hvi:=kV.out (i:Int)
   have hbb:V i=false∨V i=true:=by cases V i<;>simp
   rcases hbb with hb|hb
   ·have hp2:=zjG hp hb
    have kp:=Kp.mk hp2
    clear hp2
    repeat'(first|refine zaJ.i hz fun _=>?_|refine rq fun _=>?_|refine rf fun _=>?_|simp only[go_sem,hk,hx,h1,h1',hvi,hb,zae,List.map_append,zft,zey,zfu,zga,zac,zai,Tryz.f62])
    refine⟨⟨i+1,q+1,by omega,by omega,kp.out⟩,by simp only;omega,?_⟩
    refine zaj ?_ ?_ ?_<;>simp only[go_sem,hk,hx]
    all_goals first|done|omega
   ·have hrr:r=true:=by rw[←kr.out];exact zuj (v:=i) (by omega) hb
    subst hrr
    repeat'(first|refine zaJ.i hz fun _=>?_|refine rq fun _=>?_|refine rf fun _=>?_|simp only[go_sem,hk,hx,h1,h1',hvi,hb,zae,List.map_append,zft,zey,zfu,zga,zac,zai,Tryz.f62])
  ·obtain rfl:i=m.size.toNat:=by omega
   have hrr:r=false:=by rw[←kr.out];exact zk5 fun v hv=>hp v (by omega) (by omega)
   have h1':((m.size.toNat:Int)<m.size)=False:=eq_false (by omega)
   subst hrr
   repeat'(first|refine rq fun _=>?_|refine rf fun _=>?_|simp only[go_sem,hk,hx,Nat.lt_irrefl,h1',zac,zai,Tryz.f62])
end
end Go.Proofs.YtkkffhphodngkaaGreatDoor
namespace Go.Proofs.YtkkffhphodngkaaGreatDoor
open Go Go.Abs Go.Proofs
section
variable {G:Nat→List FD}
theorem zKR:∀(k:Nat) (f:Abs.zab) (bd acc:List Str) (g n:Nat) (X:zas),f.size≤k→(enc f).Wf→g<n→2<n→acc.length+(cst f bd).length≤1000000→bd.length+f.size≤1000000→
  (∀id o,X id=some o→id.2<n∧id.1≠48003∧id.1≠48004∧id.1≠72024)→
  zau Tryz.prog G 72 [.fz (enc f),.fz (enc bd),.ptr (48003,1) 0,.ptr (48004,2) 0] (hpX (HHk acc g) X) n
   (fun d' H' n'=>d'= .tup []∧n≤n'∧(∃g',g'<n'∧zfX H' (HHk (acc++cst f bd) g'))∧∀id o,X id=some o→H' id=some o):=by
 intro k
 induction k with
 |zero=>intro f bd acc g n X hs;have:=f.size_pos;omega
 |succ k ih=>
  intro f bd acc g n X hs hw hg hn hlen hbl hX
  obtain⟨Q,hQ⟩:∃Q:D→zas→Nat→Prop,Q=(fun d' H' n'=>d'= .tup []∧n≤n'∧(∃g',g'<n'∧zfX H' (HHk (acc++cst f bd) g'))∧∀id o,X id=some o→H' id=some o):=⟨_,rfl⟩
  rw[←hQ]
  have hX':∀{l:List (Abs.Id×Option O)} (id o),X id=some o→(id.2<n∧id.1≠48003∧id.1≠48004∧id.1≠72024→zhf id l)→hpX l X id=some o:=fun id o h1 h2=>(zcH (h2 (hX id o h1))).trans h1
  have hwl:f.words.length≤zbh:=by
   have h:=zbW (by have h:=hw;rw[zaI]at h;exact h) (FD.sl (f.words.map enc)) (by simp)
   have:=zdZ h
   simpa using this
  have hsl:f.subs.length≤zbh:=by
   have h:=zbW (by have h:=hw;rw[zaI]at h;exact h) (FD.sl (f.subs.map enc)) (by simp)
   have:=zdZ h
   simpa using this
  have hsw:∀g∈f.subs,(enc g).Wf:=fun g hg=>zfZ (zbW (by have h:=hw;rw[zaI]at h;exact h) (FD.sl (f.subs.map enc)) (by simp)) _ (List.mem_map_of_mem hg)
  have hss:∀g∈f.subs,g.size≤k∧g.size+1≤f.size:=fun g hg=>by have:=zab.size_sub hg;omega
  unfold zbh at hwl hsl
  rw[zpV,List.length_append]at hlen
  obtain⟨A,hA⟩:∃A:Nat→List Str,A=fun i=>acc++(f.words.take i).filter (fun w=>decide (w∉bd)):=⟨_,rfl⟩
  have hA0:A 0=acc:=by rw[hA];simp
  have hAl:∀i,(A i).length≤acc.length+(f.words.filter (fun w=>decide (w∉bd))).length:=fun i=>by
   rw[hA];simp only[List.length_append];have:=@zfc f.words bd i;omega
  have hAs:∀i (h:i<f.words.length),A (i+1)=A i++if f.words[i]∈bd then[]else[f.words[i]]:=fun i h=>by
   rw[hA];simp only[zeN h,List.append_assoc]
  have hAe:A f.words.length=acc++f.words.filter (fun w=>decide (w∉bd)):=by rw[hA];simp only[List.take_length]
  have kA:=Kp.mk hAl
  have kB:=Kp.mk hAs
  have kC:=Kp.mk hAe
  clear hA hAl hAs hAe
  have kX:=Kp.mk @hX'
  have kQ:=Kp.mk hQ
  have kI:=Kp.mk ih
  have kS:=Kp.mk hsw
  have kZ:=Kp.mk hss
  have kx:=Kp.mk hX
  clear hX' hQ ih hsw hss hX
  refine zag (N:=50) hm (zcP (G:=G) zz2) 72000 (lst [24]) zKd Tryz.func72 rfl rfl (by simp) (by kernel_rfl) ?_
  repeat'(first|refine rq fun _=>?_|simp only[go_sem,HHk,Tryz.f72, *])
  refine zaq hm (zcP (G:=G) zz2) 72000 (lst [24]) (ι:=zhC f.words.length (n+1) fun _=>True)
   ⟨fun q=>⟨frL [(1,.fz (.sl (bd.map enc))),(2,.ptr (48003,1) 0),(3,.ptr (48004,2) 0),(4,.ptr (72004,n) 0),(11,.fz (.sl (f.words.map enc))),(12,.fz (.i .i64 f.words.length)),(13,.fz (.i .i64 q.i))],
    hpX (((72004,n),some ⟨[.fz (.i .i64 f.kind),.fz (.s f.name.l),.fz (.sl (f.words.map enc)),.fz (.sl (f.subs.map enc))],true,false⟩)::HHk (A q.i) q.g) X,q.m⟩,fun q=>f.words.length-q.i⟩
   ⟨0,g,n+1,by omega,by omega,by omega,trivial⟩ (by kernel_rfl) ?_ ?_
  ·refine zaO ?_ ?_ (fun id o ho=>?_) ?_
   ·simp only[go_sem]
   ·simp only[go_sem,HHk,hA0]
   ·refine kX.out id o ho fun h1=>?_
    ((repeat'(first|exact trivial|apply And.intro))<;>(rintro rfl;simp only at h1;omega))
   ·simp only[go_sem]
  rintro⟨i,g1,m1,hi,hg1,hm1,_⟩
  try simp only at hi hg1 hm1
  rcases Nat.lt_or_ge i f.words.length with h1|h1
  ·have hfl:=kB.out i h1
   have hl1:=kA.out i
   have hl2:=kA.out (i+1)
   by_cases hin:f.words[i]∈bd
   ·rw[if_pos hin,List.append_nil]at hfl
    repeat'(first|refine rq fun _=>?_|simp only[go_sem,HHk,h1,hin,zae,zaa,Tryz.f72])
    refine⟨⟨i+1,g1,m1,by omega,by omega,by omega,trivial⟩,by simp only;omega,?_⟩
    refine zaO ?_ ?_ (fun id o ho=>?_) ?_
    ·simp only[go_sem]
    ·simp only[go_sem,HHk,hfl]
    ·refine kX.out id o ho fun h1=>?_
     ((repeat'(first|exact trivial|apply And.intro))<;>(rintro rfl;simp only at h1;omega))
    ·simp only[go_sem]
   ·rw[if_neg hin]at hfl
    have hl3:(zad ((A i).map enc)).length=(A i).length:=by rw[zmT (zeE (f:=enc) (k:=1) (fun _=>rfl) _),List.length_map]
    repeat'(first|refine rq fun _=>?_|refine zaJ.i (zbF (by omega) (by decide)) fun _=>?_|simp only[go_sem,HHk,h1,hin,zae,zaa,Tryz.f72])
    refine⟨⟨i+1,m1,m1+1,by omega,by omega,by omega,trivial⟩,by simp only;omega,?_⟩
    refine zaO ?_ ?_ (fun id o ho=>?_) ?_
    ·simp only[go_sem]
    ·simp only[go_sem,HHk,hfl,zjU]
    ·refine kX.out id o ho fun h1=>?_
     ((repeat'(first|exact trivial|apply And.intro))<;>(rintro rfl;simp only at h1;omega))
    ·simp only[go_sem]
  ·obtain rfl:i=f.words.length:=by omega
   have hAe:=kC.out
   obtain⟨bd2,hbd⟩:∃bd2,bd2=if isQ f.kind then bd++[f.name]else bd:=⟨_,rfl⟩
   rw[←hbd]at hlen
   obtain⟨B,hB⟩:∃B:Nat→List Str,B=fun j=>A f.words.length++zbC (f.subs.take j) bd2:=⟨_,rfl⟩
   have hB0:B 0=A f.words.length:=by rw[hB];simp[zbC]
   have hBs:∀j (h:j<f.subs.length),B (j+1)=B j++cst f.subs[j] bd2:=fun j h=>by rw[hB];simp only[zfI h,List.append_assoc]
   have hBl:∀j,(B j).length≤1000000:=fun j=>by rw[hB,List.length_append,hAe,List.length_append];have:=@zf8 f.subs bd2 j;omega
   have hBe:B f.subs.length=acc++cst f bd:=by rw[hB,zpV,←hbd,hAe];simp only[List.take_length,List.append_assoc]
   have hb2:bd2.length≤bd.length+1:=by
    rw[hbd];split
    ·simp
    ·omega
   have kBs:=Kp.mk hBs
   have kBl:=Kp.mk hBl
   have kBe:=Kp.mk hBe
   clear hBs hBl hBe hB hAe
   rcases Decidable.em (isQ f.kind)with hq|hq
   all_goals
    (first|rw[if_pos hq]at hbd|rw[if_neg hq]at hbd)
    unfold isQ at hq
    repeat'(first|refine rq fun _=>?_|refine zaJ.i (zbF (by omega) (by decide)) fun _=>?_|simp only[go_sem,HHk,hq,Nat.lt_irrefl,zae,Tryz.f72])
    refine zaq hm (zcP (G:=G) zz2) 72000 (lst [24]) (ι:=zhC f.subs.length (n+1) fun _=>True)
     ⟨fun q=>⟨frL [(1,.fz (.sl (bd2.map enc))),(2,.ptr (48003,1) 0),(3,.ptr (48004,2) 0),(39,.fz (.sl (f.subs.map enc))),(40,.fz (.i .i64 f.subs.length)),(41,.fz (.i .i64 q.i))],hpX (HHk (B q.i) q.g) X,q.m⟩,fun q=>f.subs.length-q.i⟩
     ⟨0,g1,m1,by omega,by omega,by omega,trivial⟩ (by kernel_rfl) ?_ ?_
    ·refine zaO ?_ ?_ (fun id o ho=>?_) ?_
     ·simp only[go_sem,hbd,List.map_append]
     ·simp only[go_sem,HHk,hB0]
     ·refine kX.out id o ho fun h1=>?_
      ((repeat'(first|exact trivial|apply And.intro))<;>(rintro rfl;simp only at h1;omega))
     ·simp only[go_sem]
    rintro⟨j,g2,m2,hj,hg2,hm2,_⟩
    try simp only at hj hg2 hm2
    rcases Nat.lt_or_ge j f.subs.length with h2|h2
    ·have hmem:=List.getElem_mem h2
     have hBj:=kBs.out j h2
     have hl4:=kBl.out (j+1)
     have hz:=kZ.out _ hmem
     rw[hBj,List.length_append]at hl4
     have ih2:=kI.out f.subs[j] bd2 (B j) g2 (m2+1) X hz.1 (kS.out _ hmem) (by omega) (by omega) hl4 (by omega) (fun id o ho=>by have:=kx.out id o ho;omega)
     rw[zaI]at ih2
     repeat'(first|refine rq fun _=>?_|simp only[go_sem,HHk,h2,zaa,Tryz.f72])
     refine zav.i (zdp rfl (zc1 (by simp only[go_sem,zf2]) (by simp only[go_sem,HHk]) (fun id o ho=>?_) (Nat.le_refl _) (zaG ih2 ?_)))
     ·refine kX.out id o ho fun h1=>?_
      ((repeat'(first|exact trivial|apply And.intro))<;>(rintro rfl;simp only at h1;omega))
     rintro d' H' n' ⟨rfl,e1,⟨g3,hg3,e2⟩,e3⟩
     rw[←hBj]at e2
     simp only[go_sem,HHk]at e2
     obtain⟨b1,b2,b3⟩:=e2
     rw[show H'=hpX [] H' from rfl]
     repeat'(first|refine rq fun _=>?_|simp only[go_sem,HHk,h2,Tryz.f72])
     refine⟨⟨j+1,g3,n',by omega,by omega,by omega,trivial⟩,by simp only;omega,?_⟩
     refine zaO ?_ ?_ (fun id o ho=>?_) ?_
     ·simp only[go_sem]
     ·simp only[go_sem,HHk,b1,b2,b3]
     ·exact e3 id o ho
     ·simp only[go_sem]
    ·obtain rfl:j=f.subs.length:=by omega
     repeat'(first|refine rq fun _=>?_|simp only[go_sem,HHk,Nat.lt_irrefl,Tryz.f72])
     rw[kQ.out]
     refine⟨rfl,by omega,⟨g2,by omega,?_⟩,fun id o ho=>kX.out id o ho fun h1=>?_⟩
     ·rw[←kBe.out];simp only[go_sem,HHk]
     ·((repeat'(first|exact trivial|apply And.intro))<;>(rintro rfl;simp only at h1;omega))
theorem znO {H:zas}{id:Abs.Id}{l:List Str}{bx vt:Bool}{n:Nat}{R:D→zas→Nat→Prop}(ho:H id=some ⟨zad (l.map enc),bx,vt⟩)
  (hR:R (.tup []) (hpX [(id,some ⟨zad ((zc9 l).map enc),bx,vt⟩)] H) n):zau Tryz.prog G 49 [.arr id 1 0 l.length] H n R:=by
 rw[zed]at ho
 have h:=zjy (G:=G) (n:=n) zJ0 Tryz.slices_Sort_string Tryz.slices_Sort_string_none ho
 rw[List.length_map]at h
 refine zaG h ?_
 rintro d H' n' ⟨rfl,rfl,rfl⟩
 rw[zk3,zfr]
 exact hR
theorem zmm {H:zas}{id:Abs.Id}{l:List Str}{bx vt:Bool}{n:Nat}{R:D→zas→Nat→Prop}(ho:H id=some ⟨zad (l.map enc),bx,vt⟩)
  (hR:R (.arr id 1 0 (zdr l).length) (hpX [(id,some ⟨zad ((zdr l).map enc),bx,vt⟩)] H) n):zau Tryz.prog G 50 [.arr id 1 0 l.length] H n R:=by
 rw[zed]at ho
 have h:=zfY (G:=G) (n:=n) zJ1 Tryz.slices_Compact_string Tryz.slices_Compact_string_empty ho
 rw[List.length_map]at h
 refine zaG h ?_
 rintro d H' n' ⟨rfl,rfl,rfl⟩
 rw[zk3,zfr,show(zdC (l.map (·.l))).length=(zdr l).length by unfold zdr;rw[List.length_map]]
 exact hR
theorem zKQ {f:Abs.zab}(hw:(enc f).Wf)(hl:(cst f []).length≤1000000)(hs:f.size≤1000000):zau Tryz.prog G 48 [.fz (enc f)] (hpL []) 0
  (fun d H n=>∃g,g<n∧d= .arr (72024,g) 1 0 (zaP f).length∧H (72024,g)=some ⟨zad ((zaP f).map enc),false,(cst f []).isEmpty⟩):=by
 obtain⟨Q,hQ⟩:∃Q:D→zas→Nat→Prop,Q=(fun d H n=>∃g,g<n∧d= .arr (72024,g) 1 0 (zaP f).length∧H (72024,g)=some ⟨zad ((zaP f).map enc),false,(cst f []).isEmpty⟩):=⟨_,rfl⟩
 rw[←hQ]
 refine zag (N:=13) hm (zcP (G:=G) zz2) 48000 (lst []) zFz Tryz.func48 rfl rfl (by simp) (by kernel_rfl) ?_
 have h:=zKR (G:=G) f.size f [] [] 3 4 (fun _=>none) (Nat.le_refl _) hw (by omega) (by omega) (by simpa using hl) (by simpa using hs) (fun id o ho=>by cases ho)
 rw[zaI]at h
 repeat'(first|refine rq fun _=>?_|simp only[go_sem,Tryz.f48])
 refine zav.i (zdp rfl (zof (args':=[.fz (.agg [.i .i64 f.kind,.s f.name.l,.sl (f.words.map enc),.sl (f.subs.map enc)]),.fz (enc ([]:List Str)),.ptr (48003,1) 0,.ptr (48004,2) 0])
  (hl:=HHk [] 3) (n':=4) [] [(72024,3)] [] rfl ?_ ?_ ?_ ?_ ?_ ?_))
 case _=>omega
 case _=>simp only[go_sem]
 case _=>simp only[go_sem,HHk];first|done|rfl
 case _=>simp only[go_sem,HHk];first|done|rfl
 case _=>simp only[go_sem];first|done|rfl
 rw[show hpL (HHk [] 3)=hpX (HHk [] 3) (fun _=>none)from rfl]
 refine zaG h ?_
 rintro d' H' n' ⟨rfl,e1,⟨g,hg,e2⟩,_⟩
 rw[List.nil_append]at e2
 obtain⟨C,hC⟩:∃C,C=cst f []:=⟨_,rfl⟩
 rw[←hC]at e2
 rw[zlL,←hC]at hQ
 simp only[go_sem,HHk]at e2
 obtain⟨b1,b2,b3⟩:=e2
 rw[show H'=hpX [] H' from rfl]
 repeat'(first|refine rq fun _=>?_|simp only[go_sem,b1,b2,b3,Tryz.f48])
 refine zav.i (znO (l:=C) (bx:=false) (vt:=C.isEmpty) (by simp only[go_sem,b3]) ?_)
 rw[←zda C]at b1
 repeat'(first|refine rq fun _=>?_|simp only[go_sem,b1,b2,b3,Tryz.f48])
 refine zav.i (zmm (l:=zc9 C) (bx:=false) (vt:=C.isEmpty) (by simp only[go_sem]) ?_)
 repeat'(first|refine rq fun _=>?_|simp only[go_sem,b1,b2,b3,Tryz.f48])
 rw[hQ]
 exact⟨g,hg,by simp only[go_sem],by simp only[go_sem]⟩
def A16:Tbl:=A15.add 48 (sp1 zaP fun f=>(cst f []).length≤1000000∧f.size≤1000000)
attribute [go_sem] A16
theorem zvL {f:Abs.zab}(h:(cst f []).isEmpty=true):zaP f=[]:=by
 cases hu:zaP f with
 |nil=>rfl
 |cons x l=>
  have:=(zbm f x).1 (by rw[hu];simp)
  rw[List.isEmpty_iff.1 h]at this
  simp at this
theorem zEG:zan Tryz.prog G A16:=by
 refine zbE zFz zKY fun f hp hw=>?_
 refine zaU (zKQ (G:=G) hw hp.1 hp.2) ?_
 rintro d H n ⟨g,hg,rfl,ho⟩
 obtain⟨U,hU⟩:∃U,zaP f=U:=⟨_,rfl⟩
 have hn:(cst f []).isEmpty=true→U=[]:=fun h=>by rw[←hU];exact zvL h
 rw[hU]at ho ⊢
 refine⟨.fz (.sl (U.map enc)),H0,n,?_,rfl⟩
 have e:H0=hpL []:=rfl
 rw[e]
 refine zbg [] [] [((72024,g),U.map enc)] ?_ ?_ ?_ ?_ ?_<;>simp only[go_sem,ho]
 intro h
 rw[hn h];rfl
def A17:Tbl:=A16.add 37 (sp2 zka fun l _=>l.length≤1000000)
attribute [go_sem] A17
theorem zKZ:zan Tryz.prog G A17:=by
 refine zcx zHG zEG fun l s hl _ _=>?_
 by_cases hin:s∈l
 ·have e:zka l s=l:=by unfold zka;rw[if_pos hin]
  rw[e]
  refine zag (N:=39) hm (G:=G) zEG 37000 (lsw [29,33,38] []) zHG Tryz.func37 rfl rfl (by simp) (by kernel_rfl) ?_
  repeat'(first|refine rq fun _=>?_|simp only[go_sem,hin,Tryz.f37])
 ·have e:zka l s=l.take (twN l s)++[s]++l.drop (twN l s):=by unfold zka;rw[if_neg hin];rfl
  rw[e]
  clear e
  have hlt:∀i (h:i<l.length),i<twN l s→Op.bytesLess l[i].l s.l=true:=fun i h h2=>by rw[zeY];exact decide_eq_true (zze h h2)
  have hat:∀i (h:i<l.length),i=twN l s→Op.bytesLess l[i].l s.l=false:=fun i h h2=>by rw[zeY];exact decide_eq_false (zzc h h2)
  have htl:=zzd s l
  obtain⟨T,hT⟩:∃T,twN l s=T:=⟨_,rfl⟩
  rw[hT]at hlt hat htl ⊢
  clear hT
  have kl:=Kp.mk hlt
  have ka:=Kp.mk hat
  clear hlt hat
  refine zag (N:=39) hm (G:=G) zEG 37000 (lsw [29,33,38] []) zHG Tryz.func37 rfl rfl (by simp) (by kernel_rfl) ?_
  repeat'(first|refine rq fun _=>?_|simp only[go_sem,hin,Tryz.f37])
  refine zaq hm (G:=G) zEG 37000 (lsw [29,33,38] []) (ι:=zhD T fun _=>True)
   ⟨fun q=>⟨frL [(0,.fz (.sl (l.map enc))),(1,.fz (.s s.l)),(5,.full []),(6,.fz (.i .i64 q.i))],hpL [],0⟩,fun q=>T-q.i⟩
   ⟨0,by omega,trivial⟩ (by kernel_rfl) ?_ ?_
  ·refine zaj ?_ ?_ ?_<;>simp only[go_sem]
  rintro⟨i,hi,_⟩
  try simp only at hi
  rcases Nat.lt_or_ge i T with h1|h1
  ·have h2:i<l.length:=by omega
   have h3:=kl.out i h2 h1
   repeat'(first|refine rq fun _=>?_|simp only[go_sem,h2,h3,zaa,Tryz.f37])
   refine⟨⟨i+1,by omega,trivial⟩,by simp only;omega,?_⟩
   refine zaj ?_ ?_ ?_<;>simp only[go_sem]
  ·obtain rfl:i=T:=by omega
   have hlt:(l.take i).length=i:=by rw[List.length_take];omega
   rcases Nat.lt_or_ge i l.length with h2|h2
   case' inl=>have h3:=ka.out i h2 rfl
   case' inr=>have h3:¬i<l.length:=by omega
   all_goals
    repeat'(first|refine rq fun _=>?_|refine zaJ.i (zbF (by first|omega|(simp only[List.length_map,List.length_take,List.length_drop,List.length_append,List.length_cons,List.length_nil];omega)) (by decide)) fun _=>?_|refine rq fun _=>?_|simp only[go_sem,h2,h3,zzF,zaa,Tryz.f37])
   all_goals first|done|(simp only[List.map_append,List.map_take,List.map_drop,List.map_cons,List.map_nil,zzJ])
def A18:Tbl:=A17.add 16 (sp3 zjg zpU)
attribute [go_sem] A18
theorem zIA:zan Tryz.prog G A18:=by
 refine zAP zab.size zJG zKZ fun n hT f bd l hn hpre hw _ _=>?_
 obtain⟨hfit,hbl,hll⟩:=hpre
 obtain⟨hwl,hsl,hfs⟩:=zab.fit_eq hfit
 have hszs:f.size=zab.sizes f.subs+1:=by cases f;rw[zab.size];rfl
 have hsz:∀g∈f.subs,g.size<n∧g.fit=true:=fun g hg=>⟨by have:=zab.size_sub hg;omega,zab.fits_mem hfs hg⟩
 obtain⟨L,hL⟩:∃L:Nat→List Str,L=fun i=>(f.words.take i).foldl (fun l w=>if w∈bd then l else zka l w) l:=⟨_,rfl⟩
 have hL0:L 0=l:=by rw[hL];rfl
 have hLs:∀i (h:i<f.words.length),L (i+1)=if f.words[i]∈bd then L i else zka (L i) f.words[i]:=fun i h=>by
  rw[hL];simp only[List.take_succ_eq_append_getElem h,List.foldl_append,List.foldl_cons,List.foldl_nil]
 have hLl:∀i,(L i).length≤l.length+1000:=fun i=>by
  have:=zgi bd (f.words.take i) l
  rw[hL];simp only;rw[List.length_take]at this;omega
 obtain⟨bd2,hbd2⟩:∃bd2,(if isQ f.kind then bd++[f.name]else bd)=bd2:=⟨_,rfl⟩
 have hbl2:bd2.length≤bd.length+1:=by rw[←hbd2];split<;>simp
 obtain⟨lw,hlw⟩:∃lw,L f.words.length=lw:=⟨_,rfl⟩
 have hlwl:lw.length≤l.length+1000:=by rw[←hlw];exact hLl _
 have hcst:zjg f bd l=zdM f.subs bd2 lw:=by rw[zzD,hbd2,←hlw,hL];simp only[List.take_length]
 obtain⟨M,hM⟩:∃M:Nat→List Str,M=fun j=>zdM (f.subs.take j) bd2 lw:=⟨_,rfl⟩
 have hM0:M 0=lw:=by rw[hM];simp only[List.take_zero,zdM]
 have hMs:∀j (h:j<f.subs.length),M (j+1)=zjg f.subs[j] bd2 (M j):=fun j h=>by
  rw[hM];simp only[List.take_succ_eq_append_getElem h,zmp,zdM]
 have hMl:∀j (h:j<f.subs.length),zpU f.subs[j] bd2 (M j):=fun j h=>by
  have h1:=zil (f.subs.take j) bd2 lw (zmR j hfs)
  have h2:=zg6 h
  have h3:=zab.size_mem (List.getElem_mem h)
  refine⟨(hsz _ (List.getElem_mem h)).2,by omega,?_⟩
  rw[hM];simp only;omega
 have hMe:M f.subs.length=zjg f bd l:=by rw[hcst,hM];simp only[List.take_length]
 have kT:=Kp.mk hT
 have kz:=Kp.mk hsz
 have kL:=Kp.mk hLs
 have kM:=Kp.mk hMs
 have kN:=Kp.mk hMl
 have kb:=Kp.mk hbd2
 have kl:=Kp.mk hLl
 rw[←hMe]
 clear hT hsz hLs hMs hMl hbd2 hL hM hcst hLl hw hMe hfit hfs
 refine zag (N:=56) hm (G:=G) kT.out 16000 (lsw [35,39] [1000008]) zJG Tryz.func16 rfl rfl (by simp) (by kernel_rfl) ?_
 repeat'(first|refine rq fun _=>?_|simp only[go_sem,Tryz.f16])
 refine zhM (zpu (id:=(16003,0)) (t:=3) (b:=true) (ys:=[.i .i64 f.kind,.s f.name.l,.sl (f.words.map enc),.sl (f.subs.map enc)]) (by simp only[go_sem]) (by simp only[go_sem])) ?_
 refine zaq hm (G:=G) kT.out 16000 (lsw [35,39] [1000008]) (ι:=zhD f.words.length fun _=>True)
  ⟨fun q=>⟨frL [(1,.fz (.sl (bd.map enc))),(2,.fz (.sl ((L q.i).map enc))),(3,.rp [.i .i64 f.kind,.s f.name.l,.sl (f.words.map enc),.sl (f.subs.map enc)]),(11,.fz (.sl (f.words.map enc))),(12,.fz (.i .i64 f.words.length)),(13,.fz (.i .i64 q.i))],hpL [],1⟩,fun q=>f.words.length-q.i⟩
  ⟨0,by omega,trivial⟩ (by kernel_rfl) ?_ ?_
 ·refine zaj ?_ ?_ ?_<;>simp only[go_sem,hL0]
 rintro⟨i,hi,_⟩
 try simp only at hi
 rcases Nat.lt_or_ge i f.words.length with h1|h1
 ·have hls:=kL.out i h1
  have hll2:=kl.out i
  obtain⟨w,hwi⟩:∃w,f.words[i]=w:=⟨_,rfl⟩
  rw[hwi]at hls
  by_cases hin:w∈bd
  ·rw[if_pos hin]at hls
   repeat'(first|refine rq fun _=>?_|simp only[go_sem,h1,hwi,hin,zae,zaa,Tryz.f16])
   refine⟨⟨i+1,by omega,trivial⟩,by simp only;omega,?_⟩
   refine zaj ?_ ?_ ?_<;>simp only[go_sem,hls]
  ·rw[if_neg hin]at hls
   repeat'(first|refine rq fun _=>?_|simp only[go_sem,h1,hwi,hin,zae,zaa,Tryz.f16])
   refine⟨⟨i+1,by omega,trivial⟩,by simp only;omega,?_⟩
   refine zaj ?_ ?_ ?_<;>simp only[go_sem,hls]
 ·obtain rfl:i=f.words.length:=by omega
  by_cases hq:isQ f.kind
  case' pos=>
   have hb2:=kb.out
   rw[if_pos hq]at hb2
   unfold isQ at hq
   have hq8:((f.kind=8)=True∧(f.kind=8)=True)∨((f.kind=8)=False∧(f.kind=9)=True):=by
    rcases hq with h|h
    ·exact .inl ⟨eq_true h,eq_true h⟩
    ·exact .inr ⟨eq_false (by omega),eq_true h⟩
   rcases hq8 with⟨h8,h9⟩|⟨h8,h9⟩
   all_goals
    repeat'(first|refine rq fun _=>?_|simp only[go_sem,h8,h9,hlw,Nat.lt_irrefl,Tryz.f16])
   all_goals
    refine zaC hm (G:=G) kT.out 16000 (lsw [35,39] [1000008]) zvs (by kernel_rfl) (by kernel_rfl) ?_
    repeat'(first|refine And.intro ?_ ?_|exact True.intro|refine rq fun _=>?_|refine zaJ.i (zbF (by first|omega|(simp only[List.length_map,List.length_append,List.length_cons,List.length_nil];omega)) (by decide)) fun _=>?_|simp only[go_sem,zvs,hlw,Tryz.f16])
  case' neg=>
   have hb2:=kb.out
   rw[if_neg hq]at hb2
   unfold isQ at hq
   have h8:(f.kind=8)=False:=eq_false fun h=>hq (.inl h)
   have h9:(f.kind=9)=False:=eq_false fun h=>hq (.inr h)
   repeat'(first|refine rq fun _=>?_|simp only[go_sem,h8,h9,hlw,Nat.lt_irrefl,Tryz.f16])
  all_goals
   refine zaq hm (G:=G) kT.out 16000 (lsw [35,39] [1000008]) (ι:=zhD f.subs.length fun _=>True)
    ⟨fun q=>⟨frL [(1,.fz (.sl (bd2.map enc))),(2,.fz (.sl ((M q.i).map enc))),(3,.rp [.i .i64 f.kind,.s f.name.l,.sl (f.words.map enc),.sl (f.subs.map enc)]),(42,.fz (.i .i64 f.subs.length)),(43,.fz (.i .i64 q.i))],hpL [],100⟩,fun q=>f.subs.length-q.i⟩
    ⟨0,by omega,trivial⟩ (by kernel_rfl) ?_ ?_
   ·refine zeV (zwd (l:=[(1,.fz (.sl (bd2.map enc))),(2,.fz (.sl (lw.map enc))),(3,.rp [.i .i64 f.kind,.s f.name.l,.sl (f.words.map enc),.sl (f.subs.map enc)]),(42,.fz (.i .i64 f.subs.length)),(43,.fz (.i .i64 0))]) (by simp only[go_sem,←hb2,List.map_append])) (zaj ?_ ?_ ?_)<;>simp only[go_sem,hM0]
   rintro⟨j,hj,_⟩
   try simp only at hj
   rcases Nat.lt_or_ge j f.subs.length with h2|h2
   ·have hms:=kM.out j h2
    have hmn:=kN.out j h2
    have hsz:=(kz.out _ (List.getElem_mem h2)).1
    obtain⟨x,hx⟩:∃x,f.subs[j]=x:=⟨_,rfl⟩
    rw[hx]at hms hmn hsz
    repeat'(first|refine rq fun _=>?_|refine zaJ.i ⟨hsz,hmn⟩ fun _=>?_|simp only[go_sem,h2,hx,hsz,zaa,Tryz.f16])
    refine⟨⟨j+1,by omega,trivial⟩,by simp only;omega,?_⟩
    refine zaj ?_ ?_ ?_<;>simp only[go_sem,hms]
   ·obtain rfl:j=f.subs.length:=by omega
    repeat'(first|refine rq fun _=>?_|simp only[go_sem,Nat.lt_irrefl,Tryz.f16])
def A19:Tbl:=A18.add 10 (sp1 (fun f=>zjg f [] []) fun f=>f.fit=true∧f.size≤1000)
attribute [go_sem] A19
theorem zK0:zan Tryz.prog G A19:=by
 refine zbE zJE zIA fun f hpre _=>?_
 have hp:zpU f [] []:=⟨hpre.1,by simp only[List.length_nil];omega,by simp only[List.length_nil];omega⟩
 refine zag (N:=5) hm (G:=G) zIA 10000 (lst []) zJE Tryz.func10 rfl rfl (by simp) (by kernel_rfl) ?_
 repeat'(first|refine rq fun _=>?_|refine zaJ.i hp fun _=>?_|simp only[go_sem,Tryz.f10])
end
end Go.Proofs.YtkkffhphodngkaaGreatDoor
