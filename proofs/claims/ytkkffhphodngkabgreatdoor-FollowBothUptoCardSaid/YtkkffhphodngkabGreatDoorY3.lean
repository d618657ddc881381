/- several texts of this proof in one; no conditions -/
import Derived.Test.YtkkffhphodngkabGreatDoorAT
import Derived.Test.YtkkffhphodngkabGreatDoorY0
import Derived.Test.YtkkffhphodngkabGreatDoorTR
import Derived.Test.YtkkffhphodngkabGreatDoorY9
import Derived.Test.YtkkffhphodngkabGreatDoorY16
import Derived.Test.YtkkffhphodngkabGreatDoorY2
set_option maxRecDepth 100000
set_option maxHeartbeats 1000000
set_option linter.unusedSimpArgs false
namespace Go.Proofs.YtkkffhphodngkabGreatDoor
open Go Go.Abs Go.Proofs
section
variable {G:Nat→List FD}
def A1:Tbl:=Q20.add 141 (sp1 (fun _:Str=>false) fun _=>True)
attribute [go_sem] A1
theorem hA1:zaq Tryz.prog G A1:=by
 refine zb3 zE2 (zc2 zA6) fun s _ _=>?_
 refine zae (N:=6) hm (zc2 zA6) 141000 (lst []) zE2 Tryz.func141 rfl rfl (by simp) (by kernel_rfl) ?_
 repeat'(first|refine rq fun _=>?_|simp only[go_sem,Tryz.f141])
def A2:Tbl:=A1.add 142 (sp1 (fun _:Int=>false) fun _=>True)
attribute [go_sem] A2
theorem hA2:zaq Tryz.prog G A2:=by
 refine zb3 zE3 hA1 fun s _ _=>?_
 refine zae (N:=6) hm (G:=G) hA1 142000 (lst []) zE3 Tryz.func142 rfl rfl (by simp) (by kernel_rfl) ?_
 repeat'(first|refine rq fun _=>?_|simp only[go_sem,Tryz.f142])
theorem zAG {a b:Str}(h:a.l<b.l):zmv a b= -1:=by unfold zmv;rw[if_pos h]
theorem zAF {a b:Str}(h:¬a.l<b.l)(h2:b.l<a.l):zmv a b=1:=by unfold zmv;rw[if_neg h,if_pos h2]
theorem zAE {a b:Str}(h:¬a.l<b.l)(h2:¬b.l<a.l):zmv a b=0:=by unfold zmv;rw[if_neg h,if_neg h2]
def A3:Tbl:=A2.add 117 (sp2 zmv fun _ _=>True)
attribute [go_sem] A3
theorem hA3:zaq Tryz.prog G A3:=by
 refine zbC zyI hA2 fun a b _ _ _=>?_
 by_cases h:a.l<b.l
 ·have e:=zAG h
  have h':Op.bytesLess a.l b.l=true:=by rw[zbM];exact decide_eq_true h
  rw[e]
  refine zae (N:=20) hm (G:=G) hA2 117000 (lst []) zyI Tryz.func117 rfl rfl (by simp) (by kernel_rfl) ?_
  repeat'(first|refine rq fun _=>?_|simp only[go_sem,h',Tryz.f117])
 ·have h':Op.bytesLess a.l b.l=false:=by rw[zbM];exact decide_eq_false h
  by_cases h2:b.l<a.l
  ·have e:=zAF h h2
   have h2':(a.l==b.l)=false:=by simpa using fun e=>h (absurd h2 (by rw[e];exact zev _))
   rw[e]
   refine zae (N:=20) hm (G:=G) hA2 117000 (lst []) zyI Tryz.func117 rfl rfl (by simp) (by kernel_rfl) ?_
   repeat'(first|refine rq fun _=>?_|simp only[go_sem,h',h2',Tryz.f117])
  ·have e:=zAE h h2
   have h2':(a.l==b.l)=true:=by
    rcases zwi a.l b.l with h3|h3|h3
    ·exact absurd h3 h
    ·simpa using h3
    ·exact absurd h3 h2
   rw[e]
   refine zae (N:=20) hm (G:=G) hA2 117000 (lst []) zyI Tryz.func117 rfl rfl (by simp) (by kernel_rfl) ?_
   repeat'(first|refine rq fun _=>?_|simp only[go_sem,h',h2',Tryz.f117])
def A4:Tbl:=A3.add 118 (sp2 zk7 fun _ _=>True)
attribute [go_sem] A4
theorem hA4:zaq Tryz.prog G A4:=by
 refine zbC zyJ hA3 fun a b _ _ _=>?_
 have hc:(a<b∧zk7 a b= -1)∨(b<a∧¬a<b∧zk7 a b=1)∨(¬a<b∧¬b<a∧zk7 a b=0):=by
  unfold zk7;split
  ·omega
  ·split<;>omega
 rcases hc with⟨h,e⟩|⟨h2,h,e⟩|⟨h,h2,e⟩
 ·rw[e]
  refine zae (N:=20) hm (G:=G) hA3 118000 (lst []) zyJ Tryz.func118 rfl rfl (by simp) (by kernel_rfl) ?_
  repeat'(first|refine rq fun _=>?_|simp only[go_sem,h,Tryz.f118])
 ·rw[e]
  refine zae (N:=20) hm (G:=G) hA3 118000 (lst []) zyJ Tryz.func118 rfl rfl (by simp) (by kernel_rfl) ?_
  repeat'(first|refine rq fun _=>?_|simp only[go_sem,h,h2,Tryz.f118])
 ·rw[e]
  refine zae (N:=20) hm (G:=G) hA3 118000 (lst []) zyJ Tryz.func118 rfl rfl (by simp) (by kernel_rfl) ?_
  repeat'(first|refine rq fun _=>?_|simp only[go_sem,h,h2,Tryz.f118])
def orM:List Int→Int
 |[]=>0
 |a::l=>if a≠0 then a else orM l
theorem zE9 {l:List Int}{i:Nat}(h:i<l.length)(h2:∀j (hj:j<l.length),j<i→l[j]=0)(h3:l[i]≠0):orM l=l[i]:=by
 induction l generalizing i with
 |nil=>simp at h
 |cons a l ih=>
  cases i with
  |zero=>rw[orM];simp only[List.getElem_cons_zero]at h3 ⊢;rw[if_pos h3]
  |succ i=>
   have h0:=h2 0 (by simp) (by omega)
   simp only[List.getElem_cons_zero]at h0
   rw[orM,if_neg (by simp[h0])]
   simp only[List.getElem_cons_succ]at h3 ⊢
   exact ih (by simpa using h) (fun j hj hji=>by have:=h2 (j+1) (by simpa using hj) (by omega);simpa using this) h3
theorem zyL {l:List Int}(h2:∀j (hj:j<l.length),l[j]=0):orM l=0:=by
 induction l with
 |nil=>rfl
 |cons a l ih=>
  have h0:=h2 0 (by simp)
  simp only[List.getElem_cons_zero]at h0
  rw[orM,if_neg (by simp[h0])]
  exact ih fun j hj=>by have:=h2 (j+1) (by simpa using hj);simpa using this
def A5:Tbl:=A4.add 116 (sp1 orM fun _=>True)
attribute [go_sem] A5
theorem hA5:zaq Tryz.prog G A5:=by
 refine zb3 zES hA4 fun l _ hw=>?_
 have la:=zdf hw
 simp only[List.length_map,zbe]at la
 obtain⟨r,hr⟩:∃r,orM l=r:=⟨_,rfl⟩
 have h1:∀i (h:i<l.length),(∀j (hj:j<l.length),j<i→l[j]=0)→l[i]≠0→l[i]=r:=fun i h a b=>by rw[←hr,zE9 h a b]
 have h2:(∀j (hj:j<l.length),l[j]=0)→r=0:=fun h=>by rw[←hr,zyL h]
 have k1:=Kp.mk h1
 have k2:=Kp.mk h2
 rw[hr]
 clear h1 h2 hr
 refine zae (N:=18) hm (G:=G) hA4 116000 (lst []) zES Tryz.func116 rfl rfl (by simp) (by kernel_rfl) ?_
 repeat'(first|refine rq fun _=>?_|simp only[go_sem,Tryz.f116])
 refine zat hm (G:=G) hA4 116000 (lst []) (ι:=zhd l.length fun i=>∀j (hj:j<l.length),j<i→l[j]=0)
  ⟨fun q=>⟨frL [(3,.fz (.i .i64 0)),(6,.fz (.sl (l.map enc))),(7,.fz (.i .i64 l.length)),(8,.fz (.i .i64 q.i))],hpL [],0⟩,fun q=>l.length-q.i⟩
  ⟨0,by omega,fun j hj h=>by omega⟩ (by kernel_rfl) ?_ ?_
 ·refine zaj ?_ ?_ ?_<;>simp only[go_sem]
 rintro⟨i,hi,hp⟩
 try simp only at hi
 rcases Nat.lt_or_ge i l.length with h|h
 ·obtain⟨x,hx⟩:∃x,l[i]=x:=⟨_,rfl⟩
  by_cases h0:x=0
  ·have hp2:∀j (hj:j<l.length),j<i+1→l[j]=0:=fun j hj h3=>by
    rcases Nat.lt_or_ge j i with h4|h4
    ·exact hp j hj h4
    ·obtain rfl:j=i:=by omega
     rw[hx,h0]
   have kp:=Kp.mk hp2
   clear hp2
   repeat'(first|refine rq fun _=>?_|simp only[go_sem,h,hx,h0,zaa,Tryz.f116])
   refine⟨⟨i+1,by omega,kp.out⟩,by simp only;omega,?_⟩
   refine zaj ?_ ?_ ?_<;>simp only[go_sem]
  ·have e:=k1.out i h hp (by rw[hx];exact h0)
   rw[hx]at e
   subst e
   clear k1 k2
   repeat'(first|refine rq fun _=>?_|simp only[go_sem,h,hx,h0,zaa,Tryz.f116])
 ·obtain rfl:i=l.length:=by omega
  have e:=k2.out fun j hj=>hp j hj hj
  subst e
  repeat'(first|refine rq fun _=>?_|simp only[go_sem,Nat.lt_irrefl,Tryz.f116])
theorem zBF {a b:Int}:orM [a,b]=if a≠0 then a else b:=by
 rw[orM,orM,orM]
 split
 ·rfl
 ·split
  ·rfl
  ·rename_i h;exact(Decidable.not_not.1 h).symm
theorem zAD (a b:zek):orM [zmv a.name b.name,zk7 a.arity b.arity]=zqA a b:=by rw[zBF];rfl
def A6:Tbl:=A5.add 83 (sp2 zqA fun _ _=>True)
attribute [go_sem] A6
theorem hA6:zaq Tryz.prog G A6:=by
 refine zbC zLq hA5 fun a b _ _ _=>?_
 have e:=zAD a b
 refine zae (N:=17) hm (G:=G) hA5 83000 (lst []) zLq Tryz.func83 rfl rfl (by simp) (by kernel_rfl) ?_
 repeat'(first|refine rq fun _=>?_|simp only[go_sem,e,zad,Tryz.f83])
end
end Go.Proofs.YtkkffhphodngkabGreatDoor
namespace Go.Abs
open Go
theorem zus {a b:List Int}{i:Nat}(h:i<a.length)(h2:i<b.length):zdw (a.drop i) (b.drop i)=if zk7 a[i] b[i]≠0 then zk7 a[i] b[i]else zdw (a.drop (i+1)) (b.drop (i+1)):=by
 rw[List.drop_eq_getElem_cons h,List.drop_eq_getElem_cons h2,zdw]
theorem zur {a b:List Int}{i:Nat}(h:i<a.length)(h2:b.length≤i):zdw (a.drop i) (b.drop i)=1:=by
 rw[List.drop_eq_getElem_cons h,List.drop_of_length_le h2,zdw]
theorem zxC {a b:List Int}{i:Nat}(h:a.length≤i):zdw (a.drop i) (b.drop i)=if i<b.length then-1 else 0:=by
 rw[List.drop_of_length_le h]
 split
 ·rename_i h2;rw[List.drop_eq_getElem_cons h2,zdw]
 ·rename_i h2;rw[List.drop_of_length_le (by omega),zdw]
def bsI {α:Type}(c:α→Int)(l:List α):Nat:=(l.filter fun x=>decide (c x<0)).length
def bsB {α:Type}[Inhabited α](c:α→Int)(l:List α):Bool:=decide (bsI c l<l.length)&&decide (c (l.getD (bsI c l) default)=0)
def zp4 {α:Type}(c:α→Int)(l:List α):Prop:=∀i j (hi:i<l.length) (hj:j<l.length),i<j→c l[j]≤0→c l[i]<0
theorem zqn {α:Type}{c:α→Int}{l:List α}{i:Nat}(hi:i≤l.length)(h1:∀j (h:j<l.length),j<i→c l[j]<0)(h2:∀j (h:j<l.length),i≤j→0≤c l[j]):bsI c l=i:=
 zks _ l i hi (fun j h hji=>decide_eq_true (h1 j h hji)) (fun j h hij=>decide_eq_false (by have:=h2 j h hij;omega))
theorem zps {α:Type}[Inhabited α]{c:α→Int}{l:List α}(hs:zp4 c l):l.find? (fun x=>decide (c x=0))=if bsB c l then some (l.getD (bsI c l) default)else none:=by
 cases hf:l.find? (fun x=>decide (c x=0))with
 |none=>
  rw[List.find?_eq_none]at hf
  have:bsB c l=false:=by
   unfold bsB
   by_cases h:bsI c l<l.length
   ·have:=hf _ (List.getElem_mem h)
    rw[List.getD_eq_getElem?_getD,List.getElem?_eq_getElem h]
    simp only[Option.getD_some]
    simp only[decide_eq_true_eq]at this
    simp[this]
   ·simp[h]
  rw[this];rfl
 |some x=>
  obtain⟨hx,xs,bs,rfl,hb⟩:=List.find?_eq_some_iff_append.1 hf
  have hx:=of_decide_eq_true hx
  have hi:bsI c (xs++x::bs)=xs.length:=by
   refine zqn (by simp) (fun j h hj=>?_) (fun j h hj=>?_)
   ·refine hs j xs.length h (by simp) hj ?_
    rw[List.getElem_append_right (Nat.le_refl _)]
    simp only[Nat.sub_self,List.getElem_cons_zero]
    omega
   ·rcases(show c (xs++x::bs)[j]<0∨0≤c (xs++x::bs)[j] by omega)with h3|h3
    ·rcases Nat.eq_or_lt_of_le hj with rfl|h4
     ·rw[List.getElem_append_right (Nat.le_refl _)]at h3 ⊢
      simp only[Nat.sub_self,List.getElem_cons_zero]at h3 ⊢
      omega
     ·have:=hs xs.length j (by simp) h h4 (by omega)
      rw[List.getElem_append_right (Nat.le_refl _)]at this
      simp only[Nat.sub_self,List.getElem_cons_zero]at this
      omega
    ·omega
  have hg:(xs++x::bs).getD xs.length default=x:=by
   rw[List.getD_eq_getElem?_getD,List.getElem?_append_right (Nat.le_refl _)];simp
  unfold bsB
  rw[hi,hg]
  simp[hx]
end Go.Abs
namespace Go.Proofs.YtkkffhphodngkabGreatDoor
open Go Go.Abs Go.Proofs
section
variable {G:Nat→List FD}
def A7:Tbl:=A6.add 84 (sp2 zdw fun _ _=>True)
attribute [go_sem] A7
theorem hA7:zaq Tryz.prog G A7:=by
 refine zbC zLr hA6 fun a b _ hwa hwb=>?_
 have la:=zdf hwa
 have lb:=zdf hwb
 simp only[List.length_map,zbe]at la lb
 obtain⟨C,hC⟩:∃C:Nat→Int,C=fun i=>zdw (a.drop i) (b.drop i):=⟨_,rfl⟩
 have h0:zdw a b=C 0:=by rw[hC];rfl
 have h1:∀i (h:i<a.length) (h2:i<b.length),C i=if zk7 a[i] b[i]≠0 then zk7 a[i] b[i]else C (i+1):=fun i h h2=>by rw[hC];exact zus h h2
 have h2:∀i (h:i<a.length),b.length≤i→C i=1:=fun i h h2=>by rw[hC];exact zur h h2
 have h3:C a.length=if a.length<b.length then-1 else 0:=by rw[hC];exact zxC (Nat.le_refl _)
 rw[h0]
 obtain⟨r,hr⟩:∃r,C 0=r:=⟨_,rfl⟩
 rw[hr]
 have k1:=Kp.mk h1
 have k2:=Kp.mk h2
 have k3:=Kp.mk h3
 clear h0 h1 h2 h3 hC
 refine zae (N:=36) hm (G:=G) hA6 84000 (lst []) zLr Tryz.func84 rfl rfl (by simp) (by kernel_rfl) ?_
 repeat'(first|refine rq fun _=>?_|simp only[go_sem,Tryz.f84])
 refine zat hm (G:=G) hA6 84000 (lst []) (ι:=zhd a.length fun i=>C i=r)
  ⟨fun q=>⟨frL [(0,.fz (.sl (a.map enc))),(1,.fz (.sl (b.map enc))),(9,.fz (.sl (a.map enc))),(10,.fz (.i .i64 a.length)),(11,.fz (.i .i64 q.i))],hpL [],0⟩,fun q=>a.length-q.i⟩
  ⟨0,by omega,hr⟩ (by kernel_rfl) ?_ ?_
 ·refine zaj ?_ ?_ ?_<;>simp only[go_sem]
 rintro⟨i,hi,hp⟩
 try simp only at hi hp
 rcases Nat.lt_or_ge i a.length with h|h
 ·rcases Nat.lt_or_ge i b.length with h2|h2
  ·have e:=k1.out i h h2
   have hb':(b.length≤i)=False:=eq_false (by omega)
   obtain⟨x,hx⟩:∃x,a[i]=x:=⟨_,rfl⟩
   obtain⟨y,hy⟩:∃y,b[i]=y:=⟨_,rfl⟩
   rw[hx,hy,hp]at e
   by_cases hc:zk7 x y=0
   ·rw[if_neg (by simp[hc])]at e
    repeat'(first|refine rq fun _=>?_|simp only[go_sem,h,h2,hb',hx,hy,hc,zaa,Tryz.f84])
    refine⟨⟨i+1,by omega,e.symm⟩,by simp only;omega,?_⟩
    refine zaj ?_ ?_ ?_<;>simp only[go_sem]
   ·rw[if_pos hc]at e
    subst e
    repeat'(first|refine rq fun _=>?_|simp only[go_sem,h,h2,hb',hx,hy,hc,zaa,Tryz.f84])
  ·have e:=k2.out i h h2
   have e2:r=1:=by rw[←hp,e]
   have h2':(b.length≤i)=True:=eq_true h2
   subst e2
   repeat'(first|refine rq fun _=>?_|simp only[go_sem,h,h2,h2',zaa,Tryz.f84])
 ·obtain rfl:i=a.length:=by omega
  have e:=k3.out
  rw[hp]at e
  by_cases hl:a.length<b.length
  ·rw[if_pos hl]at e
   subst e
   have hl':((a.length:Int)<(b.length:Int))=True:=eq_true (by omega)
   repeat'(first|refine rq fun _=>?_|simp only[go_sem,Nat.lt_irrefl,hl,hl',Tryz.f84])
  ·rw[if_neg hl]at e
   subst e
   have hl':((a.length:Int)<(b.length:Int))=False:=eq_false (by omega)
   repeat'(first|refine rq fun _=>?_|simp only[go_sem,Nat.lt_irrefl,hl,hl',Tryz.f84])
def zk9 (s:Str)(c:zaG):Int:=zmv c.name s
def A8:Tbl:=A7.add 127 (sp2 (fun(c:zaG) (s:Str)=>zk9 s c) fun _ _=>True)
attribute [go_sem] A8
theorem hA8:zaq Tryz.prog G A8:=by
 refine zbC zEZ hA7 fun a b _ _ _=>?_
 have e:zmv a.name b=zk9 b a:=rfl
 refine zae (N:=9) hm (G:=G) hA7 127000 (lst []) zEZ Tryz.func127 rfl rfl (by simp) (by kernel_rfl) ?_
 repeat'(first|refine rq fun _=>?_|simp only[go_sem,e,zad,Tryz.f127])
structure BsI (n:Nat)(p:Nat→Prop)(q:Nat→Prop) where
 i:Nat
 j:Nat
 hij:i≤j
 hj:j≤n
 hp:p i
 hq:q j
theorem zAx {l:List zaG}{s:Str}(hw:(enc l).Wf)(_hws:(enc s).Wf)(hs:zp4 (zk9 s) l):zaw Tryz.prog G 126 [.fz (enc l),.fz (enc s),.fn 127 []] (hpL []) 0
  (fun d _ _=>D.val d=some (.tup [.fz (.i .i64 (bsI (zk9 s) l)),.fz (.b (bsB (zk9 s) l))])):=by
 have la:=zdf hw
 simp only[List.length_map,zbe]at la
 have hI:=@zqn zaG (zk9 s) l
 have hm1:∀h (hh:h<l.length),zk9 s l[h]<0→∀j (hj:j<l.length),j<h+1→zk9 s l[j]<0:=fun h hh h2 j hj h3=>by
  rcases Nat.eq_or_lt_of_le (Nat.le_of_lt_succ h3)with rfl|h4
  ·exact h2
  ·exact hs j h hj hh h4 (by omega)
 have hm2:∀h (hh:h<l.length),¬zk9 s l[h]<0→∀j (hj:j<l.length),h≤j→0≤zk9 s l[j]:=fun h hh h2 j hj h3=>by
  rcases Nat.eq_or_lt_of_le h3 with rfl|h4
  ·omega
  ·refine Decidable.byContradiction fun h5=>h2 (hs h j hh hj h4 (by omega))
 have k1:=Kp.mk hm1
 have k2:=Kp.mk hm2
 have kI:=Kp.mk @hI
 clear hm1 hm2 hI hs
 refine zae (N:=49) hm (G:=G) hA8 126000 (lst []) zI5 Tryz.func126 rfl rfl (by simp) (by kernel_rfl) ?_
 repeat'(first|refine rq fun _=>?_|simp only[go_sem,Tryz.f126])
 refine zat hm (G:=G) hA8 126000 (lst []) (ι:=BsI l.length (fun i=>∀j (hj:j<l.length),j<i→zk9 s l[j]<0) fun i=>∀j (hj:j<l.length),i≤j→0≤zk9 s l[j])
  ⟨fun q=>⟨frL [(0,.fz (.sl (l.map enc))),(1,.fz (.s s.l)),(2,.fn 127 []),(8,.fz (.i .i64 l.length)),(9,.fz (.i .i64 q.i)),(10,.fz (.i .i64 q.j))],hpL [],0⟩,fun q=>q.j-q.i⟩
  ⟨0,l.length,by omega,by omega,fun j hj h=>by omega,fun j hj h=>by omega⟩ (by kernel_rfl) ?_ ?_
 ·refine zaj ?_ ?_ ?_<;>simp only[go_sem]
 rintro⟨i,j,hij,hj,hp,hq⟩
 try simp only at hij hj
 rcases Nat.lt_or_ge i j with h|h
 ·have h':((i:Int)<(j:Int))=True:=eq_true (by omega)
  repeat'(first|refine rq fun _=>?_|simp only[go_sem,h,h',Tryz.f126])
  obtain⟨H,hH⟩:∃H:Nat,(i+j) / 2=H:=⟨_,rfl⟩
  have hmid:(((i:Int)+(j:Int)) / 2^1)=(H:Int):=by omega
  have hl:H<l.length:=by omega
  refine zaA.i ⟨by show(0:Int)≤_;omega,by show _≤(18446744073709551615:Int);omega⟩ fun _=>?_
  have k3:=k1.out H hl
  have k4:=k2.out H hl
  obtain⟨x,hx⟩:∃x,l[H]=x:=⟨_,rfl⟩
  rw[hx]at k3 k4
  by_cases hc:zk9 s x<0
  ·have hn:=k3 hc
   have kn:=Kp.mk hn
   clear k3 k4 hn
   repeat'(first|refine rq fun _=>?_|simp only[go_sem,hmid,hl,hx,hc,zad,zbb,zaa,Tryz.f126])
   refine⟨⟨H+1,j,by omega,by omega,kn.out,hq⟩,by simp only;omega,?_⟩
   refine zaj ?_ ?_ ?_<;>simp only[go_sem]
  ·have hn:=k4 hc
   have kn:=Kp.mk hn
   clear k3 k4 hn
   repeat'(first|refine rq fun _=>?_|simp only[go_sem,hmid,hl,hx,hc,zad,zbb,zaa,Tryz.f126])
   refine⟨⟨i,H,by omega,by omega,hp,kn.out⟩,by simp only;omega,?_⟩
   refine zaj ?_ ?_ ?_<;>simp only[go_sem]
 ·obtain rfl:i=j:=by omega
  have hbi:=kI.out hj hp hq
  have hbb:bsB (zk9 s) l=(decide (i<l.length)&&decide (zk9 s (l.getD i default)=0)):=by unfold bsB;rw[hbi]
  rw[hbi,hbb]
  clear hbi hbb
  rcases Nat.lt_or_ge i l.length with h1|h1
  ·obtain⟨x,hx⟩:∃x,l[i]=x:=⟨_,rfl⟩
   have hg:l.getD i default=x:=by rw[List.getD_eq_getElem?_getD,List.getElem?_eq_getElem h1,←hx];rfl
   have h1':((i:Int)<(l.length:Int))=True:=eq_true (by omega)
   rw[hg]
   repeat'(first|refine rq fun _=>?_|simp only[go_sem,Nat.lt_irrefl,h1,h1',hx,zad,zbb,zaa,Tryz.f126])
  ·have h1':((i:Int)<(l.length:Int))=False:=eq_false (by omega)
   have h1n:(i<l.length)=False:=eq_false (by omega)
   repeat'(first|refine rq fun _=>?_|simp only[go_sem,Nat.lt_irrefl,h1n,h1',zad,zbb,zaa,Tryz.f126])
end
end Go.Proofs.YtkkffhphodngkabGreatDoor
namespace Go.Abs
open Go
def zFm {α:Type}(lt:α→α→Prop)(l:List α):Prop:=∀i j (hi:i<l.length) (hj:j<l.length),i<j→lt l[i] l[j]
def okC (l:List zaG):Prop:=zFm (fun a b=>a.name.l<b.name.l) l
def okR (l:List zek):Prop:=zFm ltR l
theorem zq4 {l:List zaG}(h:okC l)(s:Str):zp4 (fun c=>zmv c.name s) l:=fun i j hi hj hij h2=>by
 have h1:=h i j hi hj hij
 rw[zk8]
 rcases Int.lt_or_eq_of_le h2 with h3|h3
 ·exact zd7 h1 (zk8.1 h3)
 ·rw[←zeq.1 h3];exact h1
theorem zq5 {l:List zek}(h:okR l)(s:zek):zp4 (fun r=>zqA r s) l:=fun i j hi hj hij h2=>by
 have h1:=h i j hi hj hij
 show zqA _ _<0
 rw[zig]
 rcases Int.lt_or_eq_of_le h2 with h3|h3
 ·exact znN h1 (zig.1 h3)
 ·obtain⟨e1,e2⟩:=zmU.1 h3
  rcases h1 with h4|⟨h4,h5⟩
  ·exact .inl (by rw[←e1];exact h4)
  ·exact .inr ⟨h4.trans e1,by omega⟩
instance:Inhabited (List Int):=⟨[]⟩
end Go.Abs
namespace Go.Proofs.YtkkffhphodngkabGreatDoor
open Go Go.Abs Go.Proofs
section
variable {G:Nat→List FD}
def ze8 (s:zek)(r:zek):Int:=zqA r s
def zoz (s:List Int)(t:List Int):Int:=zdw t s
theorem zHy {l:List zek}{s:zek}(hw:(enc l).Wf)(_hws:(enc s).Wf)(hs:zp4 (ze8 s) l):zaw Tryz.prog G 128 [.fz (enc l),.fz (enc s),.fn 83 []] (hpL []) 0
  (fun d _ _=>D.val d=some (.tup [.fz (.i .i64 (bsI (ze8 s) l)),.fz (.b (bsB (ze8 s) l))])):=by
 have la:=zdf hw
 simp only[List.length_map,zbe]at la
 have hI:=@zqn zek (ze8 s) l
 have hm1:∀h (hh:h<l.length),ze8 s l[h]<0→∀j (hj:j<l.length),j<h+1→ze8 s l[j]<0:=fun h hh h2 j hj h3=>by
  rcases Nat.eq_or_lt_of_le (Nat.le_of_lt_succ h3)with rfl|h4
  ·exact h2
  ·exact hs j h hj hh h4 (by omega)
 have hm2:∀h (hh:h<l.length),¬ze8 s l[h]<0→∀j (hj:j<l.length),h≤j→0≤ze8 s l[j]:=fun h hh h2 j hj h3=>by
  rcases Nat.eq_or_lt_of_le h3 with rfl|h4
  ·omega
  ·refine Decidable.byContradiction fun h5=>h2 (hs h j hh hj h4 (by omega))
 have k1:=Kp.mk hm1
 have k2:=Kp.mk hm2
 have kI:=Kp.mk @hI
 have hcu:∀x,zqA x s=ze8 s x:=fun _=>rfl
 clear hm1 hm2 hI hs
 refine zae (N:=49) hm (G:=G) hA8 128000 (lst []) zI6 Tryz.func128 rfl rfl (by simp) (by kernel_rfl) ?_
 repeat'(first|refine rq fun _=>?_|simp only[go_sem,Tryz.f128])
 refine zat hm (G:=G) hA8 128000 (lst []) (ι:=BsI l.length (fun i=>∀j (hj:j<l.length),j<i→ze8 s l[j]<0) fun i=>∀j (hj:j<l.length),i≤j→0≤ze8 s l[j])
  ⟨fun q=>⟨frL [(0,.fz (.sl (l.map enc))),(4,.ptr (128004,0) 0),(2,.fn 83 []),(8,.fz (.i .i64 l.length)),(9,.fz (.i .i64 q.i)),(10,.fz (.i .i64 q.j))],hpL [((128004,0),some ⟨[.fz (.s s.name.l),.fz (.i .i64 s.arity),.fz (.sl (s.tuples.map enc))],true,false⟩)],1⟩,fun q=>q.j-q.i⟩
  ⟨0,l.length,by omega,by omega,fun j hj h=>by omega,fun j hj h=>by omega⟩ (by kernel_rfl) ?_ ?_
 ·refine zaj ?_ ?_ ?_<;>simp only[go_sem]
 rintro⟨i,j,hij,hj,hp,hq⟩
 try simp only at hij hj
 rcases Nat.lt_or_ge i j with h|h
 ·have h':((i:Int)<(j:Int))=True:=eq_true (by omega)
  repeat'(first|refine rq fun _=>?_|simp only[go_sem,h,h',Tryz.f128])
  obtain⟨H,hH⟩:∃H:Nat,(i+j) / 2=H:=⟨_,rfl⟩
  have hmid:(((i:Int)+(j:Int)) / 2^1)=(H:Int):=by omega
  have hl:H<l.length:=by omega
  refine zaA.i ⟨by show(0:Int)≤_;omega,by show _≤(18446744073709551615:Int);omega⟩ fun _=>?_
  have k3:=k1.out H hl
  have k4:=k2.out H hl
  obtain⟨x,hx⟩:∃x,l[H]=x:=⟨_,rfl⟩
  rw[hx]at k3 k4
  by_cases hc:ze8 s x<0
  ·have hn:=k3 hc
   have kn:=Kp.mk hn
   clear k3 k4 hn
   repeat'(first|refine rq fun _=>?_|simp only[go_sem,hmid,hl,hx,hc,hcu,zad,zaL,zaa,Tryz.f128])
   refine⟨⟨H+1,j,by omega,by omega,kn.out,hq⟩,by simp only;omega,?_⟩
   refine zaj ?_ ?_ ?_<;>simp only[go_sem]
  ·have hn:=k4 hc
   have kn:=Kp.mk hn
   clear k3 k4 hn
   repeat'(first|refine rq fun _=>?_|simp only[go_sem,hmid,hl,hx,hc,hcu,zad,zaL,zaa,Tryz.f128])
   refine⟨⟨i,H,by omega,by omega,hp,kn.out⟩,by simp only;omega,?_⟩
   refine zaj ?_ ?_ ?_<;>simp only[go_sem]
 ·obtain rfl:i=j:=by omega
  have hbi:=kI.out hj hp hq
  have hbb:bsB (ze8 s) l=(decide (i<l.length)&&decide (ze8 s (l.getD i default)=0)):=by unfold bsB;rw[hbi]
  rw[hbi,hbb]
  clear hbi hbb
  rcases Nat.lt_or_ge i l.length with h1|h1
  ·obtain⟨x,hx⟩:∃x,l[i]=x:=⟨_,rfl⟩
   have hg:l.getD i default=x:=by rw[List.getD_eq_getElem?_getD,List.getElem?_eq_getElem h1,←hx];rfl
   have h1':((i:Int)<(l.length:Int))=True:=eq_true (by omega)
   rw[hg]
   repeat'(first|refine rq fun _=>?_|simp only[go_sem,Nat.lt_irrefl,h1,h1',hx,hcu,zad,zaL,zaa,Tryz.f128])
  ·have h1':((i:Int)<(l.length:Int))=False:=eq_false (by omega)
   have h1n:(i<l.length)=False:=eq_false (by omega)
   repeat'(first|refine rq fun _=>?_|simp only[go_sem,Nat.lt_irrefl,h1n,h1',hcu,zad,zaL,zaa,Tryz.f128])
theorem zHz {l:List (List Int)}{s:(List Int)}(hw:(enc l).Wf)(_hws:(enc s).Wf)(hs:zp4 (zoz s) l):zaw Tryz.prog G 92 [.fz (enc l),.fz (enc s),.fn 84 []] (hpL []) 0
  (fun d _ _=>D.val d=some (.tup [.fz (.i .i64 (bsI (zoz s) l)),.fz (.b (bsB (zoz s) l))])):=by
 have la:=zdf hw
 simp only[List.length_map,zbe]at la
 have hI:=@zqn (List Int) (zoz s) l
 have hm1:∀h (hh:h<l.length),zoz s l[h]<0→∀j (hj:j<l.length),j<h+1→zoz s l[j]<0:=fun h hh h2 j hj h3=>by
  rcases Nat.eq_or_lt_of_le (Nat.le_of_lt_succ h3)with rfl|h4
  ·exact h2
  ·exact hs j h hj hh h4 (by omega)
 have hm2:∀h (hh:h<l.length),¬zoz s l[h]<0→∀j (hj:j<l.length),h≤j→0≤zoz s l[j]:=fun h hh h2 j hj h3=>by
  rcases Nat.eq_or_lt_of_le h3 with rfl|h4
  ·omega
  ·refine Decidable.byContradiction fun h5=>h2 (hs h j hh hj h4 (by omega))
 have k1:=Kp.mk hm1
 have k2:=Kp.mk hm2
 have kI:=Kp.mk @hI
 have hcu:∀x,zdw x s=zoz s x:=fun _=>rfl
 clear hm1 hm2 hI hs
 refine zae (N:=49) hm (G:=G) hA8 92000 (lst []) zM0 Tryz.func92 rfl rfl (by simp) (by kernel_rfl) ?_
 repeat'(first|refine rq fun _=>?_|simp only[go_sem,Tryz.f92])
 refine zat hm (G:=G) hA8 92000 (lst []) (ι:=BsI l.length (fun i=>∀j (hj:j<l.length),j<i→zoz s l[j]<0) fun i=>∀j (hj:j<l.length),i≤j→0≤zoz s l[j])
  ⟨fun q=>⟨frL [(0,.fz (.sl (l.map enc))),(1,.fz (.sl (s.map enc))),(2,.fn 84 []),(8,.fz (.i .i64 l.length)),(9,.fz (.i .i64 q.i)),(10,.fz (.i .i64 q.j))],hpL [],0⟩,fun q=>q.j-q.i⟩
  ⟨0,l.length,by omega,by omega,fun j hj h=>by omega,fun j hj h=>by omega⟩ (by kernel_rfl) ?_ ?_
 ·refine zaj ?_ ?_ ?_<;>simp only[go_sem]
 rintro⟨i,j,hij,hj,hp,hq⟩
 try simp only at hij hj
 rcases Nat.lt_or_ge i j with h|h
 ·have h':((i:Int)<(j:Int))=True:=eq_true (by omega)
  repeat'(first|refine rq fun _=>?_|simp only[go_sem,h,h',Tryz.f92])
  obtain⟨H,hH⟩:∃H:Nat,(i+j) / 2=H:=⟨_,rfl⟩
  have hmid:(((i:Int)+(j:Int)) / 2^1)=(H:Int):=by omega
  have hl:H<l.length:=by omega
  refine zaA.i ⟨by show(0:Int)≤_;omega,by show _≤(18446744073709551615:Int);omega⟩ fun _=>?_
  have k3:=k1.out H hl
  have k4:=k2.out H hl
  obtain⟨x,hx⟩:∃x,l[H]=x:=⟨_,rfl⟩
  rw[hx]at k3 k4
  by_cases hc:zoz s x<0
  ·have hn:=k3 hc
   have kn:=Kp.mk hn
   clear k3 k4 hn
   repeat'(first|refine rq fun _=>?_|simp only[go_sem,hmid,hl,hx,hc,hcu,zad,zaa,Tryz.f92])
   refine⟨⟨H+1,j,by omega,by omega,kn.out,hq⟩,by simp only;omega,?_⟩
   refine zaj ?_ ?_ ?_<;>simp only[go_sem]
  ·have hn:=k4 hc
   have kn:=Kp.mk hn
   clear k3 k4 hn
   repeat'(first|refine rq fun _=>?_|simp only[go_sem,hmid,hl,hx,hc,hcu,zad,zaa,Tryz.f92])
   refine⟨⟨i,H,by omega,by omega,hp,kn.out⟩,by simp only;omega,?_⟩
   refine zaj ?_ ?_ ?_<;>simp only[go_sem]
 ·obtain rfl:i=j:=by omega
  have hbi:=kI.out hj hp hq
  have hbb:bsB (zoz s) l=(decide (i<l.length)&&decide (zoz s (l.getD i default)=0)):=by unfold bsB;rw[hbi]
  rw[hbi,hbb]
  clear hbi hbb
  rcases Nat.lt_or_ge i l.length with h1|h1
  ·obtain⟨x,hx⟩:∃x,l[i]=x:=⟨_,rfl⟩
   have hg:l.getD i default=x:=by rw[List.getD_eq_getElem?_getD,List.getElem?_eq_getElem h1,←hx];rfl
   have h1':((i:Int)<(l.length:Int))=True:=eq_true (by omega)
   rw[hg]
   repeat'(first|refine rq fun _=>?_|simp only[go_sem,Nat.lt_irrefl,h1,h1',hx,hcu,zad,zaa,Tryz.f92])
  ·have h1':((i:Int)<(l.length:Int))=False:=eq_false (by omega)
   have h1n:(i<l.length)=False:=eq_false (by omega)
   repeat'(first|refine rq fun _=>?_|simp only[go_sem,Nat.lt_irrefl,h1n,h1',hcu,zad,zaa,Tryz.f92])
def zhV (m:zay)(w:Str):Int×Bool:=(zgz m w,(zec m w).isSome)
theorem zx5 {m:zay}(h:okC m.consts)(w:Str):zec m w=if bsB (zk9 w) m.consts then some (m.consts.getD (bsI (zk9 w) m.consts) default)else none:=by
 have:=zps (zq4 h w)
 unfold zec
 rw[show(fun c:zaG=>decide (c.name=w))=fun c=>decide (zmv c.name w=0)from funext fun c=>decide_eq_decide.2 zeq.symm,this]
 rfl
theorem zzF {α:Type}[Inhabited α]{c:α→Int}{l:List α}(h:bsB c l=true):bsI c l<l.length:=by
 unfold bsB at h
 simp only[Bool.and_eq_true,decide_eq_true_eq]at h
 exact h.1
def A9:Tbl:=A8.add 88 (zAa zhV fun m _=>okC m.consts)
attribute [go_sem] A9
theorem hA9:zaq Tryz.prog G A9:=by
 refine zjB zJi hA8 fun m w hok hwm hww=>?_
 have hwl:(enc m.consts).Wf:=zbS (by have h:=hwm;rw[zdL]at h;exact h) (FD.sl (m.consts.map enc)) (by simp)
 have hbs:=zAx (G:=G) hwl hww (zq4 hok w)
 have hf:=zx5 hok w
 obtain⟨I,hI⟩:∃I,bsI (zk9 w) m.consts=I:=⟨_,rfl⟩
 cases hb:bsB (zk9 w) m.consts with
 |true=>
  have hlt:=zzF hb
  rw[hb,if_pos rfl]at hf
  rw[hI]at hf hlt
  obtain⟨x,hx⟩:∃x,m.consts[I]=x:=⟨_,rfl⟩
  have hg:m.consts.getD I default=x:=by rw[List.getD_eq_getElem?_getD,List.getElem?_eq_getElem hlt,←hx];rfl
  rw[hg]at hf
  have e:zhV m w=(x.value,true):=by unfold zhV zgz;rw[hf];rfl
  rw[hb,hI]at hbs
  simp only[e]
  clear hf hg e hwl
  refine zae (N:=23) hm (G:=G) hA8 88000 (lst []) zJi Tryz.func88 rfl rfl (by simp) (by kernel_rfl) ?_
  repeat'(first|refine rq fun _=>?_|simp only[go_sem,Tryz.f88])
  refine zak.i (zaK (zdG (ds:=[_,_]) rfl hbs) ?_)
  rintro d' H' n1 ⟨rfl,rfl,rfl⟩
  repeat'(first|refine rq fun _=>?_|simp only[go_sem,hlt,hx,zbb,zad,zaa,Tryz.f88])
 |false=>
  rw[hb]at hf hbs
  have e:zhV m w=(0,false):=by unfold zhV zgz;rw[hf];rfl
  rw[hI]at hbs
  simp only[e]
  clear hf e hwl
  refine zae (N:=23) hm (G:=G) hA8 88000 (lst []) zJi Tryz.func88 rfl rfl (by simp) (by kernel_rfl) ?_
  repeat'(first|refine rq fun _=>?_|simp only[go_sem,Tryz.f88])
  refine zak.i (zaK (zdG (ds:=[_,_]) rfl hbs) ?_)
  rintro d' H' n1 ⟨rfl,rfl,rfl⟩
  repeat'(first|refine rq fun _=>?_|simp only[go_sem,zbb,zad,zaa,Tryz.f88])
def zsU:zek:=⟨⟨[]⟩,0,[]⟩
def zj5 (m:zay)(w:Str)(n:Int):zek×Bool:=match zfs m w n with|some r=>(r,true)|none=>(zsU,false)
theorem zx6 {m:zay}(h:okR m.rels)(w:Str)(n:Int):zfs m w n=if bsB (ze8 ⟨w,n,[]⟩) m.rels then some (m.rels.getD (bsI (ze8 ⟨w,n,[]⟩) m.rels) default)else none:=by
 have:=zps (zq5 h ⟨w,n,[]⟩)
 unfold zfs
 rw[show(fun r:zek=>decide (r.name=w∧r.arity=n))=fun r=>decide (zqA r ⟨w,n,[]⟩=0)from funext fun c=>decide_eq_decide.2 (zmU (a:=c) (b:=⟨w,n,[]⟩)).symm,this]
 rfl
def A10:Tbl:=A9.add 90 (zFv zj5 fun m _ _=>okR m.rels)
attribute [go_sem] A10
theorem zMc:zaq Tryz.prog G A10:=by
 refine zwd zJk hA9 fun m w n hok hwm hww hwn=>?_
 have hwl:(enc m.rels).Wf:=zbS (by have h:=hwm;rw[zdL]at h;exact h) (FD.sl (m.rels.map enc)) (by simp)
 have hwt:(enc (⟨w,n,[]⟩:zek)).Wf:= .agg _ fun x hx=>by
  simp only[List.mem_cons,List.not_mem_nil,or_false]at hx
  rcases hx with rfl|rfl|rfl
  ·exact hww
  ·exact hwn
  ·exact .sl _ (by simp) (by simp)
 have hbs:=zHy (G:=G) hwl hwt (zq5 hok ⟨w,n,[]⟩)
 have hf:=zx6 hok w n
 obtain⟨I,hI⟩:∃I,bsI (ze8 ⟨w,n,[]⟩) m.rels=I:=⟨_,rfl⟩
 cases hb:bsB (ze8 ⟨w,n,[]⟩) m.rels with
 |true=>
  have hlt:=zzF hb
  rw[hb,if_pos rfl]at hf
  rw[hI]at hf hlt
  obtain⟨x,hx⟩:∃x,m.rels[I]=x:=⟨_,rfl⟩
  have hg:m.rels.getD I default=x:=by rw[List.getD_eq_getElem?_getD,List.getElem?_eq_getElem hlt,←hx];rfl
  rw[hg]at hf
  have e:zj5 m w n=(x,true):=by unfold zj5;rw[hf]
  rw[hb,hI]at hbs
  simp only[e]
  clear hf hg e hwl hwt
  refine zae (N:=27) hm (G:=G) hA9 90000 (lst []) zJk Tryz.func90 rfl rfl (by simp) (by kernel_rfl) ?_
  repeat'(first|refine rq fun _=>?_|simp only[go_sem,Tryz.f90])
  refine zak.i (zaK (zdG (ds:=[_,_]) rfl hbs) ?_)
  rintro d' H' n1 ⟨rfl,rfl,rfl⟩
  repeat'(first|refine rq fun _=>?_|simp only[go_sem,hlt,hx,zaL,zad,zaa,Tryz.f90])
 |false=>
  rw[hb]at hf hbs
  have e:zj5 m w n=(zsU,false):=by unfold zj5;rw[hf];rfl
  rw[hI]at hbs
  simp only[e,zsU]
  clear hf e hwl hwt
  refine zae (N:=27) hm (G:=G) hA9 90000 (lst []) zJk Tryz.func90 rfl rfl (by simp) (by kernel_rfl) ?_
  repeat'(first|refine rq fun _=>?_|simp only[go_sem,Tryz.f90])
  refine zak.i (zaK (zdG (ds:=[_,_]) rfl hbs) ?_)
  rintro d' H' n1 ⟨rfl,rfl,rfl⟩
  repeat'(first|refine rq fun _=>?_|simp only[go_sem,zaL,zad,zaa,Tryz.f90])
end
end Go.Proofs.YtkkffhphodngkabGreatDoor
namespace Go.Abs
open Go
theorem zpO {f:zac}:zbP f=zcb f.subs+if isQ f.kind then 1 else 0:=by cases f;rw[zbP];rfl
theorem zjj:∀(l:List zac) (f:zac),zcb (l++[f])=max (zcb l) (zbP f)
 |[],f=>by simp[zcb]
 |g::l,f=>by rw[List.cons_append,zcb,zcb,zjj l f];omega
theorem zpN {fs:List zac}{j:Nat}(h:j<fs.length):zcb (fs.take (j+1))=max (zcb (fs.take j)) (zbP fs[j]):=by
 rw[List.take_succ_eq_append_getElem h,zjj]
mutual
theorem zhs:∀f:zac,zbP f≤f.size
 | .mk k n w s=>by
  rw[zbP,zac.size]
  have:=zkB s
  split<;>omega
theorem zkB:∀fs:List zac,zcb fs≤zac.sizes fs
 |[]=>by rw[zcb];omega
 |f::fs=>by rw[zcb,zac.sizes];have:=zhs f;have:=zkB fs;omega
end
theorem zjk:∀{l:List zac} {f:zac},f∈l→zbP f≤zcb l
 |g::l,f,h=>by
  rw[zcb]
  rcases List.mem_cons.1 h with rfl|h
  ·omega
  ·have:=zjk h;omega
def szP (f:zac):Prop:=f.fit=true∧f.size≤1000000
theorem zmg {f g:zac}(h:szP f)(hg:g∈f.subs):g.size<f.size∧szP g:=
 ⟨zac.size_sub hg,zac.fits_mem (zac.fit_eq h.1).2.2 hg,by have:=zac.size_sub hg;have:=h.2;omega⟩
end Go.Abs
namespace Go.Proofs.YtkkffhphodngkabGreatDoor
open Go Go.Abs Go.Proofs
section
variable {G:Nat→List FD}
theorem zqf {G:Nat→List FD}{N:Nat}{l:List (Nat×D)}{H:zav}{n:Nat}{id:Abs.Id}{t:Nat}{ys:List FD}{b:Bool}(ho:H id=some ⟨ys.map .fz,b,false⟩)(hs:frL l t= .ptr id 0):
  zfa G N ⟨frL l,H,n⟩ ⟨frL ((t,.rp ys)::l),zaI H id none,n⟩:=ztQ (st:=⟨frL l,H,n⟩) ho hs
def A11:Tbl:=A10.add 86 (sp1 (fun f:Abs.zac=>(zbP f:Int)) szP)
attribute [go_sem] A11
theorem zMd:zaq Tryz.prog G A11:=by
 refine zBQ zac.size zLt zMc fun n hT f hn hpre _=>?_
 have hsl:=(zac.fit_eq hpre.1).2.1
 have hse:=zhs f
 have hz:=hpre.2
 have hr:∀g∈f.subs,g.size<n∧szP g:=fun g hg=>by have:=zmg hpre hg;exact⟨by omega,this.2⟩
 have kT:=Kp.mk hT
 have kr:=Kp.mk hr
 obtain⟨S,hS⟩:∃S:Nat→Nat,S=fun j=>zcb (f.subs.take j):=⟨_,rfl⟩
 have hS0:S 0=0:=by rw[hS];simp[zcb]
 have hSs:∀j (h:j<f.subs.length),S (j+1)=max (S j) (zbP f.subs[j]):=fun j h=>by rw[hS];exact zpN h
 have hSe:zbP f=S f.subs.length+if isQ f.kind then 1 else 0:=by rw[hS,zpO];simp only[List.take_length]
 have kS:=Kp.mk hSs
 have hSn:S f.subs.length≤1000000:=by omega
 have hq:(isQ f.kind∧(f.kind=8∨f.kind=9))∨(¬isQ f.kind∧¬(f.kind=8∨f.kind=9)):=by
  by_cases h:isQ f.kind
  ·exact .inl ⟨h,h⟩
  ·exact .inr ⟨h,h⟩
 rw[hSe]
 clear hT hr hS hSs hSe hpre hn hse
 refine zae (N:=23) hm (G:=G) kT.out 86000 (lst []) zLt Tryz.func86 rfl rfl (by simp) (by kernel_rfl) ?_
 repeat'(first|refine rq fun _=>?_|simp only[go_sem,Tryz.f86])
 refine zkT (zqf (id:=(86001,0)) (t:=1) (b:=true) (ys:=[.i .i64 f.kind,.s f.name.l,.sl (f.words.map enc),.sl (f.subs.map enc)]) (by simp only[go_sem]) (by simp only[go_sem])) ?_
 refine zat hm (G:=G) kT.out 86000 (lst []) (ι:=zcW f.subs.length 1 fun _=>True)
  ⟨fun q=>⟨frL [(1,.rp [.i .i64 f.kind,.s f.name.l,.sl (f.words.map enc),.sl (f.subs.map enc)]),(3,.fz (.i .i64 (S q.i:Nat))),(7,.fz (.sl (f.subs.map enc))),(8,.fz (.i .i64 f.subs.length)),(9,.fz (.i .i64 q.i))],hpL [],q.m⟩,fun q=>f.subs.length-q.i⟩
  ⟨0,1,by omega,by omega,trivial⟩ (by kernel_rfl) ?_ ?_
 ·refine zaj ?_ ?_ ?_<;>simp only[go_sem,hS0]
  all_goals first|done|rfl
 rintro⟨j,m,hj,hm1,_⟩
 try simp only at hj hm1
 rcases Nat.lt_or_ge j f.subs.length with h2|h2
 ·have hss:=kS.out j h2
  have hr:=kr.out _ (List.getElem_mem h2)
  obtain⟨x,hx⟩:∃x,f.subs[j]=x:=⟨_,rfl⟩
  rw[hx]at hss hr
  have hmx:max (S j:Int) (zbP x:Int)=(S (j+1):Int):=by omega
  repeat'(first|refine rq fun _=>?_|refine zaA.i hr fun _=>?_|simp only[go_sem,h2,hx,hmx,zab,zaa,Tryz.f86])
  refine⟨⟨j+1,m+1,by omega,by omega,trivial⟩,by simp only;omega,?_⟩
  refine zaj ?_ ?_ ?_<;>simp only[go_sem,hss,hmx]
  all_goals first|done|omega|rfl|(simp only[hss];omega)
 ·obtain rfl:j=f.subs.length:=by omega
  rcases hq with⟨h3,h4⟩|⟨h3,h4⟩
  ·rw[if_pos h3]
   repeat'(first|refine rq fun _=>?_|simp only[go_sem,Nat.lt_irrefl,h4,zab,Tryz.f86])
   all_goals first|done|rfl
  ·rw[if_neg h3]
   repeat'(first|refine rq fun _=>?_|simp only[go_sem,Nat.lt_irrefl,h4,zab,Tryz.f86])
   all_goals first|done|rfl
end
end Go.Proofs.YtkkffhphodngkabGreatDoor
namespace Go.Abs
open Go
theorem zA7 {m:zay}{f:zac}:zhp m f=((!decide (f.kind=2)||(zfs m f.name f.words.length).isSome)&&ze7 m f.subs):=by cases f;rw[zhp];rfl
theorem zi6 {m:zay}:∀l:List zac,ze7 m l=l.all (zhp m)
 |[]=>by rw[ze7];rfl
 |f::l=>by rw[ze7,zi6 l];rfl
theorem ztV {α:Type}{p:α→Bool}{l:List α}{i:Nat}(h:i<l.length)(hp:p l[i]=false):l.all p=false:=by
 cases ha:l.all p with
 |false=>rfl
 |true=>rw[List.all_eq_true.1 ha _ (List.getElem_mem h)]at hp;cases hp
theorem ztW {α:Type}{p:α→Bool}{l:List α}(hp:∀j (h:j<l.length),p l[j]=true):l.all p=true:=by
 rw[List.all_eq_true]
 intro x hx
 obtain⟨j,hj,rfl⟩:=List.getElem_of_mem hx
 exact hp j hj
theorem zki {p:Nat→Prop}{n i:Nat}(h:∀j,j<n→j<i→p j)(hi:p i):∀j,j<n→j<i+1→p j:=fun j hj h2=>by
 rcases Nat.lt_or_ge j i with h3|h3
 ·exact h j hj h3
 ·obtain rfl:j=i:=by omega
  exact hi
section
variable {P:Program} {G:Nat→List FD} {T:Tbl}
end
end Go.Abs
namespace Go.Proofs.YtkkffhphodngkabGreatDoor
open Go Go.Abs Go.Proofs
section
variable {G:Nat→List FD}
def A12:Tbl:=A11
attribute [go_sem] A12
theorem zMe:zaq Tryz.prog G A12:=zMd
def A13:Tbl:=A12
attribute [go_sem] A13
theorem zMf:zaq Tryz.prog G A13:=zMe
def A14:Tbl:=A13
attribute [go_sem] A14
theorem zHN:zaq Tryz.prog G A14:=zMf
end
end Go.Proofs.YtkkffhphodngkabGreatDoor
namespace Go.Proofs.YtkkffhphodngkabGreatDoor
open Go Go.Abs Go.Proofs
section
variable {G:Nat→List FD}
def zCp (p:Nat):Int:=(p:Int)-1
theorem znD (p:Nat):zCp (p+1)=(p:Int):=by unfold zCp;omega
theorem zu8:zCp 0= -1:=rfl
structure zHf (n:Nat)(P:Nat→Prop) where
 p:Nat
 hn:p≤n
 hp:P p
theorem f91 {w:Str}{env:List zaG}{m:zay}{ie im:Abs.Id}{H:zav}{n:Nat}{R:D→zav→Nat→Prop}(hok:okC m.consts)(hl:env.length≤1000)
  (ho1:H ie=some ⟨[.fz (.sl (env.map enc))],true,false⟩)(ho2:H im=some ⟨[.fz (.i .i64 m.size),.fz (.sl (m.consts.map enc)),.fz (.sl (m.rels.map enc))],true,false⟩)
  (hR:R (.fz (.i .i64 (zbi m env w))) H n):zaw Tryz.prog G 91 [.fz (enc w),.ptr ie 0,.ptr im 0] H n R:=by
 have hW:zbi m env w=match zdR env w with|some v=>v|none=>zgz m w:=rfl
 have e0:H=hpX [] H:=rfl
 obtain⟨L,hL⟩:∃L:Nat→Option Int,L=fun p=>zdR (env.take p) w:=⟨_,rfl⟩
 have hL0:L 0=none:=by rw[hL];rfl
 have hLs:∀p (h:p<env.length),L (p+1)=if env[p].name=w then some env[p].value else L p:=fun p h=>by
  rw[hL];simp only[List.take_succ_eq_append_getElem h,zkw]
 have hLe:zdR env w=L env.length:=by rw[hL];simp only[List.take_length]
 rw[hLe]at hW
 have kL:=Kp.mk hLs
 have kR:=Kp.mk hR
 have kW:=Kp.mk hW
 clear hL hLs hLe hW hR
 rw[e0]
 refine zae (N:=34) hm (G:=G) zHN 91000 (lst []) zMZ Tryz.func91 rfl rfl (by simp) (by kernel_rfl) ?_
 repeat'(first|refine rq fun _=>?_|simp only[go_sem,ho1,Tryz.f91])
 refine zat hm (G:=G) zHN 91000 (lst []) (ι:=zHf env.length fun p=>L env.length=L p)
  ⟨fun q=>⟨frL [(0,.fz (.s w.l)),(1,.ptr ie 0),(2,.ptr im 0),(5,.fz (.i .i64 (zCp q.p)))],hpX [] H,n⟩,fun q=>q.p⟩
  ⟨env.length,Nat.le_refl _,rfl⟩ (by kernel_rfl) ?_ ?_
 ·refine zaO ?_ ?_ (fun id o ho=>?_) ?_
  ·simp only[go_sem,zCp]
  ·simp only[go_sem]
  ·simp only[go_sem];exact ho
  ·simp only[go_sem]
 rintro⟨p,hn,hp⟩
 try simp only at hn hp
 rcases p with _|p
 ·repeat'(first|refine zaA.i hok fun _=>?_|refine rq fun _=>?_|simp only[go_sem,zu8,ho1,ho2,zad,zag,Tryz.f91])
  have h:=kR.out
  rw[kW.out,hp,hL0]at h
  exact h
 ·have h1:p<env.length:=by omega
  have hs:=kL.out p h1
  obtain⟨x,hx⟩:∃x,env[p]=x:=⟨_,rfl⟩
  rw[hx]at hs
  by_cases hc:x.name=w
  ·rw[if_pos hc]at hs
   repeat'(first|refine rq fun _=>?_|simp only[go_sem,znD,ho1,ho2,h1,hx,hc,zbb,zad,zaa,Tryz.f91])
   have h:=kR.out
   rw[kW.out,hp,hs]at h
   exact h
  ·rw[if_neg hc]at hs
   have hc':(x.name=w)=False:=eq_false hc
   repeat'(first|refine rq fun _=>?_|simp only[go_sem,znD,ho1,ho2,h1,hx,hc',zbb,zad,zaa,Tryz.f91])
   refine⟨⟨p,by omega,hp.trans hs⟩,by simp only;omega,?_⟩
   refine zaO ?_ ?_ (fun id o ho=>?_) ?_
   ·simp only[go_sem,zCp]
   ·simp only[go_sem]
   ·simp only[go_sem];exact ho
   ·simp only[go_sem]
end
end Go.Proofs.YtkkffhphodngkabGreatDoor
namespace Go.Abs
open Go
section
variable {P:Program} {G:Nat→List FD} {T:Tbl}
theorem zy6 {α β γ ρ:Type}[Enc α][Enc β][Enc γ][Enc ρ]{f:FuncId}{g:α→β→γ→ρ}{pre:α→β→γ→Prop}(m:β→Nat)(hc:zan P f)(hT:zaq P G T)
  (h:∀n,zaq P G (T.add f (sp3 g fun a b c=>m b<n∧pre a b c))→∀a b c,m b=n→pre a b c→(enc a).Wf→(enc b).Wf→(enc c).Wf→zaw P G f [.fz (enc a),.fz (enc b),.fz (enc c)] (hpL []) 0 (fun d _ _=>D.val d=some (.fz (enc (g a b c))))):zaq P G (T.add f (sp3 g pre)):=by
 have key:∀n,zaq P G (T.add f (sp3 g fun a b c=>m b<n∧pre a b c)):=by
  intro n
  induction n with
  |zero=>exact zf4 hc hT fun a b c ha=>by omega
  |succ n ih=>
   refine zf4 hc hT fun a b c ha hw hw2 hw3=>?_
   rcases Nat.lt_or_ge (m b) n with h1|h1
   ·have h2:=ih f (sp3 g fun a b c=>m b<n∧pre a b c) [enc a,enc b,enc c] _ _ (by simp[Tbl.add]) (zIU) ⟨by rw[dec_enc],by rw[dec_enc],by rw[dec_enc],by rw[dec_enc,dec_enc,dec_enc];exact⟨h1,ha.2⟩⟩
    rw[dec_enc,dec_enc,dec_enc,zdV]at h2
    exact h2
   ·exact h n ih a b c (by omega) ha.2 hw hw2 hw3
 exact zf4 hc hT fun a b c ha hw hw2 hw3=>h (m b) (key _) a b c rfl ha hw hw2 hw3
end
def zwA:Tv:=(.q 0 (.q 1 (.q 2 (.q 3 (.q 4 (.q 6 (.q 7 (.r 8 (.q 9 (.br [(5,(.q 10 (.br [(11,(.q 12 (.q 13 .leaf)))]))),(10,(.br [(5,(.br [(11,(.q 12 (.q 13 .leaf)))]))]))]))))))))))
structure zw5 (m:zay)(f:zac)(env:List zaG):Prop where
 m:zyy m
 v:vok f
 s:szP f
 e:env.length+zbP f≤900
theorem zzn {m:zay}{f g:zac}{env:List zaG}(h:zw5 m f env)(hg:g∈f.subs):g.size<f.size∧zw5 m g env:=by
 have hs:=zmg h.s hg
 refine⟨hs.1,h.m,(zg6 _).1 (zcl.1 h.v).2.2.2.2.2.2 g hg,hs.2,?_⟩
 have:=zjk hg
 have h2:=h.e
 rw[zpO]at h2
 omega
theorem zwN {m:zay}{f g:zac}{env:List zaG}(h:zw5 m f env)(hg:g∈f.subs)(hq:isQ f.kind)(c:zaG):g.size<f.size∧zw5 m g (env++[c]):=by
 have hs:=zmg h.s hg
 refine⟨hs.1,h.m,(zg6 _).1 (zcl.1 h.v).2.2.2.2.2.2 g hg,hs.2,?_⟩
 have:=zjk hg
 have h2:=h.e
 rw[zpO,if_pos hq]at h2
 rw[List.length_append,List.length_singleton]
 omega
theorem zJK {m:zay}{f:zac}{env:List zaG}(h:f.kind=1):za2 m f env=true:=by cases f;simp only[zai]at h;subst h;rw[za2,if_pos rfl]
theorem zJL {m:zay}{f:zac}{env:List zaG}(h:f.kind=2):za2 m f env=decide (f.words.map (zbi m env)∈ztm m f.name f.words.length):=by cases f;simp only[zai]at h;subst h;rw[za2];rfl
theorem zJM {m:zay}{f:zac}{env:List zaG}{a b:Str}(h:f.kind=3)(hw:f.words=[a,b]):za2 m f env=decide (zbi m env a=zbi m env b):=by cases f;simp only[zai,zce]at h hw;subst h hw;rw[za2];rfl
theorem zJN {m:zay}{f x:zac}{env:List zaG}(h:f.kind=4)(hs:f.subs=[x]):za2 m f env= !za2 m x env:=by cases f;simp only[zai,zaM]at h hs;subst h hs;rw[za2,zb5,zb5];rfl
theorem zJO {m:zay}{f x y:zac}{env:List zaG}(h:f.kind=5)(hs:f.subs=[x,y]):za2 m f env=(za2 m x env&&za2 m y env):=by cases f;simp only[zai,zaM]at h hs;subst h hs;rw[za2,zb5,zb5,zb5];rfl
theorem zJP {m:zay}{f x y:zac}{env:List zaG}(h:f.kind=6)(hs:f.subs=[x,y]):za2 m f env=(za2 m x env||za2 m y env):=by cases f;simp only[zai,zaM]at h hs;subst h hs;rw[za2,zb5,zb5,zb5];rfl
theorem zJQ {m:zay}{f x y:zac}{env:List zaG}(h:f.kind=7)(hs:f.subs=[x,y]):za2 m f env=(!za2 m x env||za2 m y env):=by cases f;simp only[zai,zaM]at h hs;subst h hs;rw[za2,zb5,zb5,zb5];rfl
theorem zJR {m:zay}{f x:zac}{env:List zaG}(h:f.kind=8)(hs:f.subs=[x]):za2 m f env=(zdA m).all fun v=>za2 m x (env++[⟨f.name,v⟩]):=by cases f;simp only[zai,zaM]at h hs;subst h hs;rw[za2];simp only[zb5];rfl
theorem zJS {m:zay}{f x:zac}{env:List zaG}(h:f.kind=9)(hs:f.subs=[x]):za2 m f env=(zdA m).any fun v=>za2 m x (env++[⟨f.name,v⟩]):=by cases f;simp only[zai,zaM]at h hs;subst h hs;rw[za2];simp only[zb5];rfl
theorem zpQ {s:List zac}(h:s.length=1):∃a,s=[a]:=by
 match s,h with
 |[a],_=>exact⟨a,rfl⟩
theorem zqb {s:List zac}(h:s.length=2):∃a b,s=[a,b]:=by
 match s,h with
 |[a,b],_=>exact⟨a,b,rfl⟩
theorem zBZ {s:List Str}(h:s.length=2):∃a b,s=[a,b]:=by
 match s,h with
 |[a,b],_=>exact⟨a,b,rfl⟩
end Go.Abs
namespace Go.Proofs.YtkkffhphodngkabGreatDoor
open Go Go.Abs Go.Proofs
section
variable {G:Nat→List FD}
theorem zrx {m:zay}(h:zyy m)(w:Str)(n:Int)(t:List Int):zp4 (zoz t) (zj5 m w n).1.tuples:=by
 unfold zj5
 split
 ·rename_i r hr
  have hm:=h.t r (List.mem_of_find?_eq_some hr)
  exact fun i j hi hj hij h2=>zhi (hm i j hi hj hij) h2
 ·exact fun i j hi=>absurd hi (by simp[zsU])
theorem zzg (m:zay)(w:Str)(n:Int):ztm m w n=(zj5 m w n).1.tuples:=by
 unfold ztm zj5
 cases zfs m w n<;>rfl
theorem zDj {m:zay}(h:zyy m)(w:Str)(n:Int)(t:List Int):bsB (zoz t) (zj5 m w n).1.tuples=decide (t∈ztm m w n):=by
 have:=zps (zrx h w n t)
 rw[zzg]
 cases hb:bsB (zoz t) (zj5 m w n).1.tuples with
 |true=>
  rw[hb,if_pos rfl]at this
  have h1:=List.find?_some this
  have h2:=List.mem_of_find?_eq_some this
  rw[ziQ.1 (of_decide_eq_true h1)]at h2
  exact(decide_eq_true h2).symm
 |false=>
  rw[hb]at this
  refine(decide_eq_false fun h2=>?_).symm
  have h3:=(List.find?_eq_none.1 this) t h2
  simp only[decide_eq_true_eq]at h3
  exact h3 (ziQ.2 rfl)
theorem zzu {m:zay}{env:List zaG}(h:(enc m).Wf)(h2:(enc env).Wf)(w:Str):(enc (zbi m env w)).Wf:=by
 have hv:∀{l:List zaG},(enc l).Wf→∀c∈l,(enc c.value).Wf:=fun{l} h c hc=>by
  have h1:=zfY h _ (List.mem_map_of_mem hc)
  exact zbS (by rw[znh]at h1;exact h1) (FD.i .i64 c.value) (by simp)
 have hc:(enc m.consts).Wf:=zbS (by rw[zdL]at h;exact h) (FD.sl (m.consts.map enc)) (by simp)
 have key:∀(l:List zaG) (v:Int),zdR l w=some v→∃c∈l,c.value=v:=by
  intro l
  induction l with
  |nil=>intro v h;simp[zdR]at h
  |cons e l ih=>
   intro v h
   rw[zdR]at h
   cases hl:zdR l w with
   |some u=>
    rw[hl]at h
    obtain⟨c,h1,h2⟩:=ih u hl
    exact⟨c,List.mem_cons_of_mem _ h1,by rw[h2];exact Option.some.inj h⟩
   |none=>
    rw[hl]at h
    simp only at h
    split at h
    ·exact⟨e,by simp,Option.some.inj h⟩
    ·cases h
 unfold zbi
 cases hl:zdR env w with
 |some v=>
  obtain⟨c,h3,rfl⟩:=key env v hl
  exact hv h2 c h3
 |none=>
  simp only
  unfold zgz
  cases hf:zec m w with
  |some c=>exact hv hc c (List.mem_of_find?_eq_some hf)
  |none=>exact .i _ _ (by decide) (by decide)
def A15:Tbl:=A14.add 49 (sp3 za2 zw5)
attribute [go_sem] A15
set_option maxHeartbeats 8000000 in
theorem zMg:zaq Tryz.prog G A15:=by
 refine zy6 zac.size zsX zHN fun n hT m f env hn hpre hwm hwf hwe=>?_
 have hm0:=hpre.m
 have hok:=hpre.m.c
 have hokr:=hpre.m.r
 have s1:=hpre.m.s1
 have s6:=hpre.m.s6
 have lc:=hpre.m.lc
 have lr:=hpre.m.lr
 have hel:env.length≤900:=by have:=hpre.e;omega
 have hwl:=(zac.fit_eq hpre.s.1).1
 have hsl:=(zac.fit_eq hpre.s.1).2.1
 have hsub:∀g∈f.subs,g.size<n∧zw5 m g env:=fun g hg=>by have:=zzn hpre hg;exact⟨by omega,this.2⟩
 have hsq:isQ f.kind→∀g∈f.subs,∀c,g.size<n∧zw5 m g (env++[c]):=fun hq g hg c=>by have:=zwN hpre hg hq c;exact⟨by omega,this.2⟩
 have hv:=zcl.1 hpre.v
 obtain⟨v1,v9,v2,v3,v4,v5,_⟩:=hv
 have kT:=Kp.mk hT
 have kS:=Kp.mk hsub
 have kQ:=Kp.mk hsq
 clear hT hsub hsq hpre hn
 have hkk:f.kind=1∨f.kind=2∨f.kind=3∨f.kind=4∨f.kind=5∨f.kind=6∨f.kind=7∨f.kind=8∨f.kind=9:=by omega
 rcases hkk with hk|hk|hk|hk|hk|hk|hk|hk|hk
 ·rw[zJK hk]
  refine zae (N:=168) hm (G:=G) kT.out 49000 (lsw [35] [1000016]) zsX Tryz.func49 rfl rfl (by simp) (by kernel_rfl) ?_
  repeat'(first|refine rq fun _=>?_|refine rf fun _=>?_|simp only[go_sem,hk,zab,zag,Tryz.f49])
 ·rw[zJL hk]
  have hws:=v2 hk
  obtain⟨A,hA⟩:∃A:Nat→List Int,A=fun i=>(f.words.take i).map (zbi m env):=⟨_,rfl⟩
  have hA0:A 0=[]:=by rw[hA];rfl
  have hAs:∀i (h:i<f.words.length),A (i+1)=A i++[zbi m env f.words[i]]:=fun i h=>by rw[hA];simp only[List.take_succ_eq_append_getElem h,List.map_append,List.map_cons,List.map_nil]
  have hAl:∀i,i≤f.words.length→(A i).length=i:=fun i h=>by rw[hA];simp only[List.length_map,List.length_take];omega
  obtain⟨t,ht⟩:∃t,A f.words.length=t:=⟨_,rfl⟩
  have hte:f.words.map (zbi m env)=t:=by rw[←ht,hA];simp only[List.take_length]
  have htl:t.length=f.words.length:=by rw[←ht];exact hAl _ (Nat.le_refl _)
  rw[hte]
  have hbm:=zDj hm0 f.name f.words.length t
  have hst:=zrx hm0 f.name f.words.length t
  rw[←hbm]
  obtain⟨rl,hrl⟩:∃rl,(zj5 m f.name f.words.length).1=rl:=⟨_,rfl⟩
  obtain⟨bl,hbl⟩:∃bl,(zj5 m f.name f.words.length).2=bl:=⟨_,rfl⟩
  have hrp:zj5 m f.name f.words.length=(rl,bl):=by rw[←hrl,←hbl]
  rw[hrl]at hst ⊢
  have hwt:(enc rl.tuples).Wf:=by
   rw[←hrl];unfold zj5
   split
   ·rename_i r hr
    have h1:(enc r).Wf:=zfY (zbS (by have h:=hwm;rw[zdL]at h;exact h) (FD.sl (m.rels.map enc)) (by simp)) _ (List.mem_map_of_mem (List.mem_of_find?_eq_some hr))
    exact zbS (by have h:=h1;rw[zph]at h;exact h) (FD.sl (r.tuples.map enc)) (by simp)
   ·exact .sl _ (by simp[zsU]) (by simp[zsU])
  have hwtt:(enc t).Wf:=by
   rw[←hte]
   refine .sl _ (by simp only[List.length_map];unfold zbe;omega) fun y hy=>?_
   obtain⟨v,hv2,rfl⟩:=List.mem_map.1 hy
   obtain⟨w,_,rfl⟩:=List.mem_map.1 hv2
   exact zzu hwm hwe w
  have kA:=Kp.mk hAs
  have kL:=Kp.mk hAl
  have kw:=Kp.mk hwt
  have ks:=Kp.mk hst
  have kwt:=Kp.mk hwtt
  clear hA hAs hAl hte hbm hst hwt hrl hbl hwtt
  refine zae (N:=168) hm (G:=G) kT.out 49000 (lsw [35] [1000016]) zsX Tryz.func49 rfl rfl (by simp) (by kernel_rfl) ?_
  repeat'(first|refine rq fun _=>?_|refine rf fun _=>?_|simp only[go_sem,hk,zab,zag,Tryz.f49])
  refine zat hm (G:=G) kT.out 49000 (lsw [35] [1000016]) (ι:=zh6 f.words.length 4 fun _=>True)
   ⟨fun q=>⟨frL [(3,.ptr (49003,0) 0),(4,.ptr (49004,1) 0),(5,.ptr (49005,2) 0),(7,.fn 91 [.ptr (49005,2) 0,.ptr (49003,0) 0]),(8,.ow (49035,q.g) 1 ((A q.i).map enc)),(24,.fz (.sl (f.words.map enc))),(25,.fz (.i .i64 f.words.length)),(26,.fz (.i .i64 q.i))],
    hpL [((49003,0),some ⟨[.fz (.i .i64 m.size),.fz (.sl (m.consts.map enc)),.fz (.sl (m.rels.map enc))],true,false⟩),((49004,1),some ⟨[.fz (.i .i64 f.kind),.fz (.s f.name.l),.fz (.sl (f.words.map enc)),.fz (.sl (f.subs.map enc))],true,false⟩),((49005,2),some ⟨[.fz (.sl (env.map enc))],true,false⟩),((49035,q.g),some tok)],q.m⟩,fun q=>f.words.length-q.i⟩
   ⟨0,3,4,by omega,by omega,by omega,trivial⟩ (by kernel_rfl) ?_ ?_
  ·refine zbm [] [(49035,3)] [] ?_ ?_ ?_ ?_ ?_<;>simp only[go_sem,hA0,hk]
   all_goals first|done|rfl|omega
  rintro⟨i,g,q,hi,hg,hq,_⟩
  try simp only at hi hg hq
  rcases Nat.lt_or_ge i f.words.length with h1|h1
  ·have hs:=kA.out i h1
   have hl:=kL.out i (by omega)
   obtain⟨w,hw⟩:∃w,f.words[i]=w:=⟨_,rfl⟩
   rw[hw]at hs
   repeat'(first|refine rq fun _=>?_|refine rf fun _=>?_|simp only[go_sem,h1,hw,zad,zaa,zab,zag,Tryz.f49])
   refine zak.i (f91 (env:=env) (m:=m) hok (by omega) (by simp only[go_sem]) (by simp only[go_sem]) ?_)
   repeat'(first|refine rq fun _=>?_|refine rf fun _=>?_|simp only[go_sem,h1,hw,zad,zaa,zab,zag,Tryz.f49])
   refine⟨⟨i+1,q,q+1,by omega,by omega,by omega,trivial⟩,by simp only;omega,?_⟩
   refine zaj ?_ ?_ ?_<;>(try simp only[go_sem,hs,List.map_append])
   all_goals first|done|omega|rfl
  obtain rfl:i=f.words.length:=by omega
  repeat'(first|refine zaA.i hokr fun _=>?_|refine rq fun _=>?_|refine rf fun _=>?_|simp only[go_sem,Nat.lt_irrefl,ht,htl,hrp,zad,zaL,zab,zag,Tryz.f49])
  refine zak.i (zaK (zdG (ds:=[_,_]) rfl (zHz (G:=G) kw.out kwt.out ks.out)) ?_)
  rintro d' H' n1 ⟨rfl,rfl,rfl⟩
  repeat'(first|refine rq fun _=>?_|refine rf fun _=>?_|simp only[go_sem,Nat.lt_irrefl,ht,zad,zaL,zab,zag,Tryz.f49])
 ·obtain⟨a,b,hab⟩:=zBZ (v3 hk)
  rw[zJM hk hab]
  refine zae (N:=168) hm (G:=G) kT.out 49000 (lsw [35] [1000016]) zsX Tryz.func49 rfl rfl (by simp) (by kernel_rfl) ?_
  repeat'(first|refine rq fun _=>?_|refine rf fun _=>?_|simp only[go_sem,hk,hab,zab,zag,Tryz.f49])
  refine zkT (zqf (id:=(49004,1)) (t:=4) (b:=true) (ys:=[.i .i64 f.kind,.s f.name.l,.sl (f.words.map enc),.sl (f.subs.map enc)]) (by simp only[go_sem,hk,hab]) (by simp only[go_sem])) ?_
  refine zar hm (G:=G) kT.out 49000 (lsw [35] [1000016]) zwA (by kernel_rfl) (by kernel_rfl) ?_
  repeat'(first|refine And.intro ?_ ?_|exact True.intro|refine zak.i (f91 (env:=env) (m:=m) hok (by omega) (by simp only[go_sem]) (by simp only[go_sem]) ?_)|refine rq fun _=>?_|refine rf fun _=>?_|simp only[go_sem,zwA,hk,hab,zad,zab,zag,Tryz.f49])
 ·obtain⟨x,hx⟩:=zpQ (v4 (.inl hk))
  rw[zJN hk hx]
  have hz:=kS.out x (by rw[hx];simp)
  obtain⟨b,hb⟩:∃b,za2 m x env=b:=⟨_,rfl⟩
  rw[hb]
  refine zae (N:=168) hm (G:=G) kT.out 49000 (lsw [35] [1000016]) zsX Tryz.func49 rfl rfl (by simp) (by kernel_rfl) ?_
  repeat'(first|refine zaA.i hz fun _=>?_|refine rq fun _=>?_|refine rf fun _=>?_|simp only[go_sem,hk,hx,hb,zab,zag,Tryz.f49])
 ·obtain⟨x,y,hxy⟩:=zqb (v5 (by omega))
  rw[zJO hk hxy]
  have hz:=kS.out x (by rw[hxy];simp)
  have hz2:=kS.out y (by rw[hxy];simp)
  obtain⟨b2,hb2⟩:∃b,za2 m y env=b:=⟨_,rfl⟩
  rw[hb2]
  cases hb:za2 m x env
  ·refine zae (N:=168) hm (G:=G) kT.out 49000 (lsw [35] [1000016]) zsX Tryz.func49 rfl rfl (by simp) (by kernel_rfl) ?_
   repeat'(first|refine zaA.i hz fun _=>?_|refine zaA.i hz2 fun _=>?_|refine rq fun _=>?_|refine rf fun _=>?_|simp only[go_sem,hk,hxy,hb,hb2,zab,zag,Tryz.f49])
  ·refine zae (N:=168) hm (G:=G) kT.out 49000 (lsw [35] [1000016]) zsX Tryz.func49 rfl rfl (by simp) (by kernel_rfl) ?_
   repeat'(first|refine zaA.i hz fun _=>?_|refine zaA.i hz2 fun _=>?_|refine rq fun _=>?_|refine rf fun _=>?_|simp only[go_sem,hk,hxy,hb,hb2,zab,zag,Tryz.f49])
 ·obtain⟨x,y,hxy⟩:=zqb (v5 (by omega))
  rw[zJP hk hxy]
  have hz:=kS.out x (by rw[hxy];simp)
  have hz2:=kS.out y (by rw[hxy];simp)
  obtain⟨b2,hb2⟩:∃b,za2 m y env=b:=⟨_,rfl⟩
  rw[hb2]
  cases hb:za2 m x env
  ·refine zae (N:=168) hm (G:=G) kT.out 49000 (lsw [35] [1000016]) zsX Tryz.func49 rfl rfl (by simp) (by kernel_rfl) ?_
   repeat'(first|refine zaA.i hz fun _=>?_|refine zaA.i hz2 fun _=>?_|refine rq fun _=>?_|refine rf fun _=>?_|simp only[go_sem,hk,hxy,hb,hb2,zab,zag,Tryz.f49])
  ·refine zae (N:=168) hm (G:=G) kT.out 49000 (lsw [35] [1000016]) zsX Tryz.func49 rfl rfl (by simp) (by kernel_rfl) ?_
   repeat'(first|refine zaA.i hz fun _=>?_|refine zaA.i hz2 fun _=>?_|refine rq fun _=>?_|refine rf fun _=>?_|simp only[go_sem,hk,hxy,hb,hb2,zab,zag,Tryz.f49])
 ·obtain⟨x,y,hxy⟩:=zqb (v5 (by omega))
  rw[zJQ hk hxy]
  have hz:=kS.out x (by rw[hxy];simp)
  have hz2:=kS.out y (by rw[hxy];simp)
  obtain⟨b2,hb2⟩:∃b,za2 m y env=b:=⟨_,rfl⟩
  rw[hb2]
  cases hb:za2 m x env
  ·refine zae (N:=168) hm (G:=G) kT.out 49000 (lsw [35] [1000016]) zsX Tryz.func49 rfl rfl (by simp) (by kernel_rfl) ?_
   repeat'(first|refine zaA.i hz fun _=>?_|refine zaA.i hz2 fun _=>?_|refine rq fun _=>?_|refine rf fun _=>?_|simp only[go_sem,hk,hxy,hb,hb2,zab,zag,Tryz.f49])
  ·refine zae (N:=168) hm (G:=G) kT.out 49000 (lsw [35] [1000016]) zsX Tryz.func49 rfl rfl (by simp) (by kernel_rfl) ?_
   repeat'(first|refine zaA.i hz fun _=>?_|refine zaA.i hz2 fun _=>?_|refine rq fun _=>?_|refine rf fun _=>?_|simp only[go_sem,hk,hxy,hb,hb2,zab,zag,Tryz.f49])
 ·obtain⟨x,hx⟩:=zpQ (v4 (by omega))
  rw[zJR hk hx]
  have hz:=fun c=>kQ.out (by unfold isQ;omega) x (by rw[hx];simp) c
  obtain⟨V,hV⟩:∃V:Int→Bool,V=fun v=>za2 m x (env++[⟨f.name,v⟩]):=⟨_,rfl⟩
  rw[←hV]
  have hVv:∀v,za2 m x (env++[⟨f.name,v⟩])=V v:=fun v=>by rw[hV]
  have kz:=Kp.mk hz
  have kV:=Kp.mk hVv
  clear hV hz hVv
  obtain⟨r,hr⟩:∃r,(zdA m).all V=r:=⟨_,rfl⟩
  have kr:=Kp.mk hr
  rw[hr]
  clear hr
  refine zae (N:=168) hm (G:=G) kT.out 49000 (lsw [35] [1000016]) zsX Tryz.func49 rfl rfl (by simp) (by kernel_rfl) ?_
  repeat'(first|refine rq fun _=>?_|refine rf fun _=>?_|simp only[go_sem,hk,hx,zab,zag,Tryz.f49])
  refine zat hm (G:=G) kT.out 49000 (lsw [35] [1000016]) (ι:=zcW m.size.toNat 3 fun i=>∀v:Nat,v<m.size.toNat→v<i→V v=true)
   ⟨fun q=>⟨frL [(3,.ptr (49003,0) 0),(4,.ptr (49004,1) 0),(5,.ptr (49005,2) 0),(135,.fz (.i .i64 m.size)),(136,.fz (.i .i64 q.i))],
    hpL [((49003,0),some ⟨[.fz (.i .i64 m.size),.fz (.sl (m.consts.map enc)),.fz (.sl (m.rels.map enc))],true,false⟩),((49004,1),some ⟨[.fz (.i .i64 f.kind),.fz (.s f.name.l),.fz (.sl (f.words.map enc)),.fz (.sl (f.subs.map enc))],true,false⟩),((49005,2),some ⟨[.fz (.sl (env.map enc))],true,false⟩)],q.m⟩,fun q=>m.size.toNat-q.i⟩
   ⟨0,3,by omega,by omega,fun v h h2=>by omega⟩ (by kernel_rfl) ?_ ?_
  ·refine zaj ?_ ?_ ?_<;>simp only[go_sem,hk,hx]
  rintro⟨i,q,hi,hq,hp⟩
  try simp only at hi hq
  rcases Nat.lt_or_ge i m.size.toNat with h1|h1
  ·have h1':((i:Int)<m.size)=True:=eq_true (by omega)
   have hz:=kz.out ⟨f.name,(i:Int)⟩
   have hvi:=kV.out (i:Int)
   have hbb:V i=false∨V i=true:=by cases V i<;>simp
   rcases hbb with hb|hb
   ·have hrr:r=false:=by rw[←kr.out];exact zlD (v:=i) (by omega) hb
    subst hrr
    repeat'(first|refine zaA.i hz fun _=>?_|refine rq fun _=>?_|refine rf fun _=>?_|simp only[go_sem,hk,hx,h1,h1',hvi,hb,zad,List.map_append,zfL,zeL,zer,zgC,zab,zag,Tryz.f49])
   ·have hp2:=zki hp hb
    have kp:=Kp.mk hp2
    clear hp2
    repeat'(first|refine zaA.i hz fun _=>?_|refine rq fun _=>?_|refine rf fun _=>?_|simp only[go_sem,hk,hx,h1,h1',hvi,hb,zad,List.map_append,zfL,zeL,zer,zgC,zab,zag,Tryz.f49])
    refine⟨⟨i+1,q+1,by omega,by omega,kp.out⟩,by simp only;omega,?_⟩
    refine zaj ?_ ?_ ?_<;>simp only[go_sem,hk,hx]
    all_goals first|done|omega
  ·obtain rfl:i=m.size.toNat:=by omega
   have hrr:r=true:=by rw[←kr.out];exact zva fun v hv=>hp v (by omega) (by omega)
   have h1':((m.size.toNat:Int)<m.size)=False:=eq_false (by omega)
   subst hrr
   repeat'(first|refine rq fun _=>?_|refine rf fun _=>?_|simp only[go_sem,hk,hx,Nat.lt_irrefl,h1',zab,zag,Tryz.f49])
 ·obtain⟨x,hx⟩:=zpQ (v4 (by omega))
  rw[zJS hk hx]
  have hz:=fun c=>kQ.out (by unfold isQ;omega) x (by rw[hx];simp) c
  obtain⟨V,hV⟩:∃V:Int→Bool,V=fun v=>za2 m x (env++[⟨f.name,v⟩]):=⟨_,rfl⟩
  rw[←hV]
  have hVv:∀v,za2 m x (env++[⟨f.name,v⟩])=V v:=fun v=>by rw[hV]
  have kz:=Kp.mk hz
  have kV:=Kp.mk hVv
  clear hV hz hVv
  obtain⟨r,hr⟩:∃r,(zdA m).any V=r:=⟨_,rfl⟩
  have kr:=Kp.mk hr
  rw[hr]
  clear hr
  refine zae (N:=168) hm (G:=G) kT.out 49000 (lsw [35] [1000016]) zsX Tryz.func49 rfl rfl (by simp) (by kernel_rfl) ?_
  repeat'(first|refine rq fun _=>?_|refine rf fun _=>?_|simp only[go_sem,hk,hx,zab,zag,Tryz.f49])
  refine zat hm (G:=G) kT.out 49000 (lsw [35] [1000016]) (ι:=zcW m.size.toNat 3 fun i=>∀v:Nat,v<m.size.toNat→v<i→V v=false)
   ⟨fun q=>⟨frL [(3,.ptr (49003,0) 0),(4,.ptr (49004,1) 0),(5,.ptr (49005,2) 0),(135,.fz (.i .i64 m.size)),(136,.fz (.i .i64 q.i))],
    hpL [((49003,0),some ⟨[.fz (.i .i64 m.size),.fz (.sl (m.consts.map enc)),.fz (.sl (m.rels.map enc))],true,false⟩),((49004,1),some ⟨[.fz (.i .i64 f.kind),.fz (.s f.name.l),.fz (.sl (f.words.map enc)),.fz (.sl (f.subs.map enc))],true,false⟩),((49005,2),some ⟨[.fz (.sl (env.map enc))],true,false⟩)],q.m⟩,fun q=>m.size.toNat-q.i⟩
   ⟨0,3,by omega,by omega,fun v h h2=>by omega⟩ (by kernel_rfl) ?_ ?_
  ·refine zaj ?_ ?_ ?_<;>simp only[go_sem,hk,hx]
  rintro⟨i,q,hi,hq,hp⟩
  try simp only at hi hq
  rcases Nat.lt_or_ge i m.size.toNat with h1|h1
  ·have h1':((i:Int)<m.size)=True:=eq_true (by omega)
   have hz:=kz.out ⟨f.name,(i:Int)⟩
   have hvi:=kV.out (i:Int)
   have hbb:V i=false∨V i=true:=by cases V i<;>simp
   rcases hbb with hb|hb
   ·have hp2:=zki hp hb
    have kp:=Kp.mk hp2
    clear hp2
    repeat'(first|refine zaA.i hz fun _=>?_|refine rq fun _=>?_|refine rf fun _=>?_|simp only[go_sem,hk,hx,h1,h1',hvi,hb,zad,List.map_append,zfL,zeL,zer,zgC,zab,zag,Tryz.f49])
    refine⟨⟨i+1,q+1,by omega,by omega,kp.out⟩,by simp only;omega,?_⟩
    refine zaj ?_ ?_ ?_<;>simp only[go_sem,hk,hx]
    all_goals first|done|omega
   ·have hrr:r=true:=by rw[←kr.out];exact zvb (v:=i) (by omega) hb
    subst hrr
    repeat'(first|refine zaA.i hz fun _=>?_|refine rq fun _=>?_|refine rf fun _=>?_|simp only[go_sem,hk,hx,h1,h1',hvi,hb,zad,List.map_append,zfL,zeL,zer,zgC,zab,zag,Tryz.f49])
  ·obtain rfl:i=m.size.toNat:=by omega
   have hrr:r=false:=by rw[←kr.out];exact zlE fun v hv=>hp v (by omega) (by omega)
   have h1':((m.size.toNat:Int)<m.size)=False:=eq_false (by omega)
   subst hrr
   repeat'(first|refine rq fun _=>?_|refine rf fun _=>?_|simp only[go_sem,hk,hx,Nat.lt_irrefl,h1',zab,zag,Tryz.f49])
end
end Go.Proofs.YtkkffhphodngkabGreatDoor
namespace Go.Proofs.YtkkffhphodngkabGreatDoor
open Go Go.Abs Go.Proofs
section
variable {G:Nat→List FD}
theorem zHJ:∀(k:Nat) (f:Abs.zac) (bd acc:List Str) (g n:Nat) (X:zav),f.size≤k→(enc f).Wf→g<n→2<n→acc.length+(cst f bd).length≤1000000→bd.length+f.size≤1000000→
  (∀id o,X id=some o→id.2<n∧id.1≠87003∧id.1≠87004∧id.1≠123024)→
  zaw Tryz.prog G 123 [.fz (enc f),.fz (enc bd),.ptr (87003,1) 0,.ptr (87004,2) 0] (hpX (HHk acc g) X) n
   (fun d' H' n'=>d'= .tup []∧n≤n'∧(∃g',g'<n'∧zgk H' (HHk (acc++cst f bd) g'))∧∀id o,X id=some o→H' id=some o):=by
 intro k
 induction k with
 |zero=>intro f bd acc g n X hs;have:=f.size_pos;omega
 |succ k ih=>
  intro f bd acc g n X hs hw hg hn hlen hbl hX
  obtain⟨Q,hQ⟩:∃Q:D→zav→Nat→Prop,Q=(fun d' H' n'=>d'= .tup []∧n≤n'∧(∃g',g'<n'∧zgk H' (HHk (acc++cst f bd) g'))∧∀id o,X id=some o→H' id=some o):=⟨_,rfl⟩
  rw[←hQ]
  have hX':∀{l:List (Abs.Id×Option O)} (id o),X id=some o→(id.2<n∧id.1≠87003∧id.1≠87004∧id.1≠123024→zgq id l)→hpX l X id=some o:=fun id o h1 h2=>(zcx (h2 (hX id o h1))).trans h1
  have hwl:f.words.length≤zbe:=by
   have h:=zbS (by have h:=hw;rw[zaE]at h;exact h) (FD.sl (f.words.map enc)) (by simp)
   have:=zdf h
   simpa using this
  have hsl:f.subs.length≤zbe:=by
   have h:=zbS (by have h:=hw;rw[zaE]at h;exact h) (FD.sl (f.subs.map enc)) (by simp)
   have:=zdf h
   simpa using this
  have hsw:∀g∈f.subs,(enc g).Wf:=fun g hg=>zfY (zbS (by have h:=hw;rw[zaE]at h;exact h) (FD.sl (f.subs.map enc)) (by simp)) _ (List.mem_map_of_mem hg)
  have hss:∀g∈f.subs,g.size≤k∧g.size+1≤f.size:=fun g hg=>by have:=zac.size_sub hg;omega
  unfold zbe at hwl hsl
  rw[zqE,List.length_append]at hlen
  obtain⟨A,hA⟩:∃A:Nat→List Str,A=fun i=>acc++(f.words.take i).filter (fun w=>decide (w∉bd)):=⟨_,rfl⟩
  have hA0:A 0=acc:=by rw[hA];simp
  have hAl:∀i,(A i).length≤acc.length+(f.words.filter (fun w=>decide (w∉bd))).length:=fun i=>by
   rw[hA];simp only[List.length_append];have:=@zfr f.words bd i;omega
  have hAs:∀i (h:i<f.words.length),A (i+1)=A i++if f.words[i]∈bd then[]else[f.words[i]]:=fun i h=>by
   rw[hA];simp only[ze3 h,List.append_assoc]
  have hAe:A f.words.length=acc++f.words.filter (fun w=>decide (w∉bd)):=by rw[hA];simp only[List.take_length]
  have kA:=Kp.mk hAl
  have kB:=Kp.mk hAs
  have kC:=Kp.mk hAe
  clear hA hAl hAs hAe
  have kX:=Kp.mk @hX'
  have kQ:=Kp.mk hQ
  have kI:=Kp.mk ih
  have kS:=Kp.mk hsw
  have kZ:=Kp.mk hss
  have kx:=Kp.mk hX
  clear hX' hQ ih hsw hss hX
  refine zae (N:=50) hm (zc2 (G:=G) zA6) 123000 (lst [24]) zEW Tryz.func123 rfl rfl (by simp) (by kernel_rfl) ?_
  repeat'(first|refine rq fun _=>?_|simp only[go_sem,HHk,Tryz.f123, *])
  refine zat hm (zc2 (G:=G) zA6) 123000 (lst [24]) (ι:=zh6 f.words.length (n+1) fun _=>True)
   ⟨fun q=>⟨frL [(1,.fz (.sl (bd.map enc))),(2,.ptr (87003,1) 0),(3,.ptr (87004,2) 0),(4,.ptr (123004,n) 0),(11,.fz (.sl (f.words.map enc))),(12,.fz (.i .i64 f.words.length)),(13,.fz (.i .i64 q.i))],
    hpX (((123004,n),some ⟨[.fz (.i .i64 f.kind),.fz (.s f.name.l),.fz (.sl (f.words.map enc)),.fz (.sl (f.subs.map enc))],true,false⟩)::HHk (A q.i) q.g) X,q.m⟩,fun q=>f.words.length-q.i⟩
   ⟨0,g,n+1,by omega,by omega,by omega,trivial⟩ (by kernel_rfl) ?_ ?_
  ·refine zaO ?_ ?_ (fun id o ho=>?_) ?_
   ·simp only[go_sem]
   ·simp only[go_sem,HHk,hA0]
   ·refine kX.out id o ho fun h1=>?_
    ((repeat'(first|exact trivial|apply And.intro))<;>(rintro rfl;simp only at h1;omega))
   ·simp only[go_sem]
  rintro⟨i,g1,m1,hi,hg1,hm1,_⟩
  try simp only at hi hg1 hm1
  rcases Nat.lt_or_ge i f.words.length with h1|h1
  ·have hfl:=kB.out i h1
   have hl1:=kA.out i
   have hl2:=kA.out (i+1)
   by_cases hin:f.words[i]∈bd
   ·rw[if_pos hin,List.append_nil]at hfl
    repeat'(first|refine rq fun _=>?_|simp only[go_sem,HHk,h1,hin,zad,zaa,Tryz.f123])
    refine⟨⟨i+1,g1,m1,by omega,by omega,by omega,trivial⟩,by simp only;omega,?_⟩
    refine zaO ?_ ?_ (fun id o ho=>?_) ?_
    ·simp only[go_sem]
    ·simp only[go_sem,HHk,hfl]
    ·refine kX.out id o ho fun h1=>?_
     ((repeat'(first|exact trivial|apply And.intro))<;>(rintro rfl;simp only at h1;omega))
    ·simp only[go_sem]
   ·rw[if_neg hin]at hfl
    have hl3:(zaf ((A i).map enc)).length=(A i).length:=by rw[znu (zeQ (f:=enc) (k:=1) (fun _=>rfl) _),List.length_map]
    repeat'(first|refine rq fun _=>?_|refine zaA.i (zcw (by omega) (by decide)) fun _=>?_|simp only[go_sem,HHk,h1,hin,zad,zaa,Tryz.f123])
    refine⟨⟨i+1,m1,m1+1,by omega,by omega,by omega,trivial⟩,by simp only;omega,?_⟩
    refine zaO ?_ ?_ (fun id o ho=>?_) ?_
    ·simp only[go_sem]
    ·simp only[go_sem,HHk,hfl,zkt]
    ·refine kX.out id o ho fun h1=>?_
     ((repeat'(first|exact trivial|apply And.intro))<;>(rintro rfl;simp only at h1;omega))
    ·simp only[go_sem]
  ·obtain rfl:i=f.words.length:=by omega
   have hAe:=kC.out
   obtain⟨bd2,hbd⟩:∃bd2,bd2=if isQ f.kind then bd++[f.name]else bd:=⟨_,rfl⟩
   rw[←hbd]at hlen
   obtain⟨B,hB⟩:∃B:Nat→List Str,B=fun j=>A f.words.length++zbN (f.subs.take j) bd2:=⟨_,rfl⟩
   have hB0:B 0=A f.words.length:=by rw[hB];simp[zbN]
   have hBs:∀j (h:j<f.subs.length),B (j+1)=B j++cst f.subs[j] bd2:=fun j h=>by rw[hB];simp only[zf0 h,List.append_assoc]
   have hBl:∀j,(B j).length≤1000000:=fun j=>by rw[hB,List.length_append,hAe,List.length_append];have:=@zgA f.subs bd2 j;omega
   have hBe:B f.subs.length=acc++cst f bd:=by rw[hB,zqE,←hbd,hAe];simp only[List.take_length,List.append_assoc]
   have hb2:bd2.length≤bd.length+1:=by
    rw[hbd];split
    ·simp
    ·omega
   have kBs:=Kp.mk hBs
   have kBl:=Kp.mk hBl
   have kBe:=Kp.mk hBe
   clear hBs hBl hBe hB hAe
   rcases Decidable.em (isQ f.kind)with hq|hq
   all_goals
    (first|rw[if_pos hq]at hbd|rw[if_neg hq]at hbd)
    unfold isQ at hq
    repeat'(first|refine rq fun _=>?_|refine zaA.i (zcw (by omega) (by decide)) fun _=>?_|simp only[go_sem,HHk,hq,Nat.lt_irrefl,zad,Tryz.f123])
    refine zat hm (zc2 (G:=G) zA6) 123000 (lst [24]) (ι:=zh6 f.subs.length (n+1) fun _=>True)
     ⟨fun q=>⟨frL [(1,.fz (.sl (bd2.map enc))),(2,.ptr (87003,1) 0),(3,.ptr (87004,2) 0),(39,.fz (.sl (f.subs.map enc))),(40,.fz (.i .i64 f.subs.length)),(41,.fz (.i .i64 q.i))],hpX (HHk (B q.i) q.g) X,q.m⟩,fun q=>f.subs.length-q.i⟩
     ⟨0,g1,m1,by omega,by omega,by omega,trivial⟩ (by kernel_rfl) ?_ ?_
    ·refine zaO ?_ ?_ (fun id o ho=>?_) ?_
     ·simp only[go_sem,hbd,List.map_append]
     ·simp only[go_sem,HHk,hB0]
     ·refine kX.out id o ho fun h1=>?_
      ((repeat'(first|exact trivial|apply And.intro))<;>(rintro rfl;simp only at h1;omega))
     ·simp only[go_sem]
    rintro⟨j,g2,m2,hj,hg2,hm2,_⟩
    try simp only at hj hg2 hm2
    rcases Nat.lt_or_ge j f.subs.length with h2|h2
    ·have hmem:=List.getElem_mem h2
     have hBj:=kBs.out j h2
     have hl4:=kBl.out (j+1)
     have hz:=kZ.out _ hmem
     rw[hBj,List.length_append]at hl4
     have ih2:=kI.out f.subs[j] bd2 (B j) g2 (m2+1) X hz.1 (kS.out _ hmem) (by omega) (by omega) hl4 (by omega) (fun id o ho=>by have:=kx.out id o ho;omega)
     rw[zaE]at ih2
     repeat'(first|refine rq fun _=>?_|simp only[go_sem,HHk,h2,zaa,Tryz.f123])
     refine zak.i (zcv rfl (zde (by simp only[go_sem,zgr]) (by simp only[go_sem,HHk]) (fun id o ho=>?_) (Nat.le_refl _) (zaK ih2 ?_)))
     ·refine kX.out id o ho fun h1=>?_
      ((repeat'(first|exact trivial|apply And.intro))<;>(rintro rfl;simp only at h1;omega))
     rintro d' H' n' ⟨rfl,e1,⟨g3,hg3,e2⟩,e3⟩
     rw[←hBj]at e2
     simp only[go_sem,HHk]at e2
     obtain⟨b1,b2,b3⟩:=e2
     rw[show H'=hpX [] H' from rfl]
     repeat'(first|refine rq fun _=>?_|simp only[go_sem,HHk,h2,Tryz.f123])
     refine⟨⟨j+1,g3,n',by omega,by omega,by omega,trivial⟩,by simp only;omega,?_⟩
     refine zaO ?_ ?_ (fun id o ho=>?_) ?_
     ·simp only[go_sem]
     ·simp only[go_sem,HHk,b1,b2,b3]
     ·exact e3 id o ho
     ·simp only[go_sem]
    ·obtain rfl:j=f.subs.length:=by omega
     repeat'(first|refine rq fun _=>?_|simp only[go_sem,HHk,Nat.lt_irrefl,Tryz.f123])
     rw[kQ.out]
     refine⟨rfl,by omega,⟨g2,by omega,?_⟩,fun id o ho=>kX.out id o ho fun h1=>?_⟩
     ·rw[←kBe.out];simp only[go_sem,HHk]
     ·((repeat'(first|exact trivial|apply And.intro))<;>(rintro rfl;simp only at h1;omega))
theorem zop {H:zav}{id:Abs.Id}{l:List Str}{bx vt:Bool}{n:Nat}{R:D→zav→Nat→Prop}(ho:H id=some ⟨zaf (l.map enc),bx,vt⟩)
  (hR:R (.tup []) (hpX [(id,some ⟨zaf ((zdj l).map enc),bx,vt⟩)] H) n):zaw Tryz.prog G 124 [.arr id 1 0 l.length] H n R:=by
 rw[zes]at ho
 have h:=zkb (G:=G) (n:=n) zEX Tryz.slices_Sort_string Tryz.slices_Sort_string_none ho
 rw[List.length_map]at h
 refine zaK h ?_
 rintro d H' n' ⟨rfl,rfl,rfl⟩
 rw[zlB,zfI]
 exact hR
theorem zmX {H:zav}{id:Abs.Id}{l:List Str}{bx vt:Bool}{n:Nat}{R:D→zav→Nat→Prop}(ho:H id=some ⟨zaf (l.map enc),bx,vt⟩)
  (hR:R (.arr id 1 0 (zdx l).length) (hpX [(id,some ⟨zaf ((zdx l).map enc),bx,vt⟩)] H) n):zaw Tryz.prog G 125 [.arr id 1 0 l.length] H n R:=by
 rw[zes]at ho
 have h:=zgm (G:=G) (n:=n) zEY Tryz.slices_Compact_string Tryz.slices_Compact_string_empty ho
 rw[List.length_map]at h
 refine zaK h ?_
 rintro d H' n' ⟨rfl,rfl,rfl⟩
 rw[zlB,zfI,show(zdH (l.map (·.l))).length=(zdx l).length by unfold zdx;rw[List.length_map]]
 exact hR
theorem zL9 {f:Abs.zac}(hw:(enc f).Wf)(hl:(cst f []).length≤1000000)(hs:f.size≤1000000):zaw Tryz.prog G 87 [.fz (enc f)] (hpL []) 0
  (fun d H n=>∃g,g<n∧d= .arr (123024,g) 1 0 (zaP f).length∧H (123024,g)=some ⟨zaf ((zaP f).map enc),false,(cst f []).isEmpty⟩):=by
 obtain⟨Q,hQ⟩:∃Q:D→zav→Nat→Prop,Q=(fun d H n=>∃g,g<n∧d= .arr (123024,g) 1 0 (zaP f).length∧H (123024,g)=some ⟨zaf ((zaP f).map enc),false,(cst f []).isEmpty⟩):=⟨_,rfl⟩
 rw[←hQ]
 refine zae (N:=13) hm (zc2 (G:=G) zA6) 87000 (lst []) zG2 Tryz.func87 rfl rfl (by simp) (by kernel_rfl) ?_
 have h:=zHJ (G:=G) f.size f [] [] 3 4 (fun _=>none) (Nat.le_refl _) hw (by omega) (by omega) (by simpa using hl) (by simpa using hs) (fun id o ho=>by cases ho)
 rw[zaE]at h
 repeat'(first|refine rq fun _=>?_|simp only[go_sem,Tryz.f87])
 refine zak.i (zcv rfl (zoQ (args':=[.fz (.agg [.i .i64 f.kind,.s f.name.l,.sl (f.words.map enc),.sl (f.subs.map enc)]),.fz (enc ([]:List Str)),.ptr (87003,1) 0,.ptr (87004,2) 0])
  (hl:=HHk [] 3) (n':=4) [] [(123024,3)] [] rfl ?_ ?_ ?_ ?_ ?_ ?_))
 case _=>omega
 case _=>simp only[go_sem]
 case _=>simp only[go_sem,HHk];first|done|rfl
 case _=>simp only[go_sem,HHk];first|done|rfl
 case _=>simp only[go_sem];first|done|rfl
 rw[show hpL (HHk [] 3)=hpX (HHk [] 3) (fun _=>none)from rfl]
 refine zaK h ?_
 rintro d' H' n' ⟨rfl,e1,⟨g,hg,e2⟩,_⟩
 rw[List.nil_append]at e2
 obtain⟨C,hC⟩:∃C,C=cst f []:=⟨_,rfl⟩
 rw[←hC]at e2
 rw[zmo,←hC]at hQ
 simp only[go_sem,HHk]at e2
 obtain⟨b1,b2,b3⟩:=e2
 rw[show H'=hpX [] H' from rfl]
 repeat'(first|refine rq fun _=>?_|simp only[go_sem,b1,b2,b3,Tryz.f87])
 refine zak.i (zop (l:=C) (bx:=false) (vt:=C.isEmpty) (by simp only[go_sem,b3]) ?_)
 rw[←zdk C]at b1
 repeat'(first|refine rq fun _=>?_|simp only[go_sem,b1,b2,b3,Tryz.f87])
 refine zak.i (zmX (l:=zdj C) (bx:=false) (vt:=C.isEmpty) (by simp only[go_sem]) ?_)
 repeat'(first|refine rq fun _=>?_|simp only[go_sem,b1,b2,b3,Tryz.f87])
 rw[hQ]
 exact⟨g,hg,by simp only[go_sem],by simp only[go_sem]⟩
def A16:Tbl:=A15.add 87 (sp1 zaP fun f=>(cst f []).length≤1000000∧f.size≤1000000)
attribute [go_sem] A16
theorem zwJ {f:Abs.zac}(h:(cst f []).isEmpty=true):zaP f=[]:=by
 cases hu:zaP f with
 |nil=>rfl
 |cons x l=>
  have:=(za9 f x).1 (by rw[hu];simp)
  rw[List.isEmpty_iff.1 h]at this
  simp at this
theorem zMh:zaq Tryz.prog G A16:=by
 refine zb3 zG2 zMg fun f hp hw=>?_
 refine zaU (zL9 (G:=G) hw hp.1 hp.2) ?_
 rintro d H n ⟨g,hg,rfl,ho⟩
 obtain⟨U,hU⟩:∃U,zaP f=U:=⟨_,rfl⟩
 have hn:(cst f []).isEmpty=true→U=[]:=fun h=>by rw[←hU];exact zwJ h
 rw[hU]at ho ⊢
 refine⟨.fz (.sl (U.map enc)),H0,n,?_,rfl⟩
 have e:H0=hpL []:=rfl
 rw[e]
 refine zbm [] [] [((123024,g),U.map enc)] ?_ ?_ ?_ ?_ ?_<;>simp only[go_sem,ho]
 intro h
 rw[hn h];rfl
def A17:Tbl:=A16
attribute [go_sem] A17
theorem zMi:zaq Tryz.prog G A17:=zMh
def A18:Tbl:=A17
attribute [go_sem] A18
theorem zMj:zaq Tryz.prog G A18:=zMi
def A19:Tbl:=A18
attribute [go_sem] A19
theorem zA4:zaq Tryz.prog G A19:=zMj
end
end Go.Proofs.YtkkffhphodngkabGreatDoor
