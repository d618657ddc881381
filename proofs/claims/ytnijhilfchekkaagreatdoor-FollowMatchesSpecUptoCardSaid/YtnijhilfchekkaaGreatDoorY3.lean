import Derived.Test.YtnijhilfchekkaaGreatDoorW1
set_option linter.unusedSimpArgs false
set_option maxRecDepth 100000
set_option maxHeartbeats 1000000
namespace Go.Proofs.YtnijhilfchekkaaGreatDoor
open Go Go.Abs Go.Proofs
section
variable {G:Nat→List FD}
def A1:Tbl:=Q20.add 152 (sp1 (fun _:Str=>false) fun _=>True)
attribute [go_sem] A1
theorem hA1:b9 Tryz.prog G A1:=by
 refine iD F5 (s9 sX) fun s _ _=>?_;refine ym (N:=6) hm (s9 sX) 152000 qWi F5 Tryz.func152 rfl rfl ak qQi ?_
 repeat'(first|refine rq ?_|simp only[go_sem,Tryz.f152])
def A2:Tbl:=A1.add 161 (sp1 (fun _:Int=>false) fun _=>True)
attribute [go_sem] A2
theorem hA2:b9 Tryz.prog G A2:=by
 refine iD F7 hA1 fun s _ _=>?_;refine ym (N:=6) hm (G:=G) hA1 161000 qWi F7 Tryz.func161 rfl rfl ak qQi ?_
 repeat'(first|refine rq ?_|simp only[go_sem,Tryz.f161])
theorem Ra {a b:Str}(h:a.l<b.l):mE a b= -1:=by simp_all[mE]
theorem Q0 {a b:Str}(h:¬a.l<b.l)(h2:b.l<a.l):mE a b=1:=by simp_all[mE]
theorem QZ {a b:Str}(h:¬a.l<b.l)(h2:¬b.l<a.l):mE a b=0:=by grind[mE]
def A3:Tbl:=A2.add 143 (sp2 mE fun _ _=>True)
attribute [go_sem] A3
theorem hA3:b9 Tryz.prog G A3:=by
 refine gN xW hA2 fun a b _ _ _=>?_;by_cases h:a.l<b.l
 ·have e:=Ra h;have h':Op.bytesLess a.l b.l=true:=by rw[s8];exact ba h
  rw[e];refine rv (N:=20) hm (G:=G) hA2 143000 qWi xW Tryz.func143 rfl ?_
  repeat'(first|refine rq ?_|simp only[go_sem,h',Tryz.f143])
 ·have h':Op.bytesLess a.l b.l=false:=by rw[s8];exact aW h
  by_cases h2:b.l<a.l
  ·have e:=Q0 h h2;have h2':(a.l==b.l)=false:=by simpa using fun e=>h ap
   rw[e];refine rv (N:=20) hm (G:=G) hA2 143000 qWi xW Tryz.func143 rfl ?_
   repeat'(first|refine rq ?_|simp only[go_sem,h',h2',Tryz.f143])
  ·have e:=QZ h h2;have h2':(a.l==b.l)=true:=by
    rcases Od a.l b.l with h3|h3|h3
    ·grind
    ·grind
    ·grind
   rw[e];refine rv (N:=20) hm (G:=G) hA2 143000 qWi xW Tryz.func143 rfl ?_
   repeat'(first|refine rq ?_|simp only[go_sem,h',h2',Tryz.f143])
def A4:Tbl:=A3.add 146 (sp2 mj fun _ _=>True)
attribute [go_sem] A4
theorem hA4:b9 Tryz.prog G A4:=by
 refine gN xX hA3 fun a b _ _ _=>?_;have hc:(a<b∧mj a b= -1)∨(b<a∧¬a<b∧mj a b=1)∨(¬a<b∧¬b<a∧mj a b=0):=by
  unfold mj;split
  ·omega
  ·omega
 rcases hc with⟨h,e⟩|⟨h2,h,e⟩|⟨h,h2,e⟩
 ·rw[e];refine rv (N:=20) hm (G:=G) hA3 146000 qWi xX Tryz.func146 rfl ?_
  repeat'(first|refine rq ?_|simp only[go_sem,h,Tryz.f146])
 ·rw[e];refine rv (N:=20) hm (G:=G) hA3 146000 qWi xX Tryz.func146 rfl ?_
  repeat'(first|refine rq ?_|simp only[go_sem,h,h2,Tryz.f146])
 ·rw[e];refine rv (N:=20) hm (G:=G) hA3 146000 qWi xX Tryz.func146 rfl ?_
  repeat'(first|refine rq ?_|simp only[go_sem,h,h2,Tryz.f146])
def orM:List Int→Int
 |[]=>0
 |a::l=>if a≠0 then a else orM l
theorem S' {l:List Int}{i:Nat}(h:i<l.length)(h2:∀j (hj:j<l.length),j<i→l[j]=0)(h3:l[i]≠0):orM l=l[i]:=by
 induction l generalizing i with
 |nil=>grind
 |cons a l ih=>
  cases i with
  |zero=>simp_all[orM]
  |succ i=>have h0:=h2 0 ak ae;grind[orM]
theorem P3 {l:List Int}(h2:∀j (hj:j<l.length),l[j]=0):orM l=0:=by
 induction l with
 |nil=>rfl
 |cons a l ih=>have h0:=h2 0 ak;simp only[List.getElem_cons_zero]at h0;rw[orM,az (by simp[h0])];exact ih fun j hj=>by have:=h2 (j+1) ap;grind
def A5:Tbl:=A4.add 160 (sp1 orM fun _=>True)
attribute [go_sem] A5
theorem hA5:b9 Tryz.prog G A5:=by
 refine iD F6 hA4 fun l _ hw=>?_;have la:=iN hw;simp only[aG,dt]at la;obtain⟨r,hr⟩:∃r,orM l=r:=⟨_,rfl⟩;have h1:∀i (h:i<l.length),(∀j (hj:j<l.length),j<i→l[j]=0)→l[i]≠0→l[i]=r:=by grind[S']
 have h2:(∀j (hj:j<l.length),l[j]=0)→r=0:=by grind[P3]
 have k1:=Kp.mk h1;have k2:=Kp.mk h2;rw[hr];clear h1 h2 hr;refine rv (N:=18) hm (G:=G) hA4 160000 qWi F6 Tryz.func160 rfl ?_
 repeat'(first|refine rq ?_|simp only[go_sem,Tryz.f160])
 refine cI hm (G:=G) hA4 160000 qWi (ι:=eO l.length fun i=>∀j (hj:j<l.length),j<i→l[j]=0)
  ⟨fun q=>⟨frL [(3,eI 0),(6,eS l),(7,eI l.length),(8,eI q.i)],hpL [],0⟩,fun q=>l.length-q.i⟩
  ⟨0,ae,ae⟩ ah ?_ ?_
 ·refine bF ?_ ?_ ?_<;>simp only[go_sem]
 rintro⟨i,hi,hp⟩
 try simp only at hi
 rcases aA i l.length with h|h
 ·obtain⟨x,hx⟩:∃x,l[i]=x:=⟨_,rfl⟩;by_cases h0:x=0
  ·have hp2:∀j (hj:j<l.length),j<i+1→l[j]=0:=ap
   have kp:=Kp.mk hp2;clear hp2
   repeat'(first|refine rq ?_|simp only[go_sem,h,hx,h0,bh,Tryz.f160])
   refine⟨⟨i+1,ae,kp.out⟩,af,?_⟩;refine bF ?_ ?_ ?_<;>simp only[go_sem]
  ·have e:=k1.out i h hp ae;rw[hx]at e;subst e;clear k1 k2
   repeat'(first|refine rq ?_|simp only[go_sem,h,hx,h0,bh,Tryz.f160])
 ·obtain rfl:i=l.length:=ae
  have e:=k2.out ap;subst e
  repeat'(first|refine rq ?_|simp only[go_sem,aC,Tryz.f160])
theorem Rz {a b:Int}:orM [a,b]=if a≠0 then a else b:=by rw[orM,orM,orM];omega
theorem QY (a b:gV):orM [mE a.name b.name,mj a.arity b.arity]=p7 a b:=by rw[Rz];rfl
def A6:Tbl:=A5.add 145 (sp2 p7 fun _ _=>True)
attribute [go_sem] A6
theorem hA6:b9 Tryz.prog G A6:=by
 refine gN F4 hA5 fun a b _ _ _=>?_;have e:=QY a b;refine rv (N:=17) hm (G:=G) hA5 145000 qWi F4 Tryz.func145 rfl ?_
 repeat'(first|refine rq ?_|simp only[go_sem,e,bn,Tryz.f145])
end
end Go.Proofs.YtnijhilfchekkaaGreatDoor
namespace Go.Abs
open Go
theorem YF {a b:List Int}{i:Nat}(h:i<a.length)(h2:i<b.length):gW (a.drop i) (b.drop i)=if mj a[i] b[i]≠0 then mj a[i] b[i]else gW (a.drop (i+1)) (b.drop (i+1)):=by grind[List.drop_eq_getElem_cons,gW]
theorem YE {a b:List Int}{i:Nat}(h:i<a.length)(h2:b.length≤i):gW (a.drop i) (b.drop i)=1:=by rw[aR h,de h2,gW]
theorem PF {a b:List Int}{i:Nat}(h:a.length≤i):gW (a.drop i) (b.drop i)=if i<b.length then-1 else 0:=by grind[List.drop_of_length_le,List.drop_eq_getElem_cons,gW]
def bsI {α:Type}(c:α→Int)(l:List α):Nat:=(l.filter fun x=>decide (c x<0)).length
def bsB {α:Type}[Inhabited α](c:α→Int)(l:List α):Bool:=decide (bsI c l<l.length)&&decide (c (l.getD (bsI c l) default)=0)
def tQ {α:Type}(c:α→Int)(l:List α):Prop:=∀i j (hi:i<l.length) (hj:j<l.length),i<j→c l[j]≤0→c l[i]<0
theorem z' {α:Type}{c:α→Int}{l:List α}{i:Nat}(hi:i≤l.length)(h1:∀j (h:j<l.length),j<i→c l[j]<0)(h2:∀j (h:j<l.length),i≤j→0≤c l[j]):bsI c l=i:=
 Jn _ l i hi ap ap
theorem DL {α:Type}[Inhabited α]{c:α→Int}{l:List α}(hs:tQ c l):l.find? (fun x=>decide (c x=0))=if bsB c l then some (l.getD (bsI c l) default)else none:=by
 cases hf:l.find? (fun x=>decide (c x=0))with
 |none=>simp_all[bsB]
 |some x=>
  obtain⟨hx,xs,bs,rfl,hb⟩:=List.find?_eq_some_iff_append.1 hf;have hx:=bO hx;have hi:bsI c (xs++x::bs)=xs.length:=by
   refine z' ak (fun j h hj=>?_) (fun j h hj=>?_)
   ·refine hs j xs.length h ak hj ?_;grind
   ·rcases(show c (xs++x::bs)[j]<0∨0≤c (xs++x::bs)[j] by omega)with h3|h3
    ·rcases dY hj with rfl|h4
     ·grind
     ·have:=hs xs.length j ak h h4 ae;grind
    ·omega
  simp_all[bsB]
end Go.Abs
namespace Go.Proofs.YtnijhilfchekkaaGreatDoor
open Go Go.Abs Go.Proofs
section
variable {G:Nat→List FD}
def A7:Tbl:=A6.add 116 (sp2 gW fun _ _=>True)
attribute [go_sem] A7
theorem hA7:b9 Tryz.prog G A7:=by
 refine gN FY hA6 fun a b _ hwa hwb=>?_;have la:=iN hwa;have lb:=iN hwb;simp only[aG,dt]at la lb;obtain⟨C,hC⟩:∃C:Nat→Int,C=fun i=>gW (a.drop i) (b.drop i):=⟨_,rfl⟩;have h0:gW a b=C 0:=by rw[hC];rfl
 have h1:∀i (h:i<a.length) (h2:i<b.length),C i=if mj a[i] b[i]≠0 then mj a[i] b[i]else C (i+1):=by simp_all[YF]
 have h2:∀i (h:i<a.length),b.length≤i→C i=1:=by simp_all[YE]
 have h3:C a.length=if a.length<b.length then-1 else 0:=by rw[hC];exact PF (aI _)
 rw[h0];obtain⟨r,hr⟩:∃r,C 0=r:=⟨_,rfl⟩;rw[hr];have k1:=Kp.mk h1;have k2:=Kp.mk h2;have k3:=Kp.mk h3;clear h0 h1 h2 h3 hC;refine rv (N:=36) hm (G:=G) hA6 116000 qWi FY Tryz.func116 rfl ?_
 repeat'(first|refine rq ?_|simp only[go_sem,Tryz.f116])
 refine cI hm (G:=G) hA6 116000 qWi (ι:=eO a.length fun i=>C i=r)
  ⟨fun q=>⟨frL [(0,eS a),(1,eS b),(9,eS a),(10,eI a.length),(11,eI q.i)],hpL [],0⟩,fun q=>a.length-q.i⟩
  ⟨0,ae,hr⟩ ah ?_ ?_
 ·refine bF ?_ ?_ ?_<;>simp only[go_sem]
 rintro⟨i,hi,hp⟩
 try simp only at hi hp
 rcases aA i a.length with h|h
 ·rcases aA i b.length with h2|h2
  ·have e:=k1.out i h h2;have hb':(b.length≤i)=False:=ap
   obtain⟨x,hx⟩:∃x,a[i]=x:=⟨_,rfl⟩;obtain⟨y,hy⟩:∃y,b[i]=y:=⟨_,rfl⟩;rw[hx,hy,hp]at e;by_cases hc:mj x y=0
   ·rw[az qWh]at e
    repeat'(first|refine rq ?_|simp only[go_sem,h,h2,hb',hx,hy,hc,bh,Tryz.f116])
    refine⟨⟨i+1,ae,e.symm⟩,af,?_⟩;refine bF ?_ ?_ ?_<;>simp only[go_sem]
   ·rw[aF hc]at e;subst e
    repeat'(first|refine rq ?_|simp only[go_sem,h,h2,hb',hx,hy,hc,bh,Tryz.f116])
  ·have e:=k2.out i h h2;have e2:r=1:=by rw[←hp,e]
   have h2':(b.length≤i)=True:=aU h2;subst e2
   repeat'(first|refine rq ?_|simp only[go_sem,h,h2,h2',bh,Tryz.f116])
 ·obtain rfl:i=a.length:=ae
  have e:=k3.out;rw[hp]at e;by_cases hl:a.length<b.length
  ·rw[aF hl]at e;subst e;have hl':((a.length:Int)<(b.length:Int))=True:=ap
   repeat'(first|refine rq ?_|simp only[go_sem,aC,hl,hl',Tryz.f116])
  ·rw[az hl]at e;subst e;have hl':((a.length:Int)<(b.length:Int))=False:=ap
   repeat'(first|refine rq ?_|simp only[go_sem,aC,hl,hl',Tryz.f116])
def ml (s:Str)(c:dT):Int:=mE c.name s
def A8:Tbl:=A7.add 142 (sp2 (fun(c:dT) (s:Str)=>ml s c) fun _ _=>True)
attribute [go_sem] A8
theorem hA8:b9 Tryz.prog G A8:=by
 refine gN F3 hA7 fun a b _ _ _=>?_;have e:mE a.name b=ml b a:=rfl;refine rv (N:=9) hm (G:=G) hA7 142000 qWi F3 Tryz.func142 rfl ?_
 repeat'(first|refine rq ?_|simp only[go_sem,e,bn,Tryz.f142])
structure BsI (n:Nat)(p:Nat→Prop)(q:Nat→Prop) where
 i:Nat
 j:Nat
 hij:i≤j
 hj:j≤n
 hp:p i
 hq:q j
theorem QS {l:List dT}{s:Str}(hw:(enc l).Wf)(_hws:(enc s).Wf)(hs:tQ (ml s) l):cS Tryz.prog G 141 [.fz (enc l),.fz (enc s),.fn 142 []] (hpL []) 0
  (fun d _ _=>D.val d=some (.tup [.fz (.i .i64 (bsI (ml s) l)),.fz (.b (bsB (ml s) l))])):=by
 have la:=iN hw;simp only[aG,dt]at la;have hI:=@z' dT (ml s) l;have hm1:∀h (hh:h<l.length),ml s l[h]<0→∀j (hj:j<l.length),j<h+1→ml s l[j]<0:=fun h hh h2 j hj h3=>by
  rcases dY (mN h3)with rfl|h4
  ·exact h2
  ·exact hs j h hj hh h4 ae
 have hm2:∀h (hh:h<l.length),¬ml s l[h]<0→∀j (hj:j<l.length),h≤j→0≤ml s l[j]:=ap
 have k1:=Kp.mk hm1;have k2:=Kp.mk hm2;have kI:=Kp.mk @hI;clear hm1 hm2 hI hs;refine rv (N:=49) hm (G:=G) hA8 141000 qWi TV Tryz.func141 rfl ?_
 repeat'(first|refine rq ?_|simp only[go_sem,Tryz.f141])
 refine cI hm (G:=G) hA8 141000 qWi (ι:=BsI l.length (fun i=>∀j (hj:j<l.length),j<i→ml s l[j]<0) fun i=>∀j (hj:j<l.length),i≤j→0≤ml s l[j])
  ⟨fun q=>⟨frL [(0,eS l),(1,.fz (.s s.l)),(2,.fn 142 []),(8,eI l.length),(9,eI q.i),(10,eI q.j)],hpL [],0⟩,fun q=>q.j-q.i⟩
  ⟨0,l.length,ae,ae,ae,ae⟩ ah ?_ ?_
 ·refine bF ?_ ?_ ?_<;>simp only[go_sem]
 rintro⟨i,j,hij,hj,hp,hq⟩
 try simp only at hij hj
 rcases aA i j with h|h
 ·have h':((i:Int)<(j:Int))=True:=ap
  repeat'(first|refine rq ?_|simp only[go_sem,h,h',Tryz.f141])
  obtain⟨H,hH⟩:∃H:Nat,(i+j) / 2=H:=⟨_,rfl⟩;have hmid:(((i:Int)+(j:Int)) / 2^1)=(H:Int):=ae
  have hl:H<l.length:=ae
  refine rx ⟨by show(0:Int)≤_;omega,qQ7⟩ ?_;have k3:=k1.out H hl;have k4:=k2.out H hl;obtain⟨x,hx⟩:∃x,l[H]=x:=⟨_,rfl⟩;rw[hx]at k3 k4;by_cases hc:ml s x<0
  ·have hn:=k3 hc;have kn:=Kp.mk hn;clear k3 k4 hn
   repeat'(first|refine rq ?_|simp only[go_sem,hmid,hl,hx,hc,bn,jp,bh,Tryz.f141])
   refine⟨⟨H+1,j,ae,ae,kn.out,hq⟩,af,?_⟩;refine bF ?_ ?_ ?_<;>simp only[go_sem]
  ·have hn:=k4 hc;have kn:=Kp.mk hn;clear k3 k4 hn
   repeat'(first|refine rq ?_|simp only[go_sem,hmid,hl,hx,hc,bn,jp,bh,Tryz.f141])
   refine⟨⟨i,H,ae,ae,hp,kn.out⟩,af,?_⟩;refine bF ?_ ?_ ?_<;>simp only[go_sem]
 ·obtain rfl:i=j:=ae
  have hbi:=kI.out hj hp hq;have hbb:bsB (ml s) l=(decide (i<l.length)&&decide (ml s (l.getD i default)=0)):=by unfold bsB;rw[hbi]
  rw[hbi,hbb];clear hbi hbb;rcases aA i l.length with h1|h1
  ·obtain⟨x,hx⟩:∃x,l[i]=x:=⟨_,rfl⟩;have hg:l.getD i default=x:=by rw[av,ay h1,←hx];rfl
   have h1':((i:Int)<(l.length:Int))=True:=ap
   rw[hg]
   repeat'(first|refine rq ?_|simp only[go_sem,aC,h1,h1',hx,bn,jp,bh,Tryz.f141])
  ·have h1':((i:Int)<(l.length:Int))=False:=ap
   have h1n:(i<l.length)=False:=ap
   repeat'(first|refine rq ?_|simp only[go_sem,aC,h1n,h1',bn,jp,bh,Tryz.f141])
end
end Go.Proofs.YtnijhilfchekkaaGreatDoor
namespace Go.Abs
open Go
def FK {α:Type}(lt:α→α→Prop)(l:List α):Prop:=∀i j (hi:i<l.length) (hj:j<l.length),i<j→lt l[i] l[j]
def okC (l:List dT):Prop:=FK (fun a b=>a.name.l<b.name.l) l
def okR (l:List gV):Prop:=FK ltR l
theorem MX {l:List dT}(h:okC l)(s:Str):tQ (fun c=>mE c.name s) l:=fun i j hi hj hij h2=>by
 have h1:=h i j hi hj hij;rw[CE];rcases Int.lt_or_eq_of_le h2 with h3|h3
 all_goals grind[CE,yr]
theorem MY {l:List gV}(h:okR l)(s:gV):tQ (fun r=>p7 r s) l:=fun i j hi hj hij h2=>by
 have h1:=h i j hi hj hij;show p7 _ _<0;rw[LU];rcases Int.lt_or_eq_of_le h2 with h3|h3
 ·grind[Zd,LU]
 ·obtain⟨e1,e2⟩:=KH.1 h3;rcases h1 with h4|⟨h4,h5⟩
  ·exact .inl ap
  ·exact .inr ap
instance:Inhabited (List Int):=⟨[]⟩
end Go.Abs
namespace Go.Proofs.YtnijhilfchekkaaGreatDoor
open Go Go.Abs Go.Proofs
section
variable {G:Nat→List FD}
def mC (s:gV)(r:gV):Int:=p7 r s
def ni (s:List Int)(t:List Int):Int:=gW t s
theorem Td {l:List gV}{s:gV}(hw:(enc l).Wf)(_hws:(enc s).Wf)(hs:tQ (mC s) l):cS Tryz.prog G 144 [.fz (enc l),.fz (enc s),.fn 145 []] (hpL []) 0
  (fun d _ _=>D.val d=some (.tup [.fz (.i .i64 (bsI (mC s) l)),.fz (.b (bsB (mC s) l))])):=by
 have la:=iN hw;simp only[aG,dt]at la;have hI:=@z' gV (mC s) l;have hm1:∀h (hh:h<l.length),mC s l[h]<0→∀j (hj:j<l.length),j<h+1→mC s l[j]<0:=fun h hh h2 j hj h3=>by
  rcases dY (mN h3)with rfl|h4
  ·exact h2
  ·exact hs j h hj hh h4 ae
 have hm2:∀h (hh:h<l.length),¬mC s l[h]<0→∀j (hj:j<l.length),h≤j→0≤mC s l[j]:=ap
 have k1:=Kp.mk hm1;have k2:=Kp.mk hm2;have kI:=Kp.mk @hI;have hcu:∀x,p7 x s=mC s x:=fun _=>rfl;clear hm1 hm2 hI hs;refine rv (N:=49) hm (G:=G) hA8 144000 qWi TW Tryz.func144 rfl ?_
 repeat'(first|refine rq ?_|simp only[go_sem,Tryz.f144])
 refine cI hm (G:=G) hA8 144000 qWi (ι:=BsI l.length (fun i=>∀j (hj:j<l.length),j<i→mC s l[j]<0) fun i=>∀j (hj:j<l.length),i≤j→0≤mC s l[j])
  ⟨fun q=>⟨frL [(0,eS l),(4,.ptr (144004,0) 0),(2,.fn 145 []),(8,eI l.length),(9,eI q.i),(10,eI q.j)],hpL [((144004,0),some ⟨[.fz (.s s.name.l),eI s.arity,eS s.tuples],true,false⟩)],1⟩,fun q=>q.j-q.i⟩
  ⟨0,l.length,ae,ae,ae,ae⟩ ah ?_ ?_
 ·refine bF ?_ ?_ ?_<;>simp only[go_sem]
 rintro⟨i,j,hij,hj,hp,hq⟩
 try simp only at hij hj
 rcases aA i j with h|h
 ·have h':((i:Int)<(j:Int))=True:=ap
  repeat'(first|refine rq ?_|simp only[go_sem,h,h',Tryz.f144])
  obtain⟨H,hH⟩:∃H:Nat,(i+j) / 2=H:=⟨_,rfl⟩;have hmid:(((i:Int)+(j:Int)) / 2^1)=(H:Int):=ae
  have hl:H<l.length:=ae
  refine rx ⟨by show(0:Int)≤_;omega,qQ7⟩ ?_;have k3:=k1.out H hl;have k4:=k2.out H hl;obtain⟨x,hx⟩:∃x,l[H]=x:=⟨_,rfl⟩;rw[hx]at k3 k4;by_cases hc:mC s x<0
  ·have hn:=k3 hc;have kn:=Kp.mk hn;clear k3 k4 hn
   repeat'(first|refine rq ?_|simp only[go_sem,hmid,hl,hx,hc,hcu,bn,jB,bh,Tryz.f144])
   refine⟨⟨H+1,j,ae,ae,kn.out,hq⟩,af,?_⟩;refine bF ?_ ?_ ?_<;>simp only[go_sem]
  ·have hn:=k4 hc;have kn:=Kp.mk hn;clear k3 k4 hn
   repeat'(first|refine rq ?_|simp only[go_sem,hmid,hl,hx,hc,hcu,bn,jB,bh,Tryz.f144])
   refine⟨⟨i,H,ae,ae,hp,kn.out⟩,af,?_⟩;refine bF ?_ ?_ ?_<;>simp only[go_sem]
 ·obtain rfl:i=j:=ae
  have hbi:=kI.out hj hp hq;have hbb:bsB (mC s) l=(decide (i<l.length)&&decide (mC s (l.getD i default)=0)):=by unfold bsB;rw[hbi]
  rw[hbi,hbb];clear hbi hbb;rcases aA i l.length with h1|h1
  ·obtain⟨x,hx⟩:∃x,l[i]=x:=⟨_,rfl⟩;have hg:l.getD i default=x:=by rw[av,ay h1,←hx];rfl
   have h1':((i:Int)<(l.length:Int))=True:=ap
   rw[hg]
   repeat'(first|refine rq ?_|simp only[go_sem,aC,h1,h1',hx,hcu,bn,jB,bh,Tryz.f144])
  ·have h1':((i:Int)<(l.length:Int))=False:=ap
   have h1n:(i<l.length)=False:=ap
   repeat'(first|refine rq ?_|simp only[go_sem,aC,h1n,h1',hcu,bn,jB,bh,Tryz.f144])
theorem Te {l:List (List Int)}{s:(List Int)}(hw:(enc l).Wf)(_hws:(enc s).Wf)(hs:tQ (ni s) l):cS Tryz.prog G 115 [.fz (enc l),.fz (enc s),.fn 116 []] (hpL []) 0
  (fun d _ _=>D.val d=some (.tup [.fz (.i .i64 (bsI (ni s) l)),.fz (.b (bsB (ni s) l))])):=by
 have la:=iN hw;simp only[aG,dt]at la;have hI:=@z' (List Int) (ni s) l;have hm1:∀h (hh:h<l.length),ni s l[h]<0→∀j (hj:j<l.length),j<h+1→ni s l[j]<0:=fun h hh h2 j hj h3=>by
  rcases dY (mN h3)with rfl|h4
  ·exact h2
  ·exact hs j h hj hh h4 ae
 have hm2:∀h (hh:h<l.length),¬ni s l[h]<0→∀j (hj:j<l.length),h≤j→0≤ni s l[j]:=ap
 have k1:=Kp.mk hm1;have k2:=Kp.mk hm2;have kI:=Kp.mk @hI;have hcu:∀x,gW x s=ni s x:=fun _=>rfl;clear hm1 hm2 hI hs;refine rv (N:=49) hm (G:=G) hA8 115000 qWi TU Tryz.func115 rfl ?_
 repeat'(first|refine rq ?_|simp only[go_sem,Tryz.f115])
 refine cI hm (G:=G) hA8 115000 qWi (ι:=BsI l.length (fun i=>∀j (hj:j<l.length),j<i→ni s l[j]<0) fun i=>∀j (hj:j<l.length),i≤j→0≤ni s l[j])
  ⟨fun q=>⟨frL [(0,eS l),(1,eS s),(2,.fn 116 []),(8,eI l.length),(9,eI q.i),(10,eI q.j)],hpL [],0⟩,fun q=>q.j-q.i⟩
  ⟨0,l.length,ae,ae,ae,ae⟩ ah ?_ ?_
 ·refine bF ?_ ?_ ?_<;>simp only[go_sem]
 rintro⟨i,j,hij,hj,hp,hq⟩
 try simp only at hij hj
 rcases aA i j with h|h
 ·have h':((i:Int)<(j:Int))=True:=ap
  repeat'(first|refine rq ?_|simp only[go_sem,h,h',Tryz.f115])
  obtain⟨H,hH⟩:∃H:Nat,(i+j) / 2=H:=⟨_,rfl⟩;have hmid:(((i:Int)+(j:Int)) / 2^1)=(H:Int):=ae
  have hl:H<l.length:=ae
  refine rx ⟨by show(0:Int)≤_;omega,qQ7⟩ ?_;have k3:=k1.out H hl;have k4:=k2.out H hl;obtain⟨x,hx⟩:∃x,l[H]=x:=⟨_,rfl⟩;rw[hx]at k3 k4;by_cases hc:ni s x<0
  ·have hn:=k3 hc;have kn:=Kp.mk hn;clear k3 k4 hn
   repeat'(first|refine rq ?_|simp only[go_sem,hmid,hl,hx,hc,hcu,bn,bh,Tryz.f115])
   refine⟨⟨H+1,j,ae,ae,kn.out,hq⟩,af,?_⟩;refine bF ?_ ?_ ?_<;>simp only[go_sem]
  ·have hn:=k4 hc;have kn:=Kp.mk hn;clear k3 k4 hn
   repeat'(first|refine rq ?_|simp only[go_sem,hmid,hl,hx,hc,hcu,bn,bh,Tryz.f115])
   refine⟨⟨i,H,ae,ae,hp,kn.out⟩,af,?_⟩;refine bF ?_ ?_ ?_<;>simp only[go_sem]
 ·obtain rfl:i=j:=ae
  have hbi:=kI.out hj hp hq;have hbb:bsB (ni s) l=(decide (i<l.length)&&decide (ni s (l.getD i default)=0)):=by unfold bsB;rw[hbi]
  rw[hbi,hbb];clear hbi hbb;rcases aA i l.length with h1|h1
  ·obtain⟨x,hx⟩:∃x,l[i]=x:=⟨_,rfl⟩;have hg:l.getD i default=x:=by rw[av,ay h1,←hx];rfl
   have h1':((i:Int)<(l.length:Int))=True:=ap
   rw[hg]
   repeat'(first|refine rq ?_|simp only[go_sem,aC,h1,h1',hx,hcu,bn,bh,Tryz.f115])
  ·have h1':((i:Int)<(l.length:Int))=False:=ap
   have h1n:(i<l.length)=False:=ap
   repeat'(first|refine rq ?_|simp only[go_sem,aC,h1n,h1',hcu,bn,bh,Tryz.f115])
def xv (m:dd)(w:Str):Int×Bool:=(sI m w,(pE m w).isSome)
theorem Pn {m:dd}(h:okC m.consts)(w:Str):pE m w=if bsB (ml w) m.consts then some (m.consts.getD (bsI (ml w) m.consts) default)else none:=by have:=DL (MX h w);unfold pE;rw[show(fun c:dT=>decide (c.name=w))=fun c=>decide (mE c.name w=0)from funext fun c=>nK.2 yr.symm,this];rfl
theorem Ez {α:Type}[Inhabited α]{c:α→Int}{l:List α}(h:bsB c l=true):bsI c l<l.length:=by simp_all[bsB]
def A9:Tbl:=A8.add 113 (sZ xv fun m _=>okC m.consts)
attribute [go_sem] A9
theorem hA9:b9 Tryz.prog G A9:=by
 refine zH Az hA8 fun m w hok hwm hww=>?_;have hwl:(enc m.consts).Wf:=jh (by have h:=hwm;rw[tk]at h;exact h) (FD.sl (m.consts.map enc)) ak;have hbs:=QS (G:=G) hwl hww (MX hok w);have hf:=Pn hok w;obtain⟨I,hI⟩:∃I,bsI (ml w) m.consts=I:=⟨_,rfl⟩;cases hb:bsB (ml w) m.consts with
 |true=>
  have hlt:=Ez hb;rw[hb,aF rfl]at hf;rw[hI]at hf hlt;obtain⟨x,hx⟩:∃x,m.consts[I]=x:=⟨_,rfl⟩;have hg:m.consts.getD I default=x:=by rw[av,ay hlt,←hx];rfl
  rw[hg]at hf;have e:xv m w=(x.value,true):=by unfold xv sI;rw[hf];rfl
  rw[hb,hI]at hbs;simp only[e];clear hf hg e hwl;refine rv (N:=23) hm (G:=G) hA8 113000 qWi Az Tryz.func113 rfl ?_
  repeat'(first|refine rq ?_|simp only[go_sem,Tryz.f113])
  refine dJ.i (jl (wC (ds:=[_,_]) rfl hbs) ?_);rintro d' H' n1 ⟨rfl,rfl,rfl⟩
  repeat'(first|refine rq ?_|simp only[go_sem,hlt,hx,jp,bn,bh,Tryz.f113])
 |false=>
  rw[hb]at hf hbs;have e:xv m w=(0,false):=by unfold xv sI;rw[hf];rfl
  rw[hI]at hbs;simp only[e];clear hf e hwl;refine rv (N:=23) hm (G:=G) hA8 113000 qWi Az Tryz.func113 rfl ?_
  repeat'(first|refine rq ?_|simp only[go_sem,Tryz.f113])
  refine dJ.i (jl (wC (ds:=[_,_]) rfl hbs) ?_);rintro d' H' n1 ⟨rfl,rfl,rfl⟩
  repeat'(first|refine rq ?_|simp only[go_sem,jp,bn,bh,Tryz.f113])
def v6:gV:=⟨⟨[]⟩,0,[]⟩
def oa (m:dd)(w:Str)(n:Int):gV×Bool:=match qR m w n with|some r=>(r,true)|none=>(v6,false)
theorem Po {m:dd}(h:okR m.rels)(w:Str)(n:Int):qR m w n=if bsB (mC ⟨w,n,[]⟩) m.rels then some (m.rels.getD (bsI (mC ⟨w,n,[]⟩) m.rels) default)else none:=by have:=DL (MY h ⟨w,n,[]⟩);unfold qR;rw[show(fun r:gV=>decide (r.name=w∧r.arity=n))=fun r=>decide (p7 r ⟨w,n,[]⟩=0)from funext (by simp_all[KH]),this];rfl
def A10:Tbl:=A9.add 114 (uv oa fun m _ _=>okR m.rels)
attribute [go_sem] A10
theorem Ui:b9 Tryz.prog G A10:=by
 refine DI AB hA9 fun m w n hok hwm hww hwn=>?_;have hwl:(enc m.rels).Wf:=jh (by have h:=hwm;rw[tk]at h;exact h) (FD.sl (m.rels.map enc)) ak;have hwt:(enc (⟨w,n,[]⟩:gV)).Wf:= .agg _ fun x hx=>by
  simp only[aV,aZ,ct]at hx;rcases hx with rfl|rfl|rfl
  ·exact hww
  ·exact hwn
  ·exact .sl _ ak ak
 have hbs:=Td (G:=G) hwl hwt (MY hok ⟨w,n,[]⟩);have hf:=Po hok w n;obtain⟨I,hI⟩:∃I,bsI (mC ⟨w,n,[]⟩) m.rels=I:=⟨_,rfl⟩;cases hb:bsB (mC ⟨w,n,[]⟩) m.rels with
 |true=>
  have hlt:=Ez hb;rw[hb,aF rfl]at hf;rw[hI]at hf hlt;obtain⟨x,hx⟩:∃x,m.rels[I]=x:=⟨_,rfl⟩;have hg:m.rels.getD I default=x:=by rw[av,ay hlt,←hx];rfl
  rw[hg]at hf;have e:oa m w n=(x,true):=by unfold oa;rw[hf]
  rw[hb,hI]at hbs;simp only[e];clear hf hg e hwl hwt;refine rv (N:=27) hm (G:=G) hA9 114000 qWi AB Tryz.func114 rfl ?_
  repeat'(first|refine rq ?_|simp only[go_sem,Tryz.f114])
  refine dJ.i (jl (wC (ds:=[_,_]) rfl hbs) ?_);rintro d' H' n1 ⟨rfl,rfl,rfl⟩
  repeat'(first|refine rq ?_|simp only[go_sem,hlt,hx,jB,bn,bh,Tryz.f114])
 |false=>
  rw[hb]at hf hbs;have e:oa m w n=(v6,false):=by unfold oa;rw[hf];rfl
  rw[hI]at hbs;simp only[e,v6];clear hf e hwl hwt;refine rv (N:=27) hm (G:=G) hA9 114000 qWi AB Tryz.func114 rfl ?_
  repeat'(first|refine rq ?_|simp only[go_sem,Tryz.f114])
  refine dJ.i (jl (wC (ds:=[_,_]) rfl hbs) ?_);rintro d' H' n1 ⟨rfl,rfl,rfl⟩
  repeat'(first|refine rq ?_|simp only[go_sem,jB,bn,bh,Tryz.f114])
end
end Go.Proofs.YtnijhilfchekkaaGreatDoor
namespace Go.Abs
open Go
theorem vj {f:aH}:gE f=lq f.subs+if isQ f.kind then 1 else 0:=by cases f;rfl
theorem IP:∀(l:List aH) (f:aH),lq (l++[f])=max (lq l) (gE f)
 |[],f=>by simp[lq]
 |g::l,f=>by grind[lq,IP l f]
theorem IQ {fs:List aH}{j:Nat}(h:j<fs.length):lq (fs.take (j+1))=max (lq (fs.take j)) (gE fs[j]):=by rw[aB h,IP]
mutual
theorem BW:∀f:aH,gE f≤f.size
 | .mk k n w s=>by rw[gE,aH.size];have:=Jx s;grind
theorem Jx:∀fs:List aH,lq fs≤aH.sizes fs
 |[]=>by rw[lq];omega
 |f::fs=>by rw[lq,aH.sizes];have:=BW f;have:=Jx fs;omega
end
theorem wQ:∀{l:List aH} {f:aH},f∈l→gE f≤lq l
 |g::l,f,h=>by
  rw[lq];rcases aV.1 h with rfl|h
  ·omega
  ·have:=wQ h;omega
def szP (f:aH):Prop:=f.fit=true∧f.size≤1000000
theorem vq {f g:aH}(h:szP f)(hg:g∈f.subs):g.size<f.size∧szP g:=
 ⟨aH.size_sub hg,aH.fits_mem (aH.fit_eq h.1).2.2 hg,by have:=aH.size_sub hg;have:=h.2;omega⟩
def nB (size:Int)(t:List Int):Int:=t.foldl (fun n v=>n*size+v) 0
theorem X2 {size:Int}{t:List Int}{i:Nat}(h:i<t.length):nB size (t.take (i+1))=nB size (t.take i)*size+t[i]:=by grind[nB,List.take_succ_eq_append_getElem]
theorem PG {size:Int}(hs:1≤size)(hs2:size≤6):∀{t:List Int},(∀v∈t, -1≤v∧v<size)→t.length≤3→ -1000≤nB size t∧nB size t≤1000
 |[],_,_=>by simp[nB]
 |[a],h,_=>by have:=h a ak;grind[nB]
 |[a,b],h,_=>by
  have ha:=h a ak;have hb:=h b ak;simp only[nB,bQ,dV];have h6:size=1∨size=2∨size=3∨size=4∨size=5∨size=6:=ae
  grind
 |[a,b,c],h,_=>by
  have ha:=h a ak;have hb:=h b ak;have hc:=h c ak;simp only[nB,bQ,dV];have h6:size=1∨size=2∨size=3∨size=4∨size=5∨size=6:=ae
  grind
 |_::_::_::_::_,_,h=>ap
def Do (t:List Int)(size:Int):Prop:=1≤size∧size≤6∧t.length≤3∧∀v∈t, -1≤v∧v<size
end Go.Abs
namespace Go.Proofs.YtnijhilfchekkaaGreatDoor
open Go Go.Abs Go.Proofs
section
variable {G:Nat→List FD}
theorem CL {G:Nat→List FD}{N:Nat}{l:List (Nat×D)}{H:bR}{n:Nat}{id:Abs.Id}{t:Nat}{ys:List FD}{b:Bool}(ho:H id=some ⟨ys.map .fz,b,false⟩)(hs:frL l t= .ptr id 0):
  gH G N ⟨frL l,H,n⟩ ⟨frL ((t,.rp ys)::l),cp H id none,n⟩:=zF (st:=⟨frL l,H,n⟩) ho hs
def A11:Tbl:=A10.add 65 (sp1 (fun f:Abs.aH=>(gE f:Int)) szP)
attribute [go_sem] A11
theorem Uj:b9 Tryz.prog G A11:=by
 refine DG aH.size GG Ui fun n hT f hn hpre _=>?_;have hsl:=(aH.fit_eq hpre.1).2.1;have hse:=BW f;have hz:=hpre.2;have hr:∀g∈f.subs,g.size<n∧szP g:=fun g hg=>by have:=vq hpre hg;grind
 have kT:=Kp.mk hT;have kr:=Kp.mk hr;obtain⟨S,hS⟩:∃S:Nat→Nat,S=fun j=>lq (f.subs.take j):=⟨_,rfl⟩;have hS0:S 0=0:=by rw[hS];simp[lq]
 have hSs:∀j (h:j<f.subs.length),S (j+1)=max (S j) (gE f.subs[j]):=by simp_all[IQ]
 have hSe:gE f=S f.subs.length+if isQ f.kind then 1 else 0:=by rw[hS,vj];simp only[aJ]
 have kS:=Kp.mk hSs;have hSn:S f.subs.length≤1000000:=ae
 have hq:(isQ f.kind∧(f.kind=8∨f.kind=9))∨(¬isQ f.kind∧¬(f.kind=8∨f.kind=9)):=by
  by_cases h:isQ f.kind
  ·exact .inl ⟨h,h⟩
  ·exact .inr ⟨h,h⟩
 rw[hSe];clear hT hr hS hSs hSe hpre hn hse;refine rv (N:=23) hm (G:=G) kT.out 65000 qWi GG Tryz.func65 rfl ?_
 repeat'(first|refine rq ?_|simp only[go_sem,Tryz.f65])
 refine fa (CL (id:=(65001,0)) (t:=1) (b:=true) (ys:=[.i .i64 f.kind,.s f.name.l,.sl (f.words.map enc),.sl (f.subs.map enc)]) qQi qQi) ?_
 refine cI hm (G:=G) kT.out 65000 qWi (ι:=fW f.subs.length 1 fun _=>True)
  ⟨fun q=>⟨frL [(1,.rp (qcF f)),(3,eI (S q.i:Nat)),(7,eS f.subs),(8,eI f.subs.length),(9,eI q.i)],hpL [],q.m⟩,fun q=>f.subs.length-q.i⟩
  ⟨0,1,ae,ae,trivial⟩ ah ?_ ?_
 ·refine bF ?_ ?_ ?_<;>simp only[go_sem,hS0]
  all_goals first|rfl
 rintro⟨j,m,hj,hm1,_⟩
 try simp only at hj hm1
 rcases aA j f.subs.length with h2|h2
 ·have hss:=kS.out j h2;have hr:=kr.out _ (aT h2);obtain⟨x,hx⟩:∃x,f.subs[j]=x:=⟨_,rfl⟩;rw[hx]at hss hr;have hmx:max (S j:Int) (gE x:Int)=(S (j+1):Int):=ae
  repeat'(first|refine rq ?_|apply rx hr|simp only[go_sem,h2,hx,hmx,bt,bh,Tryz.f65])
  refine⟨⟨j+1,m+1,ae,ae,trivial⟩,af,?_⟩;refine bF ?_ ?_ ?_<;>simp only[go_sem,hss,hmx]
  all_goals first|omega|rfl|(simp only[hss];omega)
 ·obtain rfl:j=f.subs.length:=ae
  rcases hq with⟨h3,h4⟩|⟨h3,h4⟩
  ·rw[aF h3]
   repeat'(first|refine rq ?_|simp only[go_sem,aC,h4,bt,Tryz.f65])
   all_goals first|rfl
  ·rw[az h3]
   repeat'(first|refine rq ?_|simp only[go_sem,aC,h4,bt,Tryz.f65])
   all_goals first|rfl
end
end Go.Proofs.YtnijhilfchekkaaGreatDoor
namespace Go.Abs
open Go
theorem JG {p:Nat→Prop}{n i:Nat}(h:∀j,j<n→j<i→p j)(hi:p i):∀j,j<n→j<i+1→p j:=ap
section
variable {P:Program} {G:Nat→List FD} {T:Tbl}
end
end Go.Abs
namespace Go.Proofs.YtnijhilfchekkaaGreatDoor
open Go Go.Abs Go.Proofs
section
variable {G:Nat→List FD}
def A12:Tbl:=A11.add 42 (sp1 (fun f:Abs.aH=>(gE f:Int)) szP)
attribute [go_sem] A12
theorem AZ:b9 Tryz.prog G A12:=by
 refine DG aH.size G3 Uj fun n hT f hn hpre _=>?_;have hsl:=(aH.fit_eq hpre.1).2.1;have hse:=BW f;have hz:=hpre.2;have hr:∀g∈f.subs,g.size<n∧szP g:=fun g hg=>by have:=vq hpre hg;grind
 have kT:=Kp.mk hT;have kr:=Kp.mk hr;obtain⟨S,hS⟩:∃S:Nat→Nat,S=fun j=>lq (f.subs.take j):=⟨_,rfl⟩;have hS0:S 0=0:=by rw[hS];simp[lq]
 have hSs:∀j (h:j<f.subs.length),S (j+1)=max (S j) (gE f.subs[j]):=by simp_all[IQ]
 have hSe:gE f=S f.subs.length+if isQ f.kind then 1 else 0:=by rw[hS,vj];simp only[aJ]
 have kS:=Kp.mk hSs;have hSn:S f.subs.length≤1000000:=ae
 have hq:(isQ f.kind∧f.kind=8)∨(isQ f.kind∧f.kind=9∧¬f.kind=8)∨(¬isQ f.kind∧¬f.kind=8∧¬f.kind=9):=by unfold isQ;omega
 rw[hSe];clear hT hr hS hSs hSe hpre hn hse;refine rv (N:=34) hm (G:=G) kT.out 42000 qWi G3 Tryz.func42 rfl ?_
 repeat'(first|refine rq ?_|simp only[go_sem,Tryz.f42])
 refine fa (CL (id:=(42001,0)) (t:=1) (b:=true) (ys:=[.i .i64 f.kind,.s f.name.l,.sl (f.words.map enc),.sl (f.subs.map enc)]) qQi qQi) ?_
 refine cI hm (G:=G) kT.out 42000 qWi (ι:=eO f.subs.length fun _=>True)
  ⟨fun q=>⟨frL [(1,.rp (qcF f)),(3,eI (S q.i:Nat)),(8,eI f.subs.length),(9,eI q.i)],hpL [],1⟩,fun q=>f.subs.length-q.i⟩
  ⟨0,ae,trivial⟩ ah ?_ ?_
 ·refine bF ?_ ?_ ?_<;>simp only[go_sem,hS0]
  all_goals first|rfl
 rintro⟨j,hj,_⟩
 try simp only at hj
 rcases aA j f.subs.length with h2|h2
 ·have hss:=kS.out j h2;have hr:=kr.out _ (aT h2);obtain⟨x,hx⟩:∃x,f.subs[j]=x:=⟨_,rfl⟩;rw[hx]at hss hr;rcases aA (S j) (gE x)with h3|h3
  ·have h3':(S j:Int)<(gE x:Int):=ae
   have h4:S (j+1)=gE x:=ae
   repeat'(first|refine rq ?_|apply rx hr|simp only[go_sem,h2,hx,h3,h3',bh,Tryz.f42])
   refine⟨⟨j+1,ae,trivial⟩,af,?_⟩;refine bF ?_ ?_ ?_<;>simp only[go_sem,h4]
  ·have h3':¬(S j:Int)<(gE x:Int):=ae
   have h3'':¬S j<gE x:=ae
   have h4:S (j+1)=S j:=ae
   repeat'(first|refine rq ?_|apply rx hr|simp only[go_sem,h2,hx,h3',h3'',bh,Tryz.f42])
   refine⟨⟨j+1,ae,trivial⟩,af,?_⟩;refine bF ?_ ?_ ?_<;>simp only[go_sem,h4]
 ·obtain rfl:j=f.subs.length:=ae
  rcases hq with⟨h3,h4⟩|⟨h3,h4,h5⟩|⟨h3,h4,h5⟩
  ·rw[aF h3]
   repeat'(first|refine rq ?_|simp only[go_sem,aC,h4,Tryz.f42])
   all_goals first|rfl
  ·rw[aF h3]
   repeat'(first|refine rq ?_|simp only[go_sem,aC,h4,Tryz.f42])
   all_goals first|rfl
  ·rw[az h3]
   repeat'(first|refine rq ?_|simp only[go_sem,aC,h4,h5,Tryz.f42])
   all_goals first|rfl
def A13:Tbl:=A12.add 117 (sp2 (fun t size=>nB size t) Do)
attribute [go_sem] A13
theorem Uk:b9 Tryz.prog G A13:=by
 refine gN FZ AZ fun t s hpre _ _=>?_;obtain⟨hs1,hs2,hl,hv⟩:=hpre;obtain⟨C,hC⟩:∃C:Nat→Int,C=fun i=>nB s (t.take i):=⟨_,rfl⟩;have h0:C 0=0:=by rw[hC];rfl
 have hs:∀i (h:i<t.length),C (i+1)=C i*s+t[i]:=by simp_all[X2]
 have hb:∀i, -1000≤C i∧C i≤1000:=fun i=>by rw[hC];exact PG hs1 hs2 ap ap
 have he:nB s t=C t.length:=by rw[hC];simp only[aJ]
 rw[he];have k1:=Kp.mk hs;have k2:=Kp.mk hb;clear hs hb hC he hv;refine rv (N:=21) hm (G:=G) AZ 117000 qWi FZ Tryz.func117 rfl ?_
 repeat'(first|refine rq ?_|simp only[go_sem,Tryz.f117])
 refine cI hm (G:=G) AZ 117000 qWi (ι:=eO t.length fun _=>True)
  ⟨fun q=>⟨frL [(1,eI s),(5,eI (C q.i)),(8,eS t),(9,eI t.length),(10,eI q.i)],hpL [],0⟩,fun q=>t.length-q.i⟩
  ⟨0,ae,trivial⟩ ah ?_ ?_
 ·refine bF ?_ ?_ ?_<;>simp only[go_sem,h0]
 rintro⟨i,hi,_⟩
 try simp only at hi
 rcases aA i t.length with h1|h1
 ·have e:=k1.out i h1;have b1:=k2.out i;have b2:=k2.out (i+1);obtain⟨x,hx⟩:∃x,t[i]=x:=⟨_,rfl⟩;rw[hx]at e;have hmul: -6000≤C i*s∧C i*s≤6000:=by
   have h6:s=1∨s=2∨s=3∨s=4∨s=5∨s=6:=ae
   rcases h6 with rfl|rfl|rfl|rfl|rfl|rfl<;>omega
  obtain⟨M,hM⟩:∃M,C i*s=M:=⟨_,rfl⟩;rw[hM]at e hmul
  repeat'(first|refine rq ?_|simp only[go_sem,h1,hx,hM,bh,Tryz.f117])
  refine⟨⟨i+1,ae,trivial⟩,af,?_⟩;refine bF ?_ ?_ ?_<;>simp only[go_sem,e]
 ·obtain rfl:i=t.length:=ae
  repeat'(first|refine rq ?_|simp only[go_sem,aC,Tryz.f117])
def A14:Tbl:=A13
attribute [go_sem] A14
theorem A0:b9 Tryz.prog G A14:=Uk
end
section
variable {G:Nat→List FD}
def uk (p:Nat):Int:=(p:Int)-1
theorem Lg (p:Nat):uk (p+1)=(p:Int):=by unfold uk;omega
theorem Zx:uk 0= -1:=rfl
structure Tn (n:Nat)(P:Nat→Prop) where
 p:Nat
 hn:p≤n
 hp:P p
theorem f112 {w:Str}{env:List dT}{m:dd}{ie im:Abs.Id}{H:bR}{n:Nat}{R:D→bR→Nat→Prop}(hok:okC m.consts)(hl:env.length≤1000)
  (ho1:H ie=some ⟨[.fz (.sl (env.map enc))],true,false⟩)(ho2:H im=some ⟨[.fz (.i .i64 m.size),.fz (.sl (m.consts.map enc)),.fz (.sl (m.rels.map enc))],true,false⟩)
  (hR:R (.fz (.i .i64 (iE m env w))) H n):cS Tryz.prog G 112 [.fz (enc w),.ptr ie 0,.ptr im 0] H n R:=by
 have hW:iE m env w=match lX env w with|some v=>v|none=>sI m w:=rfl
 have e0:H=hpX [] H:=rfl;obtain⟨L,hL⟩:∃L:Nat→Option Int,L=fun p=>lX (env.take p) w:=⟨_,rfl⟩;have hL0:L 0=none:=by rw[hL];rfl
 have hLs:∀p (h:p<env.length),L (p+1)=if env[p].name=w then some env[p].value else L p:=by grind[List.take_succ_eq_append_getElem,Ig]
 have hLe:lX env w=L env.length:=by rw[hL];simp only[aJ]
 rw[hLe]at hW;have kL:=Kp.mk hLs;have kR:=Kp.mk hR;have kW:=Kp.mk hW;clear hL hLs hLe hW hR;rw[e0];refine rv (N:=34) hm (G:=G) A0 112000 qWi TT Tryz.func112 rfl ?_
 repeat'(first|refine rq ?_|simp only[go_sem,ho1,Tryz.f112])
 refine cI hm (G:=G) A0 112000 qWi (ι:=Tn env.length fun p=>L env.length=L p)
  ⟨fun q=>⟨frL [(0,.fz (.s w.l)),(1,.ptr ie 0),(2,.ptr im 0),(5,eI (uk q.p))],hpX [] H,n⟩,fun q=>q.p⟩
  ⟨env.length,aI _,rfl⟩ ah ?_ ?_
 ·refine gT ?_ ?_ (fun id o ho=>?_) ?_
  ·simp only[go_sem,uk]
  ·simp only[go_sem]
  ·simp only[go_sem];exact ho
  simp
 rintro⟨p,hn,hp⟩
 try simp only at hn hp
 rcases p with _|p
 ·repeat'(first|apply rx hok|refine rq ?_|simp only[go_sem,Zx,ho1,ho2,bn,bZ,Tryz.f112])
  have h:=kR.out;rw[kW.out,hp,hL0]at h;exact h
 ·have h1:p<env.length:=ae
  have hs:=kL.out p h1;obtain⟨x,hx⟩:∃x,env[p]=x:=⟨_,rfl⟩;rw[hx]at hs;by_cases hc:x.name=w
  ·rw[aF hc]at hs
   repeat'(first|refine rq ?_|simp only[go_sem,Lg,ho1,ho2,h1,hx,hc,jp,bn,bh,Tryz.f112])
   have h:=kR.out;rw[kW.out,hp,hs]at h;exact h
  ·rw[az hc]at hs;have hc':(x.name=w)=False:=aP hc
   repeat'(first|refine rq ?_|simp only[go_sem,Lg,ho1,ho2,h1,hx,hc',jp,bn,bh,Tryz.f112])
   refine⟨⟨p,ae,hp.trans hs⟩,af,?_⟩;refine gT ?_ ?_ (fun id o ho=>?_) ?_
   ·simp only[go_sem,uk]
   ·simp only[go_sem]
   ·simp only[go_sem];exact ho
   simp
end
end Go.Proofs.YtnijhilfchekkaaGreatDoor
namespace Go.Abs
open Go
section
variable {P:Program} {G:Nat→List FD} {T:Tbl}
theorem MC {α β γ ρ:Type}[Enc α][Enc β][Enc γ][Enc ρ]{f:FuncId}{g:α→β→γ→ρ}{pre:α→β→γ→Prop}(m:β→Nat)(hc:cW P f)(hT:b9 P G T)
  (h:∀n,b9 P G (T.add f (sp3 g fun a b c=>m b<n∧pre a b c))→∀a b c,m b=n→pre a b c→(enc a).Wf→(enc b).Wf→(enc c).Wf→cS P G f [.fz (enc a),.fz (enc b),.fz (enc c)] (hpL []) 0 (fun d _ _=>D.val d=some (.fz (enc (g a b c))))):b9 P G (T.add f (sp3 g pre)):=by
 have key:∀n,b9 P G (T.add f (sp3 g fun a b c=>m b<n∧pre a b c)):=by
  intro n;induction n with
  |zero=>simp_all[oT]
  |succ n ih=>
   refine oT hc hT fun a b c ha hw hw2 hw3=>?_;rcases aA (m b) n with h1|h1
   ·have h2:=ih f (sp3 g fun a b c=>m b<n∧pre a b c) [enc a,enc b,enc c] _ _ (by simp[Tbl.add]) (FB) (by simp_all[dec_enc]);simp_all[dec_enc,ky]
   grind
 simp_all[oT]
end
def Em:Tv:=(.q 0 (.q 1 (.q 2 (.q 3 (.q 4 (.q 6 (.q 7 (.r 8 (.q 9 (.br [(5,(.q 10 (.br [(11,(.q 12 (.q 13 .leaf)))]))),(10,(.br [(5,(.br [(11,(.q 12 (.q 13 .leaf)))]))]))]))))))))))
structure rj (m:dd)(f:aH)(env:List dT):Prop where
 m:re m
 v:vok f
 s:szP f
 e:env.length+gE f≤900
theorem QH {m:dd}{f g:aH}{env:List dT}(h:rj m f env)(hg:g∈f.subs):g.size<f.size∧rj m g env:=by have hs:=vq h.s hg;refine⟨hs.1,h.m,(tC _).1 (fU.1 h.v).2.2.2.2.2.2 g hg,hs.2,?_⟩;have:=wQ hg;have h2:=h.e;rw[vj]at h2;omega
theorem OQ {m:dd}{f g:aH}{env:List dT}(h:rj m f env)(hg:g∈f.subs)(hq:isQ f.kind)(c:dT):g.size<f.size∧rj m g (env++[c]):=by have hs:=vq h.s hg;refine⟨hs.1,h.m,(tC _).1 (fU.1 h.v).2.2.2.2.2.2 g hg,hs.2,?_⟩;have:=wQ hg;have h2:=h.e;grind[vj]
theorem T6 {m:dd}{f:aH}{env:List dT}(h:f.kind=1):fB m f env=true:=by cases f;simp_all[dS,fB]
theorem T7 {m:dd}{f:aH}{env:List dT}(h:f.kind=2):fB m f env=decide (f.words.map (iE m env)∈sR m f.name f.words.length):=by cases f;simp only[dS]at h;subst h;rfl
theorem T8 {m:dd}{f:aH}{env:List dT}{a b:Str}(h:f.kind=3)(hw:f.words=[a,b]):fB m f env=decide (iE m env a=iE m env b):=by cases f;simp_all[dS,pT,fB]
theorem T9 {m:dd}{f x:aH}{env:List dT}(h:f.kind=4)(hs:f.subs=[x]):fB m f env= !fB m x env:=by cases f;simp_all[dS,iS,fB,lv]
theorem Ua {m:dd}{f x y:aH}{env:List dT}(h:f.kind=5)(hs:f.subs=[x,y]):fB m f env=(fB m x env&&fB m y env):=by cases f;simp_all[dS,iS,fB,lv]
theorem Uc {m:dd}{f x y:aH}{env:List dT}(h:f.kind=6)(hs:f.subs=[x,y]):fB m f env=(fB m x env||fB m y env):=by cases f;simp_all[dS,iS,fB,lv]
theorem Ud {m:dd}{f x y:aH}{env:List dT}(h:f.kind=7)(hs:f.subs=[x,y]):fB m f env=(!fB m x env||fB m y env):=by cases f;simp_all[dS,iS,fB,lv]
theorem Ue {m:dd}{f x:aH}{env:List dT}(h:f.kind=8)(hs:f.subs=[x]):fB m f env=(mV m).all fun v=>fB m x (env++[⟨f.name,v⟩]):=by cases f;simp only[dS,iS]at h hs;subst h hs;rfl
theorem Uf {m:dd}{f x:aH}{env:List dT}(h:f.kind=9)(hs:f.subs=[x]):fB m f env=(mV m).any fun v=>fB m x (env++[⟨f.name,v⟩]):=by cases f;simp only[dS,iS]at h hs;subst h hs;rfl
theorem Dz {s:List aH}(h:s.length=1):∃a,s=[a]:=by
 match s,h with
 |[a],_=>simp
theorem Dy {s:List aH}(h:s.length=2):∃a b,s=[a,b]:=by
 match s,h with
 |[a,b],_=>simp
theorem Sb {s:List Str}(h:s.length=2):∃a b,s=[a,b]:=by
 match s,h with
 |[a,b],_=>simp
end Go.Abs
namespace Go.Proofs.YtnijhilfchekkaaGreatDoor
open Go Go.Abs Go.Proofs
section
variable {G:Nat→List FD}
theorem MO {m:dd}(h:re m)(w:Str)(n:Int)(t:List Int):tQ (ni t) (oa m w n).1.tuples:=by
 unfold oa;split
 ·rename_i r hr;have hm:=h.t r (dx hr);exact fun i j hi hj hij h2=>Jg ap h2
 ·exact fun i j hi=>by simp_all[v6]
theorem QE (m:dd)(w:Str)(n:Int):sR m w n=(oa m w n).1.tuples:=by unfold sR oa;cases qR m w n<;>rfl
theorem Sn {m:dd}(h:re m)(w:Str)(n:Int)(t:List Int):bsB (ni t) (oa m w n).1.tuples=decide (t∈sR m w n):=by
 have:=DL (MO h w n t);rw[QE];cases hb:bsB (ni t) (oa m w n).1.tuples with
 |true=>rw[hb,aF rfl]at this;have h1:=List.find?_some this;have h2:=dx this;rw[Cd.1 (bO h1)]at h2;grind
 |false=>rw[hb]at this;refine(aW fun h2=>?_).symm;have h3:=(List.find?_eq_none.1 this) t h2;simp only[bi]at h3;exact h3 (Cd.2 rfl)
theorem QK {m:dd}{env:List dT}(h:(enc m).Wf)(h2:(enc env).Wf)(w:Str):(enc (iE m env w)).Wf:=by
 have hv:∀{l:List dT},(enc l).Wf→∀c∈l,(enc c.value).Wf:=fun{l} h c hc=>by have h1:=oU h _ (cR hc);exact jh (by rw[Wj]at h1;exact h1) (FD.i .i64 c.value) ak
 have hc:(enc m.consts).Wf:=jh (by rw[tk]at h;exact h) (FD.sl (m.consts.map enc)) ak;have key:∀(l:List dT) (v:Int),lX l w=some v→∃c∈l,c.value=v:=by
  intro l;induction l with
  |nil=>intro v h;simp[lX]at h
  |cons e l ih=>
   intro v h;rw[lX]at h;cases hl:lX l w with
   |some u=>rw[hl]at h;obtain⟨c,h1,h2⟩:=ih u hl;exact⟨c,cg _ h1,by rw[h2];exact bq h⟩
   |none=>
    rw[hl]at h;simp only at h;split at h
    ·exact⟨e,ak,bq h⟩
    ·cases h
 unfold iE;cases hl:lX env w with
 |some v=>obtain⟨c,h3,rfl⟩:=key env v hl;exact hv h2 c h3
 |none=>
  simp only;unfold sI;cases hf:pE m w with
  |some c=>exact hv hc c (dx hf)
  |none=>exact .i _ _ ai ai
def A15:Tbl:=A14.add 94 (sp3 fB rj)
attribute [go_sem] A15
set_option maxHeartbeats 8000000 in
theorem Ul:b9 Tryz.prog G A15:=by
 refine MC aH.size o8 A0 fun n hT m f env hn hpre hwm hwf hwe=>?_;have hm0:=hpre.m;have hok:=hpre.m.c;have hokr:=hpre.m.r;have s1:=hpre.m.s1;have s6:=hpre.m.s6;have lc:=hpre.m.lc;have lr:=hpre.m.lr;have hel:env.length≤900:=by have:=hpre.e;omega
 have hwl:=(aH.fit_eq hpre.s.1).1;have hsl:=(aH.fit_eq hpre.s.1).2.1;have hsub:∀g∈f.subs,g.size<n∧rj m g env:=fun g hg=>by have:=QH hpre hg;grind
 have hsq:isQ f.kind→∀g∈f.subs,∀c,g.size<n∧rj m g (env++[c]):=by grind[OQ]
 have hv:=fU.1 hpre.v;obtain⟨v1,v9,v2,v3,v4,v5,_⟩:=hv;have kT:=Kp.mk hT;have kS:=Kp.mk hsub;have kQ:=Kp.mk hsq;clear hT hsub hsq hpre hn;have hkk:f.kind=1∨f.kind=2∨f.kind=3∨f.kind=4∨f.kind=5∨f.kind=6∨f.kind=7∨f.kind=8∨f.kind=9:=ae
 rcases hkk with hk|hk|hk|hk|hk|hk|hk|hk|hk
 ·rw[T6 hk];refine rv (N:=168) hm (G:=G) kT.out 94000 qWr o8 Tryz.func94 rfl ?_
  repeat'(first|refine rq ?_|simp only[go_sem,hk,bt,bZ,Tryz.f94])
 ·rw[T7 hk];have hws:=v2 hk;obtain⟨A,hA⟩:∃A:Nat→List Int,A=fun i=>(f.words.take i).map (iE m env):=⟨_,rfl⟩;have hA0:A 0=[]:=by rw[hA];rfl
  have hAs:∀i (h:i<f.words.length),A (i+1)=A i++[iE m env f.words[i]]:=by simp_all[aB]
  have hAl:∀i,i≤f.words.length→(A i).length=i:=ap
  obtain⟨t,ht⟩:∃t,A f.words.length=t:=⟨_,rfl⟩;have hte:f.words.map (iE m env)=t:=by rw[←ht,hA];simp only[aJ]
  have htl:t.length=f.words.length:=by rw[←ht];exact ap
  rw[hte];have hbm:=Sn hm0 f.name f.words.length t;have hst:=MO hm0 f.name f.words.length t;rw[←hbm];obtain⟨rl,hrl⟩:∃rl,(oa m f.name f.words.length).1=rl:=⟨_,rfl⟩;obtain⟨bl,hbl⟩:∃bl,(oa m f.name f.words.length).2=bl:=⟨_,rfl⟩;have hrp:oa m f.name f.words.length=(rl,bl):=by rw[←hrl,←hbl]
  rw[hrl]at hst ⊢;have hwt:(enc rl.tuples).Wf:=by
   rw[←hrl];unfold oa;split
   ·rename_i r hr;have h1:(enc r).Wf:=oU (by grind[jh,tk]) _ (cR (dx hr));exact jh (by have h:=h1;rw[Lq]at h;exact h) (FD.sl (r.tuples.map enc)) ak
   ·exact .sl _ (by simp[v6]) (by simp[v6])
  have hwtt:(enc t).Wf:=by rw[←hte];refine .sl _ (by grind[dt]) fun y hy=>?_;obtain⟨v,hv2,rfl⟩:=be.1 hy;obtain⟨w,_,rfl⟩:=be.1 hv2;exact QK hwm hwe w
  have kA:=Kp.mk hAs;have kL:=Kp.mk hAl;have kw:=Kp.mk hwt;have ks:=Kp.mk hst;have kwt:=Kp.mk hwtt;clear hA hAs hAl hte hbm hst hwt hrl hbl hwtt;refine rv (N:=168) hm (G:=G) kT.out 94000 qWr o8 Tryz.func94 rfl ?_
  repeat'(first|refine rq ?_|simp only[go_sem,hk,bt,bZ,Tryz.f94])
  refine cI hm (G:=G) kT.out 94000 qWr (ι:=jL f.words.length 4 fun _=>True)
   ⟨fun q=>⟨frL [(3,.ptr (94003,0) 0),(4,.ptr (94004,1) 0),(5,.ptr (94005,2) 0),(7,.fn 112 [.ptr (94005,2) 0,.ptr (94003,0) 0]),(8,.ow (94035,q.g) 1 ((A q.i).map enc)),(24,eS f.words),(25,eI f.words.length),(26,eI q.i)],
    hpL [((94003,0),some ⟨[eI m.size,eS m.consts,eS m.rels],true,false⟩),((94004,1),some ⟨(qcD f),true,false⟩),((94005,2),some ⟨[eS env],true,false⟩),((94035,q.g),some tok)],q.m⟩,fun q=>f.words.length-q.i⟩
   ⟨0,3,4,ae,ae,ae,trivial⟩ ah ?_ ?_
  ·refine eX [] [(94035,3)] [] ?_ ?_ ?_ ?_ ?_<;>simp only[go_sem,hA0,hk]
   all_goals first|rfl|omega
  rintro⟨i,g,q,hi,hg,hq,_⟩
  try simp only at hi hg hq
  rcases aA i f.words.length with h1|h1
  ·have hs:=kA.out i h1;have hl:=kL.out i ae;obtain⟨w,hw⟩:∃w,f.words[i]=w:=⟨_,rfl⟩;rw[hw]at hs
   repeat'(first|refine rq ?_|simp only[go_sem,h1,hw,bn,bh,bt,bZ,Tryz.f94])
   refine dJ.i (f112 (env:=env) (m:=m) hok ae qQi qQi ?_)
   repeat'(first|refine rq ?_|simp only[go_sem,h1,hw,bn,bh,bt,bZ,Tryz.f94])
   refine⟨⟨i+1,q,q+1,ae,ae,ae,trivial⟩,af,?_⟩;refine bF ?_ ?_ ?_<;>(try simp only[go_sem,hs,aE])
   all_goals first|omega|rfl
  obtain rfl:i=f.words.length:=ae
  repeat'(first|apply rx hokr|refine rq ?_|simp only[go_sem,aC,ht,htl,hrp,bn,jB,bt,bZ,Tryz.f94])
  refine dJ.i (jl (wC (ds:=[_,_]) rfl (Te (G:=G) kw.out kwt.out ks.out)) ?_);rintro d' H' n1 ⟨rfl,rfl,rfl⟩
  repeat'(first|refine rq ?_|simp only[go_sem,aC,ht,bn,jB,bt,bZ,Tryz.f94])
 ·obtain⟨a,b,hab⟩:=Sb (v3 hk);rw[T8 hk hab];refine rv (N:=168) hm (G:=G) kT.out 94000 qWr o8 Tryz.func94 rfl ?_
  repeat'(first|refine rq ?_|simp only[go_sem,hk,hab,bt,bZ,Tryz.f94])
  refine fa (CL (id:=(94004,1)) (t:=4) (b:=true) (ys:=[.i .i64 f.kind,.s f.name.l,.sl (f.words.map enc),.sl (f.subs.map enc)]) (by simp only[go_sem,hk,hab]) aj) ?_;refine ru hm (G:=G) kT.out 94000 qWr Em ?_
  repeat'(first|apply au|refine dJ.i (f112 (env:=env) (m:=m) hok ae aj aj ?_)|refine rq ?_|simp only[go_sem,Em,hk,hab,bn,bt,bZ,Tryz.f94])
 ·obtain⟨x,hx⟩:=Dz (v4 (.inl hk));rw[T9 hk hx];have hz:=kS.out x ap;obtain⟨b,hb⟩:∃b,fB m x env=b:=⟨_,rfl⟩;rw[hb];refine rv (N:=168) hm (G:=G) kT.out 94000 qWr o8 Tryz.func94 rfl ?_
  repeat'(first|apply rx hz|refine rq ?_|simp only[go_sem,hk,hx,hb,bt,bZ,Tryz.f94])
 ·obtain⟨x,y,hxy⟩:=Dy (v5 ae);rw[Ua hk hxy];have hz:=kS.out x ap;have hz2:=kS.out y ap;obtain⟨b2,hb2⟩:∃b,fB m y env=b:=⟨_,rfl⟩;rw[hb2];cases hb:fB m x env
  ·refine rv (N:=168) hm (G:=G) kT.out 94000 qWr o8 Tryz.func94 rfl ?_
   repeat'(first|apply rx hz|apply rx hz2|refine rq ?_|simp only[go_sem,hk,hxy,hb,hb2,bt,bZ,Tryz.f94])
  ·refine rv (N:=168) hm (G:=G) kT.out 94000 qWr o8 Tryz.func94 rfl ?_
   repeat'(first|apply rx hz|apply rx hz2|refine rq ?_|simp only[go_sem,hk,hxy,hb,hb2,bt,bZ,Tryz.f94])
 ·obtain⟨x,y,hxy⟩:=Dy (v5 ae);rw[Uc hk hxy];have hz:=kS.out x ap;have hz2:=kS.out y ap;obtain⟨b2,hb2⟩:∃b,fB m y env=b:=⟨_,rfl⟩;rw[hb2];cases hb:fB m x env
  ·refine rv (N:=168) hm (G:=G) kT.out 94000 qWr o8 Tryz.func94 rfl ?_
   repeat'(first|apply rx hz|apply rx hz2|refine rq ?_|simp only[go_sem,hk,hxy,hb,hb2,bt,bZ,Tryz.f94])
  ·refine rv (N:=168) hm (G:=G) kT.out 94000 qWr o8 Tryz.func94 rfl ?_
   repeat'(first|apply rx hz|apply rx hz2|refine rq ?_|simp only[go_sem,hk,hxy,hb,hb2,bt,bZ,Tryz.f94])
 ·obtain⟨x,y,hxy⟩:=Dy (v5 ae);rw[Ud hk hxy];have hz:=kS.out x ap;have hz2:=kS.out y ap;obtain⟨b2,hb2⟩:∃b,fB m y env=b:=⟨_,rfl⟩;rw[hb2];cases hb:fB m x env
  ·refine rv (N:=168) hm (G:=G) kT.out 94000 qWr o8 Tryz.func94 rfl ?_
   repeat'(first|apply rx hz|apply rx hz2|refine rq ?_|simp only[go_sem,hk,hxy,hb,hb2,bt,bZ,Tryz.f94])
  ·refine rv (N:=168) hm (G:=G) kT.out 94000 qWr o8 Tryz.func94 rfl ?_
   repeat'(first|apply rx hz|apply rx hz2|refine rq ?_|simp only[go_sem,hk,hxy,hb,hb2,bt,bZ,Tryz.f94])
 ·obtain⟨x,hx⟩:=Dz (v4 ae);rw[Ue hk hx];have hz:=fun c=>kQ.out (by unfold isQ;omega) x ap c;obtain⟨V,hV⟩:∃V:Int→Bool,V=fun v=>fB m x (env++[⟨f.name,v⟩]):=⟨_,rfl⟩;rw[←hV];have hVv:∀v,fB m x (env++[⟨f.name,v⟩])=V v:=fun v=>by rw[hV]
  have kz:=Kp.mk hz;have kV:=Kp.mk hVv;clear hV hz hVv;obtain⟨r,hr⟩:∃r,(mV m).all V=r:=⟨_,rfl⟩;have kr:=Kp.mk hr;rw[hr];clear hr;refine rv (N:=168) hm (G:=G) kT.out 94000 qWr o8 Tryz.func94 rfl ?_
  repeat'(first|refine rq ?_|simp only[go_sem,hk,hx,bt,bZ,Tryz.f94])
  refine cI hm (G:=G) kT.out 94000 qWr (ι:=fW m.size.toNat 3 fun i=>∀v:Nat,v<m.size.toNat→v<i→V v=true)
   ⟨fun q=>⟨frL [(3,.ptr (94003,0) 0),(4,.ptr (94004,1) 0),(5,.ptr (94005,2) 0),(135,eI m.size),(136,eI q.i)],
    hpL [((94003,0),some ⟨[eI m.size,eS m.consts,eS m.rels],true,false⟩),((94004,1),some ⟨(qcD f),true,false⟩),((94005,2),some ⟨[eS env],true,false⟩)],q.m⟩,fun q=>m.size.toNat-q.i⟩
   ⟨0,3,ae,ae,ae⟩ ah ?_ ?_
  ·refine bF ?_ ?_ ?_<;>simp only[go_sem,hk,hx]
  rintro⟨i,q,hi,hq,hp⟩
  try simp only at hi hq
  rcases aA i m.size.toNat with h1|h1
  ·have h1':((i:Int)<m.size)=True:=ap
   have hz:=kz.out ⟨f.name,(i:Int)⟩;have hvi:=kV.out (i:Int);have hbb:V i=false∨V i=true:=by cases V i<;>simp
   rcases hbb with hb|hb
   ·have hrr:r=false:=by rw[←kr.out];exact (by grind[Wc])
    subst hrr
    repeat'(first|apply rx hz|refine rq ?_|simp only[go_sem,hk,hx,h1,h1',hvi,hb,bn,aE,yx,sd,sv,yV,bt,bZ,Tryz.f94])
   ·have hp2:=JG hp hb;have kp:=Kp.mk hp2;clear hp2
    repeat'(first|apply rx hz|refine rq ?_|simp only[go_sem,hk,hx,h1,h1',hvi,hb,bn,aE,yx,sd,sv,yV,bt,bZ,Tryz.f94])
    refine⟨⟨i+1,q+1,ae,ae,kp.out⟩,af,?_⟩;refine bF ?_ ?_ ?_<;>simp only[go_sem,hk,hx];omega
  ·obtain rfl:i=m.size.toNat:=ae
   have hrr:r=true:=by rw[←kr.out];exact (by simp_all[Zy])
   have h1':((m.size.toNat:Int)<m.size)=False:=ap
   subst hrr
   repeat'(first|refine rq ?_|simp only[go_sem,hk,hx,aC,h1',bt,bZ,Tryz.f94])
 ·obtain⟨x,hx⟩:=Dz (v4 ae);rw[Uf hk hx];have hz:=fun c=>kQ.out (by unfold isQ;omega) x ap c;obtain⟨V,hV⟩:∃V:Int→Bool,V=fun v=>fB m x (env++[⟨f.name,v⟩]):=⟨_,rfl⟩;rw[←hV];have hVv:∀v,fB m x (env++[⟨f.name,v⟩])=V v:=fun v=>by rw[hV]
  have kz:=Kp.mk hz;have kV:=Kp.mk hVv;clear hV hz hVv;obtain⟨r,hr⟩:∃r,(mV m).any V=r:=⟨_,rfl⟩;have kr:=Kp.mk hr;rw[hr];clear hr;refine rv (N:=168) hm (G:=G) kT.out 94000 qWr o8 Tryz.func94 rfl ?_
  repeat'(first|refine rq ?_|simp only[go_sem,hk,hx,bt,bZ,Tryz.f94])
  refine cI hm (G:=G) kT.out 94000 qWr (ι:=fW m.size.toNat 3 fun i=>∀v:Nat,v<m.size.toNat→v<i→V v=false)
   ⟨fun q=>⟨frL [(3,.ptr (94003,0) 0),(4,.ptr (94004,1) 0),(5,.ptr (94005,2) 0),(135,eI m.size),(136,eI q.i)],
    hpL [((94003,0),some ⟨[eI m.size,eS m.consts,eS m.rels],true,false⟩),((94004,1),some ⟨(qcD f),true,false⟩),((94005,2),some ⟨[eS env],true,false⟩)],q.m⟩,fun q=>m.size.toNat-q.i⟩
   ⟨0,3,ae,ae,ae⟩ ah ?_ ?_
  ·refine bF ?_ ?_ ?_<;>simp only[go_sem,hk,hx]
  rintro⟨i,q,hi,hq,hp⟩
  try simp only at hi hq
  rcases aA i m.size.toNat with h1|h1
  ·have h1':((i:Int)<m.size)=True:=ap
   have hz:=kz.out ⟨f.name,(i:Int)⟩;have hvi:=kV.out (i:Int);have hbb:V i=false∨V i=true:=by cases V i<;>simp
   rcases hbb with hb|hb
   ·have hp2:=JG hp hb;have kp:=Kp.mk hp2;clear hp2
    repeat'(first|apply rx hz|refine rq ?_|simp only[go_sem,hk,hx,h1,h1',hvi,hb,bn,aE,yx,sd,sv,yV,bt,bZ,Tryz.f94])
    refine⟨⟨i+1,q+1,ae,ae,kp.out⟩,af,?_⟩;refine bF ?_ ?_ ?_<;>simp only[go_sem,hk,hx];omega
   ·have hrr:r=true:=by rw[←kr.out];exact (by grind[Zz])
    subst hrr
    repeat'(first|apply rx hz|refine rq ?_|simp only[go_sem,hk,hx,h1,h1',hvi,hb,bn,aE,yx,sd,sv,yV,bt,bZ,Tryz.f94])
  ·obtain rfl:i=m.size.toNat:=ae
   have hrr:r=false:=by rw[←kr.out];exact (by simp_all[Wd])
   have h1':((m.size.toNat:Int)<m.size)=False:=ap
   subst hrr
   repeat'(first|refine rq ?_|simp only[go_sem,hk,hx,aC,h1',bt,bZ,Tryz.f94])
end
section
variable {G:Nat→List FD}
theorem TB:∀(k:Nat) (f:Abs.aH) (bd acc:List Str) (g n:Nat) (X:bR),f.size≤k→(enc f).Wf→g<n→2<n→acc.length+(cst f bd).length≤1000000→bd.length+f.size≤1000000→
  (∀id o,X id=some o→id.2<n∧id.1≠80003∧id.1≠80004∧id.1≠106024)→
  cS Tryz.prog G 106 [.fz (enc f),.fz (enc bd),.ptr (80003,1) 0,.ptr (80004,2) 0] (hpX (HHk acc g) X) n
   (fun d' H' n'=>d'= .tup []∧n≤n'∧(∃g',g'<n'∧iO H' (HHk (acc++cst f bd) g'))∧∀id o,X id=some o→H' id=some o):=by
 intro k;induction k with
 |zero=>intro f bd acc g n X hs;have:=f.size_pos;omega
 |succ k ih=>
  intro f bd acc g n X hs hw hg hn hlen hbl hX;obtain⟨Q,hQ⟩:∃Q:D→bR→Nat→Prop,Q=(fun d' H' n'=>d'= .tup []∧n≤n'∧(∃g',g'<n'∧iO H' (HHk (acc++cst f bd) g'))∧∀id o,X id=some o→H' id=some o):=⟨_,rfl⟩;rw[←hQ];have hX':∀{l:List (Abs.Id×Option O)} (id o),X id=some o→(id.2<n∧id.1≠80003∧id.1≠80004∧id.1≠106024→rQ id l)→hpX l X id=some o:=by grind[oL]
  have hwl:f.words.length≤dt:=by have h:=jh qQf (FD.sl (f.words.map enc)) ak;have:=iN h;simpa using this
  have hsl:f.subs.length≤dt:=by have h:=jh qQf (FD.sl (f.subs.map enc)) ak;have:=iN h;simpa using this
  have hsw:∀g∈f.subs,(enc g).Wf:=by grind[oU,jh,jf]
  have hss:∀g∈f.subs,g.size≤k∧g.size+1≤f.size:=fun g hg=>by have:=aH.size_sub hg;omega
  unfold dt at hwl hsl;rw[zY,aD]at hlen;obtain⟨A,hA⟩:∃A:Nat→List Str,A=fun i=>acc++(f.words.take i).filter (fun w=>decide (w∉bd)):=⟨_,rfl⟩;have hA0:A 0=acc:=by rw[hA];simp
  have hAl:∀i,(A i).length≤acc.length+(f.words.filter (fun w=>decide (w∉bd))).length:=fun i=>by rw[hA];simp only[aD];have:=@Hz f.words bd i;omega
  have hAs:∀i (h:i<f.words.length),A (i+1)=A i++if f.words[i]∈bd then[]else[f.words[i]]:=by grind[HB]
  have hAe:A f.words.length=acc++f.words.filter (fun w=>decide (w∉bd)):=by rw[hA];simp only[aJ]
  have kA:=Kp.mk hAl;have kB:=Kp.mk hAs;have kC:=Kp.mk hAe;clear hA hAl hAs hAe;have kX:=Kp.mk @hX';have kQ:=Kp.mk hQ;have kI:=Kp.mk ih;have kS:=Kp.mk hsw;have kZ:=Kp.mk hss;have kx:=Kp.mk hX;clear hX' hQ ih hsw hss hX;refine rv (N:=50) hm (s9 (G:=G) sX) 106000 (lst [24]) FW Tryz.func106 rfl ?_
  repeat'(first|refine rq ?_|simp only[go_sem,HHk,Tryz.f106, *])
  refine cI hm (s9 (G:=G) sX) 106000 (lst [24]) (ι:=jL f.words.length (n+1) fun _=>True)
   ⟨fun q=>⟨frL [(1,eS bd),(2,.ptr (80003,1) 0),(3,.ptr (80004,2) 0),(4,.ptr (106004,n) 0),(11,eS f.words),(12,eI f.words.length),(13,eI q.i)],
    hpX (((106004,n),some ⟨[.fz (.i .i64 f.kind),.fz (.s f.name.l),.fz (.sl (f.words.map enc)),.fz (.sl (f.subs.map enc))],true,false⟩)::HHk (A q.i) q.g) X,q.m⟩,fun q=>f.words.length-q.i⟩
   ⟨0,g,n+1,ae,ae,ae,trivial⟩ ah ?_ ?_
  ·refine gT ?_ ?_ (fun id o ho=>?_) ?_
   ·simp only[go_sem]
   ·simp only[go_sem,HHk,hA0]
   ·refine kX.out id o ho fun h1=>?_
    ((repeat'(first|exact trivial|apply au))<;>(grind))
   ·simp only[go_sem]
  rintro⟨i,g1,m1,hi,hg1,hm1,_⟩
  try simp only at hi hg1 hm1
  rcases aA i f.words.length with h1|h1
  ·have hfl:=kB.out i h1;have hl1:=kA.out i;have hl2:=kA.out (i+1);by_cases hin:f.words[i]∈bd
   ·rw[aF hin,bP]at hfl
    repeat'(first|refine rq ?_|simp only[go_sem,HHk,h1,hin,bn,bh,Tryz.f106])
    refine⟨⟨i+1,g1,m1,ae,ae,ae,trivial⟩,af,?_⟩;refine gT ?_ ?_ (fun id o ho=>?_) ?_
    ·simp only[go_sem]
    ·simp only[go_sem,HHk,hfl]
    ·refine kX.out id o ho fun h1=>?_
     ((repeat'(first|exact trivial|apply au))<;>(grind))
    ·simp only[go_sem]
   ·rw[az hin]at hfl;have hl3:(bA ((A i).map enc)).length=(A i).length:=by rw[JZ (tt (f:=enc) (k:=1) (fun _=>rfl) _),aG]
    repeat'(first|refine rq ?_|refine rx (dZ ae ai) ?_|simp only[go_sem,HHk,h1,hin,bn,bh,Tryz.f106])
    refine⟨⟨i+1,m1,m1+1,ae,ae,ae,trivial⟩,af,?_⟩;refine gT ?_ ?_ (fun id o ho=>?_) ?_
    ·simp only[go_sem]
    ·simp only[go_sem,HHk,hfl,Jq]
    ·refine kX.out id o ho fun h1=>?_
     ((repeat'(first|exact trivial|apply au))<;>(rintro rfl;simp only at h1;omega))
    ·simp only[go_sem]
  ·obtain rfl:i=f.words.length:=ae
   have hAe:=kC.out;obtain⟨bd2,hbd⟩:∃bd2,bd2=if isQ f.kind then bd++[f.name]else bd:=⟨_,rfl⟩
   rw[←hbd]at hlen;obtain⟨B,hB⟩:∃B:Nat→List Str,B=fun j=>A f.words.length++ef (f.subs.take j) bd2:=⟨_,rfl⟩;have hB0:B 0=A f.words.length:=by rw[hB];simp[ef]
   have hBs:∀j (h:j<f.subs.length),B (j+1)=B j++cst f.subs[j] bd2:=by grind[HK]
   have hBl:∀j,(B j).length≤1000000:=by grind[HQ]
   have hBe:B f.subs.length=acc++cst f bd:=by rw[hB,zY,←hbd,hAe];simp only[aJ,bu]
   have hb2:bd2.length≤bd.length+1:=by
    rw[hbd];split
    ·simp
    ·omega
   have kBs:=Kp.mk hBs;have kBl:=Kp.mk hBl;have kBe:=Kp.mk hBe;clear hBs hBl hBe hB hAe;rcases Decidable.em (isQ f.kind)with hq|hq
   all_goals
    (first|rw[aF hq]at hbd|rw[az hq]at hbd)
    unfold isQ at hq
    repeat'(first|refine rq ?_|refine rx (dZ ae ai) ?_|simp only[go_sem,HHk,hq,aC,bn,Tryz.f106])
    refine cI hm (s9 (G:=G) sX) 106000 (lst [24]) (ι:=jL f.subs.length (n+1) fun _=>True)
     ⟨fun q=>⟨frL [(1,eS bd2),(2,.ptr (80003,1) 0),(3,.ptr (80004,2) 0),(39,eS f.subs),(40,eI f.subs.length),(41,eI q.i)],hpX (HHk (B q.i) q.g) X,q.m⟩,fun q=>f.subs.length-q.i⟩
     ⟨0,g1,m1,ae,ae,ae,trivial⟩ ah ?_ ?_
    ·refine gT ?_ ?_ (fun id o ho=>?_) ?_
     ·simp only[go_sem,hbd,aE]
     ·simp only[go_sem,HHk,hB0]
     ·refine kX.out id o ho fun h1=>?_
      ((repeat'(first|exact trivial|apply au))<;>(rintro rfl;simp only at h1;omega))
     ·simp only[go_sem]
    rintro⟨j,g2,m2,hj,hg2,hm2,_⟩
    try simp only at hj hg2 hm2
    rcases aA j f.subs.length with h2|h2
    ·have hmem:=aT h2;have hBj:=kBs.out j h2;have hl4:=kBl.out (j+1);have hz:=kZ.out _ hmem;rw[hBj,aD]at hl4;have ih2:=kI.out f.subs[j] bd2 (B j) g2 (m2+1) X hz.1 (kS.out _ hmem) ae ae hl4 ae (fun id o ho=>by have:=kx.out id o ho;omega);rw[jf]at ih2
     repeat'(first|refine rq ?_|simp only[go_sem,HHk,h2,bh,Tryz.f106])
     refine dJ.i (qw rfl (qo qQl (by simp only[go_sem,HHk]) (fun id o ho=>?_) (aI _) (jl ih2 ?_)))
     ·refine kX.out id o ho fun h1=>?_
      ((repeat'(first|exact trivial|apply au))<;>(rintro rfl;simp only at h1;omega))
     rintro d' H' n' ⟨rfl,e1,⟨g3,hg3,e2⟩,e3⟩;rw[←hBj]at e2;simp only[go_sem,HHk]at e2;obtain⟨b1,b2,b3⟩:=e2;rw[show H'=hpX [] H' from rfl]
     repeat'(first|refine rq ?_|simp only[go_sem,HHk,h2,Tryz.f106])
     refine⟨⟨j+1,g3,n',ae,ae,ae,trivial⟩,af,?_⟩;refine gT ?_ ?_ (fun id o ho=>?_) ?_
     ·simp only[go_sem]
     ·simp only[go_sem,HHk,b1,b2,b3]
     ·exact e3 id o ho
     ·simp only[go_sem]
    ·obtain rfl:j=f.subs.length:=ae
     repeat'(first|refine rq ?_|simp only[go_sem,HHk,aC,Tryz.f106])
     rw[kQ.out];refine⟨rfl,ae,⟨g2,ae,?_⟩,fun id o ho=>kX.out id o ho fun h1=>?_⟩
     ·rw[←kBe.out];simp only[go_sem,HHk]
     ·((repeat'(first|exact trivial|apply au))<;>(grind))
theorem Lv {H:bR}{id:Abs.Id}{l:List Str}{bx vt:Bool}{n:Nat}{R:D→bR→Nat→Prop}(ho:H id=some ⟨bA (l.map enc),bx,vt⟩)
  (hR:R (.tup []) (hpX [(id,some ⟨bA ((kv l).map enc),bx,vt⟩)] H) n):cS Tryz.prog G 81 [.arr id 1 0 l.length] H n R:=by
 rw[wI]at ho;have h:=JC (G:=G) (n:=n) Hh Tryz.slices_Sort_string Tryz.slices_Sort_string_none ho;rw[aG]at h;refine jl h ?_;rintro d H' n' ⟨rfl,rfl,rfl⟩;rw[zA,yv];exact hR
theorem KJ {H:bR}{id:Abs.Id}{l:List Str}{bx vt:Bool}{n:Nat}{R:D→bR→Nat→Prop}(ho:H id=some ⟨bA (l.map enc),bx,vt⟩)
  (hR:R (.arr id 1 0 (lC l).length) (hpX [(id,some ⟨bA ((lC l).map enc),bx,vt⟩)] H) n):cS Tryz.prog G 82 [.arr id 1 0 l.length] H n R:=by
 rw[wI]at ho;have h:=HH (G:=G) (n:=n) Hi Tryz.slices_Compact_string Tryz.slices_Compact_string_empty ho;grind[jl,zA,yv,lC]
theorem UG {f:Abs.aH}(hw:(enc f).Wf)(hl:(cst f []).length≤1000000)(hs:f.size≤1000000):cS Tryz.prog G 80 [.fz (enc f)] (hpL []) 0
  (fun d H n=>∃g,g<n∧d= .arr (106024,g) 1 0 (eR f).length∧H (106024,g)=some ⟨bA ((eR f).map enc),false,(cst f []).isEmpty⟩):=by
 obtain⟨Q,hQ⟩:∃Q:D→bR→Nat→Prop,Q=(fun d H n=>∃g,g<n∧d= .arr (106024,g) 1 0 (eR f).length∧H (106024,g)=some ⟨bA ((eR f).map enc),false,(cst f []).isEmpty⟩):=⟨_,rfl⟩;rw[←hQ];refine rv (N:=13) hm (s9 (G:=G) sX) 80000 qWi yj Tryz.func80 rfl ?_;have h:=TB (G:=G) f.size f [] [] 3 4 (fun _=>none) (aI _) hw ae ae ap ap ap;rw[jf]at h
 repeat'(first|refine rq ?_|simp only[go_sem,Tryz.f80])
 refine dJ.i (qw rfl (Dq (args':=[.fz (.agg [.i .i64 f.kind,.s f.name.l,.sl (f.words.map enc),.sl (f.subs.map enc)]),.fz (enc ([]:List Str)),.ptr (80003,1) 0,.ptr (80004,2) 0])
  (hl:=HHk [] 3) (n':=4) [] [(106024,3)] [] rfl ?_ ?_ ?_ ?_ ?_ ?_))
 case _=>omega
 case _=>simp only[go_sem]
 case _=>simp only[go_sem,HHk];first|done|rfl
 case _=>simp only[go_sem,HHk];first|done|rfl
 case _=>simp only[go_sem];first|done|rfl
 rw[show hpL (HHk [] 3)=hpX (HHk [] 3) (fun _=>none)from rfl];refine jl h ?_;rintro d' H' n' ⟨rfl,e1,⟨g,hg,e2⟩,_⟩;rw[aK]at e2;obtain⟨C,hC⟩:∃C,C=cst f []:=⟨_,rfl⟩;rw[←hC]at e2;rw[C5,←hC]at hQ;simp only[go_sem,HHk]at e2;obtain⟨b1,b2,b3⟩:=e2;rw[show H'=hpX [] H' from rfl]
 repeat'(first|refine rq ?_|simp only[go_sem,b1,b2,b3,Tryz.f80])
 refine dJ.i (Lv (l:=C) (bx:=false) (vt:=C.isEmpty) (by simp only[go_sem,b3]) ?_);rw[←sj C]at b1
 repeat'(first|refine rq ?_|simp only[go_sem,b1,b2,b3,Tryz.f80])
 refine dJ.i (KJ (l:=kv C) (bx:=false) (vt:=C.isEmpty) aj ?_)
 repeat'(first|refine rq ?_|simp only[go_sem,b1,b2,b3,Tryz.f80])
 rw[hQ];exact⟨g,hg,qQi,aj⟩
def A16:Tbl:=A15.add 80 (sp1 eR fun f=>(cst f []).length≤1000000∧f.size≤1000000)
attribute [go_sem] A16
theorem ON {f:Abs.aH}(h:(cst f []).isEmpty=true):eR f=[]:=by
 cases hu:eR f with
 |nil=>rfl
 |cons x l=>have:=(og f x).1 ap;grind
theorem x8:b9 Tryz.prog G A16:=by
 refine iD yj Ul fun f hp hw=>?_;refine lj (UG (G:=G) hw hp.1 hp.2) ?_;rintro d H n ⟨g,hg,rfl,ho⟩;obtain⟨U,hU⟩:∃U,eR f=U:=⟨_,rfl⟩;have hn:(cst f []).isEmpty=true→U=[]:=fun h=>by rw[←hU];exact ON h
 rw[hU]at ho ⊢;refine⟨.fz (.sl (U.map enc)),H0,n,?_,rfl⟩;have e:H0=hpL []:=rfl;rw[e];refine eX [] [] [((106024,g),U.map enc)] ?_ ?_ ?_ ?_ ?_<;>simp only[go_sem,ho];intro h;rw[hn h];rfl
def A17:Tbl:=A16.add 47 (sp2 fM fun l _=>l.length≤1000000)
attribute [go_sem] A17
theorem Um:b9 Tryz.prog G A17:=by
 refine gN rh x8 fun l s hl _ _=>?_;by_cases hin:s∈l
 ·have e:fM l s=l:=by unfold fM;rw[aF hin]
  rw[e];refine rv (N:=39) hm (G:=G) x8 47000 qWy rh Tryz.func47 rfl ?_
  repeat'(first|refine rq ?_|simp only[go_sem,hin,Tryz.f47])
 ·have e:fM l s=l.take (twN l s)++[s]++l.drop (twN l s):=by unfold fM;rw[az hin];rfl
  rw[e];clear e;have hlt:∀i (h:i<l.length),i<twN l s→Op.bytesLess l[i].l s.l=true:=by simp_all[s7,Aj]
  have hat:∀i (h:i<l.length),i=twN l s→Op.bytesLess l[i].l s.l=false:=by simp_all[s7,Ah]
  have htl:=Ai s l;obtain⟨T,hT⟩:∃T,twN l s=T:=⟨_,rfl⟩;rw[hT]at hlt hat htl ⊢;clear hT;have kl:=Kp.mk hlt;have ka:=Kp.mk hat;clear hlt hat;refine rv (N:=39) hm (G:=G) x8 47000 qWy rh Tryz.func47 rfl ?_
  repeat'(first|refine rq ?_|simp only[go_sem,hin,Tryz.f47])
  refine cI hm (G:=G) x8 47000 qWy (ι:=eO T fun _=>True)
   ⟨fun q=>⟨frL [(0,eS l),(1,.fz (.s s.l)),(5,.full []),(6,eI q.i)],hpL [],0⟩,fun q=>T-q.i⟩
   ⟨0,ae,trivial⟩ ah ?_ ?_
  ·refine bF ?_ ?_ ?_<;>simp only[go_sem]
  rintro⟨i,hi,_⟩
  try simp only at hi
  rcases aA i T with h1|h1
  ·have h2:i<l.length:=ae
   have h3:=kl.out i h2 h1
   repeat'(first|refine rq ?_|simp only[go_sem,h2,h3,bh,Tryz.f47])
   refine⟨⟨i+1,ae,trivial⟩,ap,?_⟩;refine bF ?_ ?_ ?_<;>simp only[go_sem]
  ·obtain rfl:i=T:=ae
   have hlt:(l.take i).length=i:=by rw[aX];omega
   rcases aA i l.length with h2|h2
   case' inl=>have h3:=ka.out i h2 rfl
   case' inr=>have h3:¬i<l.length:=ae
   all_goals
    repeat'(first|refine rq ?_|refine rx (dZ qQc ai) ?_|refine rq ?_|simp only[go_sem,h2,h3,vh,bh,Tryz.f47])
   all_goals first|(simp only[aE,dR,dQ,aM,aQ,DJ])
def A18:Tbl:=A17.add 74 (sp3 iH vA)
attribute [go_sem] A18
theorem Gf:b9 Tryz.prog G A18:=by
 refine DH aH.size yi Um fun n hT f bd l hn hpre hw _ _=>?_;obtain⟨hfit,hbl,hll⟩:=hpre;obtain⟨hwl,hsl,hfs⟩:=aH.fit_eq hfit;have hszs:f.size=aH.sizes f.subs+1:=by cases f;rw[aH.size];rfl
 have hsz:∀g∈f.subs,g.size<n∧g.fit=true:=fun g hg=>⟨qQn,aH.fits_mem hfs hg⟩;obtain⟨L,hL⟩:∃L:Nat→List Str,L=fun i=>(f.words.take i).foldl (fun l w=>if w∈bd then l else fM l w) l:=⟨_,rfl⟩;have hL0:L 0=l:=by rw[hL];rfl
 have hLs:∀i (h:i<f.words.length),L (i+1)=if f.words[i]∈bd then L i else fM (L i) f.words[i]:=by grind[List.take_succ_eq_append_getElem]
 have hLl:∀i,(L i).length≤l.length+1000:=fun i=>by have:=wN bd (f.words.take i) l;rw[hL];simp only;rw[aX]at this;omega
 obtain⟨bd2,hbd2⟩:∃bd2,(if isQ f.kind then bd++[f.name]else bd)=bd2:=⟨_,rfl⟩;have hbl2:bd2.length≤bd.length+1:=by rw[←hbd2];split<;>simp
 obtain⟨lw,hlw⟩:∃lw,L f.words.length=lw:=⟨_,rfl⟩;have hlwl:lw.length≤l.length+1000:=by rw[←hlw];exact hLl _
 have hcst:iH f bd l=jC f.subs bd2 lw:=by rw[Nb,hbd2,←hlw,hL];simp only[aJ]
 obtain⟨M,hM⟩:∃M:Nat→List Str,M=fun j=>jC (f.subs.take j) bd2 lw:=⟨_,rfl⟩;have hM0:M 0=lw:=by rw[hM];simp only[bv,jC]
 have hMs:∀j (h:j<f.subs.length),M (j+1)=iH f.subs[j] bd2 (M j):=by grind[List.take_succ_eq_append_getElem,Cf,jC]
 have hMl:∀j (h:j<f.subs.length),vA f.subs[j] bd2 (M j):=fun j h=>by have h1:=yU (f.subs.take j) bd2 lw (Cp j hfs);have h2:=wK h;have h3:=aH.size_mem (aT h);refine⟨ap,ae,?_⟩;grind
 have hMe:M f.subs.length=iH f bd l:=by rw[hcst,hM];simp only[aJ]
 have kT:=Kp.mk hT;have kz:=Kp.mk hsz;have kL:=Kp.mk hLs;have kM:=Kp.mk hMs;have kN:=Kp.mk hMl;have kb:=Kp.mk hbd2;have kl:=Kp.mk hLl;rw[←hMe];clear hT hsz hLs hMs hMl hbd2 hL hM hcst hLl hw hMe hfit hfs;refine rv (N:=56) hm (G:=G) kT.out 74000 qWz yi Tryz.func74 rfl ?_
 repeat'(first|refine rq ?_|simp only[go_sem,Tryz.f74])
 refine fa (gr (id:=(74003,0)) (t:=3) (b:=true) (ys:=[.i .i64 f.kind,.s f.name.l,.sl (f.words.map enc),.sl (f.subs.map enc)]) qQi qQi) ?_
 refine cI hm (G:=G) kT.out 74000 qWz (ι:=eO f.words.length fun _=>True)
  ⟨fun q=>⟨frL [(1,eS bd),(2,eS (L q.i)),(3,.rp (qcF f)),(11,eS f.words),(12,eI f.words.length),(13,eI q.i)],hpL [],1⟩,fun q=>f.words.length-q.i⟩
  ⟨0,ae,trivial⟩ ah ?_ ?_
 ·refine bF ?_ ?_ ?_<;>simp only[go_sem,hL0]
 rintro⟨i,hi,_⟩
 try simp only at hi
 rcases aA i f.words.length with h1|h1
 ·have hls:=kL.out i h1;have hll2:=kl.out i;obtain⟨w,hwi⟩:∃w,f.words[i]=w:=⟨_,rfl⟩;rw[hwi]at hls;by_cases hin:w∈bd
  ·rw[aF hin]at hls
   repeat'(first|refine rq ?_|simp only[go_sem,h1,hwi,hin,bn,bh,Tryz.f74])
   refine⟨⟨i+1,ae,trivial⟩,af,?_⟩;refine bF ?_ ?_ ?_<;>simp only[go_sem,hls]
  ·rw[az hin]at hls
   repeat'(first|refine rq ?_|simp only[go_sem,h1,hwi,hin,bn,bh,Tryz.f74])
   refine⟨⟨i+1,ae,trivial⟩,af,?_⟩;refine bF ?_ ?_ ?_<;>simp only[go_sem,hls]
 ·obtain rfl:i=f.words.length:=ae
  by_cases hq:isQ f.kind
  case' pos=>
   have hb2:=kb.out;rw[aF hq]at hb2;unfold isQ at hq;have hq8:((f.kind=8)=True∧(f.kind=8)=True)∨((f.kind=8)=False∧(f.kind=9)=True):=by
    rcases hq with h|h
    ·grind
    ·grind
   rcases hq8 with⟨h8,h9⟩|⟨h8,h9⟩
   all_goals
    repeat'(first|refine rq ?_|simp only[go_sem,h8,h9,hlw,aC,Tryz.f74])
   all_goals
    refine ru hm (G:=G) kT.out 74000 qWz zM ?_
    repeat'(first|apply au|refine rq ?_|refine rx (dZ qQb ai) ?_|simp only[go_sem,zM,hlw,Tryz.f74])
  case' neg=>
   have hb2:=kb.out;rw[az hq]at hb2;unfold isQ at hq;have h8:(f.kind=8)=False:=ap
   have h9:(f.kind=9)=False:=ap
   repeat'(first|refine rq ?_|simp only[go_sem,h8,h9,hlw,aC,Tryz.f74])
  all_goals
   refine cI hm (G:=G) kT.out 74000 qWz (ι:=eO f.subs.length fun _=>True)
    ⟨fun q=>⟨frL [(1,eS bd2),(2,eS (M q.i)),(3,.rp (qcF f)),(42,eI f.subs.length),(43,eI q.i)],hpL [],100⟩,fun q=>f.subs.length-q.i⟩
    ⟨0,ae,trivial⟩ ah ?_ ?_
   ·refine pj (CM (l:=[(1,.fz (.sl (bd2.map enc))),(2,.fz (.sl (lw.map enc))),(3,.rp [.i .i64 f.kind,.s f.name.l,.sl (f.words.map enc),.sl (f.subs.map enc)]),(42,.fz (.i .i64 f.subs.length)),(43,.fz (.i .i64 0))]) (by simp only[go_sem,←hb2,aE])) (bF ?_ ?_ ?_)<;>simp only[go_sem,hM0]
   rintro⟨j,hj,_⟩
   try simp only at hj
   rcases aA j f.subs.length with h2|h2
   ·have hms:=kM.out j h2;have hmn:=kN.out j h2;have hsz:=(kz.out _ (aT h2)).1;obtain⟨x,hx⟩:∃x,f.subs[j]=x:=⟨_,rfl⟩;rw[hx]at hms hmn hsz
    repeat'(first|refine rq ?_|refine rx ⟨hsz,hmn⟩ ?_|simp only[go_sem,h2,hx,hsz,bh,Tryz.f74])
    refine⟨⟨j+1,ae,trivial⟩,af,?_⟩;refine bF ?_ ?_ ?_<;>simp only[go_sem,hms]
   ·obtain rfl:j=f.subs.length:=ae
    repeat'(first|refine rq ?_|simp only[go_sem,aC,Tryz.f74])
def A19:Tbl:=A18.add 46 (sp1 (fun f=>iH f [] []) fun f=>f.fit=true∧f.size≤1000)
attribute [go_sem] A19
theorem Un:b9 Tryz.prog G A19:=by
 refine iD yh Gf fun f hpre _=>?_;have hp:vA f [] []:=⟨hpre.1,ap,ap⟩;refine ym (N:=5) hm (G:=G) Gf 46000 qWi yh Tryz.func46 rfl rfl ak qQi ?_
 repeat'(first|refine rq ?_|apply rx hp|simp only[go_sem,Tryz.f46])
end
end Go.Proofs.YtnijhilfchekkaaGreatDoor
