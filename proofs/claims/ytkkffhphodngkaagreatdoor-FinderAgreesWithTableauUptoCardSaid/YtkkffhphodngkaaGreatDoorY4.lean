/- several texts of this proof in one; no conditions -/
import Derived.Test.YtkkffhphodngkaaGreatDoorAT
import Derived.Test.YtkkffhphodngkaaGreatDoorY3
import Derived.Test.YtkkffhphodngkaaGreatDoorVS
import Derived.Test.YtkkffhphodngkaaGreatDoorVP
import Derived.Test.YtkkffhphodngkaaGreatDoorY2
import Derived.Test.YtkkffhphodngkaaGreatDoorTB
import Derived.Test.YtkkffhphodngkaaGreatDoorY9
import Derived.Test.YtkkffhphodngkaaGreatDoorY14
import Derived.Test.YtkkffhphodngkaaGreatDoorAC
set_option maxRecDepth 100000
set_option maxHeartbeats 1000000
set_option linter.unusedSimpArgs false
namespace Go.Abs
open Go
end Go.Abs
namespace Go.Proofs.YtkkffhphodngkaaGreatDoor
open Go Go.Abs Go.Proofs
section
variable {G:Nat→List FD}
def A20:Tbl:=A19
attribute [go_sem] A20
theorem zK1:zan Tryz.prog G A20:=zK0
end
end Go.Proofs.YtkkffhphodngkaaGreatDoor
namespace Go.Abs
open Go
end Go.Abs
namespace Go.Proofs.YtkkffhphodngkaaGreatDoor
open Go Go.Abs Go.Proofs
section
variable {G:Nat→List FD}
def A21:Tbl:=A20
attribute [go_sem] A21
theorem zGj:zan Tryz.prog G A21:=zK1
end
end Go.Proofs.YtkkffhphodngkaaGreatDoor
namespace Go.Abs
open Go
structure zNx (T n0:Nat)(X:zdo)(i:Int)(inv:Nat→Prop) where
 k:Nat
 c:Int
 m:Nat
 hm:n0≤m
 h:(c=0∧k≤T∧inv k)∨(c≠0∧X=⟨c,i⟩)
end Go.Abs
namespace Go.Proofs.YtkkffhphodngkaaGreatDoor
open Go Go.Abs Go.Proofs
section
variable {G:Nat→List FD}
def A22:Tbl:=A21
attribute [go_sem] A22
theorem zK2:zan Tryz.prog G A22:=zGj
end
end Go.Proofs.YtkkffhphodngkaaGreatDoor
namespace Go.Abs
open Go
structure zHw (m:zaB):Prop where
 v:zAw m
 cv:∀c∈m.consts,0≤c.value∧c.value<m.size
 ar:∀r∈m.rels,0≤r.arity∧r.arity≤3
 tv:∀r∈m.rels,∀t∈r.tuples,(t.length:Int)=r.arity∧∀v∈t,0≤v∧v<m.size
structure vsP (m:zaB)(f:zab):Prop where
 m:zAw m
 v:vok f
 s:szP f
 e:zco f≤800
section
variable {P:Program} {G:Nat→List FD} {T:Tbl}
def zL6 {α β γ δ ρ σ:Type}[Enc α][Enc β][Enc γ][Enc δ][Enc ρ][Enc σ](f:α→β→γ→δ→ρ×σ)(pre:α→β→γ→δ→Prop):List FD→Option (D×Prop)
 |[x,y,z,w]=>some (.tup [.fz (enc (f (dec x) (dec y) (dec z) (dec w)).1),.fz (enc (f (dec x) (dec y) (dec z) (dec w)).2)],x=enc (dec (α:=α) x)∧y=enc (dec (α:=β) y)∧z=enc (dec (α:=γ) z)∧w=enc (dec (α:=δ) w)∧pre (dec x) (dec y) (dec z) (dec w))
 |_=>none
@[go_sem] theorem zJr {α β γ δ ρ σ:Type}[Enc α][Enc β][Enc γ][Enc δ][Enc ρ][Enc σ]{f:α→β→γ→δ→ρ×σ}{pre:α→β→γ→δ→Prop}{x y z w:FD}:zL6 f pre [x,y,z,w]=some (.tup [.fz (enc (f (dec x) (dec y) (dec z) (dec w)).1),.fz (enc (f (dec x) (dec y) (dec z) (dec w)).2)],x=enc (dec (α:=α) x)∧y=enc (dec (α:=β) y)∧z=enc (dec (α:=γ) z)∧w=enc (dec (α:=δ) w)∧pre (dec x) (dec y) (dec z) (dec w)):=rfl
end
end Go.Abs
namespace Go.Proofs.YtkkffhphodngkaaGreatDoor
open Go Go.Abs Go.Proofs
section
variable {G:Nat→List FD}
def B22:Tbl:=A21
attribute [go_sem] B22
theorem zK3:zan Tryz.prog G B22:=zGj
def B23:Tbl:=B22
attribute [go_sem] B23
theorem zK4:zan Tryz.prog G B23:=zK3
def B24:Tbl:=B23
attribute [go_sem] B24
theorem zK5:zan Tryz.prog G B24:=zK4
end
end Go.Proofs.YtkkffhphodngkaaGreatDoor
namespace Go.Proofs.YtkkffhphodngkaaGreatDoor
open Go Go.Abs Go.Proofs
section
variable {G:Nat→List FD}
def B25:Tbl:=B24
attribute [go_sem] B25
theorem zK6:zan Tryz.prog G B25:=zK5
end
section
variable {G:Nat→List FD}
def B26:Tbl:=B25
attribute [go_sem] B26
theorem zIB:zan Tryz.prog G B26:=zK6
def B27:Tbl:=B26.add 7 (sp1 zbD fun _=>True)
attribute [go_sem] B27
theorem zK7:zan Tryz.prog G B27:=by
 refine zbE ok7 zIB fun f _ _=>?_
 simp only[zbD]
 refine zag (N:=6) hm (G:=G) zIB 7000 (lst []) ok7 Tryz.func7 rfl rfl (by simp) (by kernel_rfl) ?_
 repeat'(first|refine rq fun _=>?_|simp only[go_sem,zac,Tryz.f7])
end
end Go.Proofs.YtkkffhphodngkaaGreatDoor
namespace Go.Proofs.YtkkffhphodngkaaGreatDoor
open Go Go.Abs Go.Proofs
section
variable {G:Nat→List FD}
def E1:Tbl:=Tbl.or B27 A22
attribute [go_sem] E1
theorem hE1:zan Tryz.prog G E1:=zkm zK7 zK2
def E2:Tbl:=E1
attribute [go_sem] E2
theorem hE2:zan Tryz.prog G E2:=hE1
def E3:Tbl:=E2
attribute [go_sem] E3
theorem hE3:zan Tryz.prog G E3:=hE2
end
end Go.Proofs.YtkkffhphodngkaaGreatDoor
namespace Go.Proofs.YtkkffhphodngkaaGreatDoor
open Go Go.Abs Go.Proofs
section
variable {G:Nat→List FD}
theorem zDA {n:Nat}{d:D}:(List.range n).map (fun j=>[d].getD (j % 1) .junk)=List.replicate n d:=by
 simp[Nat.mod_one,List.map_const']
theorem zu4 {n:Nat}:List.replicate n (D.fz (.b false))=zad ((List.replicate n false).map enc):=by
 rw[zbc];simp[zwG]
structure zN9 (m:zaB)(f:Abs.zab)(vars:List Str):Prop where
 gd:zHw m
 vk:vok f
 sz:szP f
 nl:vars.length+zco f≤6
 cs:∀c∈cst f vars,(zoL m c).isSome=true
end
end Go.Proofs.YtkkffhphodngkaaGreatDoor
namespace Go.Proofs.YtkkffhphodngkaaGreatDoor
open Go Go.Abs Go.Proofs
section
variable {G:Nat→List FD}
theorem zDN {α:Type}{l:List α}(h:l.length=1):∃a,l=[a]:=by
 match l,h with
 |[a],_=>exact⟨a,rfl⟩
theorem zEg {α:Type}{l:List α}(h:l.length=2):∃a b,l=[a,b]:=by
 match l,h with
 |[a,b],_=>exact⟨a,b,rfl⟩
end
end Go.Proofs.YtkkffhphodngkaaGreatDoor
namespace Go.Proofs.YtkkffhphodngkaaGreatDoor
open Go Go.Abs Go.Proofs
section
variable {G:Nat→List FD}
end
end Go.Proofs.YtkkffhphodngkaaGreatDoor
namespace Go.Proofs.YtkkffhphodngkaaGreatDoor
open Go Go.Abs Go.Proofs
section
variable {G:Nat→List FD}
end
end Go.Proofs.YtkkffhphodngkaaGreatDoor
namespace Go.Proofs.YtkkffhphodngkaaGreatDoor
open Go Go.Abs Go.Proofs
section
variable {G:Nat→List FD}
def E4:Tbl:=E3
attribute [go_sem] E4
theorem hE4:zan Tryz.prog G E4:=hE3
def E5:Tbl:=E4
attribute [go_sem] E5
def E6:Tbl:=E5
attribute [go_sem] E6
end
end Go.Proofs.YtkkffhphodngkaaGreatDoor
namespace Go.Proofs.YtkkffhphodngkaaGreatDoor
open Go Go.Abs Go.Proofs
section
variable {G:Nat→List FD}
def I1:Tbl:=E4
attribute [go_sem] I1
theorem hI1:zan Tryz.prog G I1:=hE4
def zBS (a n:Int):Int:=((a.toNat^n.toNat:Nat):Int)
theorem zo9 {a n:Int}(h1:1≤a)(h4:a≤4)(h0:0≤n)(h3:n≤3):∀i:Nat,(i:Int)≤n→1≤a.toNat^i∧a.toNat^i≤64:=fun i hi=>by
 have e:a.toNat^i≤4^3:=Nat.le_trans (Nat.pow_le_pow_left (by omega) i) (Nat.pow_le_pow_right (by omega) (by omega))
 exact⟨Nat.pow_pos (by omega),e⟩
def I2:Tbl:=I1.add 60 (sp2 zBS fun a n=>(1≤a∧a≤4)∧0≤n∧n≤3)
attribute [go_sem] I2
theorem hI2:zan Tryz.prog G I2:=by
 refine zcx zJ6 hI1 fun a n hp _ _=>?_
 obtain⟨⟨ha1,ha4⟩,hn0,hn3⟩:=hp
 have hpw:=zo9 ha1 ha4 hn0 hn3
 obtain⟨N,hN⟩:∃N:Nat,n=(N:Int):=⟨n.toNat,by omega⟩
 subst hN
 obtain⟨A,hA⟩:∃A:Nat,a=(A:Int):=⟨a.toNat,by omega⟩
 subst hA
 simp only[Int.toNat_natCast]at hpw
 obtain⟨P,hP⟩:∃P:Nat→Nat,P=fun i=>A^i:=⟨_,rfl⟩
 have hP0:P 0=1:=by rw[hP];rfl
 have hPs:∀i,P i*A=P (i+1):=fun i=>by rw[hP];exact(Nat.pow_succ ..).symm
 have hPl:∀i,i≤N→1≤P i∧P i≤64:=fun i hi=>by rw[hP];exact hpw i (by omega)
 have hPN:zBS A N=(P N:Int):=by rw[hP];unfold zBS;rw[Int.toNat_natCast,Int.toNat_natCast]
 rw[hPN]
 clear hP hpw hPN
 have kl:=Kp.mk hPl
 have ks:=Kp.mk hPs
 clear hPl hPs
 refine zag (N:=14) hm hI1 60000 (lst []) zJ6 Tryz.func60 rfl rfl (by simp) (by kernel_rfl) ?_
 repeat'(first|refine And.intro ?_ ?_|exact True.intro|refine rq fun _=>?_|refine rf fun _=>?_|simp only[go_sem,Tryz.f60])
 refine zaq hm hI1 60000 (lst []) (ι:=zhD N fun _=>True)
  ⟨fun q=>⟨frL [(0,.fz (.i .i64 A)),(5,.fz (.i .i64 (P q.i))),(6,.fz (.i .i64 N)),(7,.fz (.i .i64 q.i))],hpL [],0⟩,fun q=>N-q.i⟩
  ⟨0,by omega,trivial⟩ (by kernel_rfl) ?_ ?_
 ·refine zaj ?_ ?_ ?_<;>simp only[go_sem,hP0]
  all_goals first|done|rfl|omega
 rintro⟨i,hi,_⟩
 try simp only at hi
 rcases Nat.lt_or_ge i N with h1|h1
 ·have h2:=kl.out i hi
  have h3:=kl.out (i+1) (by omega)
  have h4:=ks.out i
  have h5:((P i:Nat):Int)*(A:Int)=((P (i+1):Nat):Int):=by rw[←h4];simp
  have h6:((i:Int)<(N:Int))=True:=eq_true (by omega)
  repeat'(first|refine And.intro ?_ ?_|exact True.intro|refine rq fun _=>?_|refine rf fun _=>?_|simp only[go_sem,h5,h6,Tryz.f60])
  refine⟨⟨i+1,by omega,trivial⟩,by simp only;omega,?_⟩
  refine zaj ?_ ?_ ?_<;>simp only[go_sem]
  all_goals first|done|rfl|omega
 ·obtain rfl:i=N:=by omega
  repeat'(first|refine And.intro ?_ ?_|exact True.intro|refine rq fun _=>?_|refine rf fun _=>?_|simp only[go_sem,Int.lt_irrefl,Tryz.f60])
  all_goals first|done|rfl|omega
structure zF3 (m:zaB)(l:List Abs.zab):Prop where
 m:zAw m
 f:∀f∈l,(zaw false f).code=0∧zco f≤5
 l:l.length≤1000
theorem zwk {m:zaB}{l:List Abs.zab}(h:zF3 m l){f:Abs.zab}(hf:f∈l):zyg m f []:=⟨h.m,zb4 (h.f f hf).1,⟨zb3 (h.f f hf).1,by have:=za7 (h.f f hf).1;omega⟩,by have:=(h.f f hf).2;simp only[List.length_nil];omega⟩
def I3:Tbl:=I2.add 42 (sp2 (fun m l=>okF l m) zF3)
attribute [go_sem] I3
theorem hI3:zan Tryz.prog G I3:=by
 refine zcx zJW hI2 fun m l hp _ _=>?_
 have hsl:=hp.l
 have kp:=Kp.mk hp
 clear hp
 refine zag (N:=18) hm hI2 42000 (lst []) zJW Tryz.func42 rfl rfl (by simp) (by kernel_rfl) ?_
 repeat'(first|refine And.intro ?_ ?_|exact True.intro|refine rq fun _=>?_|refine rf fun _=>?_|simp only[go_sem,zac,zae,zai,zaa,Tryz.f42])
 refine zaq hm hI2 42000 (lst []) (ι:=zd7 l.length 1 fun i=>(l.take i).all (fun f=>zaT m f [])=true)
  ⟨fun q=>⟨frL [(2,.ptr (42002,0) 0),(7,.fz (.sl (l.map enc))),(8,.fz (.i .i64 l.length)),(9,.fz (.i .i64 q.i))],hpL [((42002,0),some ⟨[.fz (.i .i64 m.size),.fz (.sl (m.consts.map enc)),.fz (.sl (m.rels.map enc))],true,false⟩)],q.m⟩,fun q=>l.length-q.i⟩
  ⟨0,1,by omega,by omega,by simp⟩ (by kernel_rfl) ?_ ?_
 ·refine zaj ?_ ?_ ?_<;>simp only[go_sem]
  all_goals first|done|rfl|omega
 rintro⟨i,q,hi,hq,ha⟩
 try simp only at hi hq ha
 rcases Nat.lt_or_ge i l.length with h1|h1
 ·obtain⟨x,hx⟩:∃x,l[i]=x:=⟨_,rfl⟩
  have hxv:zyg m x []:=zwk kp.out (by rw[←hx];exact List.getElem_mem h1)
  obtain⟨v,hv⟩:∃v,zaT m x []=v:=⟨_,rfl⟩
  cases v with
  |true=>
   repeat'(first|refine zaJ.i hxv fun _=>?_|refine And.intro ?_ ?_|exact True.intro|refine rq fun _=>?_|refine rf fun _=>?_|simp only[go_sem,h1,hx,hv,zac,zae,zai,zaa,Tryz.f42])
   refine⟨⟨i+1,q+1,by omega,by omega,by rw[List.take_succ_eq_append_getElem h1,List.all_append,ha,hx];simp[hv]⟩,by simp only;omega,?_⟩
   refine zaj ?_ ?_ ?_<;>simp only[go_sem]
   all_goals first|done|rfl|omega
  |false=>
   have e:okF l m=false:=by
    unfold okF
    rw[List.all_eq_false]
    exact⟨x,by rw[←hx];exact List.getElem_mem h1,by simp[hv]⟩
   repeat'(first|refine zaJ.i hxv fun _=>?_|refine And.intro ?_ ?_|exact True.intro|refine rq fun _=>?_|refine rf fun _=>?_|simp only[go_sem,h1,hx,hv,e,zac,zae,zai,zaa,Tryz.f42])
   all_goals first|done|rfl|omega
 ·obtain rfl:i=l.length:=by omega
  rw[List.take_length]at ha
  have e:okF l m=true:=ha
  repeat'(first|refine And.intro ?_ ?_|exact True.intro|refine rq fun _=>?_|refine rf fun _=>?_|simp only[go_sem,Nat.lt_irrefl,e,zac,zae,zai,zaa,Tryz.f42])
  all_goals first|done|rfl|omega
theorem zzr {l:List Abs.zab}:∀(k:Nat) (i:Nat) (_:i<l.length),(∀f∈l.take i,(zaw false f).code=0∧zco f≤5)→zrh l k=zrh (l.drop i) (k+i):=by
 intro k i
 induction i with
 |zero=>intro _ _;rfl
 |succ i ih=>
  intro h hp
  rw[List.take_succ_eq_append_getElem (by omega)]at hp
  have h2:=hp l[i] (List.mem_append_right _ (List.mem_singleton.2 rfl))
  rw[ih (by omega) fun f hf=>hp f (List.mem_append_left _ hf),List.drop_eq_getElem_cons (by omega),zrh,if_neg (by simp[h2.1]),if_neg (by omega)]
  rfl
theorem zwm {l:List Abs.zab}:∀(k:Nat),(∀f∈l,(zaw false f).code=0∧zco f≤5)→zrh l k=⟨0,0⟩:=by
 induction l with
 |nil=>intro _ _;rfl
 |cons f l ih=>
  intro k h
  have h2:=h f (by simp)
  rw[zrh,if_neg (by simp[h2.1]),if_neg (by omega)]
  exact ih _ fun g hg=>h g (by simp[hg])
def I4:Tbl:=I3.add 17 (sp2 zb1 fun _ _=>True)
attribute [go_sem] I4
set_option maxHeartbeats 4000000 in
theorem hI4:zan Tryz.prog G I4:=by
 refine zcx zHC hI3 fun l size _ hwl _=>?_
 have hsl:l.length≤zbh:=by
  have:=zdZ hwl
  simpa using this
 unfold zbh at hsl
 clear hwl
 by_cases h41:41<l.length
 ·have e:zb1 l size=⟨2, -1⟩:=by unfold zb1;rw[if_pos h41]
  have h41':((41:Int)<l.length)=True:=eq_true (by omega)
  rw[e]
  refine zag (N:=42) hm hI3 17000 (lst []) zHC Tryz.func17 rfl rfl (by simp) (by kernel_rfl) ?_
  repeat'(first|refine And.intro ?_ ?_|exact True.intro|refine rq fun _=>?_|refine rf fun _=>?_|simp only[go_sem,h41',zac,zae,zai,zaa,Tryz.f17])
  all_goals first|done|rfl|omega
 have h41':((41:Int)<l.length)=False:=eq_false (by omega)
 refine zag (N:=42) hm hI3 17000 (lst []) zHC Tryz.func17 rfl rfl (by simp) (by kernel_rfl) ?_
 repeat'(first|refine And.intro ?_ ?_|exact True.intro|refine rq fun _=>?_|refine rf fun _=>?_|simp only[go_sem,h41',zac,zae,zai,zaa,Tryz.f17])
 refine zaq hm hI3 17000 (lst []) (ι:=zd7 l.length 1 fun i=>∀f∈l.take i,(zaw false f).code=0∧zco f≤5)
  ⟨fun q=>⟨frL [(0,.fz (.sl (l.map enc))),(1,.fz (.i .i64 size)),(4,.ptr (17004,0) 0),(12,.fz (.sl (l.map enc))),(13,.fz (.i .i64 l.length)),(14,.fz (.i .i64 q.i))],hpL [((17004,0),some ⟨[.fz (.i .i64 0),.fz (.i .i64 0)],true,false⟩)],q.m⟩,fun q=>l.length-q.i⟩
  ⟨0,1,by omega,by omega,by simp⟩ (by kernel_rfl) ?_ ?_
 ·refine zaj ?_ ?_ ?_<;>simp only[go_sem]
  all_goals first|done|rfl|omega
 rintro⟨i,m,hi,hm1,hp⟩
 try simp only at hi hm1 hp
 rcases Nat.lt_or_ge i l.length with h1|h1
 ·obtain⟨x,hx⟩:∃x,l[i]=x:=⟨_,rfl⟩
  have eb:=zzr 0 i h1 hp
  rw[List.drop_eq_getElem_cons h1,hx,zrh,Nat.zero_add]at eb
  have hpx:szP x∨True:= .inr trivial
  by_cases hc:(zaw false x).code=0
  rotate_left
  ·rw[if_pos hc]at eb
   have e:zb1 l size=⟨(zaw false x).code,(i:Int)⟩:=by unfold zb1;rw[if_neg h41,eb,if_pos hc]
   rw[e]
   obtain⟨X,hX⟩:∃X,zaw false x=X:=⟨_,rfl⟩
   rw[hX]at hc
   rw[hX]
   have hc':(X.code=0)=False:=eq_false hc
   repeat'(first|refine And.intro ?_ ?_|exact True.intro|refine rq fun _=>?_|refine rf fun _=>?_|simp only[go_sem,h1,hx,hX,hc',zac,zae,zai,zaa,Tryz.f17])
   all_goals first|done|rfl|omega
  ·have hcz:=zew hc
   rw[if_neg (by simp[hc])]at eb
   have hsz:szP x:=⟨zb3 hc,by have:=za7 hc;omega⟩
   by_cases hn:5<zco x
   ·rw[if_pos hn]at eb
    have hn':((5:Int)<(zco x:Int))=True:=eq_true (by omega)
    have e:zb1 l size=⟨17,(i:Int)⟩:=by unfold zb1;rw[if_neg h41,eb,if_pos (by simp)]
    rw[e]
    repeat'(first|refine zaJ.i hsz fun _=>?_|refine And.intro ?_ ?_|exact True.intro|refine rq fun _=>?_|refine rf fun _=>?_|simp only[go_sem,h1,hx,hcz,hn',zac,zae,zai,zaa,Tryz.f17])
    all_goals first|done|rfl|omega
   ·have hn':((5:Int)<(zco x:Int))=False:=eq_false (by omega)
    repeat'(first|refine zaJ.i hsz fun _=>?_|refine And.intro ?_ ?_|exact True.intro|refine rq fun _=>?_|refine rf fun _=>?_|simp only[go_sem,h1,hx,hcz,hn',zac,zae,zai,zaa,Tryz.f17])
    refine⟨⟨i+1,m+2,by omega,by omega,?_⟩,by simp only;omega,?_⟩
    ·rw[List.take_succ_eq_append_getElem h1,hx]
     intro f hf
     rcases List.mem_append.1 hf with hf|hf
     ·exact hp f hf
     ·rw[List.mem_singleton.1 hf];exact⟨hc,by omega⟩
    refine zaj ?_ ?_ ?_<;>simp only[go_sem]
    all_goals first|done|rfl|omega
 ·obtain rfl:i=l.length:=by omega
  rw[List.take_length]at hp
  have eb:=zwm 0 hp
  by_cases hs1:size<1
  ·have hs1':(size<1)=True:=eq_true hs1
   have e:zb1 l size=⟨3, -2⟩:=by unfold zb1;rw[if_neg h41,eb,if_neg (by simp),if_pos (.inl hs1)]
   rw[e]
   repeat'(first|refine And.intro ?_ ?_|exact True.intro|refine rq fun _=>?_|refine rf fun _=>?_|simp only[go_sem,Nat.lt_irrefl,hs1',zac,zae,zai,zaa,Tryz.f17])
   all_goals first|done|rfl|omega
  have hs1':(size<1)=False:=eq_false hs1
  by_cases hs4:4<size
  ·have hs4':(4<size)=True:=eq_true hs4
   have e:zb1 l size=⟨3, -2⟩:=by unfold zb1;rw[if_neg h41,eb,if_neg (by simp),if_pos (.inr hs4)]
   rw[e]
   repeat'(first|refine And.intro ?_ ?_|exact True.intro|refine rq fun _=>?_|refine rf fun _=>?_|simp only[go_sem,Nat.lt_irrefl,hs1',hs4',zac,zae,zai,zaa,Tryz.f17])
   all_goals first|done|rfl|omega
  ·have hs4':(4<size)=False:=eq_false hs4
   have e:zb1 l size=⟨0,0⟩:=by unfold zb1;rw[if_neg h41,eb,if_neg (by simp),if_neg (by omega)]
   rw[e]
   repeat'(first|refine And.intro ?_ ?_|exact True.intro|refine rq fun _=>?_|refine rf fun _=>?_|simp only[go_sem,Nat.lt_irrefl,hs1',hs4',zac,zae,zai,zaa,Tryz.f17])
   all_goals first|done|rfl|omega
def I5:Tbl:=I4
attribute [go_sem] I5
theorem hI5:zan Tryz.prog G I5:=hI4
end
end Go.Proofs.YtkkffhphodngkaaGreatDoor
