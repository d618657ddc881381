import Derived.Test.YtkkffhphodngkaaDoorAT
import Derived.Test.YtkkffhphodngkaaDoorY13
import Derived.Test.YtkkffhphodngkaaDoorY11
import Derived.Test.YtkkffhphodngkaaDoorAC
set_option maxRecDepth 100000
set_option maxHeartbeats 1000000
set_option linter.unusedSimpArgs false
namespace Go.Proofs.YtkkffhphodngkaaDoor
open Go Go.Abs Go.Proofs
section
variable {G:Nat→List FD}
theorem zxE (m:zal)(f:Abs.zaf):zcJ m f []=[zbY m f []]:=by
 unfold zcJ zcf zhn zaR
 rfl
def I1:Tbl:=E4.add 25 (sp2 (fun m f=>zbY m f []) fun m f=>zg8 m f [])
attribute [go_sem] I1
theorem hI1:zan Tryd.prog G I1:=by
 refine zbq zFS hE4 fun m f hp _ _=>?_
 have ht:=zxE m f
 refine zah (N:=10) hm hE4 25000 (lst []) zFS Tryd.func25 rfl rfl (by simp) (by kernel_rfl) ?_
 repeat'(first|refine zaB.i hp fun _=>?_|refine And.intro ?_ ?_|exact True.intro|refine rq fun _=>?_|refine rf fun _=>?_|simp only[go_sem,zad,zac,zab,zaa,ht,Tryd.f25])
 all_goals first|done|rfl|omega
def zyB (a n:Int):Int:=((a.toNat^n.toNat:Nat):Int)
theorem znA {a n:Int}(h1:1≤a)(h4:a≤4)(h0:0≤n)(h3:n≤3):∀i:Nat,(i:Int)≤n→1≤a.toNat^i∧a.toNat^i≤64:=fun i hi=>by
 have e:a.toNat^i≤4^3:=Nat.le_trans (Nat.pow_le_pow_left (by omega) i) (Nat.pow_le_pow_right (by omega) (by omega))
 exact⟨Nat.pow_pos (by omega),e⟩
def I2:Tbl:=I1.add 63 (sp2 zyB fun a n=>(1≤a∧a≤4)∧0≤n∧n≤3)
attribute [go_sem] I2
theorem hI2:zan Tryd.prog G I2:=by
 refine zbq zGd hI1 fun a n hp _ _=>?_
 obtain⟨⟨ha1,ha4⟩,hn0,hn3⟩:=hp
 have hpw:=znA ha1 ha4 hn0 hn3
 obtain⟨N,hN⟩:∃N:Nat,n=(N:Int):=⟨n.toNat,by omega⟩
 subst hN
 obtain⟨A,hA⟩:∃A:Nat,a=(A:Int):=⟨a.toNat,by omega⟩
 subst hA
 simp only[Int.toNat_natCast]at hpw
 obtain⟨P,hP⟩:∃P:Nat→Nat,P=fun i=>A^i:=⟨_,rfl⟩
 have hP0:P 0=1:=by rw[hP];rfl
 have hPs:∀i,P i*A=P (i+1):=fun i=>by rw[hP];exact(Nat.pow_succ ..).symm
 have hPl:∀i,i≤N→1≤P i∧P i≤64:=fun i hi=>by rw[hP];exact hpw i (by omega)
 have hPN:zyB A N=(P N:Int):=by rw[hP];unfold zyB;rw[Int.toNat_natCast,Int.toNat_natCast]
 rw[hPN]
 clear hP hpw hPN
 have kl:=Kp.mk hPl
 have ks:=Kp.mk hPs
 clear hPl hPs
 refine zah (N:=14) hm hI1 63000 (lst []) zGd Tryd.func63 rfl rfl (by simp) (by kernel_rfl) ?_
 repeat'(first|refine And.intro ?_ ?_|exact True.intro|refine rq fun _=>?_|refine rf fun _=>?_|simp only[go_sem,Tryd.f63])
 refine zai hm hI1 63000 (lst []) (ι:=za5 N fun _=>True)
  ⟨fun q=>⟨frL [(0,.fz (.i .i64 A)),(5,.fz (.i .i64 (P q.i))),(6,.fz (.i .i64 N)),(7,.fz (.i .i64 q.i))],hpL [],0⟩,fun q=>N-q.i⟩
  ⟨0,by omega,trivial⟩ (by kernel_rfl) ?_ ?_
 ·refine zag ?_ ?_ ?_<;>simp only[go_sem,hP0]
  all_goals first|done|rfl|omega
 rintro⟨i,hi,_⟩
 try simp only at hi
 rcases Nat.lt_or_ge i N with h1|h1
 ·have h2:=kl.out i hi
  have h3:=kl.out (i+1) (by omega)
  have h4:=ks.out i
  have h5:((P i:Nat):Int)*(A:Int)=((P (i+1):Nat):Int):=by rw[←h4];simp
  have h6:((i:Int)<(N:Int))=True:=eq_true (by omega)
  repeat'(first|refine And.intro ?_ ?_|exact True.intro|refine rq fun _=>?_|refine rf fun _=>?_|simp only[go_sem,h5,h6,Tryd.f63])
  refine⟨⟨i+1,by omega,trivial⟩,by simp only;omega,?_⟩
  refine zag ?_ ?_ ?_<;>simp only[go_sem]
  all_goals first|done|rfl|omega
 ·obtain rfl:i=N:=by omega
  repeat'(first|refine And.intro ?_ ?_|exact True.intro|refine rq fun _=>?_|refine rf fun _=>?_|simp only[go_sem,Int.lt_irrefl,Tryd.f63])
  all_goals first|done|rfl|omega
structure zCv (m:zal)(l:List Abs.zaf):Prop where
 m:zsd m
 f:∀f∈l,(zaA false f).code=0∧zbf f≤5
 l:l.length≤1000
theorem znT {m:zal}{l:List Abs.zaf}(h:zCv m l){f:Abs.zaf}(hf:f∈l):ztt m f []:=⟨h.m,zdR (h.f f hf).1,⟨zbN (h.f f hf).1,by have:=zaT (h.f f hf).1;omega⟩,by have:=(h.f f hf).2;simp only[List.length_nil];omega⟩
def I3:Tbl:=I2.add 36 (sp2 (fun m l=>okF l m) zCv)
attribute [go_sem] I3
theorem hI3:zan Tryd.prog G I3:=by
 refine zbq zFZ hI2 fun m l hp _ _=>?_
 have hsl:=hp.l
 have kp:=Kp.mk hp
 clear hp
 refine zah (N:=18) hm hI2 36000 (lst []) zFZ Tryd.func36 rfl rfl (by simp) (by kernel_rfl) ?_
 repeat'(first|refine And.intro ?_ ?_|exact True.intro|refine rq fun _=>?_|refine rf fun _=>?_|simp only[go_sem,zad,zac,zab,zaa,Tryd.f36])
 refine zai hm hI2 36000 (lst []) (ι:=zbG l.length 1 fun i=>(l.take i).all (fun f=>zbY m f [])=true)
  ⟨fun q=>⟨frL [(2,.ptr (36002,0) 0),(7,.fz (.sl (l.map enc))),(8,.fz (.i .i64 l.length)),(9,.fz (.i .i64 q.i))],hpL [((36002,0),some ⟨[.fz (.i .i64 m.size),.fz (.sl (m.consts.map enc)),.fz (.sl (m.rels.map enc))],true,false⟩)],q.m⟩,fun q=>l.length-q.i⟩
  ⟨0,1,by omega,by omega,by simp⟩ (by kernel_rfl) ?_ ?_
 ·refine zag ?_ ?_ ?_<;>simp only[go_sem]
  all_goals first|done|rfl|omega
 rintro⟨i,q,hi,hq,ha⟩
 try simp only at hi hq ha
 rcases Nat.lt_or_ge i l.length with h1|h1
 ·obtain⟨x,hx⟩:∃x,l[i]=x:=⟨_,rfl⟩
  have hxv:ztt m x []:=znT kp.out (by rw[←hx];exact List.getElem_mem h1)
  obtain⟨v,hv⟩:∃v,zbY m x []=v:=⟨_,rfl⟩
  cases v with
  |true=>
   repeat'(first|refine zaB.i hxv fun _=>?_|refine And.intro ?_ ?_|exact True.intro|refine rq fun _=>?_|refine rf fun _=>?_|simp only[go_sem,h1,hx,hv,zad,zac,zab,zaa,Tryd.f36])
   refine⟨⟨i+1,q+1,by omega,by omega,by rw[List.take_succ_eq_append_getElem h1,List.all_append,ha,hx];simp[hv]⟩,by simp only;omega,?_⟩
   refine zag ?_ ?_ ?_<;>simp only[go_sem]
   all_goals first|done|rfl|omega
  |false=>
   have e:okF l m=false:=by
    unfold okF
    rw[List.all_eq_false]
    exact⟨x,by rw[←hx];exact List.getElem_mem h1,by simp[hv]⟩
   repeat'(first|refine zaB.i hxv fun _=>?_|refine And.intro ?_ ?_|exact True.intro|refine rq fun _=>?_|refine rf fun _=>?_|simp only[go_sem,h1,hx,hv,e,zad,zac,zab,zaa,Tryd.f36])
   all_goals first|done|rfl|omega
 ·obtain rfl:i=l.length:=by omega
  rw[List.take_length]at ha
  have e:okF l m=true:=ha
  repeat'(first|refine And.intro ?_ ?_|exact True.intro|refine rq fun _=>?_|refine rf fun _=>?_|simp only[go_sem,Nat.lt_irrefl,e,zad,zac,zab,zaa,Tryd.f36])
  all_goals first|done|rfl|omega
theorem zre {l:List Abs.zaf}:∀(k:Nat) (i:Nat) (_:i<l.length),(∀f∈l.take i,(zaA false f).code=0∧zbf f≤5)→znV l k=znV (l.drop i) (k+i):=by
 intro k i
 induction i with
 |zero=>intro _ _;rfl
 |succ i ih=>
  intro h hp
  rw[List.take_succ_eq_append_getElem (by omega)]at hp
  have h2:=hp l[i] (List.mem_append_right _ (List.mem_singleton.2 rfl))
  rw[ih (by omega) fun f hf=>hp f (List.mem_append_left _ hf),List.drop_eq_getElem_cons (by omega),znV,if_neg (by simp[h2.1]),if_neg (by omega)]
  rfl
theorem znW {l:List Abs.zaf}:∀(k:Nat),(∀f∈l,(zaA false f).code=0∧zbf f≤5)→znV l k=⟨0,0⟩:=by
 induction l with
 |nil=>intro _ _;rfl
 |cons f l ih=>
  intro k h
  have h2:=h f (by simp)
  rw[znV,if_neg (by simp[h2.1]),if_neg (by omega)]
  exact ih _ fun g hg=>h g (by simp[hg])
def I4:Tbl:=I3.add 18 (sp2 zaM fun _ _=>True)
attribute [go_sem] I4
set_option maxHeartbeats 4000000 in
theorem hI4:zan Tryd.prog G I4:=by
 refine zbq zD5 hI3 fun l size _ hwl _=>?_
 have hsl:l.length≤zba:=by
  have:=zbV hwl
  simpa using this
 unfold zba at hsl
 clear hwl
 by_cases h41:41<l.length
 ·have e:zaM l size=⟨2, -1⟩:=by unfold zaM;rw[if_pos h41]
  have h41':((41:Int)<l.length)=True:=eq_true (by omega)
  rw[e]
  refine zah (N:=42) hm hI3 18000 (lst []) zD5 Tryd.func18 rfl rfl (by simp) (by kernel_rfl) ?_
  repeat'(first|refine And.intro ?_ ?_|exact True.intro|refine rq fun _=>?_|refine rf fun _=>?_|simp only[go_sem,h41',zad,zac,zab,zaa,Tryd.f18])
  all_goals first|done|rfl|omega
 have h41':((41:Int)<l.length)=False:=eq_false (by omega)
 refine zah (N:=42) hm hI3 18000 (lst []) zD5 Tryd.func18 rfl rfl (by simp) (by kernel_rfl) ?_
 repeat'(first|refine And.intro ?_ ?_|exact True.intro|refine rq fun _=>?_|refine rf fun _=>?_|simp only[go_sem,h41',zad,zac,zab,zaa,Tryd.f18])
 refine zai hm hI3 18000 (lst []) (ι:=zbG l.length 1 fun i=>∀f∈l.take i,(zaA false f).code=0∧zbf f≤5)
  ⟨fun q=>⟨frL [(0,.fz (.sl (l.map enc))),(1,.fz (.i .i64 size)),(4,.ptr (18004,0) 0),(12,.fz (.sl (l.map enc))),(13,.fz (.i .i64 l.length)),(14,.fz (.i .i64 q.i))],hpL [((18004,0),some ⟨[.fz (.i .i64 0),.fz (.i .i64 0)],true,false⟩)],q.m⟩,fun q=>l.length-q.i⟩
  ⟨0,1,by omega,by omega,by simp⟩ (by kernel_rfl) ?_ ?_
 ·refine zag ?_ ?_ ?_<;>simp only[go_sem]
  all_goals first|done|rfl|omega
 rintro⟨i,m,hi,hm1,hp⟩
 try simp only at hi hm1 hp
 rcases Nat.lt_or_ge i l.length with h1|h1
 ·obtain⟨x,hx⟩:∃x,l[i]=x:=⟨_,rfl⟩
  have eb:=zre 0 i h1 hp
  rw[List.drop_eq_getElem_cons h1,hx,znV,Nat.zero_add]at eb
  have hpx:szP x∨True:= .inr trivial
  by_cases hc:(zaA false x).code=0
  rotate_left
  ·rw[if_pos hc]at eb
   have e:zaM l size=⟨(zaA false x).code,(i:Int)⟩:=by unfold zaM;rw[if_neg h41,eb,if_pos hc]
   rw[e]
   obtain⟨X,hX⟩:∃X,zaA false x=X:=⟨_,rfl⟩
   rw[hX]at hc
   rw[hX]
   have hc':(X.code=0)=False:=eq_false hc
   repeat'(first|refine And.intro ?_ ?_|exact True.intro|refine rq fun _=>?_|refine rf fun _=>?_|simp only[go_sem,h1,hx,hX,hc',zad,zac,zab,zaa,Tryd.f18])
   all_goals first|done|rfl|omega
  ·have hcz:=zfg hc
   rw[if_neg (by simp[hc])]at eb
   have hsz:szP x:=⟨zbN hc,by have:=zaT hc;omega⟩
   by_cases hn:5<zbf x
   ·rw[if_pos hn]at eb
    have hn':((5:Int)<(zbf x:Int))=True:=eq_true (by omega)
    have e:zaM l size=⟨17,(i:Int)⟩:=by unfold zaM;rw[if_neg h41,eb,if_pos (by simp)]
    rw[e]
    repeat'(first|refine zaB.i hsz fun _=>?_|refine And.intro ?_ ?_|exact True.intro|refine rq fun _=>?_|refine rf fun _=>?_|simp only[go_sem,h1,hx,hcz,hn',zad,zac,zab,zaa,Tryd.f18])
    all_goals first|done|rfl|omega
   ·have hn':((5:Int)<(zbf x:Int))=False:=eq_false (by omega)
    repeat'(first|refine zaB.i hsz fun _=>?_|refine And.intro ?_ ?_|exact True.intro|refine rq fun _=>?_|refine rf fun _=>?_|simp only[go_sem,h1,hx,hcz,hn',zad,zac,zab,zaa,Tryd.f18])
    refine⟨⟨i+1,m+2,by omega,by omega,?_⟩,by simp only;omega,?_⟩
    ·rw[List.take_succ_eq_append_getElem h1,hx]
     intro f hf
     rcases List.mem_append.1 hf with hf|hf
     ·exact hp f hf
     ·rw[List.mem_singleton.1 hf];exact⟨hc,by omega⟩
    refine zag ?_ ?_ ?_<;>simp only[go_sem]
    all_goals first|done|rfl|omega
 ·obtain rfl:i=l.length:=by omega
  rw[List.take_length]at hp
  have eb:=znW 0 hp
  by_cases hs1:size<1
  ·have hs1':(size<1)=True:=eq_true hs1
   have e:zaM l size=⟨3, -2⟩:=by unfold zaM;rw[if_neg h41,eb,if_neg (by simp),if_pos (.inl hs1)]
   rw[e]
   repeat'(first|refine And.intro ?_ ?_|exact True.intro|refine rq fun _=>?_|refine rf fun _=>?_|simp only[go_sem,Nat.lt_irrefl,hs1',zad,zac,zab,zaa,Tryd.f18])
   all_goals first|done|rfl|omega
  have hs1':(size<1)=False:=eq_false hs1
  by_cases hs4:4<size
  ·have hs4':(4<size)=True:=eq_true hs4
   have e:zaM l size=⟨3, -2⟩:=by unfold zaM;rw[if_neg h41,eb,if_neg (by simp),if_pos (.inr hs4)]
   rw[e]
   repeat'(first|refine And.intro ?_ ?_|exact True.intro|refine rq fun _=>?_|refine rf fun _=>?_|simp only[go_sem,Nat.lt_irrefl,hs1',hs4',zad,zac,zab,zaa,Tryd.f18])
   all_goals first|done|rfl|omega
  ·have hs4':(4<size)=False:=eq_false hs4
   have e:zaM l size=⟨0,0⟩:=by unfold zaM;rw[if_neg h41,eb,if_neg (by simp),if_neg (by omega)]
   rw[e]
   repeat'(first|refine And.intro ?_ ?_|exact True.intro|refine rq fun _=>?_|refine rf fun _=>?_|simp only[go_sem,Nat.lt_irrefl,hs1',hs4',zad,zac,zab,zaa,Tryd.f18])
   all_goals first|done|rfl|omega
def I5:Tbl:=I4.add 9 (sp2 zaM fun _ _=>True)
attribute [go_sem] I5
set_option maxHeartbeats 4000000 in
theorem hI5:zan Tryd.prog G I5:=by
 refine zbq ok9 hI4 fun l size _ hwl _=>?_
 have hsl:l.length≤zba:=by
  have:=zbV hwl
  simpa using this
 unfold zba at hsl
 clear hwl
 by_cases h41:41<l.length
 ·have e:zaM l size=⟨2, -1⟩:=by unfold zaM;rw[if_pos h41]
  have h41':((41:Int)<l.length)=True:=eq_true (by omega)
  rw[e]
  refine zah (N:=45) hm hI4 9000 (lst []) ok9 Tryd.func9 rfl rfl (by simp) (by kernel_rfl) ?_
  repeat'(first|refine And.intro ?_ ?_|exact True.intro|refine rq fun _=>?_|refine rf fun _=>?_|simp only[go_sem,h41',zad,zac,zab,zaa,Tryd.f9])
  all_goals first|done|rfl|omega
 have h41':((41:Int)<l.length)=False:=eq_false (by omega)
 refine zah (N:=45) hm hI4 9000 (lst []) ok9 Tryd.func9 rfl rfl (by simp) (by kernel_rfl) ?_
 repeat'(first|refine And.intro ?_ ?_|exact True.intro|refine rq fun _=>?_|refine rf fun _=>?_|simp only[go_sem,h41',zad,zac,zab,zaa,Tryd.f9])
 refine zai hm hI4 9000 (lst []) (ι:=zbG l.length 1 fun i=>∀f∈l.take i,(zaA false f).code=0∧zbf f≤5)
  ⟨fun q=>⟨frL [(0,.fz (.sl (l.map enc))),(1,.fz (.i .i64 size)),(4,.ptr (9004,0) 0),(11,.fz (.sl (l.map enc))),(12,.fz (.i .i64 l.length)),(13,.fz (.i .i64 q.i))],hpL [((9004,0),some ⟨[.fz (.i .i64 0),.fz (.i .i64 0)],true,false⟩)],q.m⟩,fun q=>l.length-q.i⟩
  ⟨0,1,by omega,by omega,by simp⟩ (by kernel_rfl) ?_ ?_
 ·refine zag ?_ ?_ ?_<;>simp only[go_sem]
  all_goals first|done|rfl|omega
 rintro⟨i,m,hi,hm1,hp⟩
 try simp only at hi hm1 hp
 rcases Nat.lt_or_ge i l.length with h1|h1
 ·obtain⟨x,hx⟩:∃x,l[i]=x:=⟨_,rfl⟩
  have eb:=zre 0 i h1 hp
  rw[List.drop_eq_getElem_cons h1,hx,znV,Nat.zero_add]at eb
  have hpx:szP x∨True:= .inr trivial
  by_cases hc:(zaA false x).code=0
  rotate_left
  ·rw[if_pos hc]at eb
   have e:zaM l size=⟨(zaA false x).code,(i:Int)⟩:=by unfold zaM;rw[if_neg h41,eb,if_pos hc]
   rw[e]
   obtain⟨X,hX⟩:∃X,zaA false x=X:=⟨_,rfl⟩
   rw[hX]at hc
   rw[hX]
   have hc':(X.code=0)=False:=eq_false hc
   repeat'(first|refine And.intro ?_ ?_|exact True.intro|refine rq fun _=>?_|refine rf fun _=>?_|simp only[go_sem,h1,hx,hX,hc',zad,zac,zab,zaa,Tryd.f9])
   all_goals first|done|rfl|omega
  ·have hcz:=zfg hc
   rw[if_neg (by simp[hc])]at eb
   have hsz:szP x:=⟨zbN hc,by have:=zaT hc;omega⟩
   by_cases hn:5<zbf x
   ·rw[if_pos hn]at eb
    have hn':((5:Int)<(zbf x:Int))=True:=eq_true (by omega)
    have e:zaM l size=⟨17,(i:Int)⟩:=by unfold zaM;rw[if_neg h41,eb,if_pos (by simp)]
    rw[e]
    repeat'(first|refine zaB.i hsz fun _=>?_|refine And.intro ?_ ?_|exact True.intro|refine rq fun _=>?_|refine rf fun _=>?_|simp only[go_sem,h1,hx,hcz,hn',zad,zac,zab,zaa,Tryd.f9])
    all_goals first|done|rfl|omega
   ·have hn':((5:Int)<(zbf x:Int))=False:=eq_false (by omega)
    repeat'(first|refine zaB.i hsz fun _=>?_|refine And.intro ?_ ?_|exact True.intro|refine rq fun _=>?_|refine rf fun _=>?_|simp only[go_sem,h1,hx,hcz,hn',zad,zac,zab,zaa,Tryd.f9])
    refine⟨⟨i+1,m+1,by omega,by omega,?_⟩,by simp only;omega,?_⟩
    ·rw[List.take_succ_eq_append_getElem h1,hx]
     intro f hf
     rcases List.mem_append.1 hf with hf|hf
     ·exact hp f hf
     ·rw[List.mem_singleton.1 hf];exact⟨hc,by omega⟩
    refine zag ?_ ?_ ?_<;>simp only[go_sem]
    all_goals first|done|rfl|omega
 ·obtain rfl:i=l.length:=by omega
  rw[List.take_length]at hp
  have eb:=znW 0 hp
  by_cases hs1:size<1
  ·have hs1':(size<1)=True:=eq_true hs1
   have e:zaM l size=⟨3, -2⟩:=by unfold zaM;rw[if_neg h41,eb,if_neg (by simp),if_pos (.inl hs1)]
   rw[e]
   repeat'(first|refine And.intro ?_ ?_|exact True.intro|refine rq fun _=>?_|refine rf fun _=>?_|simp only[go_sem,Nat.lt_irrefl,hs1',zad,zac,zab,zaa,Tryd.f9])
   all_goals first|done|rfl|omega
  have hs1':(size<1)=False:=eq_false hs1
  by_cases hs4:4<size
  ·have hs4':(4<size)=True:=eq_true hs4
   have e:zaM l size=⟨3, -2⟩:=by unfold zaM;rw[if_neg h41,eb,if_neg (by simp),if_pos (.inr hs4)]
   rw[e]
   repeat'(first|refine And.intro ?_ ?_|exact True.intro|refine rq fun _=>?_|refine rf fun _=>?_|simp only[go_sem,Nat.lt_irrefl,hs1',hs4',zad,zac,zab,zaa,Tryd.f9])
   all_goals first|done|rfl|omega
  ·have hs4':(4<size)=False:=eq_false hs4
   have e:zaM l size=⟨0,0⟩:=by unfold zaM;rw[if_neg h41,eb,if_neg (by simp),if_neg (by omega)]
   rw[e]
   repeat'(first|refine And.intro ?_ ?_|exact True.intro|refine rq fun _=>?_|refine rf fun _=>?_|simp only[go_sem,Nat.lt_irrefl,hs1',hs4',zad,zac,zab,zaa,Tryd.f9])
   all_goals first|done|rfl|omega
end
end Go.Proofs.YtkkffhphodngkaaDoor
