/- several texts of this proof in one; no conditions -/
import Derived.Test.YtmconmiemdinkaaGreatDoorAT
import Derived.Test.YtmconmiemdinkaaGreatDoorY0
import Derived.Test.YtmconmiemdinkaaGreatDoorY15
import Derived.Test.YtmconmiemdinkaaGreatDoorY8
import Derived.Test.YtmconmiemdinkaaGreatDoorY2
set_option maxRecDepth 100000
set_option maxHeartbeats 1000000
set_option linter.unusedSimpArgs false
namespace Go.Proofs.YtmconmiemdinkaaGreatDoor
open Go Go.Abs Go.Proofs
section
variable {G:Nat→List FD}
def A1:Tbl:=Q20.add 132 (sp1 (fun _:Str=>false) fun _=>True)
attribute [go_sem] A1
theorem hA1:zai Tryz.prog G A1:=by
 refine zdd zBl (zcq zxv) fun s _ _=>?_
 refine zam (N:=6) hm (zcq zxv) 132000 (lst []) zBl Tryz.func132 rfl rfl (by simp) (by kernel_rfl) ?_
 repeat'(first|refine rq fun _=>?_|simp only[go_sem,Tryz.f132])
def A2:Tbl:=A1
attribute [go_sem] A2
theorem hA2:zai Tryz.prog G A2:=hA1
def A3:Tbl:=A2
attribute [go_sem] A3
theorem hA3:zai Tryz.prog G A3:=hA2
def A4:Tbl:=A3
attribute [go_sem] A4
theorem hA4:zai Tryz.prog G A4:=hA3
def A5:Tbl:=A4
attribute [go_sem] A5
theorem hA5:zai Tryz.prog G A5:=hA4
def A6:Tbl:=A5
attribute [go_sem] A6
theorem hA6:zai Tryz.prog G A6:=hA5
end
end Go.Proofs.YtmconmiemdinkaaGreatDoor
namespace Go.Abs
open Go
end Go.Abs
namespace Go.Proofs.YtmconmiemdinkaaGreatDoor
open Go Go.Abs Go.Proofs
section
variable {G:Nat→List FD}
def A7:Tbl:=A6
attribute [go_sem] A7
theorem hA7:zai Tryz.prog G A7:=hA6
def A8:Tbl:=A7
attribute [go_sem] A8
theorem hA8:zai Tryz.prog G A8:=hA7
structure BsI (n:Nat)(p:Nat→Prop)(q:Nat→Prop) where
 i:Nat
 j:Nat
 hij:i≤j
 hj:j≤n
 hp:p i
 hq:q j
end
end Go.Proofs.YtmconmiemdinkaaGreatDoor
namespace Go.Abs
open Go
instance:Inhabited (List Int):=⟨[]⟩
end Go.Abs
namespace Go.Proofs.YtmconmiemdinkaaGreatDoor
open Go Go.Abs Go.Proofs
section
variable {G:Nat→List FD}
def A9:Tbl:=A8
attribute [go_sem] A9
theorem hA9:zai Tryz.prog G A9:=hA8
def A10:Tbl:=A9
attribute [go_sem] A10
theorem zHK:zai Tryz.prog G A10:=hA9
end
end Go.Proofs.YtmconmiemdinkaaGreatDoor
namespace Go.Abs
open Go
mutual
theorem zqt:∀f:zab,zmd f≤f.size
 | .mk k n w s=>by
  rw[zmd,zab.size]
  have:=zjh s
  split<;>omega
theorem zjh:∀fs:List zab,zfV fs≤zab.sizes fs
 |[]=>by rw[zfV];omega
 |f::fs=>by rw[zfV,zab.sizes];have:=zqt f;have:=zjh fs;omega
end
def szP (f:zab):Prop:=f.fit=true∧f.size≤1000000
end Go.Abs
namespace Go.Proofs.YtmconmiemdinkaaGreatDoor
open Go Go.Abs Go.Proofs
section
variable {G:Nat→List FD}
def A11:Tbl:=A10
attribute [go_sem] A11
theorem zHL:zai Tryz.prog G A11:=zHK
end
end Go.Proofs.YtmconmiemdinkaaGreatDoor
namespace Go.Abs
open Go
section
variable {P:Program} {G:Nat→List FD} {T:Tbl}
end
end Go.Abs
namespace Go.Proofs.YtmconmiemdinkaaGreatDoor
open Go Go.Abs Go.Proofs
section
variable {G:Nat→List FD}
def A12:Tbl:=A11
attribute [go_sem] A12
theorem zHM:zai Tryz.prog G A12:=zHL
def A13:Tbl:=A12
attribute [go_sem] A13
theorem zHN:zai Tryz.prog G A13:=zHM
def A14:Tbl:=A13
attribute [go_sem] A14
theorem zHO:zai Tryz.prog G A14:=zHN
end
end Go.Proofs.YtmconmiemdinkaaGreatDoor
namespace Go.Proofs.YtmconmiemdinkaaGreatDoor
open Go Go.Abs Go.Proofs
section
variable {G:Nat→List FD}
structure zHq (n:Nat)(P:Nat→Prop) where
 p:Nat
 hn:p≤n
 hp:P p
end
end Go.Proofs.YtmconmiemdinkaaGreatDoor
namespace Go.Abs
open Go
section
variable {P:Program} {G:Nat→List FD} {T:Tbl}
end
structure zMs (m:zdh)(f:zab)(env:List zcK):Prop where
 m:zIH m
 v:vok f
 s:szP f
 e:env.length+zmd f≤900
end Go.Abs
namespace Go.Proofs.YtmconmiemdinkaaGreatDoor
open Go Go.Abs Go.Proofs
section
variable {G:Nat→List FD}
def A15:Tbl:=A14
attribute [go_sem] A15
theorem zHP:zai Tryz.prog G A15:=zHO
end
end Go.Proofs.YtmconmiemdinkaaGreatDoor
namespace Go.Proofs.YtmconmiemdinkaaGreatDoor
open Go Go.Abs Go.Proofs
section
variable {G:Nat→List FD}
theorem zHI:∀(k:Nat) (f:Abs.zab) (bd acc:List Str) (g n:Nat) (X:zaw),f.size≤k→(enc f).Wf→g<n→2<n→acc.length+(cst f bd).length≤1000000→bd.length+f.size≤1000000→
  (∀id o,X id=some o→id.2<n∧id.1≠49003∧id.1≠49004∧id.1≠77024)→
  zaH Tryz.prog G 77 [.fz (enc f),.fz (enc bd),.ptr (49003,1) 0,.ptr (49004,2) 0] (hpX (HHk acc g) X) n
   (fun d' H' n'=>d'= .tup []∧n≤n'∧(∃g',g'<n'∧ze0 H' (HHk (acc++cst f bd) g'))∧∀id o,X id=some o→H' id=some o):=by
 intro k
 induction k with
 |zero=>intro f bd acc g n X hs;have:=f.size_pos;omega
 |succ k ih=>
  intro f bd acc g n X hs hw hg hn hlen hbl hX
  obtain⟨Q,hQ⟩:∃Q:D→zaw→Nat→Prop,Q=(fun d' H' n'=>d'= .tup []∧n≤n'∧(∃g',g'<n'∧ze0 H' (HHk (acc++cst f bd) g'))∧∀id o,X id=some o→H' id=some o):=⟨_,rfl⟩
  rw[←hQ]
  have hX':∀{l:List (Abs.Id×Option O)} (id o),X id=some o→(id.2<n∧id.1≠49003∧id.1≠49004∧id.1≠77024→zhw id l)→hpX l X id=some o:=fun id o h1 h2=>(zcz (h2 (hX id o h1))).trans h1
  have hwl:f.words.length≤zbr:=by
   have h:=zc2 (by have h:=hw;rw[zaD]at h;exact h) (FD.sl (f.words.map enc)) (by simp)
   have:=zd9 h
   simpa using this
  have hsl:f.subs.length≤zbr:=by
   have h:=zc2 (by have h:=hw;rw[zaD]at h;exact h) (FD.sl (f.subs.map enc)) (by simp)
   have:=zd9 h
   simpa using this
  have hsw:∀g∈f.subs,(enc g).Wf:=fun g hg=>zoc (zc2 (by have h:=hw;rw[zaD]at h;exact h) (FD.sl (f.subs.map enc)) (by simp)) _ (List.mem_map_of_mem hg)
  have hss:∀g∈f.subs,g.size≤k∧g.size+1≤f.size:=fun g hg=>by have:=zab.size_sub hg;omega
  unfold zbr at hwl hsl
  rw[zow,List.length_append]at hlen
  obtain⟨A,hA⟩:∃A:Nat→List Str,A=fun i=>acc++(f.words.take i).filter (fun w=>decide (w∉bd)):=⟨_,rfl⟩
  have hA0:A 0=acc:=by rw[hA];simp
  have hAl:∀i,(A i).length≤acc.length+(f.words.filter (fun w=>decide (w∉bd))).length:=fun i=>by
   rw[hA];simp only[List.length_append];have:=@zew f.words bd i;omega
  have hAs:∀i (h:i<f.words.length),A (i+1)=A i++if f.words[i]∈bd then[]else[f.words[i]]:=fun i h=>by
   rw[hA];simp only[zd5 h,List.append_assoc]
  have hAe:A f.words.length=acc++f.words.filter (fun w=>decide (w∉bd)):=by rw[hA];simp only[List.take_length]
  have kA:=Kp.mk hAl
  have kB:=Kp.mk hAs
  have kC:=Kp.mk hAe
  clear hA hAl hAs hAe
  have kX:=Kp.mk @hX'
  have kQ:=Kp.mk hQ
  have kI:=Kp.mk ih
  have kS:=Kp.mk hsw
  have kZ:=Kp.mk hss
  have kx:=Kp.mk hX
  clear hX' hQ ih hsw hss hX
  refine zam (N:=50) hm (zcq (G:=G) zxv) 77000 (lst [24]) zG2 Tryz.func77 rfl rfl (by simp) (by kernel_rfl) ?_
  repeat'(first|refine rq fun _=>?_|simp only[go_sem,HHk,Tryz.f77, *])
  refine zaJ hm (zcq (G:=G) zxv) 77000 (lst [24]) (ι:=zg3 f.words.length (n+1) fun _=>True)
   ⟨fun q=>⟨frL [(1,.fz (.sl (bd.map enc))),(2,.ptr (49003,1) 0),(3,.ptr (49004,2) 0),(4,.ptr (77004,n) 0),(11,.fz (.sl (f.words.map enc))),(12,.fz (.i .i64 f.words.length)),(13,.fz (.i .i64 q.i))],
    hpX (((77004,n),some ⟨[.fz (.i .i64 f.kind),.fz (.s f.name.l),.fz (.sl (f.words.map enc)),.fz (.sl (f.subs.map enc))],true,false⟩)::HHk (A q.i) q.g) X,q.m⟩,fun q=>f.words.length-q.i⟩
   ⟨0,g,n+1,by omega,by omega,by omega,trivial⟩ (by kernel_rfl) ?_ ?_
  ·refine zaP ?_ ?_ (fun id o ho=>?_) ?_
   ·simp only[go_sem]
   ·simp only[go_sem,HHk,hA0]
   ·refine kX.out id o ho fun h1=>?_
    ((repeat'(first|exact trivial|apply And.intro))<;>(rintro rfl;simp only at h1;omega))
   ·simp only[go_sem]
  rintro⟨i,g1,m1,hi,hg1,hm1,_⟩
  try simp only at hi hg1 hm1
  rcases Nat.lt_or_ge i f.words.length with h1|h1
  ·have hfl:=kB.out i h1
   have hl1:=kA.out i
   have hl2:=kA.out (i+1)
   by_cases hin:f.words[i]∈bd
   ·rw[if_pos hin,List.append_nil]at hfl
    repeat'(first|refine rq fun _=>?_|simp only[go_sem,HHk,h1,hin,zad,zaa,Tryz.f77])
    refine⟨⟨i+1,g1,m1,by omega,by omega,by omega,trivial⟩,by simp only;omega,?_⟩
    refine zaP ?_ ?_ (fun id o ho=>?_) ?_
    ·simp only[go_sem]
    ·simp only[go_sem,HHk,hfl]
    ·refine kX.out id o ho fun h1=>?_
     ((repeat'(first|exact trivial|apply And.intro))<;>(rintro rfl;simp only at h1;omega))
    ·simp only[go_sem]
   ·rw[if_neg hin]at hfl
    have hl3:(zaf ((A i).map enc)).length=(A i).length:=by rw[zhU (zdn (f:=enc) (k:=1) (fun _=>rfl) _),List.length_map]
    repeat'(first|refine rq fun _=>?_|refine zaA.i (zaE (by omega) (by decide)) fun _=>?_|simp only[go_sem,HHk,h1,hin,zad,zaa,Tryz.f77])
    refine⟨⟨i+1,m1,m1+1,by omega,by omega,by omega,trivial⟩,by simp only;omega,?_⟩
    refine zaP ?_ ?_ (fun id o ho=>?_) ?_
    ·simp only[go_sem]
    ·simp only[go_sem,HHk,hfl,zja]
    ·refine kX.out id o ho fun h1=>?_
     ((repeat'(first|exact trivial|apply And.intro))<;>(rintro rfl;simp only at h1;omega))
    ·simp only[go_sem]
  ·obtain rfl:i=f.words.length:=by omega
   have hAe:=kC.out
   obtain⟨bd2,hbd⟩:∃bd2,bd2=if isQ f.kind then bd++[f.name]else bd:=⟨_,rfl⟩
   rw[←hbd]at hlen
   obtain⟨B,hB⟩:∃B:Nat→List Str,B=fun j=>A f.words.length++zbR (f.subs.take j) bd2:=⟨_,rfl⟩
   have hB0:B 0=A f.words.length:=by rw[hB];simp[zbR]
   have hBs:∀j (h:j<f.subs.length),B (j+1)=B j++cst f.subs[j] bd2:=fun j h=>by rw[hB];simp only[ze2 h,List.append_assoc]
   have hBl:∀j,(B j).length≤1000000:=fun j=>by rw[hB,List.length_append,hAe,List.length_append];have:=@zfF f.subs bd2 j;omega
   have hBe:B f.subs.length=acc++cst f bd:=by rw[hB,zow,←hbd,hAe];simp only[List.take_length,List.append_assoc]
   have hb2:bd2.length≤bd.length+1:=by
    rw[hbd];split
    ·simp
    ·omega
   have kBs:=Kp.mk hBs
   have kBl:=Kp.mk hBl
   have kBe:=Kp.mk hBe
   clear hBs hBl hBe hB hAe
   rcases Decidable.em (isQ f.kind)with hq|hq
   all_goals
    (first|rw[if_pos hq]at hbd|rw[if_neg hq]at hbd)
    unfold isQ at hq
    repeat'(first|refine rq fun _=>?_|refine zaA.i (zaE (by omega) (by decide)) fun _=>?_|simp only[go_sem,HHk,hq,Nat.lt_irrefl,zad,Tryz.f77])
    refine zaJ hm (zcq (G:=G) zxv) 77000 (lst [24]) (ι:=zg3 f.subs.length (n+1) fun _=>True)
     ⟨fun q=>⟨frL [(1,.fz (.sl (bd2.map enc))),(2,.ptr (49003,1) 0),(3,.ptr (49004,2) 0),(39,.fz (.sl (f.subs.map enc))),(40,.fz (.i .i64 f.subs.length)),(41,.fz (.i .i64 q.i))],hpX (HHk (B q.i) q.g) X,q.m⟩,fun q=>f.subs.length-q.i⟩
     ⟨0,g1,m1,by omega,by omega,by omega,trivial⟩ (by kernel_rfl) ?_ ?_
    ·refine zaP ?_ ?_ (fun id o ho=>?_) ?_
     ·simp only[go_sem,hbd,List.map_append]
     ·simp only[go_sem,HHk,hB0]
     ·refine kX.out id o ho fun h1=>?_
      ((repeat'(first|exact trivial|apply And.intro))<;>(rintro rfl;simp only at h1;omega))
     ·simp only[go_sem]
    rintro⟨j,g2,m2,hj,hg2,hm2,_⟩
    try simp only at hj hg2 hm2
    rcases Nat.lt_or_ge j f.subs.length with h2|h2
    ·have hmem:=List.getElem_mem h2
     have hBj:=kBs.out j h2
     have hl4:=kBl.out (j+1)
     have hz:=kZ.out _ hmem
     rw[hBj,List.length_append]at hl4
     have ih2:=kI.out f.subs[j] bd2 (B j) g2 (m2+1) X hz.1 (kS.out _ hmem) (by omega) (by omega) hl4 (by omega) (fun id o ho=>by have:=kx.out id o ho;omega)
     rw[zaD]at ih2
     repeat'(first|refine rq fun _=>?_|simp only[go_sem,HHk,h2,zaa,Tryz.f77])
     refine zaV.i (zdO rfl (zdB (by simp only[go_sem,zgE]) (by simp only[go_sem,HHk]) (fun id o ho=>?_) (Nat.le_refl _) (zaK ih2 ?_)))
     ·refine kX.out id o ho fun h1=>?_
      ((repeat'(first|exact trivial|apply And.intro))<;>(rintro rfl;simp only at h1;omega))
     rintro d' H' n' ⟨rfl,e1,⟨g3,hg3,e2⟩,e3⟩
     rw[←hBj]at e2
     simp only[go_sem,HHk]at e2
     obtain⟨b1,b2,b3⟩:=e2
     rw[show H'=hpX [] H' from rfl]
     repeat'(first|refine rq fun _=>?_|simp only[go_sem,HHk,h2,Tryz.f77])
     refine⟨⟨j+1,g3,n',by omega,by omega,by omega,trivial⟩,by simp only;omega,?_⟩
     refine zaP ?_ ?_ (fun id o ho=>?_) ?_
     ·simp only[go_sem]
     ·simp only[go_sem,HHk,b1,b2,b3]
     ·exact e3 id o ho
     ·simp only[go_sem]
    ·obtain rfl:j=f.subs.length:=by omega
     repeat'(first|refine rq fun _=>?_|simp only[go_sem,HHk,Nat.lt_irrefl,Tryz.f77])
     rw[kQ.out]
     refine⟨rfl,by omega,⟨g2,by omega,?_⟩,fun id o ho=>kX.out id o ho fun h1=>?_⟩
     ·rw[←kBe.out];simp only[go_sem,HHk]
     ·((repeat'(first|exact trivial|apply And.intro))<;>(rintro rfl;simp only at h1;omega))
theorem ztj {H:zaw}{id:Abs.Id}{l:List Str}{bx vt:Bool}{n:Nat}{R:D→zaw→Nat→Prop}(ho:H id=some ⟨zaf (l.map enc),bx,vt⟩)
  (hR:R (.tup []) (hpX [(id,some ⟨zaf ((zmD l).map enc),bx,vt⟩)] H) n):zaH Tryz.prog G 78 [.arr id 1 0 l.length] H n R:=by
 rw[zdF]at ho
 have h:=ziT (G:=G) (n:=n) zG3 Tryz.slices_Sort_string Tryz.slices_Sort_string_none ho
 rw[List.length_map]at h
 refine zaK h ?_
 rintro d H' n' ⟨rfl,rfl,rfl⟩
 rw[zkd,zeN]
 exact hR
theorem zrO {H:zaw}{id:Abs.Id}{l:List Str}{bx vt:Bool}{n:Nat}{R:D→zaw→Nat→Prop}(ho:H id=some ⟨zaf (l.map enc),bx,vt⟩)
  (hR:R (.arr id 1 0 (ziF l).length) (hpX [(id,some ⟨zaf ((ziF l).map enc),bx,vt⟩)] H) n):zaH Tryz.prog G 79 [.arr id 1 0 l.length] H n R:=by
 rw[zdF]at ho
 have h:=zfw (G:=G) (n:=n) zG4 Tryz.slices_Compact_string Tryz.slices_Compact_string_empty ho
 rw[List.length_map]at h
 refine zaK h ?_
 rintro d H' n' ⟨rfl,rfl,rfl⟩
 rw[zkd,zeN,show(zdS (l.map (·.l))).length=(ziF l).length by unfold ziF;rw[List.length_map]]
 exact hR
theorem zHH {f:Abs.zab}(hw:(enc f).Wf)(hl:(cst f []).length≤1000000)(hs:f.size≤1000000):zaH Tryz.prog G 49 [.fz (enc f)] (hpL []) 0
  (fun d H n=>∃g,g<n∧d= .arr (77024,g) 1 0 (zbX f).length∧H (77024,g)=some ⟨zaf ((zbX f).map enc),false,(cst f []).isEmpty⟩):=by
 obtain⟨Q,hQ⟩:∃Q:D→zaw→Nat→Prop,Q=(fun d H n=>∃g,g<n∧d= .arr (77024,g) 1 0 (zbX f).length∧H (77024,g)=some ⟨zaf ((zbX f).map enc),false,(cst f []).isEmpty⟩):=⟨_,rfl⟩
 rw[←hQ]
 refine zam (N:=13) hm (zcq (G:=G) zxv) 49000 (lst []) zE4 Tryz.func49 rfl rfl (by simp) (by kernel_rfl) ?_
 have h:=zHI (G:=G) f.size f [] [] 3 4 (fun _=>none) (Nat.le_refl _) hw (by omega) (by omega) (by simpa using hl) (by simpa using hs) (fun id o ho=>by cases ho)
 rw[zaD]at h
 repeat'(first|refine rq fun _=>?_|simp only[go_sem,Tryz.f49])
 refine zaV.i (zdO rfl (zjE (args':=[.fz (.agg [.i .i64 f.kind,.s f.name.l,.sl (f.words.map enc),.sl (f.subs.map enc)]),.fz (enc ([]:List Str)),.ptr (49003,1) 0,.ptr (49004,2) 0])
  (hl:=HHk [] 3) (n':=4) [] [(77024,3)] [] rfl ?_ ?_ ?_ ?_ ?_ ?_))
 case _=>omega
 case _=>simp only[go_sem]
 case _=>simp only[go_sem,HHk];first|done|rfl
 case _=>simp only[go_sem,HHk];first|done|rfl
 case _=>simp only[go_sem];first|done|rfl
 rw[show hpL (HHk [] 3)=hpX (HHk [] 3) (fun _=>none)from rfl]
 refine zaK h ?_
 rintro d' H' n' ⟨rfl,e1,⟨g,hg,e2⟩,_⟩
 rw[List.nil_append]at e2
 obtain⟨C,hC⟩:∃C,C=cst f []:=⟨_,rfl⟩
 rw[←hC]at e2
 rw[zpj,←hC]at hQ
 simp only[go_sem,HHk]at e2
 obtain⟨b1,b2,b3⟩:=e2
 rw[show H'=hpX [] H' from rfl]
 repeat'(first|refine rq fun _=>?_|simp only[go_sem,b1,b2,b3,Tryz.f49])
 refine zaV.i (ztj (l:=C) (bx:=false) (vt:=C.isEmpty) (by simp only[go_sem,b3]) ?_)
 rw[←zmE C]at b1
 repeat'(first|refine rq fun _=>?_|simp only[go_sem,b1,b2,b3,Tryz.f49])
 refine zaV.i (zrO (l:=zmD C) (bx:=false) (vt:=C.isEmpty) (by simp only[go_sem]) ?_)
 repeat'(first|refine rq fun _=>?_|simp only[go_sem,b1,b2,b3,Tryz.f49])
 rw[hQ]
 exact⟨g,hg,by simp only[go_sem],by simp only[go_sem]⟩
def A16:Tbl:=A15.add 49 (sp1 zbX fun f=>(cst f []).length≤1000000∧f.size≤1000000)
attribute [go_sem] A16
theorem ztH {f:Abs.zab}(h:(cst f []).isEmpty=true):zbX f=[]:=by
 cases hu:zbX f with
 |nil=>rfl
 |cons x l=>
  have:=(zcE f x).1 (by rw[hu];simp)
  rw[List.isEmpty_iff.1 h]at this
  simp at this
theorem zB4:zai Tryz.prog G A16:=by
 refine zdd zE4 zHP fun f hp hw=>?_
 refine zcr (zHH (G:=G) hw hp.1 hp.2) ?_
 rintro d H n ⟨g,hg,rfl,ho⟩
 obtain⟨U,hU⟩:∃U,zbX f=U:=⟨_,rfl⟩
 have hn:(cst f []).isEmpty=true→U=[]:=fun h=>by rw[←hU];exact ztH h
 rw[hU]at ho ⊢
 refine⟨.fz (.sl (U.map enc)),H0,n,?_,rfl⟩
 have e:H0=hpL []:=rfl
 rw[e]
 refine zei [] [] [((77024,g),U.map enc)] ?_ ?_ ?_ ?_ ?_<;>simp only[go_sem,ho]
 intro h
 rw[hn h];rfl
def A17:Tbl:=A16.add 45 (sp2 zhm fun l _=>l.length≤1000000)
attribute [go_sem] A17
theorem zHQ:zai Tryz.prog G A17:=by
 refine zbC zzz zB4 fun l s hl _ _=>?_
 by_cases hin:s∈l
 ·have e:zhm l s=l:=by unfold zhm;rw[if_pos hin]
  rw[e]
  refine zam (N:=39) hm (G:=G) zB4 45000 (lsw [29,33,38] []) zzz Tryz.func45 rfl rfl (by simp) (by kernel_rfl) ?_
  repeat'(first|refine rq fun _=>?_|simp only[go_sem,hin,Tryz.f45])
 ·have e:zhm l s=l.take (twN l s)++[s]++l.drop (twN l s):=by unfold zhm;rw[if_neg hin];rfl
  rw[e]
  clear e
  have hlt:∀i (h:i<l.length),i<twN l s→Op.bytesLess l[i].l s.l=true:=fun i h h2=>by rw[zcD];exact decide_eq_true (ztz h h2)
  have hat:∀i (h:i<l.length),i=twN l s→Op.bytesLess l[i].l s.l=false:=fun i h h2=>by rw[zcD];exact decide_eq_false (ztx h h2)
  have htl:=zty s l
  obtain⟨T,hT⟩:∃T,twN l s=T:=⟨_,rfl⟩
  rw[hT]at hlt hat htl ⊢
  clear hT
  have kl:=Kp.mk hlt
  have ka:=Kp.mk hat
  clear hlt hat
  refine zam (N:=39) hm (G:=G) zB4 45000 (lsw [29,33,38] []) zzz Tryz.func45 rfl rfl (by simp) (by kernel_rfl) ?_
  repeat'(first|refine rq fun _=>?_|simp only[go_sem,hin,Tryz.f45])
  refine zaJ hm (G:=G) zB4 45000 (lsw [29,33,38] []) (ι:=zg4 T fun _=>True)
   ⟨fun q=>⟨frL [(0,.fz (.sl (l.map enc))),(1,.fz (.s s.l)),(5,.full []),(6,.fz (.i .i64 q.i))],hpL [],0⟩,fun q=>T-q.i⟩
   ⟨0,by omega,trivial⟩ (by kernel_rfl) ?_ ?_
  ·refine zau ?_ ?_ ?_<;>simp only[go_sem]
  rintro⟨i,hi,_⟩
  try simp only at hi
  rcases Nat.lt_or_ge i T with h1|h1
  ·have h2:i<l.length:=by omega
   have h3:=kl.out i h2 h1
   repeat'(first|refine rq fun _=>?_|simp only[go_sem,h2,h3,zaa,Tryz.f45])
   refine⟨⟨i+1,by omega,trivial⟩,by simp only;omega,?_⟩
   refine zau ?_ ?_ ?_<;>simp only[go_sem]
  ·obtain rfl:i=T:=by omega
   have hlt:(l.take i).length=i:=by rw[List.length_take];omega
   rcases Nat.lt_or_ge i l.length with h2|h2
   case' inl=>have h3:=ka.out i h2 rfl
   case' inr=>have h3:¬i<l.length:=by omega
   all_goals
    repeat'(first|refine rq fun _=>?_|refine zaA.i (zaE (by first|omega|(simp only[List.length_map,List.length_take,List.length_drop,List.length_append,List.length_cons,List.length_nil];omega)) (by decide)) fun _=>?_|refine rq fun _=>?_|simp only[go_sem,h2,h3,zrV,zaa,Tryz.f45])
   all_goals first|done|(simp only[List.map_append,List.map_take,List.map_drop,List.map_cons,List.map_nil,zr8])
def A18:Tbl:=A17
attribute [go_sem] A18
theorem zHR:zai Tryz.prog G A18:=zHQ
def A19:Tbl:=A18
attribute [go_sem] A19
theorem zHS:zai Tryz.prog G A19:=zHR
end
end Go.Proofs.YtmconmiemdinkaaGreatDoor
