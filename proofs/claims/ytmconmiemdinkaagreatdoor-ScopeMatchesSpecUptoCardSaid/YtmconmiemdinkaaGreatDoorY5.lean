/- several texts of this proof in one; no conditions -/
import Derived.Test.YtmconmiemdinkaaGreatDoorAT
import Derived.Test.YtmconmiemdinkaaGreatDoorY0
import Derived.Test.YtmconmiemdinkaaGreatDoorY15
import Derived.Test.YtmconmiemdinkaaGreatDoorY8
import Derived.Test.YtmconmiemdinkaaGreatDoorY2
set_option maxRecDepth 100000
set_option maxHeartbeats 1000000
set_option linter.unusedSimpArgs false
namespace Go.Proofs.YtmconmiemdinkaaGreatDoor
open Go Go.Abs Go.Proofs
section
variable {G:Nat→List FD}
def A1:Tbl:=Q20.add 132 (sp1 (fun _:Str=>false) fun _=>True)
attribute [go_sem] A1
theorem hA1:zan Tryz.prog G A1:=by
 refine zbR zCO (zcG zyO) fun s _ _=>?_
 refine zaj (N:=6) hm (zcG zyO) 132000 (lst []) zCO Tryz.func132 rfl rfl (by simp) (by kernel_rfl) ?_
 repeat'(first|refine rq fun _=>?_|simp only[go_sem,Tryz.f132])
def A2:Tbl:=A1
attribute [go_sem] A2
theorem hA2:zan Tryz.prog G A2:=hA1
def A3:Tbl:=A2
attribute [go_sem] A3
theorem hA3:zan Tryz.prog G A3:=hA2
def A4:Tbl:=A3
attribute [go_sem] A4
theorem hA4:zan Tryz.prog G A4:=hA3
def A5:Tbl:=A4
attribute [go_sem] A5
theorem hA5:zan Tryz.prog G A5:=hA4
def A6:Tbl:=A5
attribute [go_sem] A6
theorem hA6:zan Tryz.prog G A6:=hA5
end
end Go.Proofs.YtmconmiemdinkaaGreatDoor
namespace Go.Abs
open Go
end Go.Abs
namespace Go.Proofs.YtmconmiemdinkaaGreatDoor
open Go Go.Abs Go.Proofs
section
variable {G:Nat→List FD}
def A7:Tbl:=A6
attribute [go_sem] A7
theorem hA7:zan Tryz.prog G A7:=hA6
def A8:Tbl:=A7
attribute [go_sem] A8
theorem hA8:zan Tryz.prog G A8:=hA7
structure BsI (n:Nat)(p:Nat→Prop)(q:Nat→Prop) where
 i:Nat
 j:Nat
 hij:i≤j
 hj:j≤n
 hp:p i
 hq:q j
end
end Go.Proofs.YtmconmiemdinkaaGreatDoor
namespace Go.Abs
open Go
instance:Inhabited (List Int):=⟨[]⟩
end Go.Abs
namespace Go.Proofs.YtmconmiemdinkaaGreatDoor
open Go Go.Abs Go.Proofs
section
variable {G:Nat→List FD}
def A9:Tbl:=A8
attribute [go_sem] A9
theorem hA9:zan Tryz.prog G A9:=hA8
def A10:Tbl:=A9
attribute [go_sem] A10
theorem zJw:zan Tryz.prog G A10:=hA9
end
end Go.Proofs.YtmconmiemdinkaaGreatDoor
namespace Go.Abs
open Go
mutual
theorem zrr:∀f:zac,zm8 f≤f.size
 | .mk k n w s=>by
  rw[zm8,zac.size]
  have:=zj5 s
  split<;>omega
theorem zj5:∀fs:List zac,zgq fs≤zac.sizes fs
 |[]=>by rw[zgq];omega
 |f::fs=>by rw[zgq,zac.sizes];have:=zrr f;have:=zj5 fs;omega
end
def szP (f:zac):Prop:=f.fit=true∧f.size≤1000000
end Go.Abs
namespace Go.Proofs.YtmconmiemdinkaaGreatDoor
open Go Go.Abs Go.Proofs
section
variable {G:Nat→List FD}
def A11:Tbl:=A10
attribute [go_sem] A11
theorem zJx:zan Tryz.prog G A11:=zJw
end
end Go.Proofs.YtmconmiemdinkaaGreatDoor
namespace Go.Abs
open Go
section
variable {P:Program} {G:Nat→List FD} {T:Tbl}
end
end Go.Abs
namespace Go.Proofs.YtmconmiemdinkaaGreatDoor
open Go Go.Abs Go.Proofs
section
variable {G:Nat→List FD}
def A12:Tbl:=A11
attribute [go_sem] A12
theorem zJy:zan Tryz.prog G A12:=zJx
def A13:Tbl:=A12
attribute [go_sem] A13
theorem zJz:zan Tryz.prog G A13:=zJy
def A14:Tbl:=A13
attribute [go_sem] A14
theorem zJA:zan Tryz.prog G A14:=zJz
end
end Go.Proofs.YtmconmiemdinkaaGreatDoor
namespace Go.Proofs.YtmconmiemdinkaaGreatDoor
open Go Go.Abs Go.Proofs
section
variable {G:Nat→List FD}
structure zJd (n:Nat)(P:Nat→Prop) where
 p:Nat
 hn:p≤n
 hp:P p
end
end Go.Proofs.YtmconmiemdinkaaGreatDoor
namespace Go.Abs
open Go
section
variable {P:Program} {G:Nat→List FD} {T:Tbl}
end
structure zOa (m:zdg)(f:zac)(env:List zc8):Prop where
 m:zKq m
 v:vok f
 s:szP f
 e:env.length+zm8 f≤900
end Go.Abs
namespace Go.Proofs.YtmconmiemdinkaaGreatDoor
open Go Go.Abs Go.Proofs
section
variable {G:Nat→List FD}
def A15:Tbl:=A14
attribute [go_sem] A15
theorem zJB:zan Tryz.prog G A15:=zJA
end
end Go.Proofs.YtmconmiemdinkaaGreatDoor
namespace Go.Proofs.YtmconmiemdinkaaGreatDoor
open Go Go.Abs Go.Proofs
section
variable {G:Nat→List FD}
theorem zJu:∀(k:Nat) (f:Abs.zac) (bd acc:List Str) (g n:Nat) (X:zax),f.size≤k→(enc f).Wf→g<n→2<n→acc.length+(cst f bd).length≤1000000→bd.length+f.size≤1000000→
  (∀id o,X id=some o→id.2<n∧id.1≠49003∧id.1≠49004∧id.1≠77024)→
  zaH Tryz.prog G 77 [.fz (enc f),.fz (enc bd),.ptr (49003,1) 0,.ptr (49004,2) 0] (hpX (HHk acc g) X) n
   (fun d' H' n'=>d'= .tup []∧n≤n'∧(∃g',g'<n'∧zeF H' (HHk (acc++cst f bd) g'))∧∀id o,X id=some o→H' id=some o):=by
 intro k
 induction k with
 |zero=>intro f bd acc g n X hs;have:=f.size_pos;omega
 |succ k ih=>
  intro f bd acc g n X hs hw hg hn hlen hbl hX
  obtain⟨Q,hQ⟩:∃Q:D→zax→Nat→Prop,Q=(fun d' H' n'=>d'= .tup []∧n≤n'∧(∃g',g'<n'∧zeF H' (HHk (acc++cst f bd) g'))∧∀id o,X id=some o→H' id=some o):=⟨_,rfl⟩
  rw[←hQ]
  have hX':∀{l:List (Abs.Id×Option O)} (id o),X id=some o→(id.2<n∧id.1≠49003∧id.1≠49004∧id.1≠77024→zhf id l)→hpX l X id=some o:=fun id o h1 h2=>(za0 (h2 (hX id o h1))).trans h1
  have hwl:f.words.length≤za6:=by
   have h:=zbL (by have h:=hw;rw[zaz]at h;exact h) (FD.sl (f.words.map enc)) (by simp)
   have:=zcI h
   simpa using this
  have hsl:f.subs.length≤za6:=by
   have h:=zbL (by have h:=hw;rw[zaz]at h;exact h) (FD.sl (f.subs.map enc)) (by simp)
   have:=zcI h
   simpa using this
  have hsw:∀g∈f.subs,(enc g).Wf:=fun g hg=>zh6 (zbL (by have h:=hw;rw[zaz]at h;exact h) (FD.sl (f.subs.map enc)) (by simp)) _ (List.mem_map_of_mem hg)
  have hss:∀g∈f.subs,g.size≤k∧g.size+1≤f.size:=fun g hg=>by have:=zac.size_sub hg;omega
  unfold za6 at hwl hsl
  rw[zpu,List.length_append]at hlen
  obtain⟨A,hA⟩:∃A:Nat→List Str,A=fun i=>acc++(f.words.take i).filter (fun w=>decide (w∉bd)):=⟨_,rfl⟩
  have hA0:A 0=acc:=by rw[hA];simp
  have hAl:∀i,(A i).length≤acc.length+(f.words.filter (fun w=>decide (w∉bd))).length:=fun i=>by
   rw[hA];simp only[List.length_append];have:=@zeX f.words bd i;omega
  have hAs:∀i (h:i<f.words.length),A (i+1)=A i++if f.words[i]∈bd then[]else[f.words[i]]:=fun i h=>by
   rw[hA];simp only[zez h,List.append_assoc]
  have hAe:A f.words.length=acc++f.words.filter (fun w=>decide (w∉bd)):=by rw[hA];simp only[List.take_length]
  have kA:=Kp.mk hAl
  have kB:=Kp.mk hAs
  have kC:=Kp.mk hAe
  clear hA hAl hAs hAe
  have kX:=Kp.mk @hX'
  have kQ:=Kp.mk hQ
  have kI:=Kp.mk ih
  have kS:=Kp.mk hsw
  have kZ:=Kp.mk hss
  have kx:=Kp.mk hX
  clear hX' hQ ih hsw hss hX
  refine zaj (N:=50) hm (zcG (G:=G) zyO) 77000 (lst [24]) zIN Tryz.func77 rfl rfl (by simp) (by kernel_rfl) ?_
  repeat'(first|refine rq fun _=>?_|simp only[go_sem,HHk,Tryz.f77, *])
  refine zam hm (zcG (G:=G) zyO) 77000 (lst [24]) (ι:=zdR f.words.length (n+1) fun _=>True)
   ⟨fun q=>⟨frL [(1,.fz (.sl (bd.map enc))),(2,.ptr (49003,1) 0),(3,.ptr (49004,2) 0),(4,.ptr (77004,n) 0),(11,.fz (.sl (f.words.map enc))),(12,.fz (.i .i64 f.words.length)),(13,.fz (.i .i64 q.i))],
    hpX (((77004,n),some ⟨[.fz (.i .i64 f.kind),.fz (.s f.name.l),.fz (.sl (f.words.map enc)),.fz (.sl (f.subs.map enc))],true,false⟩)::HHk (A q.i) q.g) X,q.m⟩,fun q=>f.words.length-q.i⟩
   ⟨0,g,n+1,by omega,by omega,by omega,trivial⟩ (by kernel_rfl) ?_ ?_
  ·refine zay ?_ ?_ (fun id o ho=>?_) ?_
   ·simp only[go_sem]
   ·simp only[go_sem,HHk,hA0]
   ·refine kX.out id o ho fun h1=>?_
    ((repeat'(first|exact trivial|apply And.intro))<;>(rintro rfl;simp only at h1;omega))
   ·simp only[go_sem]
  rintro⟨i,g1,m1,hi,hg1,hm1,_⟩
  try simp only at hi hg1 hm1
  rcases Nat.lt_or_ge i f.words.length with h1|h1
  ·have hfl:=kB.out i h1
   have hl1:=kA.out i
   have hl2:=kA.out (i+1)
   by_cases hin:f.words[i]∈bd
   ·rw[if_pos hin,List.append_nil]at hfl
    repeat'(first|refine rq fun _=>?_|simp only[go_sem,HHk,h1,hin,zad,zaa,Tryz.f77])
    refine⟨⟨i+1,g1,m1,by omega,by omega,by omega,trivial⟩,by simp only;omega,?_⟩
    refine zay ?_ ?_ (fun id o ho=>?_) ?_
    ·simp only[go_sem]
    ·simp only[go_sem,HHk,hfl]
    ·refine kX.out id o ho fun h1=>?_
     ((repeat'(first|exact trivial|apply And.intro))<;>(rintro rfl;simp only at h1;omega))
    ·simp only[go_sem]
   ·rw[if_neg hin]at hfl
    have hl3:(zaf ((A i).map enc)).length=(A i).length:=by rw[zdw (zcf (f:=enc) (k:=1) (fun _=>rfl) _),List.length_map]
    repeat'(first|refine rq fun _=>?_|refine zaq.i (zal (by omega) (by decide)) fun _=>?_|simp only[go_sem,HHk,h1,hin,zad,zaa,Tryz.f77])
    refine⟨⟨i+1,m1,m1+1,by omega,by omega,by omega,trivial⟩,by simp only;omega,?_⟩
    refine zay ?_ ?_ (fun id o ho=>?_) ?_
    ·simp only[go_sem]
    ·simp only[go_sem,HHk,hfl,zjY]
    ·refine kX.out id o ho fun h1=>?_
     ((repeat'(first|exact trivial|apply And.intro))<;>(rintro rfl;simp only at h1;omega))
    ·simp only[go_sem]
  ·obtain rfl:i=f.words.length:=by omega
   have hAe:=kC.out
   obtain⟨bd2,hbd⟩:∃bd2,bd2=if isQ f.kind then bd++[f.name]else bd:=⟨_,rfl⟩
   rw[←hbd]at hlen
   obtain⟨B,hB⟩:∃B:Nat→List Str,B=fun j=>A f.words.length++zb9 (f.subs.take j) bd2:=⟨_,rfl⟩
   have hB0:B 0=A f.words.length:=by rw[hB];simp[zb9]
   have hBs:∀j (h:j<f.subs.length),B (j+1)=B j++cst f.subs[j] bd2:=fun j h=>by rw[hB];simp only[zfv h,List.append_assoc]
   have hBl:∀j,(B j).length≤1000000:=fun j=>by rw[hB,List.length_append,hAe,List.length_append];have:=@zf9 f.subs bd2 j;omega
   have hBe:B f.subs.length=acc++cst f bd:=by rw[hB,zpu,←hbd,hAe];simp only[List.take_length,List.append_assoc]
   have hb2:bd2.length≤bd.length+1:=by
    rw[hbd];split
    ·simp
    ·omega
   have kBs:=Kp.mk hBs
   have kBl:=Kp.mk hBl
   have kBe:=Kp.mk hBe
   clear hBs hBl hBe hB hAe
   rcases Decidable.em (isQ f.kind)with hq|hq
   all_goals
    (first|rw[if_pos hq]at hbd|rw[if_neg hq]at hbd)
    unfold isQ at hq
    repeat'(first|refine rq fun _=>?_|refine zaq.i (zal (by omega) (by decide)) fun _=>?_|simp only[go_sem,HHk,hq,Nat.lt_irrefl,zad,Tryz.f77])
    refine zam hm (zcG (G:=G) zyO) 77000 (lst [24]) (ι:=zdR f.subs.length (n+1) fun _=>True)
     ⟨fun q=>⟨frL [(1,.fz (.sl (bd2.map enc))),(2,.ptr (49003,1) 0),(3,.ptr (49004,2) 0),(39,.fz (.sl (f.subs.map enc))),(40,.fz (.i .i64 f.subs.length)),(41,.fz (.i .i64 q.i))],hpX (HHk (B q.i) q.g) X,q.m⟩,fun q=>f.subs.length-q.i⟩
     ⟨0,g1,m1,by omega,by omega,by omega,trivial⟩ (by kernel_rfl) ?_ ?_
    ·refine zay ?_ ?_ (fun id o ho=>?_) ?_
     ·simp only[go_sem,hbd,List.map_append]
     ·simp only[go_sem,HHk,hB0]
     ·refine kX.out id o ho fun h1=>?_
      ((repeat'(first|exact trivial|apply And.intro))<;>(rintro rfl;simp only at h1;omega))
     ·simp only[go_sem]
    rintro⟨j,g2,m2,hj,hg2,hm2,_⟩
    try simp only at hj hg2 hm2
    rcases Nat.lt_or_ge j f.subs.length with h2|h2
    ·have hmem:=List.getElem_mem h2
     have hBj:=kBs.out j h2
     have hl4:=kBl.out (j+1)
     have hz:=kZ.out _ hmem
     rw[hBj,List.length_append]at hl4
     have ih2:=kI.out f.subs[j] bd2 (B j) g2 (m2+1) X hz.1 (kS.out _ hmem) (by omega) (by omega) hl4 (by omega) (fun id o ho=>by have:=kx.out id o ho;omega)
     rw[zaz]at ih2
     repeat'(first|refine rq fun _=>?_|simp only[go_sem,HHk,h2,zaa,Tryz.f77])
     refine zaQ.i (zdF rfl (zcY (by simp only[go_sem,zgJ]) (by simp only[go_sem,HHk]) (fun id o ho=>?_) (Nat.le_refl _) (zaL ih2 ?_)))
     ·refine kX.out id o ho fun h1=>?_
      ((repeat'(first|exact trivial|apply And.intro))<;>(rintro rfl;simp only at h1;omega))
     rintro d' H' n' ⟨rfl,e1,⟨g3,hg3,e2⟩,e3⟩
     rw[←hBj]at e2
     simp only[go_sem,HHk]at e2
     obtain⟨b1,b2,b3⟩:=e2
     rw[show H'=hpX [] H' from rfl]
     repeat'(first|refine rq fun _=>?_|simp only[go_sem,HHk,h2,Tryz.f77])
     refine⟨⟨j+1,g3,n',by omega,by omega,by omega,trivial⟩,by simp only;omega,?_⟩
     refine zay ?_ ?_ (fun id o ho=>?_) ?_
     ·simp only[go_sem]
     ·simp only[go_sem,HHk,b1,b2,b3]
     ·exact e3 id o ho
     ·simp only[go_sem]
    ·obtain rfl:j=f.subs.length:=by omega
     repeat'(first|refine rq fun _=>?_|simp only[go_sem,HHk,Nat.lt_irrefl,Tryz.f77])
     rw[kQ.out]
     refine⟨rfl,by omega,⟨g2,by omega,?_⟩,fun id o ho=>kX.out id o ho fun h1=>?_⟩
     ·rw[←kBe.out];simp only[go_sem,HHk]
     ·((repeat'(first|exact trivial|apply And.intro))<;>(rintro rfl;simp only at h1;omega))
theorem zul {H:zax}{id:Abs.Id}{l:List Str}{bx vt:Bool}{n:Nat}{R:D→zax→Nat→Prop}(ho:H id=some ⟨zaf (l.map enc),bx,vt⟩)
  (hR:R (.tup []) (hpX [(id,some ⟨zaf ((znz l).map enc),bx,vt⟩)] H) n):zaH Tryz.prog G 78 [.arr id 1 0 l.length] H n R:=by
 rw[zd9]at ho
 have h:=zjy (G:=G) (n:=n) zIO Tryz.slices_Sort_string Tryz.slices_Sort_string_none ho
 rw[List.length_map]at h
 refine zaL h ?_
 rintro d H' n' ⟨rfl,rfl,rfl⟩
 rw[zla,zfi]
 exact hR
theorem zsR {H:zax}{id:Abs.Id}{l:List Str}{bx vt:Bool}{n:Nat}{R:D→zax→Nat→Prop}(ho:H id=some ⟨zaf (l.map enc),bx,vt⟩)
  (hR:R (.arr id 1 0 (zjo l).length) (hpX [(id,some ⟨zaf ((zjo l).map enc),bx,vt⟩)] H) n):zaH Tryz.prog G 79 [.arr id 1 0 l.length] H n R:=by
 rw[zd9]at ho
 have h:=zf1 (G:=G) (n:=n) zIP Tryz.slices_Compact_string Tryz.slices_Compact_string_empty ho
 rw[List.length_map]at h
 refine zaL h ?_
 rintro d H' n' ⟨rfl,rfl,rfl⟩
 rw[zla,zfi,show(zen (l.map (·.l))).length=(zjo l).length by unfold zjo;rw[List.length_map]]
 exact hR
theorem zJt {f:Abs.zac}(hw:(enc f).Wf)(hl:(cst f []).length≤1000000)(hs:f.size≤1000000):zaH Tryz.prog G 49 [.fz (enc f)] (hpL []) 0
  (fun d H n=>∃g,g<n∧d= .arr (77024,g) 1 0 (zcy f).length∧H (77024,g)=some ⟨zaf ((zcy f).map enc),false,(cst f []).isEmpty⟩):=by
 obtain⟨Q,hQ⟩:∃Q:D→zax→Nat→Prop,Q=(fun d H n=>∃g,g<n∧d= .arr (77024,g) 1 0 (zcy f).length∧H (77024,g)=some ⟨zaf ((zcy f).map enc),false,(cst f []).isEmpty⟩):=⟨_,rfl⟩
 rw[←hQ]
 refine zaj (N:=13) hm (zcG (G:=G) zyO) 49000 (lst []) zGB Tryz.func49 rfl rfl (by simp) (by kernel_rfl) ?_
 have h:=zJu (G:=G) f.size f [] [] 3 4 (fun _=>none) (Nat.le_refl _) hw (by omega) (by omega) (by simpa using hl) (by simpa using hs) (fun id o ho=>by cases ho)
 rw[zaz]at h
 repeat'(first|refine rq fun _=>?_|simp only[go_sem,Tryz.f49])
 refine zaQ.i (zdF rfl (zky (args':=[.fz (.agg [.i .i64 f.kind,.s f.name.l,.sl (f.words.map enc),.sl (f.subs.map enc)]),.fz (enc ([]:List Str)),.ptr (49003,1) 0,.ptr (49004,2) 0])
  (hl:=HHk [] 3) (n':=4) [] [(77024,3)] [] rfl ?_ ?_ ?_ ?_ ?_ ?_))
 case _=>omega
 case _=>simp only[go_sem]
 case _=>simp only[go_sem,HHk];first|done|rfl
 case _=>simp only[go_sem,HHk];first|done|rfl
 case _=>simp only[go_sem];first|done|rfl
 rw[show hpL (HHk [] 3)=hpX (HHk [] 3) (fun _=>none)from rfl]
 refine zaL h ?_
 rintro d' H' n' ⟨rfl,e1,⟨g,hg,e2⟩,_⟩
 rw[List.nil_append]at e2
 obtain⟨C,hC⟩:∃C,C=cst f []:=⟨_,rfl⟩
 rw[←hC]at e2
 rw[zqn,←hC]at hQ
 simp only[go_sem,HHk]at e2
 obtain⟨b1,b2,b3⟩:=e2
 rw[show H'=hpX [] H' from rfl]
 repeat'(first|refine rq fun _=>?_|simp only[go_sem,b1,b2,b3,Tryz.f49])
 refine zaQ.i (zul (l:=C) (bx:=false) (vt:=C.isEmpty) (by simp only[go_sem,b3]) ?_)
 rw[←znA C]at b1
 repeat'(first|refine rq fun _=>?_|simp only[go_sem,b1,b2,b3,Tryz.f49])
 refine zaQ.i (zsR (l:=znz C) (bx:=false) (vt:=C.isEmpty) (by simp only[go_sem]) ?_)
 repeat'(first|refine rq fun _=>?_|simp only[go_sem,b1,b2,b3,Tryz.f49])
 rw[hQ]
 exact⟨g,hg,by simp only[go_sem],by simp only[go_sem]⟩
def A16:Tbl:=A15.add 49 (sp1 zcy fun f=>(cst f []).length≤1000000∧f.size≤1000000)
attribute [go_sem] A16
theorem zuR {f:Abs.zac}(h:(cst f []).isEmpty=true):zcy f=[]:=by
 cases hu:zcy f with
 |nil=>rfl
 |cons x l=>
  have:=(ze2 f x).1 (by rw[hu];simp)
  rw[List.isEmpty_iff.1 h]at this
  simp at this
theorem zDy:zan Tryz.prog G A16:=by
 refine zbR zGB zJB fun f hp hw=>?_
 refine zb1 (zJt (G:=G) hw hp.1 hp.2) ?_
 rintro d H n ⟨g,hg,rfl,ho⟩
 obtain⟨U,hU⟩:∃U,zcy f=U:=⟨_,rfl⟩
 have hn:(cst f []).isEmpty=true→U=[]:=fun h=>by rw[←hU];exact zuR h
 rw[hU]at ho ⊢
 refine⟨.fz (.sl (U.map enc)),H0,n,?_,rfl⟩
 have e:H0=hpL []:=rfl
 rw[e]
 refine zb6 [] [] [((77024,g),U.map enc)] ?_ ?_ ?_ ?_ ?_<;>simp only[go_sem,ho]
 intro h
 rw[hn h];rfl
def A17:Tbl:=A16.add 45 (sp2 ze6 fun l _=>l.length≤1000000)
attribute [go_sem] A17
theorem zJC:zan Tryz.prog G A17:=by
 refine zbI zAS zDy fun l s hl _ _=>?_
 by_cases hin:s∈l
 ·have e:ze6 l s=l:=by unfold ze6;rw[if_pos hin]
  rw[e]
  refine zaj (N:=39) hm (G:=G) zDy 45000 (lsw [29,33,38] []) zAS Tryz.func45 rfl rfl (by simp) (by kernel_rfl) ?_
  repeat'(first|refine rq fun _=>?_|simp only[go_sem,hin,Tryz.f45])
 ·have e:ze6 l s=l.take (twN l s)++[s]++l.drop (twN l s):=by unfold ze6;rw[if_neg hin];rfl
  rw[e]
  clear e
  have hlt:∀i (h:i<l.length),i<twN l s→Op.bytesLess l[i].l s.l=true:=fun i h h2=>by rw[zc0];exact decide_eq_true (zuK h h2)
  have hat:∀i (h:i<l.length),i=twN l s→Op.bytesLess l[i].l s.l=false:=fun i h h2=>by rw[zc0];exact decide_eq_false (zuI h h2)
  have htl:=zuJ s l
  obtain⟨T,hT⟩:∃T,twN l s=T:=⟨_,rfl⟩
  rw[hT]at hlt hat htl ⊢
  clear hT
  have kl:=Kp.mk hlt
  have ka:=Kp.mk hat
  clear hlt hat
  refine zaj (N:=39) hm (G:=G) zDy 45000 (lsw [29,33,38] []) zAS Tryz.func45 rfl rfl (by simp) (by kernel_rfl) ?_
  repeat'(first|refine rq fun _=>?_|simp only[go_sem,hin,Tryz.f45])
  refine zam hm (G:=G) zDy 45000 (lsw [29,33,38] []) (ι:=zcX T fun _=>True)
   ⟨fun q=>⟨frL [(0,.fz (.sl (l.map enc))),(1,.fz (.s s.l)),(5,.full []),(6,.fz (.i .i64 q.i))],hpL [],0⟩,fun q=>T-q.i⟩
   ⟨0,by omega,trivial⟩ (by kernel_rfl) ?_ ?_
  ·refine zah ?_ ?_ ?_<;>simp only[go_sem]
  rintro⟨i,hi,_⟩
  try simp only at hi
  rcases Nat.lt_or_ge i T with h1|h1
  ·have h2:i<l.length:=by omega
   have h3:=kl.out i h2 h1
   repeat'(first|refine rq fun _=>?_|simp only[go_sem,h2,h3,zaa,Tryz.f45])
   refine⟨⟨i+1,by omega,trivial⟩,by simp only;omega,?_⟩
   refine zah ?_ ?_ ?_<;>simp only[go_sem]
  ·obtain rfl:i=T:=by omega
   have hlt:(l.take i).length=i:=by rw[List.length_take];omega
   rcases Nat.lt_or_ge i l.length with h2|h2
   case' inl=>have h3:=ka.out i h2 rfl
   case' inr=>have h3:¬i<l.length:=by omega
   all_goals
    repeat'(first|refine rq fun _=>?_|refine zaq.i (zal (by first|omega|(simp only[List.length_map,List.length_take,List.length_drop,List.length_append,List.length_cons,List.length_nil];omega)) (by decide)) fun _=>?_|refine rq fun _=>?_|simp only[go_sem,h2,h3,zsX,zaa,Tryz.f45])
   all_goals first|done|(simp only[List.map_append,List.map_take,List.map_drop,List.map_cons,List.map_nil,zs8])
def A18:Tbl:=A17.add 100 (sp3 zgL zjK)
attribute [go_sem] A18
theorem zG7:zan Tryz.prog G A18:=by
 refine zoW zac.size zwx zJC fun n hT f bd l hn hpre hw _ _=>?_
 obtain⟨hfit,hbl,hll⟩:=hpre
 obtain⟨hwl,hsl,hfs⟩:=zac.fit_eq hfit
 have hszs:f.size=zac.sizes f.subs+1:=by cases f;rw[zac.size];rfl
 have hsz:∀g∈f.subs,g.size<n∧g.fit=true:=fun g hg=>⟨by have:=zac.size_sub hg;omega,zac.fits_mem hfs hg⟩
 obtain⟨L,hL⟩:∃L:Nat→List Str,L=fun i=>(f.words.take i).foldl (fun l w=>if w∈bd then l else ze6 l w) l:=⟨_,rfl⟩
 have hL0:L 0=l:=by rw[hL];rfl
 have hLs:∀i (h:i<f.words.length),L (i+1)=if f.words[i]∈bd then L i else ze6 (L i) f.words[i]:=fun i h=>by
  rw[hL];simp only[List.take_succ_eq_append_getElem h,List.foldl_append,List.foldl_cons,List.foldl_nil]
 have hLl:∀i,(L i).length≤l.length+1000:=fun i=>by
  have:=zeY bd (f.words.take i) l
  rw[hL];simp only;rw[List.length_take]at this;omega
 obtain⟨bd2,hbd2⟩:∃bd2,(if isQ f.kind then bd++[f.name]else bd)=bd2:=⟨_,rfl⟩
 have hbl2:bd2.length≤bd.length+1:=by rw[←hbd2];split<;>simp
 obtain⟨lw,hlw⟩:∃lw,L f.words.length=lw:=⟨_,rfl⟩
 have hlwl:lw.length≤l.length+1000:=by rw[←hlw];exact hLl _
 have hcst:zgL f bd l=zc2 f.subs bd2 lw:=by rw[zsV,hbd2,←hlw,hL];simp only[List.take_length]
 obtain⟨M,hM⟩:∃M:Nat→List Str,M=fun j=>zc2 (f.subs.take j) bd2 lw:=⟨_,rfl⟩
 have hM0:M 0=lw:=by rw[hM];simp only[List.take_zero,zc2]
 have hMs:∀j (h:j<f.subs.length),M (j+1)=zgL f.subs[j] bd2 (M j):=fun j h=>by
  rw[hM];simp only[List.take_succ_eq_append_getElem h,zio,zc2]
 have hMl:∀j (h:j<f.subs.length),zjK f.subs[j] bd2 (M j):=fun j h=>by
  have h1:=zf8 (f.subs.take j) bd2 lw (ziz j hfs)
  have h2:=zcR h
  have h3:=zac.size_mem (List.getElem_mem h)
  refine⟨(hsz _ (List.getElem_mem h)).2,by omega,?_⟩
  rw[hM];simp only;omega
 have hMe:M f.subs.length=zgL f bd l:=by rw[hcst,hM];simp only[List.take_length]
 have kT:=Kp.mk hT
 have kz:=Kp.mk hsz
 have kL:=Kp.mk hLs
 have kM:=Kp.mk hMs
 have kN:=Kp.mk hMl
 have kb:=Kp.mk hbd2
 have kl:=Kp.mk hLl
 rw[←hMe]
 clear hT hsz hLs hMs hMl hbd2 hL hM hcst hLl hw hMe hfit hfs
 refine zaj (N:=56) hm (G:=G) kT.out 100000 (lsw [35,39] [1000008]) zwx Tryz.func100 rfl rfl (by simp) (by kernel_rfl) ?_
 repeat'(first|refine rq fun _=>?_|simp only[go_sem,Tryz.f100])
 refine zb0 (zdG (id:=(100003,0)) (t:=3) (b:=true) (ys:=[.i .i64 f.kind,.s f.name.l,.sl (f.words.map enc),.sl (f.subs.map enc)]) (by simp only[go_sem]) (by simp only[go_sem])) ?_
 refine zam hm (G:=G) kT.out 100000 (lsw [35,39] [1000008]) (ι:=zcX f.words.length fun _=>True)
  ⟨fun q=>⟨frL [(1,.fz (.sl (bd.map enc))),(2,.fz (.sl ((L q.i).map enc))),(3,.rp [.i .i64 f.kind,.s f.name.l,.sl (f.words.map enc),.sl (f.subs.map enc)]),(11,.fz (.sl (f.words.map enc))),(12,.fz (.i .i64 f.words.length)),(13,.fz (.i .i64 q.i))],hpL [],1⟩,fun q=>f.words.length-q.i⟩
  ⟨0,by omega,trivial⟩ (by kernel_rfl) ?_ ?_
 ·refine zah ?_ ?_ ?_<;>simp only[go_sem,hL0]
 rintro⟨i,hi,_⟩
 try simp only at hi
 rcases Nat.lt_or_ge i f.words.length with h1|h1
 ·have hls:=kL.out i h1
  have hll2:=kl.out i
  obtain⟨w,hwi⟩:∃w,f.words[i]=w:=⟨_,rfl⟩
  rw[hwi]at hls
  by_cases hin:w∈bd
  ·rw[if_pos hin]at hls
   repeat'(first|refine rq fun _=>?_|simp only[go_sem,h1,hwi,hin,zad,zaa,Tryz.f100])
   refine⟨⟨i+1,by omega,trivial⟩,by simp only;omega,?_⟩
   refine zah ?_ ?_ ?_<;>simp only[go_sem,hls]
  ·rw[if_neg hin]at hls
   repeat'(first|refine rq fun _=>?_|simp only[go_sem,h1,hwi,hin,zad,zaa,Tryz.f100])
   refine⟨⟨i+1,by omega,trivial⟩,by simp only;omega,?_⟩
   refine zah ?_ ?_ ?_<;>simp only[go_sem,hls]
 ·obtain rfl:i=f.words.length:=by omega
  by_cases hq:isQ f.kind
  case' pos=>
   have hb2:=kb.out
   rw[if_pos hq]at hb2
   unfold isQ at hq
   have hq8:((f.kind=8)=True∧(f.kind=8)=True)∨((f.kind=8)=False∧(f.kind=9)=True):=by
    rcases hq with h|h
    ·exact .inl ⟨eq_true h,eq_true h⟩
    ·exact .inr ⟨eq_false (by omega),eq_true h⟩
   rcases hq8 with⟨h8,h9⟩|⟨h8,h9⟩
   all_goals
    repeat'(first|refine rq fun _=>?_|simp only[go_sem,h8,h9,hlw,Nat.lt_irrefl,Tryz.f100])
   all_goals
    refine zbk hm (G:=G) kT.out 100000 (lsw [35,39] [1000008]) zlO (by kernel_rfl) (by kernel_rfl) ?_
    repeat'(first|refine And.intro ?_ ?_|exact True.intro|refine rq fun _=>?_|refine zaq.i (zal (by first|omega|(simp only[List.length_map,List.length_append,List.length_cons,List.length_nil];omega)) (by decide)) fun _=>?_|simp only[go_sem,zlO,hlw,Tryz.f100])
  case' neg=>
   have hb2:=kb.out
   rw[if_neg hq]at hb2
   unfold isQ at hq
   have h8:(f.kind=8)=False:=eq_false fun h=>hq (.inl h)
   have h9:(f.kind=9)=False:=eq_false fun h=>hq (.inr h)
   repeat'(first|refine rq fun _=>?_|simp only[go_sem,h8,h9,hlw,Nat.lt_irrefl,Tryz.f100])
  all_goals
   refine zam hm (G:=G) kT.out 100000 (lsw [35,39] [1000008]) (ι:=zcX f.subs.length fun _=>True)
    ⟨fun q=>⟨frL [(1,.fz (.sl (bd2.map enc))),(2,.fz (.sl ((M q.i).map enc))),(3,.rp [.i .i64 f.kind,.s f.name.l,.sl (f.words.map enc),.sl (f.subs.map enc)]),(42,.fz (.i .i64 f.subs.length)),(43,.fz (.i .i64 q.i))],hpL [],100⟩,fun q=>f.subs.length-q.i⟩
    ⟨0,by omega,trivial⟩ (by kernel_rfl) ?_ ?_
   ·refine zbw (zkz (l:=[(1,.fz (.sl (bd2.map enc))),(2,.fz (.sl (lw.map enc))),(3,.rp [.i .i64 f.kind,.s f.name.l,.sl (f.words.map enc),.sl (f.subs.map enc)]),(42,.fz (.i .i64 f.subs.length)),(43,.fz (.i .i64 0))]) (by simp only[go_sem,←hb2,List.map_append])) (zah ?_ ?_ ?_)<;>simp only[go_sem,hM0]
   rintro⟨j,hj,_⟩
   try simp only at hj
   rcases Nat.lt_or_ge j f.subs.length with h2|h2
   ·have hms:=kM.out j h2
    have hmn:=kN.out j h2
    have hsz:=(kz.out _ (List.getElem_mem h2)).1
    obtain⟨x,hx⟩:∃x,f.subs[j]=x:=⟨_,rfl⟩
    rw[hx]at hms hmn hsz
    repeat'(first|refine rq fun _=>?_|refine zaq.i ⟨hsz,hmn⟩ fun _=>?_|simp only[go_sem,h2,hx,hsz,zaa,Tryz.f100])
    refine⟨⟨j+1,by omega,trivial⟩,by simp only;omega,?_⟩
    refine zah ?_ ?_ ?_<;>simp only[go_sem,hms]
   ·obtain rfl:j=f.subs.length:=by omega
    repeat'(first|refine rq fun _=>?_|simp only[go_sem,Nat.lt_irrefl,Tryz.f100])
def A19:Tbl:=A18.add 75 (sp1 (fun f=>zgL f [] []) fun f=>f.fit=true∧f.size≤1000)
attribute [go_sem] A19
theorem zJD:zan Tryz.prog G A19:=by
 refine zbR zEw zG7 fun f hpre _=>?_
 have hp:zjK f [] []:=⟨hpre.1,by simp only[List.length_nil];omega,by simp only[List.length_nil];omega⟩
 refine zaj (N:=5) hm (G:=G) zG7 75000 (lst []) zEw Tryz.func75 rfl rfl (by simp) (by kernel_rfl) ?_
 repeat'(first|refine rq fun _=>?_|refine zaq.i hp fun _=>?_|simp only[go_sem,Tryz.f75])
end
end Go.Proofs.YtmconmiemdinkaaGreatDoor
