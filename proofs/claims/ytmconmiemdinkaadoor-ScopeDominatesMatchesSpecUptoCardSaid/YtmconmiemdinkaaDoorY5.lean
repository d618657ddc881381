/- several texts of this proof in one; no conditions -/
import Derived.Test.YtmconmiemdinkaaDoorAT
import Derived.Test.YtmconmiemdinkaaDoorY0
import Derived.Test.YtmconmiemdinkaaDoorY13
import Derived.Test.YtmconmiemdinkaaDoorY8
import Derived.Test.YtmconmiemdinkaaDoorY2
set_option maxRecDepth 100000
set_option maxHeartbeats 1000000
set_option linter.unusedSimpArgs false
namespace Go.Proofs.YtmconmiemdinkaaDoor
open Go Go.Abs Go.Proofs
section
variable {G:Nat→List FD}
def A1:Tbl:=Q20.add 76 (sp1 (fun _:Str=>false) fun _=>True)
attribute [go_sem] A1
theorem hA1:zam Tryd.prog G A1:=by
 refine zcu zC3 (zcd zt4) fun s _ _=>?_
 refine zak (N:=6) hm (zcd zt4) 76000 (lst []) zC3 Tryd.func76 rfl rfl (by simp) (by kernel_rfl) ?_
 repeat'(first|refine rq fun _=>?_|simp only[go_sem,Tryd.f76])
def A2:Tbl:=A1
attribute [go_sem] A2
theorem hA2:zam Tryd.prog G A2:=hA1
def A3:Tbl:=A2
attribute [go_sem] A3
theorem hA3:zam Tryd.prog G A3:=hA2
def A4:Tbl:=A3
attribute [go_sem] A4
theorem hA4:zam Tryd.prog G A4:=hA3
def A5:Tbl:=A4
attribute [go_sem] A5
theorem hA5:zam Tryd.prog G A5:=hA4
def A6:Tbl:=A5
attribute [go_sem] A6
theorem hA6:zam Tryd.prog G A6:=hA5
end
end Go.Proofs.YtmconmiemdinkaaDoor
namespace Go.Abs
open Go
end Go.Abs
namespace Go.Proofs.YtmconmiemdinkaaDoor
open Go Go.Abs Go.Proofs
section
variable {G:Nat→List FD}
def A7:Tbl:=A6
attribute [go_sem] A7
theorem hA7:zam Tryd.prog G A7:=hA6
def A8:Tbl:=A7
attribute [go_sem] A8
theorem hA8:zam Tryd.prog G A8:=hA7
structure BsI (n:Nat)(p:Nat→Prop)(q:Nat→Prop) where
 i:Nat
 j:Nat
 hij:i≤j
 hj:j≤n
 hp:p i
 hq:q j
end
end Go.Proofs.YtmconmiemdinkaaDoor
namespace Go.Abs
open Go
instance:Inhabited (List Int):=⟨[]⟩
end Go.Abs
namespace Go.Proofs.YtmconmiemdinkaaDoor
open Go Go.Abs Go.Proofs
section
variable {G:Nat→List FD}
def A9:Tbl:=A8
attribute [go_sem] A9
theorem hA9:zam Tryd.prog G A9:=hA8
def A10:Tbl:=A9
attribute [go_sem] A10
theorem zDB:zam Tryd.prog G A10:=hA9
end
end Go.Proofs.YtmconmiemdinkaaDoor
namespace Go.Abs
open Go
mutual
theorem zor:∀f:zab,zkU f≤f.size
 | .mk k n w s=>by
  rw[zkU,zab.size]
  have:=ziD s
  split<;>omega
theorem ziD:∀fs:List zab,zft fs≤zab.sizes fs
 |[]=>by rw[zft];omega
 |f::fs=>by rw[zft,zab.sizes];have:=zor f;have:=ziD fs;omega
end
def szP (f:zab):Prop:=f.fit=true∧f.size≤1000000
end Go.Abs
namespace Go.Proofs.YtmconmiemdinkaaDoor
open Go Go.Abs Go.Proofs
section
variable {G:Nat→List FD}
def A11:Tbl:=A10
attribute [go_sem] A11
theorem zDC:zam Tryd.prog G A11:=zDB
end
end Go.Proofs.YtmconmiemdinkaaDoor
namespace Go.Abs
open Go
section
variable {P:Program} {G:Nat→List FD} {T:Tbl}
end
end Go.Abs
namespace Go.Proofs.YtmconmiemdinkaaDoor
open Go Go.Abs Go.Proofs
section
variable {G:Nat→List FD}
def A12:Tbl:=A11
attribute [go_sem] A12
theorem zDD:zam Tryd.prog G A12:=zDC
def A13:Tbl:=A12
attribute [go_sem] A13
theorem zDE:zam Tryd.prog G A13:=zDD
def A14:Tbl:=A13
attribute [go_sem] A14
theorem zDF:zam Tryd.prog G A14:=zDE
end
end Go.Proofs.YtmconmiemdinkaaDoor
namespace Go.Proofs.YtmconmiemdinkaaDoor
open Go Go.Abs Go.Proofs
section
variable {G:Nat→List FD}
structure zDj (n:Nat)(P:Nat→Prop) where
 p:Nat
 hn:p≤n
 hp:P p
end
end Go.Proofs.YtmconmiemdinkaaDoor
namespace Go.Abs
open Go
section
variable {P:Program} {G:Nat→List FD} {T:Tbl}
end
structure zHt (m:zcJ)(f:zab)(env:List zcx):Prop where
 m:zEw m
 v:vok f
 s:szP f
 e:env.length+zkU f≤900
end Go.Abs
namespace Go.Proofs.YtmconmiemdinkaaDoor
open Go Go.Abs Go.Proofs
section
variable {G:Nat→List FD}
def A15:Tbl:=A14
attribute [go_sem] A15
theorem zDG:zam Tryd.prog G A15:=zDF
end
end Go.Proofs.YtmconmiemdinkaaDoor
namespace Go.Proofs.YtmconmiemdinkaaDoor
open Go Go.Abs Go.Proofs
section
variable {G:Nat→List FD}
theorem zDz:∀(k:Nat) (f:Abs.zab) (bd acc:List Str) (g n:Nat) (X:zau),f.size≤k→(enc f).Wf→g<n→2<n→acc.length+(cst f bd).length≤1000000→bd.length+f.size≤1000000→
  (∀id o,X id=some o→id.2<n∧id.1≠42003∧id.1≠42004∧id.1≠54024)→
  zaE Tryd.prog G 54 [.fz (enc f),.fz (enc bd),.ptr (42003,1) 0,.ptr (42004,2) 0] (hpX (HHk acc g) X) n
   (fun d' H' n'=>d'= .tup []∧n≤n'∧(∃g',g'<n'∧zfO H' (HHk (acc++cst f bd) g'))∧∀id o,X id=some o→H' id=some o):=by
 intro k
 induction k with
 |zero=>intro f bd acc g n X hs;have:=f.size_pos;omega
 |succ k ih=>
  intro f bd acc g n X hs hw hg hn hlen hbl hX
  obtain⟨Q,hQ⟩:∃Q:D→zau→Nat→Prop,Q=(fun d' H' n'=>d'= .tup []∧n≤n'∧(∃g',g'<n'∧zfO H' (HHk (acc++cst f bd) g'))∧∀id o,X id=some o→H' id=some o):=⟨_,rfl⟩
  rw[←hQ]
  have hX':∀{l:List (Abs.Id×Option O)} (id o),X id=some o→(id.2<n∧id.1≠42003∧id.1≠42004∧id.1≠54024→zj4 id l)→hpX l X id=some o:=fun id o h1 h2=>(zba (h2 (hX id o h1))).trans h1
  have hwl:f.words.length≤zbj:=by
   have h:=zbM (by have h:=hw;rw[zaJ]at h;exact h) (FD.sl (f.words.map enc)) (by simp)
   have:=zdq h
   simpa using this
  have hsl:f.subs.length≤zbj:=by
   have h:=zbM (by have h:=hw;rw[zaJ]at h;exact h) (FD.sl (f.subs.map enc)) (by simp)
   have:=zdq h
   simpa using this
  have hsw:∀g∈f.subs,(enc g).Wf:=fun g hg=>zjX (zbM (by have h:=hw;rw[zaJ]at h;exact h) (FD.sl (f.subs.map enc)) (by simp)) _ (List.mem_map_of_mem hg)
  have hss:∀g∈f.subs,g.size≤k∧g.size+1≤f.size:=fun g hg=>by have:=zab.size_sub hg;omega
  unfold zbj at hwl hsl
  rw[zmM,List.length_append]at hlen
  obtain⟨A,hA⟩:∃A:Nat→List Str,A=fun i=>acc++(f.words.take i).filter (fun w=>decide (w∉bd)):=⟨_,rfl⟩
  have hA0:A 0=acc:=by rw[hA];simp
  have hAl:∀i,(A i).length≤acc.length+(f.words.filter (fun w=>decide (w∉bd))).length:=fun i=>by
   rw[hA];simp only[List.length_append];have:=@zef f.words bd i;omega
  have hAs:∀i (h:i<f.words.length),A (i+1)=A i++if f.words[i]∈bd then[]else[f.words[i]]:=fun i h=>by
   rw[hA];simp only[zdX h,List.append_assoc]
  have hAe:A f.words.length=acc++f.words.filter (fun w=>decide (w∉bd)):=by rw[hA];simp only[List.take_length]
  have kA:=Kp.mk hAl
  have kB:=Kp.mk hAs
  have kC:=Kp.mk hAe
  clear hA hAl hAs hAe
  have kX:=Kp.mk @hX'
  have kQ:=Kp.mk hQ
  have kI:=Kp.mk ih
  have kS:=Kp.mk hsw
  have kZ:=Kp.mk hss
  have kx:=Kp.mk hX
  clear hX' hQ ih hsw hss hX
  refine zak (N:=50) hm (zcd (G:=G) zt4) 54000 (lst [24]) zC0 Tryd.func54 rfl rfl (by simp) (by kernel_rfl) ?_
  repeat'(first|refine rq fun _=>?_|simp only[go_sem,HHk,Tryd.f54, *])
  refine zap hm (zcd (G:=G) zt4) 54000 (lst [24]) (ι:=zeF f.words.length (n+1) fun _=>True)
   ⟨fun q=>⟨frL [(1,.fz (.sl (bd.map enc))),(2,.ptr (42003,1) 0),(3,.ptr (42004,2) 0),(4,.ptr (54004,n) 0),(11,.fz (.sl (f.words.map enc))),(12,.fz (.i .i64 f.words.length)),(13,.fz (.i .i64 q.i))],
    hpX (((54004,n),some ⟨[.fz (.i .i64 f.kind),.fz (.s f.name.l),.fz (.sl (f.words.map enc)),.fz (.sl (f.subs.map enc))],true,false⟩)::HHk (A q.i) q.g) X,q.m⟩,fun q=>f.words.length-q.i⟩
   ⟨0,g,n+1,by omega,by omega,by omega,trivial⟩ (by kernel_rfl) ?_ ?_
  ·refine zaL ?_ ?_ (fun id o ho=>?_) ?_
   ·simp only[go_sem]
   ·simp only[go_sem,HHk,hA0]
   ·refine kX.out id o ho fun h1=>?_
    ((repeat'(first|exact trivial|apply And.intro))<;>(rintro rfl;simp only at h1;omega))
   ·simp only[go_sem]
  rintro⟨i,g1,m1,hi,hg1,hm1,_⟩
  try simp only at hi hg1 hm1
  rcases Nat.lt_or_ge i f.words.length with h1|h1
  ·have hfl:=kB.out i h1
   have hl1:=kA.out i
   have hl2:=kA.out (i+1)
   by_cases hin:f.words[i]∈bd
   ·rw[if_pos hin,List.append_nil]at hfl
    repeat'(first|refine rq fun _=>?_|simp only[go_sem,HHk,h1,hin,zae,zaa,Tryd.f54])
    refine⟨⟨i+1,g1,m1,by omega,by omega,by omega,trivial⟩,by simp only;omega,?_⟩
    refine zaL ?_ ?_ (fun id o ho=>?_) ?_
    ·simp only[go_sem]
    ·simp only[go_sem,HHk,hfl]
    ·refine kX.out id o ho fun h1=>?_
     ((repeat'(first|exact trivial|apply And.intro))<;>(rintro rfl;simp only at h1;omega))
    ·simp only[go_sem]
   ·rw[if_neg hin]at hfl
    have hl3:(zag ((A i).map enc)).length=(A i).length:=by rw[zc1 (zbR (f:=enc) (k:=1) (fun _=>rfl) _),List.length_map]
    repeat'(first|refine rq fun _=>?_|refine zaG.i (zaA (by omega) (by decide)) fun _=>?_|simp only[go_sem,HHk,h1,hin,zae,zaa,Tryd.f54])
    refine⟨⟨i+1,m1,m1+1,by omega,by omega,by omega,trivial⟩,by simp only;omega,?_⟩
    refine zaL ?_ ?_ (fun id o ho=>?_) ?_
    ·simp only[go_sem]
    ·simp only[go_sem,HHk,hfl,ziv]
    ·refine kX.out id o ho fun h1=>?_
     ((repeat'(first|exact trivial|apply And.intro))<;>(rintro rfl;simp only at h1;omega))
    ·simp only[go_sem]
  ·obtain rfl:i=f.words.length:=by omega
   have hAe:=kC.out
   obtain⟨bd2,hbd⟩:∃bd2,bd2=if isQ f.kind then bd++[f.name]else bd:=⟨_,rfl⟩
   rw[←hbd]at hlen
   obtain⟨B,hB⟩:∃B:Nat→List Str,B=fun j=>A f.words.length++zb3 (f.subs.take j) bd2:=⟨_,rfl⟩
   have hB0:B 0=A f.words.length:=by rw[hB];simp[zb3]
   have hBs:∀j (h:j<f.subs.length),B (j+1)=B j++cst f.subs[j] bd2:=fun j h=>by rw[hB];simp only[zeI h,List.append_assoc]
   have hBl:∀j,(B j).length≤1000000:=fun j=>by rw[hB,List.length_append,hAe,List.length_append];have:=@zfe f.subs bd2 j;omega
   have hBe:B f.subs.length=acc++cst f bd:=by rw[hB,zmM,←hbd,hAe];simp only[List.take_length,List.append_assoc]
   have hb2:bd2.length≤bd.length+1:=by
    rw[hbd];split
    ·simp
    ·omega
   have kBs:=Kp.mk hBs
   have kBl:=Kp.mk hBl
   have kBe:=Kp.mk hBe
   clear hBs hBl hBe hB hAe
   rcases Decidable.em (isQ f.kind)with hq|hq
   all_goals
    (first|rw[if_pos hq]at hbd|rw[if_neg hq]at hbd)
    unfold isQ at hq
    repeat'(first|refine rq fun _=>?_|refine zaG.i (zaA (by omega) (by decide)) fun _=>?_|simp only[go_sem,HHk,hq,Nat.lt_irrefl,zae,Tryd.f54])
    refine zap hm (zcd (G:=G) zt4) 54000 (lst [24]) (ι:=zeF f.subs.length (n+1) fun _=>True)
     ⟨fun q=>⟨frL [(1,.fz (.sl (bd2.map enc))),(2,.ptr (42003,1) 0),(3,.ptr (42004,2) 0),(39,.fz (.sl (f.subs.map enc))),(40,.fz (.i .i64 f.subs.length)),(41,.fz (.i .i64 q.i))],hpX (HHk (B q.i) q.g) X,q.m⟩,fun q=>f.subs.length-q.i⟩
     ⟨0,g1,m1,by omega,by omega,by omega,trivial⟩ (by kernel_rfl) ?_ ?_
    ·refine zaL ?_ ?_ (fun id o ho=>?_) ?_
     ·simp only[go_sem,hbd,List.map_append]
     ·simp only[go_sem,HHk,hB0]
     ·refine kX.out id o ho fun h1=>?_
      ((repeat'(first|exact trivial|apply And.intro))<;>(rintro rfl;simp only at h1;omega))
     ·simp only[go_sem]
    rintro⟨j,g2,m2,hj,hg2,hm2,_⟩
    try simp only at hj hg2 hm2
    rcases Nat.lt_or_ge j f.subs.length with h2|h2
    ·have hmem:=List.getElem_mem h2
     have hBj:=kBs.out j h2
     have hl4:=kBl.out (j+1)
     have hz:=kZ.out _ hmem
     rw[hBj,List.length_append]at hl4
     have ih2:=kI.out f.subs[j] bd2 (B j) g2 (m2+1) X hz.1 (kS.out _ hmem) (by omega) (by omega) hl4 (by omega) (fun id o ho=>by have:=kx.out id o ho;omega)
     rw[zaJ]at ih2
     repeat'(first|refine rq fun _=>?_|simp only[go_sem,HHk,h2,zaa,Tryd.f54])
     refine zaF.i (zes rfl (ze3 (by simp only[go_sem,zg1]) (by simp only[go_sem,HHk]) (fun id o ho=>?_) (Nat.le_refl _) (zaQ ih2 ?_)))
     ·refine kX.out id o ho fun h1=>?_
      ((repeat'(first|exact trivial|apply And.intro))<;>(rintro rfl;simp only at h1;omega))
     rintro d' H' n' ⟨rfl,e1,⟨g3,hg3,e2⟩,e3⟩
     rw[←hBj]at e2
     simp only[go_sem,HHk]at e2
     obtain⟨b1,b2,b3⟩:=e2
     rw[show H'=hpX [] H' from rfl]
     repeat'(first|refine rq fun _=>?_|simp only[go_sem,HHk,h2,Tryd.f54])
     refine⟨⟨j+1,g3,n',by omega,by omega,by omega,trivial⟩,by simp only;omega,?_⟩
     refine zaL ?_ ?_ (fun id o ho=>?_) ?_
     ·simp only[go_sem]
     ·simp only[go_sem,HHk,b1,b2,b3]
     ·exact e3 id o ho
     ·simp only[go_sem]
    ·obtain rfl:j=f.subs.length:=by omega
     repeat'(first|refine rq fun _=>?_|simp only[go_sem,HHk,Nat.lt_irrefl,Tryd.f54])
     rw[kQ.out]
     refine⟨rfl,by omega,⟨g2,by omega,?_⟩,fun id o ho=>kX.out id o ho fun h1=>?_⟩
     ·rw[←kBe.out];simp only[go_sem,HHk]
     ·((repeat'(first|exact trivial|apply And.intro))<;>(rintro rfl;simp only at h1;omega))
theorem zqH {H:zau}{id:Abs.Id}{l:List Str}{bx vt:Bool}{n:Nat}{R:D→zau→Nat→Prop}(ho:H id=some ⟨zag (l.map enc),bx,vt⟩)
  (hR:R (.tup []) (hpX [(id,some ⟨zag ((zld l).map enc),bx,vt⟩)] H) n):zaE Tryd.prog G 55 [.arr id 1 0 l.length] H n R:=by
 rw[zdu]at ho
 have h:=zia (G:=G) (n:=n) zC1 Tryd.slices_Sort_string Tryd.slices_Sort_string_none ho
 rw[List.length_map]at h
 refine zaQ h ?_
 rintro d H' n' ⟨rfl,rfl,rfl⟩
 rw[zjw,zev]
 exact hR
theorem zpy {H:zau}{id:Abs.Id}{l:List Str}{bx vt:Bool}{n:Nat}{R:D→zau→Nat→Prop}(ho:H id=some ⟨zag (l.map enc),bx,vt⟩)
  (hR:R (.arr id 1 0 (zh1 l).length) (hpX [(id,some ⟨zag ((zh1 l).map enc),bx,vt⟩)] H) n):zaE Tryd.prog G 56 [.arr id 1 0 l.length] H n R:=by
 rw[zdu]at ho
 have h:=ze2 (G:=G) (n:=n) zC2 Tryd.slices_Compact_string Tryd.slices_Compact_string_empty ho
 rw[List.length_map]at h
 refine zaQ h ?_
 rintro d H' n' ⟨rfl,rfl,rfl⟩
 rw[zjw,zev,show(zdM (l.map (·.l))).length=(zh1 l).length by unfold zh1;rw[List.length_map]]
 exact hR
theorem zDy {f:Abs.zab}(hw:(enc f).Wf)(hl:(cst f []).length≤1000000)(hs:f.size≤1000000):zaE Tryd.prog G 42 [.fz (enc f)] (hpL []) 0
  (fun d H n=>∃g,g<n∧d= .arr (54024,g) 1 0 (zcw f).length∧H (54024,g)=some ⟨zag ((zcw f).map enc),false,(cst f []).isEmpty⟩):=by
 obtain⟨Q,hQ⟩:∃Q:D→zau→Nat→Prop,Q=(fun d H n=>∃g,g<n∧d= .arr (54024,g) 1 0 (zcw f).length∧H (54024,g)=some ⟨zag ((zcw f).map enc),false,(cst f []).isEmpty⟩):=⟨_,rfl⟩
 rw[←hQ]
 refine zak (N:=13) hm (zcd (G:=G) zt4) 42000 (lst []) zA2 Tryd.func42 rfl rfl (by simp) (by kernel_rfl) ?_
 have h:=zDz (G:=G) f.size f [] [] 3 4 (fun _=>none) (Nat.le_refl _) hw (by omega) (by omega) (by simpa using hl) (by simpa using hs) (fun id o ho=>by cases ho)
 rw[zaJ]at h
 repeat'(first|refine rq fun _=>?_|simp only[go_sem,Tryd.f42])
 refine zaF.i (zes rfl (zlD (args':=[.fz (.agg [.i .i64 f.kind,.s f.name.l,.sl (f.words.map enc),.sl (f.subs.map enc)]),.fz (enc ([]:List Str)),.ptr (42003,1) 0,.ptr (42004,2) 0])
  (hl:=HHk [] 3) (n':=4) [] [(54024,3)] [] rfl ?_ ?_ ?_ ?_ ?_ ?_))
 case _=>omega
 case _=>simp only[go_sem]
 case _=>simp only[go_sem,HHk];first|done|rfl
 case _=>simp only[go_sem,HHk];first|done|rfl
 case _=>simp only[go_sem];first|done|rfl
 rw[show hpL (HHk [] 3)=hpX (HHk [] 3) (fun _=>none)from rfl]
 refine zaQ h ?_
 rintro d' H' n' ⟨rfl,e1,⟨g,hg,e2⟩,_⟩
 rw[List.nil_append]at e2
 obtain⟨C,hC⟩:∃C,C=cst f []:=⟨_,rfl⟩
 rw[←hC]at e2
 rw[znq,←hC]at hQ
 simp only[go_sem,HHk]at e2
 obtain⟨b1,b2,b3⟩:=e2
 rw[show H'=hpX [] H' from rfl]
 repeat'(first|refine rq fun _=>?_|simp only[go_sem,b1,b2,b3,Tryd.f42])
 refine zaF.i (zqH (l:=C) (bx:=false) (vt:=C.isEmpty) (by simp only[go_sem,b3]) ?_)
 rw[←zle C]at b1
 repeat'(first|refine rq fun _=>?_|simp only[go_sem,b1,b2,b3,Tryd.f42])
 refine zaF.i (zpy (l:=zld C) (bx:=false) (vt:=C.isEmpty) (by simp only[go_sem]) ?_)
 repeat'(first|refine rq fun _=>?_|simp only[go_sem,b1,b2,b3,Tryd.f42])
 rw[hQ]
 exact⟨g,hg,by simp only[go_sem],by simp only[go_sem]⟩
def A16:Tbl:=A15.add 42 (sp1 zcw fun f=>(cst f []).length≤1000000∧f.size≤1000000)
attribute [go_sem] A16
theorem zq4 {f:Abs.zab}(h:(cst f []).isEmpty=true):zcw f=[]:=by
 cases hu:zcw f with
 |nil=>rfl
 |cons x l=>
  have:=(zhq f x).1 (by rw[hu];simp)
  rw[List.isEmpty_iff.1 h]at this
  simp at this
theorem zya:zam Tryd.prog G A16:=by
 refine zcu zA2 zDG fun f hp hw=>?_
 refine zdo (zDy (G:=G) hw hp.1 hp.2) ?_
 rintro d H n ⟨g,hg,rfl,ho⟩
 obtain⟨U,hU⟩:∃U,zcw f=U:=⟨_,rfl⟩
 have hn:(cst f []).isEmpty=true→U=[]:=fun h=>by rw[←hU];exact zq4 h
 rw[hU]at ho ⊢
 refine⟨.fz (.sl (U.map enc)),H0,n,?_,rfl⟩
 have e:H0=hpL []:=rfl
 rw[e]
 refine zcV [] [] [((54024,g),U.map enc)] ?_ ?_ ?_ ?_ ?_<;>simp only[go_sem,ho]
 intro h
 rw[hn h];rfl
def A17:Tbl:=A16.add 57 (sp2 zgD fun l _=>l.length≤1000000)
attribute [go_sem] A17
theorem zDH:zam Tryd.prog G A17:=by
 refine zc7 zvM zya fun l s hl _ _=>?_
 by_cases hin:s∈l
 ·have e:zgD l s=l:=by unfold zgD;rw[if_pos hin]
  rw[e]
  refine zak (N:=39) hm (G:=G) zya 57000 (lsw [29,33,38] []) zvM Tryd.func57 rfl rfl (by simp) (by kernel_rfl) ?_
  repeat'(first|refine rq fun _=>?_|simp only[go_sem,hin,Tryd.f57])
 ·have e:zgD l s=l.take (twN l s)++[s]++l.drop (twN l s):=by unfold zgD;rw[if_neg hin];rfl
  rw[e]
  clear e
  have hlt:∀i (h:i<l.length),i<twN l s→Op.bytesLess l[i].l s.l=true:=fun i h h2=>by rw[zcp];exact decide_eq_true (zqZ h h2)
  have hat:∀i (h:i<l.length),i=twN l s→Op.bytesLess l[i].l s.l=false:=fun i h h2=>by rw[zcp];exact decide_eq_false (zqX h h2)
  have htl:=zqY s l
  obtain⟨T,hT⟩:∃T,twN l s=T:=⟨_,rfl⟩
  rw[hT]at hlt hat htl ⊢
  clear hT
  have kl:=Kp.mk hlt
  have ka:=Kp.mk hat
  clear hlt hat
  refine zak (N:=39) hm (G:=G) zya 57000 (lsw [29,33,38] []) zvM Tryd.func57 rfl rfl (by simp) (by kernel_rfl) ?_
  repeat'(first|refine rq fun _=>?_|simp only[go_sem,hin,Tryd.f57])
  refine zap hm (G:=G) zya 57000 (lsw [29,33,38] []) (ι:=zd3 T fun _=>True)
   ⟨fun q=>⟨frL [(0,.fz (.sl (l.map enc))),(1,.fz (.s s.l)),(5,.full []),(6,.fz (.i .i64 q.i))],hpL [],0⟩,fun q=>T-q.i⟩
   ⟨0,by omega,trivial⟩ (by kernel_rfl) ?_ ?_
  ·refine zai ?_ ?_ ?_<;>simp only[go_sem]
  rintro⟨i,hi,_⟩
  try simp only at hi
  rcases Nat.lt_or_ge i T with h1|h1
  ·have h2:i<l.length:=by omega
   have h3:=kl.out i h2 h1
   repeat'(first|refine rq fun _=>?_|simp only[go_sem,h2,h3,zaa,Tryd.f57])
   refine⟨⟨i+1,by omega,trivial⟩,by simp only;omega,?_⟩
   refine zai ?_ ?_ ?_<;>simp only[go_sem]
  ·obtain rfl:i=T:=by omega
   have hlt:(l.take i).length=i:=by rw[List.length_take];omega
   rcases Nat.lt_or_ge i l.length with h2|h2
   case' inl=>have h3:=ka.out i h2 rfl
   case' inr=>have h3:¬i<l.length:=by omega
   all_goals
    repeat'(first|refine rq fun _=>?_|refine zaG.i (zaA (by first|omega|(simp only[List.length_map,List.length_take,List.length_drop,List.length_append,List.length_cons,List.length_nil];omega)) (by decide)) fun _=>?_|refine rq fun _=>?_|simp only[go_sem,h2,h3,zpC,zaa,Tryd.f57])
   all_goals first|done|(simp only[List.map_append,List.map_take,List.map_drop,List.map_cons,List.map_nil,zpO])
def A18:Tbl:=A17.add 46 (sp3 zhW zij)
attribute [go_sem] A18
theorem zBw:zam Tryd.prog G A18:=by
 refine zqI zab.size zy6 zDH fun n hT f bd l hn hpre hw _ _=>?_
 obtain⟨hfit,hbl,hll⟩:=hpre
 obtain⟨hwl,hsl,hfs⟩:=zab.fit_eq hfit
 have hszs:f.size=zab.sizes f.subs+1:=by cases f;rw[zab.size];rfl
 have hsz:∀g∈f.subs,g.size<n∧g.fit=true:=fun g hg=>⟨by have:=zab.size_sub hg;omega,zab.fits_mem hfs hg⟩
 obtain⟨L,hL⟩:∃L:Nat→List Str,L=fun i=>(f.words.take i).foldl (fun l w=>if w∈bd then l else zgD l w) l:=⟨_,rfl⟩
 have hL0:L 0=l:=by rw[hL];rfl
 have hLs:∀i (h:i<f.words.length),L (i+1)=if f.words[i]∈bd then L i else zgD (L i) f.words[i]:=fun i h=>by
  rw[hL];simp only[List.take_succ_eq_append_getElem h,List.foldl_append,List.foldl_cons,List.foldl_nil]
 have hLl:∀i,(L i).length≤l.length+1000:=fun i=>by
  have:=zfk bd (f.words.take i) l
  rw[hL];simp only;rw[List.length_take]at this;omega
 obtain⟨bd2,hbd2⟩:∃bd2,(if isQ f.kind then bd++[f.name]else bd)=bd2:=⟨_,rfl⟩
 have hbl2:bd2.length≤bd.length+1:=by rw[←hbd2];split<;>simp
 obtain⟨lw,hlw⟩:∃lw,L f.words.length=lw:=⟨_,rfl⟩
 have hlwl:lw.length≤l.length+1000:=by rw[←hlw];exact hLl _
 have hcst:zhW f bd l=zcX f.subs bd2 lw:=by rw[zpB,hbd2,←hlw,hL];simp only[List.take_length]
 obtain⟨M,hM⟩:∃M:Nat→List Str,M=fun j=>zcX (f.subs.take j) bd2 lw:=⟨_,rfl⟩
 have hM0:M 0=lw:=by rw[hM];simp only[List.take_zero,zcX]
 have hMs:∀j (h:j<f.subs.length),M (j+1)=zhW f.subs[j] bd2 (M j):=fun j h=>by
  rw[hM];simp only[List.take_succ_eq_append_getElem h,zg9,zcX]
 have hMl:∀j (h:j<f.subs.length),zij f.subs[j] bd2 (M j):=fun j h=>by
  have h1:=zfd (f.subs.take j) bd2 lw (zhh j hfs)
  have h2:=zdB h
  have h3:=zab.size_mem (List.getElem_mem h)
  refine⟨(hsz _ (List.getElem_mem h)).2,by omega,?_⟩
  rw[hM];simp only;omega
 have hMe:M f.subs.length=zhW f bd l:=by rw[hcst,hM];simp only[List.take_length]
 have kT:=Kp.mk hT
 have kz:=Kp.mk hsz
 have kL:=Kp.mk hLs
 have kM:=Kp.mk hMs
 have kN:=Kp.mk hMl
 have kb:=Kp.mk hbd2
 have kl:=Kp.mk hLl
 rw[←hMe]
 clear hT hsz hLs hMs hMl hbd2 hL hM hcst hLl hw hMe hfit hfs
 refine zak (N:=56) hm (G:=G) kT.out 46000 (lsw [35,39] [1000008]) zy6 Tryd.func46 rfl rfl (by simp) (by kernel_rfl) ?_
 repeat'(first|refine rq fun _=>?_|simp only[go_sem,Tryd.f46])
 refine zcl (ze4 (id:=(46003,0)) (t:=3) (b:=true) (ys:=[.i .i64 f.kind,.s f.name.l,.sl (f.words.map enc),.sl (f.subs.map enc)]) (by simp only[go_sem]) (by simp only[go_sem])) ?_
 refine zap hm (G:=G) kT.out 46000 (lsw [35,39] [1000008]) (ι:=zd3 f.words.length fun _=>True)
  ⟨fun q=>⟨frL [(1,.fz (.sl (bd.map enc))),(2,.fz (.sl ((L q.i).map enc))),(3,.rp [.i .i64 f.kind,.s f.name.l,.sl (f.words.map enc),.sl (f.subs.map enc)]),(11,.fz (.sl (f.words.map enc))),(12,.fz (.i .i64 f.words.length)),(13,.fz (.i .i64 q.i))],hpL [],1⟩,fun q=>f.words.length-q.i⟩
  ⟨0,by omega,trivial⟩ (by kernel_rfl) ?_ ?_
 ·refine zai ?_ ?_ ?_<;>simp only[go_sem,hL0]
 rintro⟨i,hi,_⟩
 try simp only at hi
 rcases Nat.lt_or_ge i f.words.length with h1|h1
 ·have hls:=kL.out i h1
  have hll2:=kl.out i
  obtain⟨w,hwi⟩:∃w,f.words[i]=w:=⟨_,rfl⟩
  rw[hwi]at hls
  by_cases hin:w∈bd
  ·rw[if_pos hin]at hls
   repeat'(first|refine rq fun _=>?_|simp only[go_sem,h1,hwi,hin,zae,zaa,Tryd.f46])
   refine⟨⟨i+1,by omega,trivial⟩,by simp only;omega,?_⟩
   refine zai ?_ ?_ ?_<;>simp only[go_sem,hls]
  ·rw[if_neg hin]at hls
   repeat'(first|refine rq fun _=>?_|simp only[go_sem,h1,hwi,hin,zae,zaa,Tryd.f46])
   refine⟨⟨i+1,by omega,trivial⟩,by simp only;omega,?_⟩
   refine zai ?_ ?_ ?_<;>simp only[go_sem,hls]
 ·obtain rfl:i=f.words.length:=by omega
  by_cases hq:isQ f.kind
  case' pos=>
   have hb2:=kb.out
   rw[if_pos hq]at hb2
   unfold isQ at hq
   have hq8:((f.kind=8)=True∧(f.kind=8)=True)∨((f.kind=8)=False∧(f.kind=9)=True):=by
    rcases hq with h|h
    ·exact .inl ⟨eq_true h,eq_true h⟩
    ·exact .inr ⟨eq_false (by omega),eq_true h⟩
   rcases hq8 with⟨h8,h9⟩|⟨h8,h9⟩
   all_goals
    repeat'(first|refine rq fun _=>?_|simp only[go_sem,h8,h9,hlw,Nat.lt_irrefl,Tryd.f46])
   all_goals
    refine zdc hm (G:=G) kT.out 46000 (lsw [35,39] [1000008]) zjT (by kernel_rfl) (by kernel_rfl) ?_
    repeat'(first|refine And.intro ?_ ?_|exact True.intro|refine rq fun _=>?_|refine zaG.i (zaA (by first|omega|(simp only[List.length_map,List.length_append,List.length_cons,List.length_nil];omega)) (by decide)) fun _=>?_|simp only[go_sem,zjT,hlw,Tryd.f46])
  case' neg=>
   have hb2:=kb.out
   rw[if_neg hq]at hb2
   unfold isQ at hq
   have h8:(f.kind=8)=False:=eq_false fun h=>hq (.inl h)
   have h9:(f.kind=9)=False:=eq_false fun h=>hq (.inr h)
   repeat'(first|refine rq fun _=>?_|simp only[go_sem,h8,h9,hlw,Nat.lt_irrefl,Tryd.f46])
  all_goals
   refine zap hm (G:=G) kT.out 46000 (lsw [35,39] [1000008]) (ι:=zd3 f.subs.length fun _=>True)
    ⟨fun q=>⟨frL [(1,.fz (.sl (bd2.map enc))),(2,.fz (.sl ((M q.i).map enc))),(3,.rp [.i .i64 f.kind,.s f.name.l,.sl (f.words.map enc),.sl (f.subs.map enc)]),(42,.fz (.i .i64 f.subs.length)),(43,.fz (.i .i64 q.i))],hpL [],100⟩,fun q=>f.subs.length-q.i⟩
    ⟨0,by omega,trivial⟩ (by kernel_rfl) ?_ ?_
   ·refine ze5 (zmy (l:=[(1,.fz (.sl (bd2.map enc))),(2,.fz (.sl (lw.map enc))),(3,.rp [.i .i64 f.kind,.s f.name.l,.sl (f.words.map enc),.sl (f.subs.map enc)]),(42,.fz (.i .i64 f.subs.length)),(43,.fz (.i .i64 0))]) (by simp only[go_sem,←hb2,List.map_append])) (zai ?_ ?_ ?_)<;>simp only[go_sem,hM0]
   rintro⟨j,hj,_⟩
   try simp only at hj
   rcases Nat.lt_or_ge j f.subs.length with h2|h2
   ·have hms:=kM.out j h2
    have hmn:=kN.out j h2
    have hsz:=(kz.out _ (List.getElem_mem h2)).1
    obtain⟨x,hx⟩:∃x,f.subs[j]=x:=⟨_,rfl⟩
    rw[hx]at hms hmn hsz
    repeat'(first|refine rq fun _=>?_|refine zaG.i ⟨hsz,hmn⟩ fun _=>?_|simp only[go_sem,h2,hx,hsz,zaa,Tryd.f46])
    refine⟨⟨j+1,by omega,trivial⟩,by simp only;omega,?_⟩
    refine zai ?_ ?_ ?_<;>simp only[go_sem,hms]
   ·obtain rfl:j=f.subs.length:=by omega
    repeat'(first|refine rq fun _=>?_|simp only[go_sem,Nat.lt_irrefl,Tryd.f46])
def A19:Tbl:=A18.add 28 (sp1 (fun f=>zhW f [] []) fun f=>f.fit=true∧f.size≤1000)
attribute [go_sem] A19
theorem zDI:zam Tryd.prog G A19:=by
 refine zcu zy4 zBw fun f hpre _=>?_
 have hp:zij f [] []:=⟨hpre.1,by simp only[List.length_nil];omega,by simp only[List.length_nil];omega⟩
 refine zak (N:=5) hm (G:=G) zBw 28000 (lst []) zy4 Tryd.func28 rfl rfl (by simp) (by kernel_rfl) ?_
 repeat'(first|refine rq fun _=>?_|refine zaG.i hp fun _=>?_|simp only[go_sem,Tryd.f28])
end
end Go.Proofs.YtmconmiemdinkaaDoor
