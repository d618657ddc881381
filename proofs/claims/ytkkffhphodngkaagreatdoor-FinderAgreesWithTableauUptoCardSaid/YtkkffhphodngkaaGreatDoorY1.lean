/- several texts of this proof in one; no conditions -/
import Derived.Test.YtkkffhphodngkaaGreatDoorAT
import Derived.Test.YtkkffhphodngkaaGreatDoorY0
import Derived.Test.YtkkffhphodngkaaGreatDoorY16
import Derived.Test.YtkkffhphodngkaaGreatDoorSH
import Derived.Test.YtkkffhphodngkaaGreatDoorY8
set_option maxRecDepth 100000
set_option maxHeartbeats 1000000
set_option linter.unusedSimpArgs false
namespace Go.Proofs.YtkkffhphodngkaaGreatDoor
open Go Go.Abs Go.Proofs
def zuk (n:Int):Str:=⟨Lib.itoa n⟩
def GA:Nat→List FD:=fun g=>if g=0 then[.i .i64 0,.i .i64 0]else if g=1 then Lib.pow10Tab.map (.i .u64)else[]
theorem zlF:Tryz.prog.globalNamed "internal/strconv.uint64pow10" =some 1:=by kernel_rfl
def R1:Tbl:=Q20.add 30 (sp1 zuk fun n=>0≤n∧n≤1000000000000)
attribute [go_sem] R1
theorem hR1:zan Tryz.prog GA R1:=by
 refine zbE zJO (zcP zz2) fun n hn _=>?_
 refine zaG (zq7 zJO zlF rfl Tryz.strconv_Itoa hn.1 hn.2) ?_
 rintro d H m ⟨rfl,_,_⟩
 rfl
theorem zfe (n:Nat):(zuk (n:Int)).l=zbr n:=zxh n
def HHk (acc:List Str)(g:Nat):List (Abs.Id×Option O):=
  [((48003,1),some ⟨[.arr (72024,g) 1 0 acc.length],true,false⟩),
   ((48004,2),some ⟨[.fn 72 [.ptr (48003,1) 0,.ptr (48004,2) 0]],true,false⟩),
   ((72024,g),some ⟨zad (acc.map enc),false,acc.isEmpty⟩)]
theorem zpV {f:Abs.zab}{bd:List Str}:cst f bd=f.words.filter (fun w=>decide (w∉bd))++zbC f.subs (if isQ f.kind then bd++[f.name]else bd):=by cases f;rw[cst];rfl
theorem zfc {ws bd:List Str}(i:Nat):((ws.take i).filter (fun w=>decide (w∉bd))).length≤(ws.filter (fun w=>decide (w∉bd))).length:=
 (List.Sublist.filter _ (List.take_sublist i ws)).length_le
theorem zeN {ws bd:List Str}{i:Nat}(h:i<ws.length):(ws.take (i+1)).filter (fun w=>decide (w∉bd))=(ws.take i).filter (fun w=>decide (w∉bd))++if ws[i]∈bd then[]else[ws[i]]:=by
 rw[List.take_succ_eq_append_getElem h,List.filter_append]
 congr 1
 by_cases hb:ws[i]∈bd
 ·simp[hb]
 ·simp[hb]
theorem zjU {xs:List FD}{l:List UInt8}:zad (xs++[FD.s l])=zad xs++[D.fz (FD.s l)]:=by simp[zad,FD.cells]
theorem zfI {fs:List Abs.zab}{bd:List Str}{j:Nat}(h:j<fs.length):zbC (fs.take (j+1)) bd=zbC (fs.take j) bd++cst fs[j] bd:=by
 rw[List.take_succ_eq_append_getElem h,zkF,zbC,zbC,List.append_nil]
theorem zf8 {fs:List Abs.zab}{bd:List Str}(j:Nat):(zbC (fs.take j) bd).length≤(zbC fs bd).length:=by
 have h:=zkF bd (fs.take j) (fs.drop j)
 rw[List.take_append_drop]at h
 rw[h,List.length_append];omega
theorem f72:∀(k:Nat) (f:Abs.zab) (bd acc:List Str) (g n:Nat) (X:zas),f.size≤k→(enc f).Wf→g<n→2<n→acc.length+(cst f bd).length≤1000000→bd.length+f.size≤1000000→
  (∀id o,X id=some o→id.2<n∧id.1≠48003∧id.1≠48004∧id.1≠72024)→
  zau Tryz.prog GA 72 [.fz (enc f),.fz (enc bd),.ptr (48003,1) 0,.ptr (48004,2) 0] (hpX (HHk acc g) X) n
   (fun d' H' n'=>d'= .tup []∧n≤n'∧(∃g',g'<n'∧zfX H' (HHk (acc++cst f bd) g'))∧∀id o,X id=some o→H' id=some o):=by
 intro k
 induction k with
 |zero=>intro f bd acc g n X hs;have:=f.size_pos;omega
 |succ k ih=>
  intro f bd acc g n X hs hw hg hn hlen hbl hX
  obtain⟨Q,hQ⟩:∃Q:D→zas→Nat→Prop,Q=(fun d' H' n'=>d'= .tup []∧n≤n'∧(∃g',g'<n'∧zfX H' (HHk (acc++cst f bd) g'))∧∀id o,X id=some o→H' id=some o):=⟨_,rfl⟩
  rw[←hQ]
  have hX':∀{l:List (Abs.Id×Option O)} (id o),X id=some o→(id.2<n∧id.1≠48003∧id.1≠48004∧id.1≠72024→zhf id l)→hpX l X id=some o:=fun id o h1 h2=>(zcH (h2 (hX id o h1))).trans h1
  have hwl:f.words.length≤zbh:=by
   have h:=zbW (by have h:=hw;rw[zaI]at h;exact h) (FD.sl (f.words.map enc)) (by simp)
   have:=zdZ h
   simpa using this
  have hsl:f.subs.length≤zbh:=by
   have h:=zbW (by have h:=hw;rw[zaI]at h;exact h) (FD.sl (f.subs.map enc)) (by simp)
   have:=zdZ h
   simpa using this
  have hsw:∀g∈f.subs,(enc g).Wf:=fun g hg=>zfZ (zbW (by have h:=hw;rw[zaI]at h;exact h) (FD.sl (f.subs.map enc)) (by simp)) _ (List.mem_map_of_mem hg)
  have hss:∀g∈f.subs,g.size≤k∧g.size+1≤f.size:=fun g hg=>by have:=zab.size_sub hg;omega
  unfold zbh at hwl hsl
  rw[zpV,List.length_append]at hlen
  obtain⟨A,hA⟩:∃A:Nat→List Str,A=fun i=>acc++(f.words.take i).filter (fun w=>decide (w∉bd)):=⟨_,rfl⟩
  have hA0:A 0=acc:=by rw[hA];simp
  have hAl:∀i,(A i).length≤acc.length+(f.words.filter (fun w=>decide (w∉bd))).length:=fun i=>by
   rw[hA];simp only[List.length_append];have:=@zfc f.words bd i;omega
  have hAs:∀i (h:i<f.words.length),A (i+1)=A i++if f.words[i]∈bd then[]else[f.words[i]]:=fun i h=>by
   rw[hA];simp only[zeN h,List.append_assoc]
  have hAe:A f.words.length=acc++f.words.filter (fun w=>decide (w∉bd)):=by rw[hA];simp only[List.take_length]
  have kA:=Kp.mk hAl
  have kB:=Kp.mk hAs
  have kC:=Kp.mk hAe
  clear hA hAl hAs hAe
  have kX:=Kp.mk @hX'
  have kQ:=Kp.mk hQ
  have kI:=Kp.mk ih
  have kS:=Kp.mk hsw
  have kZ:=Kp.mk hss
  have kx:=Kp.mk hX
  clear hX' hQ ih hsw hss hX
  refine zag (N:=50) hm hR1 72000 (lst [24]) zKd Tryz.func72 rfl rfl (by simp) (by kernel_rfl) ?_
  repeat'(first|refine rq fun _=>?_|simp only[go_sem,HHk,Tryz.f72, *])
  refine zaq hm hR1 72000 (lst [24]) (ι:=zhC f.words.length (n+1) fun _=>True)
   ⟨fun q=>⟨frL [(1,.fz (.sl (bd.map enc))),(2,.ptr (48003,1) 0),(3,.ptr (48004,2) 0),(4,.ptr (72004,n) 0),(11,.fz (.sl (f.words.map enc))),(12,.fz (.i .i64 f.words.length)),(13,.fz (.i .i64 q.i))],
    hpX (((72004,n),some ⟨[.fz (.i .i64 f.kind),.fz (.s f.name.l),.fz (.sl (f.words.map enc)),.fz (.sl (f.subs.map enc))],true,false⟩)::HHk (A q.i) q.g) X,q.m⟩,fun q=>f.words.length-q.i⟩
   ⟨0,g,n+1,by omega,by omega,by omega,trivial⟩ (by kernel_rfl) ?_ ?_
  ·refine zaO ?_ ?_ (fun id o ho=>?_) ?_
   ·simp only[go_sem]
   ·simp only[go_sem,HHk,hA0]
   ·refine kX.out id o ho fun h1=>?_
    ((repeat'(first|exact trivial|apply And.intro))<;>(rintro rfl;simp only at h1;omega))
   ·simp only[go_sem]
  rintro⟨i,g1,m1,hi,hg1,hm1,_⟩
  try simp only at hi hg1 hm1
  rcases Nat.lt_or_ge i f.words.length with h1|h1
  ·have hfl:=kB.out i h1
   have hl1:=kA.out i
   have hl2:=kA.out (i+1)
   by_cases hin:f.words[i]∈bd
   ·rw[if_pos hin,List.append_nil]at hfl
    repeat'(first|refine rq fun _=>?_|simp only[go_sem,HHk,h1,hin,zae,zaa,Tryz.f72])
    refine⟨⟨i+1,g1,m1,by omega,by omega,by omega,trivial⟩,by simp only;omega,?_⟩
    refine zaO ?_ ?_ (fun id o ho=>?_) ?_
    ·simp only[go_sem]
    ·simp only[go_sem,HHk,hfl]
    ·refine kX.out id o ho fun h1=>?_
     ((repeat'(first|exact trivial|apply And.intro))<;>(rintro rfl;simp only at h1;omega))
    ·simp only[go_sem]
   ·rw[if_neg hin]at hfl
    have hl3:(zad ((A i).map enc)).length=(A i).length:=by rw[zmT (zeE (f:=enc) (k:=1) (fun _=>rfl) _),List.length_map]
    repeat'(first|refine rq fun _=>?_|refine zaJ.i (zbF (by omega) (by decide)) fun _=>?_|simp only[go_sem,HHk,h1,hin,zae,zaa,Tryz.f72])
    refine⟨⟨i+1,m1,m1+1,by omega,by omega,by omega,trivial⟩,by simp only;omega,?_⟩
    refine zaO ?_ ?_ (fun id o ho=>?_) ?_
    ·simp only[go_sem]
    ·simp only[go_sem,HHk,hfl,zjU]
    ·refine kX.out id o ho fun h1=>?_
     ((repeat'(first|exact trivial|apply And.intro))<;>(rintro rfl;simp only at h1;omega))
    ·simp only[go_sem]
  ·obtain rfl:i=f.words.length:=by omega
   have hAe:=kC.out
   obtain⟨bd2,hbd⟩:∃bd2,bd2=if isQ f.kind then bd++[f.name]else bd:=⟨_,rfl⟩
   rw[←hbd]at hlen
   obtain⟨B,hB⟩:∃B:Nat→List Str,B=fun j=>A f.words.length++zbC (f.subs.take j) bd2:=⟨_,rfl⟩
   have hB0:B 0=A f.words.length:=by rw[hB];simp[zbC]
   have hBs:∀j (h:j<f.subs.length),B (j+1)=B j++cst f.subs[j] bd2:=fun j h=>by rw[hB];simp only[zfI h,List.append_assoc]
   have hBl:∀j,(B j).length≤1000000:=fun j=>by rw[hB,List.length_append,hAe,List.length_append];have:=@zf8 f.subs bd2 j;omega
   have hBe:B f.subs.length=acc++cst f bd:=by rw[hB,zpV,←hbd,hAe];simp only[List.take_length,List.append_assoc]
   have hb2:bd2.length≤bd.length+1:=by
    rw[hbd];split
    ·simp
    ·omega
   have kBs:=Kp.mk hBs
   have kBl:=Kp.mk hBl
   have kBe:=Kp.mk hBe
   clear hBs hBl hBe hB hAe
   rcases Decidable.em (isQ f.kind)with hq|hq
   all_goals
    (first|rw[if_pos hq]at hbd|rw[if_neg hq]at hbd)
    unfold isQ at hq
    repeat'(first|refine rq fun _=>?_|refine zaJ.i (zbF (by omega) (by decide)) fun _=>?_|simp only[go_sem,HHk,hq,Nat.lt_irrefl,zae,Tryz.f72])
    refine zaq hm hR1 72000 (lst [24]) (ι:=zhC f.subs.length (n+1) fun _=>True)
     ⟨fun q=>⟨frL [(1,.fz (.sl (bd2.map enc))),(2,.ptr (48003,1) 0),(3,.ptr (48004,2) 0),(39,.fz (.sl (f.subs.map enc))),(40,.fz (.i .i64 f.subs.length)),(41,.fz (.i .i64 q.i))],hpX (HHk (B q.i) q.g) X,q.m⟩,fun q=>f.subs.length-q.i⟩
     ⟨0,g1,m1,by omega,by omega,by omega,trivial⟩ (by kernel_rfl) ?_ ?_
    ·refine zaO ?_ ?_ (fun id o ho=>?_) ?_
     ·simp only[go_sem,hbd,List.map_append]
     ·simp only[go_sem,HHk,hB0]
     ·refine kX.out id o ho fun h1=>?_
      ((repeat'(first|exact trivial|apply And.intro))<;>(rintro rfl;simp only at h1;omega))
     ·simp only[go_sem]
    rintro⟨j,g2,m2,hj,hg2,hm2,_⟩
    try simp only at hj hg2 hm2
    rcases Nat.lt_or_ge j f.subs.length with h2|h2
    ·have hmem:=List.getElem_mem h2
     have hBj:=kBs.out j h2
     have hl4:=kBl.out (j+1)
     have hz:=kZ.out _ hmem
     rw[hBj,List.length_append]at hl4
     have ih2:=kI.out f.subs[j] bd2 (B j) g2 (m2+1) X hz.1 (kS.out _ hmem) (by omega) (by omega) hl4 (by omega) (fun id o ho=>by have:=kx.out id o ho;omega)
     rw[zaI]at ih2
     repeat'(first|refine rq fun _=>?_|simp only[go_sem,HHk,h2,zaa,Tryz.f72])
     refine zav.i (zdp rfl (zc1 (by simp only[go_sem,zf2]) (by simp only[go_sem,HHk]) (fun id o ho=>?_) (Nat.le_refl _) (zaG ih2 ?_)))
     ·refine kX.out id o ho fun h1=>?_
      ((repeat'(first|exact trivial|apply And.intro))<;>(rintro rfl;simp only at h1;omega))
     rintro d' H' n' ⟨rfl,e1,⟨g3,hg3,e2⟩,e3⟩
     rw[←hBj]at e2
     simp only[go_sem,HHk]at e2
     obtain⟨b1,b2,b3⟩:=e2
     rw[show H'=hpX [] H' from rfl]
     repeat'(first|refine rq fun _=>?_|simp only[go_sem,HHk,h2,Tryz.f72])
     refine⟨⟨j+1,g3,n',by omega,by omega,by omega,trivial⟩,by simp only;omega,?_⟩
     refine zaO ?_ ?_ (fun id o ho=>?_) ?_
     ·simp only[go_sem]
     ·simp only[go_sem,HHk,b1,b2,b3]
     ·exact e3 id o ho
     ·simp only[go_sem]
    ·obtain rfl:j=f.subs.length:=by omega
     repeat'(first|refine rq fun _=>?_|simp only[go_sem,HHk,Nat.lt_irrefl,Tryz.f72])
     rw[kQ.out]
     refine⟨rfl,by omega,⟨g2,by omega,?_⟩,fun id o ho=>kX.out id o ho fun h1=>?_⟩
     ·rw[←kBe.out];simp only[go_sem,HHk]
     ·((repeat'(first|exact trivial|apply And.intro))<;>(rintro rfl;simp only at h1;omega))
end Go.Proofs.YtkkffhphodngkaaGreatDoor
namespace Go.Proofs.YtkkffhphodngkaaGreatDoor
open Go Go.Abs Go.Proofs
def zc9 (l:List Str):List Str:=(zg7 (l.map (·.l))).map Str.mk
def zdr (l:List Str):List Str:=(zdC (l.map (·.l))).map Str.mk
theorem zgq (l:List (List UInt8)):(l.map Str.mk).map (·.l)=l:=by rw[List.map_map,show((·.l)∘Str.mk:List UInt8→List UInt8)=id from rfl,List.map_id]
theorem zlL (f:Abs.zab):zaP f=zdr (zc9 (cst f [])):=by
 unfold zaP zdr zc9;rw[zgq]
theorem zed (l:List Str):zad (l.map enc)=zbI (l.map (·.l)):=by rw[zbc,zbI,List.map_map];rfl
theorem zfr (l:List (List UInt8)):zbI l=zad ((l.map Str.mk).map enc):=by rw[zed,zgq]
theorem zk3 {H:zas}{id:Abs.Id}{o:Option O}:zaE H id o=hpX [(id,o)] H:=rfl
theorem zqH {H:zas}{id:Abs.Id}{l:List Str}{bx vt:Bool}{n:Nat}{R:D→zas→Nat→Prop}(ho:H id=some ⟨zad (l.map enc),bx,vt⟩)
  (hR:R (.tup []) (hpX [(id,some ⟨zad ((zc9 l).map enc),bx,vt⟩)] H) n):zau Tryz.prog GA 49 [.arr id 1 0 l.length] H n R:=by
 rw[zed]at ho
 have h:=zjy (G:=GA) (n:=n) zJ0 Tryz.slices_Sort_string Tryz.slices_Sort_string_none ho
 rw[List.length_map]at h
 refine zaG h ?_
 rintro d H' n' ⟨rfl,rfl,rfl⟩
 rw[zk3,zfr]
 exact hR
theorem zpT {H:zas}{id:Abs.Id}{l:List Str}{bx vt:Bool}{n:Nat}{R:D→zas→Nat→Prop}(ho:H id=some ⟨zad (l.map enc),bx,vt⟩)
  (hR:R (.arr id 1 0 (zdr l).length) (hpX [(id,some ⟨zad ((zdr l).map enc),bx,vt⟩)] H) n):zau Tryz.prog GA 50 [.arr id 1 0 l.length] H n R:=by
 rw[zed]at ho
 have h:=zfY (G:=GA) (n:=n) zJ1 Tryz.slices_Compact_string Tryz.slices_Compact_string_empty ho
 rw[List.length_map]at h
 refine zaG h ?_
 rintro d H' n' ⟨rfl,rfl,rfl⟩
 rw[zk3,zfr,show(zdC (l.map (·.l))).length=(zdr l).length by unfold zdr;rw[List.length_map]]
 exact hR
theorem zda (l:List Str):(zc9 l).length=l.length:=by unfold zc9;rw[List.length_map,zel,List.length_map]
theorem f48 {f:Abs.zab}(hw:(enc f).Wf)(hl:(cst f []).length≤1000000)(hs:f.size≤1000000):zau Tryz.prog GA 48 [.fz (enc f)] (hpL []) 0
  (fun d H n=>∃g,g<n∧d= .arr (72024,g) 1 0 (zaP f).length∧H (72024,g)=some ⟨zad ((zaP f).map enc),false,(cst f []).isEmpty⟩):=by
 obtain⟨Q,hQ⟩:∃Q:D→zas→Nat→Prop,Q=(fun d H n=>∃g,g<n∧d= .arr (72024,g) 1 0 (zaP f).length∧H (72024,g)=some ⟨zad ((zaP f).map enc),false,(cst f []).isEmpty⟩):=⟨_,rfl⟩
 rw[←hQ]
 refine zag (N:=13) hm hR1 48000 (lst []) zFz Tryz.func48 rfl rfl (by simp) (by kernel_rfl) ?_
 have h:=f72 f.size f [] [] 3 4 (fun _=>none) (Nat.le_refl _) hw (by omega) (by omega) (by simpa using hl) (by simpa using hs) (fun id o ho=>by cases ho)
 rw[zaI]at h
 repeat'(first|refine rq fun _=>?_|simp only[go_sem,Tryz.f48])
 refine zav.i (zdp rfl (zof (args':=[.fz (.agg [.i .i64 f.kind,.s f.name.l,.sl (f.words.map enc),.sl (f.subs.map enc)]),.fz (enc ([]:List Str)),.ptr (48003,1) 0,.ptr (48004,2) 0])
  (hl:=HHk [] 3) (n':=4) [] [(72024,3)] [] rfl ?_ ?_ ?_ ?_ ?_ ?_))
 case _=>omega
 case _=>simp only[go_sem]
 case _=>simp only[go_sem,HHk];first|done|rfl
 case _=>simp only[go_sem,HHk];first|done|rfl
 case _=>simp only[go_sem];first|done|rfl
 rw[show hpL (HHk [] 3)=hpX (HHk [] 3) (fun _=>none)from rfl]
 refine zaG h ?_
 rintro d' H' n' ⟨rfl,e1,⟨g,hg,e2⟩,_⟩
 rw[List.nil_append]at e2
 obtain⟨C,hC⟩:∃C,C=cst f []:=⟨_,rfl⟩
 rw[←hC]at e2
 rw[zlL,←hC]at hQ
 simp only[go_sem,HHk]at e2
 obtain⟨b1,b2,b3⟩:=e2
 rw[show H'=hpX [] H' from rfl]
 repeat'(first|refine rq fun _=>?_|simp only[go_sem,b1,b2,b3,Tryz.f48])
 refine zav.i (zqH (l:=C) (bx:=false) (vt:=C.isEmpty) (by simp only[go_sem,b3]) ?_)
 rw[←zda C]at b1
 repeat'(first|refine rq fun _=>?_|simp only[go_sem,b1,b2,b3,Tryz.f48])
 refine zav.i (zpT (l:=zc9 C) (bx:=false) (vt:=C.isEmpty) (by simp only[go_sem]) ?_)
 repeat'(first|refine rq fun _=>?_|simp only[go_sem,b1,b2,b3,Tryz.f48])
 rw[hQ]
 exact⟨g,hg,by simp only[go_sem],by simp only[go_sem]⟩
end Go.Proofs.YtkkffhphodngkaaGreatDoor
namespace Go.Proofs.YtkkffhphodngkaaGreatDoor
open Go Go.Abs Go.Proofs
def HHn (k:Nat)(used:List Str)(ga gb:Nat):List (Abs.Id×Option O):=
 [((44010,ga),some ⟨[.fz (.i .i64 k)],true,false⟩),((44005,gb),some ⟨[.fz (.sl (used.map enc))],true,false⟩)]
structure zFU (used:List Str)(k:Nat) where
 j:Nat
 h1:k≤j
 h2:j≤k+used.length
 h3:zcI used k=zcI used j
theorem f67 {used:List Str}{k n ga gb:Nat}{X:zas}(_:ga<n)(_:gb<n)(hk:k+used.length≤999999999999)
  (hX:∀id o,X id=some o→id.2<n∧id.1≠44010∧id.1≠44005):
  zau Tryz.prog GA 67 [.ptr (44010,ga) 0,.ptr (44005,gb) 0] (hpX (HHn k used ga gb) X) n
   (fun d' H' n'=>d'= .fz (enc (vg used k).1)∧n≤n'∧zfX H' (HHn (vg used k).2 used ga gb)∧∀id o,X id=some o→H' id=some o):=by
 obtain⟨Q,hQ⟩:∃Q:D→zas→Nat→Prop,Q=(fun d' H' n'=>d'= .fz (enc (vg used k).1)∧n≤n'∧zfX H' (HHn (vg used k).2 used ga gb)∧∀id o,X id=some o→H' id=some o):=⟨_,rfl⟩
 rw[←hQ]
 have hX':∀{l:List (Abs.Id×Option O)} (id o),X id=some o→(id.2<n∧id.1≠44010∧id.1≠44005→zhf id l)→hpX l X id=some o:=fun id o h1 h2=>(zcH (h2 (hX id o h1))).trans h1
 have kX:=Kp.mk @hX'
 have kQ:=Kp.mk hQ
 clear hX' hQ hX
 refine zag (N:=14) hm hR1 67000 (lst []) zLK Tryz.func67 rfl rfl (by simp) (by kernel_rfl) ?_
 repeat'(first|refine rq fun _=>?_|simp only[go_sem,HHn,Tryz.f67])
 refine zaq hm hR1 67000 (lst []) (ι:=zFU used k)
  ⟨fun q=>⟨frL [(0,.ptr (44010,ga) 0),(1,.ptr (44005,gb) 0)],hpX (HHn q.j used ga gb) X,n⟩,fun q=>k+used.length+1-q.j⟩
  ⟨k,by omega,by omega,rfl⟩ (by kernel_rfl) ?_ ?_
 ·refine zaO ?_ ?_ (fun id o ho=>?_) ?_
  ·simp only[go_sem]
  ·simp only[go_sem,HHn]
  ·refine kX.out id o ho fun h1=>?_
   ((repeat'(first|exact trivial|apply And.intro))<;>(rintro rfl;simp only at h1;omega))
  ·simp only[go_sem]
 rintro⟨j,h1,h2,h3⟩
 try simp only at h1 h2 h3
 have hs:=zbj used k
 have hdl:=zgN j
 by_cases hin:zfB j∈used
 ·have hin':(⟨118::zbr j⟩:Str)∈used:=hin
  have h4:=zxw hin
  have h5:=(zbj used (j+1)).1
  repeat'(first|refine rq fun _=>?_|refine zaJ.i ⟨by omega,by omega⟩ fun _=>?_|simp only[go_sem,HHn,hin',zfe,Tryz.f67])
  refine⟨⟨j+1,by omega,by omega,by rw[h3,h4]⟩,by simp only;omega,?_⟩
  refine zaO ?_ ?_ (fun id o ho=>?_) ?_
  ·simp only[go_sem]
  ·simp only[go_sem,HHn,Int.natCast_add,Int.cast_ofNat_Int]
  ·refine kX.out id o ho fun h1=>?_
   ((repeat'(first|exact trivial|apply And.intro))<;>(rintro rfl;simp only at h1;omega))
  ·simp only[go_sem]
 ·have hin':(⟨118::zbr j⟩:Str)∉used:=hin
  have h4:=zuH hin
  repeat'(first|refine rq fun _=>?_|refine zaJ.i ⟨by omega,by omega⟩ fun _=>?_|simp only[go_sem,HHn,hin',zfe,Tryz.f67])
  rw[kQ.out]
  have e1:vg used k=(zfB j,j+1):=by unfold vg;rw[h3,h4]
  rw[e1]
  refine⟨rfl,Nat.le_refl _,by simp only[go_sem,HHn,Int.natCast_add,Int.cast_ofNat_Int],fun id o ho=>kX.out id o ho fun h1=>?_⟩
  ((repeat'(first|exact trivial|apply And.intro))<;>(rintro rfl;simp only at h1;omega))
end Go.Proofs.YtkkffhphodngkaaGreatDoor
namespace Go.Proofs.YtkkffhphodngkaaGreatDoor
open Go Go.Abs Go.Proofs
theorem zpu {G:Nat→List FD}{N:Nat}{l:List (Nat×D)}{H:zas}{n:Nat}{id:Abs.Id}{t:Nat}{ys:List FD}{b:Bool}(ho:H id=some ⟨ys.map .fz,b,false⟩)(hs:frL l t= .ptr id 0):
  zeQ G N ⟨frL l,H,n⟩ ⟨frL ((t,.rp ys)::l),zaE H id none,n⟩:=zs2 (st:=⟨frL l,H,n⟩) ho hs
theorem zwe {G:Nat→List FD}{d r:D}{H:zas}{m:Nat}(h:D.val d=some r):zeQ G 1 ⟨frL [(0,d)],H,m⟩ ⟨frL [(0,r)],H,m⟩:=by
 intro a w L F hr
 refine⟨L,F,⟨hr.ok,hr.size,fun t=>?_,hr.nd⟩,zbt.refl _ _ _ _ _⟩
 have:=hr.fr t
 simp only[frL]at this ⊢
 by_cases e:t=0
 ·rw[if_pos e]at this ⊢;exact this.val h
 ·rw[if_neg e]at this ⊢;exact this
def zBo (p:Nat):Int:=(p:Int)-1
theorem zuh:zBo 0= -1:=rfl
theorem zm3 (p:Nat):zBo (p+1)=(p:Int):=by unfold zBo;omega
structure zFS (env:List za3)(w:Str) where
 p:Nat
 hp:p≤env.length
 h:lkp env w=ziF env w p
structure zB3 (len n0 lo:Nat) where
 i:Nat
 g:Nat
 m:Nat
 hi:i≤len
 hg:g<m
 hm:n0≤m
 hl:lo≤g
structure zKA (n len:Nat)(p:Nat→Nat→Prop) where
 i:Nat
 g:Nat
 k:Nat
 m:Nat
 hi:i≤len
 hg:g<m
 hm:n≤m
 hp:p i k
theorem zg6:∀{fs:List Abs.zab} {j:Nat} (h:j<fs.length),zab.sizes (fs.take j)+fs[j].size≤zab.sizes fs
 |f::fs,0,h=>by simp only[List.take_zero,zab.sizes,List.getElem_cons_zero];omega
 |f::fs,j+1,h=>by
  have:=zg6 (fs:=fs) (j:=j) (by simpa using h)
  simp only[List.take_succ_cons,zab.sizes,List.getElem_cons_succ];omega
theorem zDY {g:Nat→Str×Nat}{f:Abs.zab}{env:List za3}{n:Nat}:ren g f env n=if isQ f.kind then(.mk f.kind (g n).1 (f.words.map (lkp env)) (zbb g f.subs (env++[⟨f.name,(g n).1⟩]) (g n).2).1,(zbb g f.subs (env++[⟨f.name,(g n).1⟩]) (g n).2).2)
  else(.mk f.kind f.name (f.words.map (lkp env)) (zbb g f.subs env n).1,(zbb g f.subs env n).2):=by cases f;rw[ren];rfl
def zpo:Tv:=(.q 0 (.q 2 (.q 3 (.q 4 (.br [(1,(.br [(5,(.q 6 (.br [(7,(.q 8 (.br [(9,.leaf)])))])))])),(5,(.q 1 (.q 6 (.br [(7,(.q 8 (.br [(9,.leaf)])))]))))])))))
set_option maxHeartbeats 8000000 in
theorem f68 {used:List Str}{ga gb:Nat}:∀(s:Nat) (f:Abs.zab) (env:List za3) (k n:Nat) (X:zas),f.size≤s→(enc f).Wf→f.fit=true→ga<n→gb<n→k+(used.length+1)*f.size≤999999999999→env.length+f.size≤1000000→
    (∀id o,X id=some o→id.2<n∧id.1≠44010∧id.1≠44005)→
    zau Tryz.prog GA 68 [.fz (enc f),.fz (enc env),.fn 67 [.ptr (44010,ga) 0,.ptr (44005,gb) 0]] (hpX (HHn k used ga gb) X) n
      (fun d' H' n'=>d'= .fz (enc (ren (vg used) f env k).1)∧n≤n'∧zfX H' (HHn (ren (vg used) f env k).2 used ga gb)∧∀id o,X id=some o→H' id=some o):=by
  intro s
  induction s with
  |zero=>intro f env k n X hs;have:=f.size_pos;omega
  |succ s ih=>
    intro f env k n X hs hw hfit hga hgb hk hel hX
    obtain⟨Q,hQ⟩:∃Q:D→zas→Nat→Prop,Q=(fun d' H' n'=>d'= .fz (enc (ren (vg used) f env k).1)∧n≤n'∧zfX H' (HHn (ren (vg used) f env k).2 used ga gb)∧∀id o,X id=some o→H' id=some o):=⟨_,rfl⟩
    obtain⟨QQ,hQQ⟩:∃QQ:D→zas→Nat→Prop,QQ=(fun d' H' n'=>D.val d'=some (.fz (enc (ren (vg used) f env k).1))∧n≤n'∧zfX H' (HHn (ren (vg used) f env k).2 used ga gb)∧∀id o,X id=some o→H' id=some o):=⟨_,rfl⟩
    have hfin:∀d H m,QQ d H m→∃d' H' n',zeQ GA 1 ⟨frL [(0,d)],H,m⟩ ⟨frL [(0,d')],H',n'⟩∧Q d' H' n':=by
      rw[hQQ,hQ]
      rintro d H m ⟨h1,h2,h3,h4⟩
      exact⟨_,H,m,zwe h1,rfl,h2,h3,h4⟩
    rw[←hQ]
    refine zaU (Q:=QQ) ?_ hfin
    clear hfin hQ
    have hX':∀{l:List (Abs.Id×Option O)} (id o),X id=some o→(id.2<n∧id.1≠44010∧id.1≠44005→zhf id l)→hpX l X id=some o:=fun id o h1 h2=>(zcH (h2 (hX id o h1))).trans h1
    obtain⟨hwl,hsl,hfs⟩:=zab.fit_eq hfit
    have hsw:∀g∈f.subs,(enc g).Wf:=fun g hg=>zfZ (zbW (by have h:=hw;rw[zaI]at h;exact h) (FD.sl (f.subs.map enc)) (by simp)) _ (List.mem_map_of_mem hg)
    have hss:∀g∈f.subs,g.size≤s∧g.fit=true:=fun g hg=>⟨by have:=zab.size_sub hg;omega,zab.fits_mem hfs hg⟩
    have hszs:f.size=zab.sizes f.subs+1:=by cases f;rw[zab.size];rfl
    have hreq:=@zDY (vg used) f env k
    have kX:=Kp.mk @hX'
    have kQ:=Kp.mk hQQ
    have kI:=Kp.mk ih
    have kS:=Kp.mk hsw
    have kZ:=Kp.mk hss
    have kx:=Kp.mk hX
    have kR:=Kp.mk hreq
    clear hX' hQQ ih hsw hss hX hfs hreq hw hfit
    refine zag (N:=87) hm hR1 68000 (lsw [48,83] [1000018]) zLL Tryz.func68 rfl rfl (by simp) (by kernel_rfl) ?_
    repeat'(first|refine rq fun _=>?_|simp only[go_sem,HHn,Tryz.f68])
    refine zaq hm hR1 68000 (lsw [48,83] [1000018]) (ι:=zB3 f.words.length (n+5) n)
      ⟨fun q=>⟨frL [(1,.fz (.sl (env.map enc))),(2,.fn 67 [.ptr (44010,ga) 0,.ptr (44005,gb) 0]),(3,.ptr (68003,n) 0),(6,.ptr (68006,n+1) 0),(7,.ptr (68007,n+1+1) 0),
          (19,.fz (.sl (f.words.map enc))),(20,.fz (.i .i64 f.words.length)),(21,.fz (.i .i64 q.i))],
        hpX ([((68003,n),some ⟨[.fz (.i .i64 f.kind),.fz (.s f.name.l),.fz (.sl (f.words.map enc)),.fz (.sl (f.subs.map enc))],true,false⟩),((68006,n+1),some ⟨[.fz (.i .i64 0),.fz (.s []),.full [],.full []],true,false⟩),
          ((68007,n+1+1),some ⟨[.fz (.i .i64 f.kind),.fz (.s f.name.l),.ow (68048,q.g) 1 (((f.words.take q.i).map (lkp env)).map enc),.ow (68083,n+1+1+1) 4 []],true,false⟩),
          ((68048,q.g),some tok),((68083,n+1+1+1),some tok)]++HHn k used ga gb) X,q.m⟩,fun q=>f.words.length-q.i⟩
      ⟨0,n+1+1+1+1,n+1+1+1+1+1,by omega,by omega,by omega,by omega⟩ (by kernel_rfl) ?_ ?_
    · refine zeV (zjA 68083) (zeV (zjA 68048) (zeV (zjz (id:=(68007,n+1+1)) (id2:=(68048,n+1+1+1+1)) (es:=1) (k:=2) (xs:=[]) (b:=true) (by simp only[go_sem];rfl) (by simp) (by rfl) (by simp only;omega))
        (zeV (zjz (id:=(68007,n+1+1)) (id2:=(68083,n+1+1+1)) (es:=4) (k:=3) (xs:=[]) (b:=true) (by simp only[go_sem];rfl) (by simp) (by rfl) (by simp only;omega)) ?_)))
      refine zaO ?_ ?_ (fun id o ho=>?_) ?_
      · simp only[go_sem]
      · simp only[go_sem,HHn]
      · refine kX.out id o ho fun h1=>?_
        ((repeat'(first|exact trivial|apply And.intro))<;>(rintro rfl;simp only at h1;omega))
      · simp only[go_sem]
    rintro⟨i,g1,m1,hi,hg1,hm1,hgl⟩
    try simp only at hi hg1 hm1 hgl
    rcases Nat.lt_or_ge i f.words.length with h1|h1
    · obtain⟨w,hwi⟩:∃w,f.words[i]=w:=⟨_,rfl⟩
      have e3:=List.take_succ_eq_append_getElem h1
      rw[hwi]at e3
      have e4:((f.words.take (i+1)).map (lkp env))=((f.words.take i).map (lkp env))++[lkp env w]:=by rw[e3,List.map_append];rfl
      have e5:((f.words.take i).map (lkp env)).length=i:=by rw[List.length_map,List.length_take];omega
      obtain⟨ws,hws⟩:∃ws,(f.words.take i).map (lkp env)=ws:=⟨_,rfl⟩
      rw[hws]at e4 e5
      obtain⟨v,hv⟩:∃v,lkp env w=v:=⟨_,rfl⟩
      rw[hv]at e4
      have k4:=Kp.mk e4
      clear e4 e3
      repeat'(first|refine rq fun _=>?_|simp only[go_sem,HHn,h1,hwi,hws,zae,zaa,Tryz.f68])
      refine zaq hm hR1 68000 (lsw [48,83] [1000018]) (ι:=zFS env w)
        ⟨fun q=>⟨frL [(1,.fz (.sl (env.map enc))),(2,.fn 67 [.ptr (44010,ga) 0,.ptr (44005,gb) 0]),(3,.ptr (68003,n) 0),(6,.ptr (68006,n+1) 0),(7,.ptr (68007,n+1+1) 0),
            (9,.fz (.s w.l)),(10,.fz (.i .i64 (zBo q.p))),(19,.fz (.sl (f.words.map enc))),(20,.fz (.i .i64 f.words.length)),(21,.fz (.i .i64 i))],
          hpX ([((68003,n),some ⟨[.fz (.i .i64 f.kind),.fz (.s f.name.l),.fz (.sl (f.words.map enc)),.fz (.sl (f.subs.map enc))],true,false⟩),((68006,n+1),some ⟨[.fz (.i .i64 0),.fz (.s []),.full [],.full []],true,false⟩),
            ((68007,n+1+1),some ⟨[.fz (.i .i64 f.kind),.fz (.s f.name.l),.ow (68048,g1) 1 (ws.map enc),.ow (68083,n+1+1+1) 4 []],true,false⟩),
            ((68048,g1),some tok),((68083,n+1+1+1),some tok)]++HHn k used ga gb) X,m1⟩,fun q=>q.p⟩
        ⟨env.length,Nat.le_refl _,rfl⟩ (by kernel_rfl) ?_ ?_
      · refine zaO ?_ ?_ (fun id o ho=>?_) ?_
        · simp only[go_sem,zBo]
        · simp only[go_sem,HHn]
        · refine kX.out id o ho fun h1=>?_
          ((repeat'(first|exact trivial|apply And.intro))<;>(rintro rfl;simp only at h1;omega))
        · simp only[go_sem]
      rintro⟨p,hp,hl⟩
      try simp only at hp hl
      cases p with
      |zero=>
        have hvw:v=w:=by rw[←hv,hl,ziF]
        repeat'(first|refine rq fun _=>?_|refine zaJ.i (zbF (by omega) (by decide)) fun _=>?_|refine rq fun _=>?_|simp only[go_sem,HHn,h1,hwi,zuh,Tryz.f68])
        refine⟨⟨i+1,m1,m1+1,by omega,by omega,by omega,by omega⟩,by simp only;omega,?_⟩
        refine zaO ?_ ?_ (fun id o ho=>?_) ?_
        · simp only[go_sem]
        · simp only[go_sem,HHn,k4.out,List.map_append,hvw]
        · refine kX.out id o ho fun h1=>?_
          ((repeat'(first|exact trivial|apply And.intro))<;>(rintro rfl;simp only at h1;omega))
        · simp only[go_sem]
      |succ p=>
        rw[ziF]at hl
        have hpg:env.getD p default=env[p]:=by rw[List.getD_eq_getElem?_getD,List.getElem?_eq_getElem (by omega),Option.getD_some]
        rw[hpg]at hl
        have hp':p<env.length:=by omega
        by_cases he:env[p].fr=w
        · rw[if_pos he,hv]at hl
          have he':env[p].fr.l=w.l:=by rw[he]
          repeat'(first|refine rq fun _=>?_|refine zaJ.i (zbF (by omega) (by decide)) fun _=>?_|refine rq fun _=>?_|simp only[go_sem,HHn,h1,hp',he',hwi,zm3,zaa,Tryz.f68])
          refine⟨⟨i+1,m1,m1+1,by omega,by omega,by omega,by omega⟩,by simp only;omega,?_⟩
          refine zaO ?_ ?_ (fun id o ho=>?_) ?_
          · simp only[go_sem]
          · simp only[go_sem,HHn,k4.out,List.map_append,hl]
          · refine kX.out id o ho fun h1=>?_
            ((repeat'(first|exact trivial|apply And.intro))<;>(rintro rfl;simp only at h1;omega))
          · simp only[go_sem]
        · rw[if_neg he]at hl
          have he':¬env[p].fr.l=w.l:=fun e=>he (by cases h7:env[p].fr;cases h8:w;rw[h7,h8]at e;simp only at e;rw[e])
          repeat'(first|refine rq fun _=>?_|refine zaJ.i (zbF (by omega) (by decide)) fun _=>?_|refine rq fun _=>?_|simp only[go_sem,HHn,h1,hp',he',hwi,zm3,zaa,Tryz.f68])
          refine⟨⟨p,by omega,hl⟩,by simp only;omega,?_⟩
          refine zaO ?_ ?_ (fun id o ho=>?_) ?_
          · simp only[go_sem,zBo]
          · simp only[go_sem,HHn]
          · refine kX.out id o ho fun h1=>?_
            ((repeat'(first|exact trivial|apply And.intro))<;>(rintro rfl;simp only at h1;omega))
          · simp only[go_sem]
    · obtain rfl:i=f.words.length:=by omega
      obtain⟨wl,hwl2⟩:∃wl,f.words.map (lkp env)=wl:=⟨_,rfl⟩
      have hres:∃(env2:List za3) (nm2:Str) (k2:Nat),ren (vg used) f env k=(.mk f.kind nm2 wl (zbb (vg used) f.subs env2 k2).1,(zbb (vg used) f.subs env2 k2).2)∧k2≤k+(used.length+1)∧env2.length≤env.length+1∧
          (isQ f.kind→env2=env++[⟨f.name,(vg used k).1⟩]∧nm2=(vg used k).1∧k2=(vg used k).2)∧(¬isQ f.kind→env2=env∧nm2=f.name∧k2=k):=by
        have h5:=zsE used k
        rw[kR.out]
        by_cases hq:isQ f.kind
        · exact⟨_,_,_,by rw[if_pos hq,hwl2],by omega,by simp,fun _=>⟨rfl,rfl,rfl⟩,fun h=>absurd hq h⟩
        · exact⟨_,_,_,by rw[if_neg hq,hwl2],by omega,by simp,fun h=>absurd h hq,fun _=>⟨rfl,rfl,rfl⟩⟩
      obtain⟨env2,nm2,k2,hres,hk2,hel2,hq1,hq2⟩:=hres
      have kW:=Kp.mk hres
      have kq1:=Kp.mk hq1
      have kq2:=Kp.mk hq2
      clear hres hq1 hq2
      obtain⟨U,hU⟩:∃U,used.length+1=U:=⟨_,rfl⟩
      rw[hU]at hk hk2
      have hUf:U*f.size=U*zab.sizes f.subs+U:=by rw[hszs,Nat.mul_add,Nat.mul_one]
      have hU0:used.length≤U:=by omega
      have hUs:U≤U*f.size:=by omega
      obtain⟨A,hA⟩:∃A:Nat→List Abs.zab,A=fun j=>(zbb (vg used) (f.subs.take j) env2 k2).1:=⟨_,rfl⟩
      obtain⟨K,hK⟩:∃K:Nat→Nat,K=fun j=>(zbb (vg used) (f.subs.take j) env2 k2).2:=⟨_,rfl⟩
      have hA0:A 0=[]:=by rw[hA];simp[zbb]
      have hK0:K 0=k2:=by rw[hK];simp[zbb]
      have hAs:∀j (h:j<f.subs.length),A (j+1)=A j++[(ren (vg used) f.subs[j] env2 (K j)).1]∧K (j+1)=(ren (vg used) f.subs[j] env2 (K j)).2:=fun j h=>by
        rw[hA,hK];simp only[List.take_succ_eq_append_getElem h,zqy,zbb];constructor<;>first|rfl|trivial
      have hAl:∀j,(A j).length≤j:=fun j=>by rw[hA];simp only[zdV,List.length_take];omega
      have hKb:∀j (h:j<f.subs.length),K j+U*f.subs[j].size≤999999999999:=fun j h=>by
        have h6:=((znC (zsE used)).2 (f.subs.take j) env2 k2).2
        rw[hU]at h6
        have h7:=Nat.mul_le_mul_left U (zg6 h)
        rw[Nat.mul_add]at h7
        rw[hK];simp only;omega
      have hAe:A f.subs.length=(zbb (vg used) f.subs env2 k2).1∧K f.subs.length=(zbb (vg used) f.subs env2 k2).2:=by rw[hA,hK];simp only[List.take_length];first|trivial|(constructor<;>first|rfl|trivial)
      have kA:=Kp.mk hAs
      have kB:=Kp.mk hAl
      have kC:=Kp.mk hKb
      have kE:=Kp.mk hAe
      clear hAs hAl hKb hAe hA hK
      rcases Decidable.em (isQ f.kind)with hq|hq
      case' inl=>
        obtain⟨q1,q2,q3⟩:=kq1.out hq
        unfold isQ at hq
        have h214:=f67 (used:=used) (k:=k) (n:=m1) (ga:=ga) (gb:=gb) (X:=hpX [((68003,n),some ⟨[.fz (.i .i64 f.kind),.fz (.s f.name.l),.fz (.sl (f.words.map enc)),.fz (.sl (f.subs.map enc))],true,false⟩),((68006,n+1),some ⟨[.fz (.i .i64 0),.fz (.s []),.full [],.full []],true,false⟩),
            ((68007,n+1+1),some ⟨[.fz (.i .i64 f.kind),.fz (.s f.name.l),.ow (68048,g1) 1 (wl.map enc),.ow (68083,n+1+1+1) 4 []],true,false⟩),((68083,n+1+1+1),some tok)] X) (by omega) (by omega) (by omega) (by
          intro id o ho
          simp only[hpX]at ho
          split at ho
          · rename_i e;subst e;simp only;omega
          split at ho
          · rename_i e;subst e;simp only;omega
          split at ho
          · rename_i e;subst e;simp only;omega
          split at ho
          · rename_i e;subst e;simp only;omega
          · have:=kx.out id o ho;omega)
        rw[←q2,←q3]at h214
        repeat'(first|refine rq fun _=>?_|simp only[go_sem,HHn,hq,Nat.lt_irrefl,List.take_length,hwl2,zae,Tryz.f68])
        refine zav.i (zc1 (by simp only[go_sem,zf2]) (by simp only[go_sem,HHn]) (fun id o ho=>?_) (Nat.le_refl _) (zaG h214 ?_))
        · simp only[hpX]at ho
          split at ho
          · rename_i e;subst e;simp only[go_sem];exact Option.some.inj ho
          split at ho
          · rename_i e;subst e;simp only[go_sem];exact Option.some.inj ho
          split at ho
          · rename_i e;subst e;simp only[go_sem];exact Option.some.inj ho
          split at ho
          · rename_i e;subst e;simp only[go_sem];exact Option.some.inj ho
          · refine kX.out id o ho fun h1=>?_
            ((repeat'(first|exact trivial|apply And.intro))<;>(rintro rfl;simp only at h1;omega))
        rintro d' H' n' ⟨rfl,e1,e2,e3⟩
        have b3:=e3 (68003,n) ⟨[.fz (.i .i64 f.kind),.fz (.s f.name.l),.fz (.sl (f.words.map enc)),.fz (.sl (f.subs.map enc))],true,false⟩ (by simp only[go_sem])
        have b6:=e3 (68006,n+1) ⟨[.fz (.i .i64 0),.fz (.s []),.full [],.full []],true,false⟩ (by simp only[go_sem])
        have b7:=e3 (68007,n+1+1) ⟨[.fz (.i .i64 f.kind),.fz (.s f.name.l),.ow (68048,g1) 1 (wl.map enc),.ow (68083,n+1+1+1) 4 []],true,false⟩ (by simp only[go_sem])
        have b8:=e3 (68083,n+1+1+1) tok (by simp only[go_sem])
        have hX2:∀id o,X id=some o→H' id=some o:=fun id o ho=>e3 id o (kX.out id o ho fun h1=>by
          ((repeat'(first|exact trivial|apply And.intro))<;>(rintro rfl;simp only at h1;omega)))
        have kX2:=Kp.mk hX2
        clear hX2 e3
        simp only[go_sem,HHn]at e2
        obtain⟨b1,b2⟩:=e2
        rw[show H'=hpX [] H' from rfl]
        repeat'(first|refine rq fun _=>?_|refine zaJ.i (zbF (by omega) (by decide)) fun _=>?_|refine rq fun _=>?_|simp only[go_sem,HHn,b3,b6,b7,b8,zae,Tryz.f68])
      case' inr=>
        obtain⟨q1,q2,q3⟩:=kq2.out hq
        unfold isQ at hq
        repeat'(first|refine rq fun _=>?_|simp only[go_sem,HHn,hq,Nat.lt_irrefl,List.take_length,hwl2,zae,Tryz.f68])
      all_goals
        refine zaq hm hR1 68000 (lsw [48,83] [1000018]) (ι:=zB3 f.subs.length (n+5) n)
          ⟨fun q=>⟨frL [(1,.fz (.sl (env2.map enc))),(2,.fn 67 [.ptr (44010,ga) 0,.ptr (44005,gb) 0]),(6,.ptr (68006,n+1) 0),(7,.ptr (68007,n+1+1) 0),
              (70,.fz (.sl (f.subs.map enc))),(71,.fz (.i .i64 f.subs.length)),(72,.fz (.i .i64 q.i))],
            hpX ([((68006,n+1),some ⟨[.fz (.i .i64 0),.fz (.s []),.full [],.full []],true,false⟩),
              ((68007,n+1+1),some ⟨[.fz (.i .i64 f.kind),.fz (.s nm2.l),.ow (68048,g1) 1 (wl.map enc),.ow (68083,q.g) 4 ((A q.i).map enc)],true,false⟩),
              ((68083,q.g),some tok)]++HHn (K q.i) used ga gb) X,q.m⟩,fun q=>f.subs.length-q.i⟩
          ⟨0,n+1+1+1,by first|exact n'|exact m1,by omega,by omega,by omega,by omega⟩ (by kernel_rfl) ?_ ?_
        · refine zaO ?_ ?_ (fun id o ho=>?_) ?_
          · simp only[go_sem,q1,q2,List.map_append]
          · first
              |(simp only[go_sem,HHn,hA0,hK0,q2,q3,b1,b2,b3,b6,b7,b8];done)
              |(simp only[go_sem,HHn,hA0,hK0,q2,q3];done)
          · first
              |(have h1:=kx.out id o ho
                refine(zcH ?_).trans (kX2.out id o ho)
                ((repeat'(first|exact trivial|apply And.intro))<;>(rintro rfl;simp only at h1;omega)))
              |(refine kX.out id o ho fun h1=>?_
                ((repeat'(first|exact trivial|apply And.intro))<;>(rintro rfl;simp only at h1;omega)))
          · simp only[go_sem]
        rintro⟨j,g2,m2,hj,hg2,hm2,hgl2⟩
        try simp only at hj hg2 hm2 hgl2
        rcases Nat.lt_or_ge j f.subs.length with h2|h2
        · have hmem:=List.getElem_mem h2
          obtain⟨x,hx⟩:∃x,f.subs[j]=x:=⟨_,rfl⟩
          have hz:=kZ.out _ hmem
          have hwx:=kS.out _ hmem
          have hAj:=kA.out j h2
          have hKj:=kC.out j h2
          have hAlj:=kB.out j
          rw[hx]at hz hwx hAj hKj
          obtain⟨y,hy⟩:∃y,(ren (vg used) x env2 (K j)).1=y:=⟨_,rfl⟩
          obtain⟨kj,hkj⟩:∃kj,(ren (vg used) x env2 (K j)).2=kj:=⟨_,rfl⟩
          rw[hy,hkj]at hAj
          have hlx:=zab.size_mem (l:=f.subs) hmem
          rw[hx]at hlx
          have ih2:∀(m3:Nat),m2≤m3→_:=fun m3 hm3=>kI.out x env2 (K j) m3 (hpX [((68006,n+1),some ⟨[.fz (.i .i64 0),.fz (.s []),.full [],.full []],true,false⟩),
              ((68007,n+1+1),some ⟨[.fz (.i .i64 f.kind),.fz (.s nm2.l),.ow (68048,g1) 1 (wl.map enc),.ow (68083,g2) 4 ((A j).map enc)],true,false⟩),((68083,g2),some tok)] X) hz.1 hwx hz.2 (by omega) (by omega) (by rw[hU];omega) (by omega) (by
            intro id o ho
            simp only[hpX]at ho
            split at ho
            · rename_i e;subst e;simp only;omega
            split at ho
            · rename_i e;subst e;simp only;omega
            split at ho
            · rename_i e;subst e;simp only;omega
            · have:=kx.out id o ho;omega)
          simp only[hy,hkj]at ih2
          rw[zaI (f:=x)]at ih2
          obtain⟨fy,hfy⟩:∃fy,enc y=fy:=⟨_,rfl⟩
          have hcy:fy.cells.length=4:=by rw[←hfy,zaI];rfl
          have hff:(zad [fy]).all zcN=true:=by rw[←hfy];have h9:=@zoO [y];exact eq_true h9▸h9
          repeat'(first|refine rq fun _=>?_|simp only[go_sem,HHn,h2,hx,zaa,Tryz.f68])
          refine zhM (zpu (id:=(68012,m2)) (t:=12) (b:=true) (ys:=[.i .i64 x.kind,.s x.name.l,.sl (x.words.map enc),.sl (x.subs.map enc)]) (by simp only[go_sem]) (by simp only[go_sem])) ?_
          refine zaC hm hR1 68000 (lsw [48,83] [1000018]) zpo (by kernel_rfl) (by kernel_rfl) ?_
          repeat'(first|refine And.intro ?_ ?_|exact True.intro|refine rq fun _=>?_|simp only[go_sem,zpo,HHn,h2,hx,zaa,Tryz.f68])
          all_goals
            refine zav.i (zc1 (by simp only[go_sem,zf2]) (by simp only[go_sem,HHn]) (fun id o ho=>?_) (Nat.le_refl _) (zaG (ih2 _ (by omega)) ?_))
            · simp only[hpX]at ho
              split at ho
              · rename_i e;subst e;simp only[go_sem];exact Option.some.inj ho
              split at ho
              · rename_i e;subst e;simp only[go_sem];exact Option.some.inj ho
              split at ho
              · rename_i e;subst e;simp only[go_sem];exact Option.some.inj ho
              · refine kX.out id o ho fun h1=>?_
                ((repeat'(first|exact trivial|apply And.intro))<;>(rintro rfl;simp only at h1;omega))
            rintro d' H' n' ⟨rfl,e1,e2,e3⟩
            have c6:=e3 (68006,n+1) ⟨[.fz (.i .i64 0),.fz (.s []),.full [],.full []],true,false⟩ (by simp only[go_sem])
            have c7:=e3 (68007,n+1+1) ⟨[.fz (.i .i64 f.kind),.fz (.s nm2.l),.ow (68048,g1) 1 (wl.map enc),.ow (68083,g2) 4 ((A j).map enc)],true,false⟩ (by simp only[go_sem])
            have c8:=e3 (68083,g2) tok (by simp only[go_sem])
            have hX2:∀id o,X id=some o→H' id=some o:=fun id o ho=>e3 id o (kX.out id o ho fun h1=>by
              ((repeat'(first|exact trivial|apply And.intro))<;>(rintro rfl;simp only at h1;omega)))
            clear e3
            simp only[go_sem,HHn]at e2
            obtain⟨c1,c2⟩:=e2
            rw[show H'=hpX [] H' from rfl]
            rw[hfy]
            repeat'(first|refine rq fun _=>?_|refine zaJ.i (zbF (by omega) (by decide)) fun _=>?_|refine rq fun _=>?_|simp only[go_sem,zpo,c1,c2,c6,c7,c8,h2,hcy,hff,Tryz.f68])
            refine⟨⟨j+1,n',n'+1,by omega,by omega,by omega,by omega⟩,by simp only;omega,?_⟩
            refine zaO ?_ ?_ (fun id o ho=>?_) ?_
            · simp only[go_sem]
            · simp only[go_sem,HHn,c1,c2,c6,c7,c8,hAj.1,hAj.2,hfy,List.map_append]
            · have h1:=kx.out id o ho
              refine(zcH ?_).trans (hX2 id o ho)
              ((repeat'(first|exact trivial|apply And.intro))<;>(rintro rfl;simp only at h1;omega))
            · simp only[go_sem]
        · obtain rfl:j=f.subs.length:=by omega
          have hE:=kE.out
          repeat'(first|refine rq fun _=>?_|simp only[go_sem,HHn,Nat.lt_irrefl,Tryz.f68])
          rw[kQ.out,kW.out]
          refine⟨?_,by omega,?_,fun id o ho=>kX.out id o ho fun h1=>?_⟩
          · rw[←hE.1];simp only[go_sem]
          · rw[←hE.2];simp only[go_sem,HHn]
          · ((repeat'(first|exact trivial|apply And.intro))<;>(rintro rfl;simp only at h1;omega))
end Go.Proofs.YtkkffhphodngkaaGreatDoor
