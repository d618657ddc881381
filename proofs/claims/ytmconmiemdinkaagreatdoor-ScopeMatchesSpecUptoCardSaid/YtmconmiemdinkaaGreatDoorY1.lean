/- several texts of this proof in one; no conditions -/
import Derived.Test.YtmconmiemdinkaaGreatDoorAT
import Derived.Test.YtmconmiemdinkaaGreatDoorY0
import Derived.Test.YtmconmiemdinkaaGreatDoorY15
import Derived.Test.YtmconmiemdinkaaGreatDoorSH
import Derived.Test.YtmconmiemdinkaaGreatDoorY8
set_option maxRecDepth 100000
set_option maxHeartbeats 1000000
set_option linter.unusedSimpArgs false
namespace Go.Proofs.YtmconmiemdinkaaGreatDoor
open Go Go.Abs Go.Proofs
def zBN (n:Int):Str:=⟨Lib.itoa n⟩
def GA:Nat→List FD:=fun g=>if g=0 then[.i .i64 0,.i .i64 0]else if g=1 then Lib.pow10Tab.map (.i .u64)else[]
theorem zlM:Tryz.prog.globalNamed "internal/strconv.uint64pow10" =some 1:=by kernel_rfl
def R1:Tbl:=Q20.add 50 (sp1 zBN fun n=>0≤n∧n≤1000000000000)
attribute [go_sem] R1
theorem hR1:zan Tryz.prog GA R1:=by
 refine zbR zIv (zcG zyO) fun n hn _=>?_
 refine zaL (zqx zIv zlM rfl Tryz.strconv_Itoa hn.1 hn.2) ?_
 rintro d H m ⟨rfl,_,_⟩
 rfl
theorem zmT (n:Nat):(zBN (n:Int)).l=zbb n:=zwh n
def HHk (acc:List Str)(g:Nat):List (Abs.Id×Option O):=
  [((49003,1),some ⟨[.arr (77024,g) 1 0 acc.length],true,false⟩),
   ((49004,2),some ⟨[.fn 77 [.ptr (49003,1) 0,.ptr (49004,2) 0]],true,false⟩),
   ((77024,g),some ⟨zaf (acc.map enc),false,acc.isEmpty⟩)]
theorem zpu {f:Abs.zac}{bd:List Str}:cst f bd=f.words.filter (fun w=>decide (w∉bd))++zb9 f.subs (if isQ f.kind then bd++[f.name]else bd):=by cases f;rw[cst];rfl
theorem zeX {ws bd:List Str}(i:Nat):((ws.take i).filter (fun w=>decide (w∉bd))).length≤(ws.filter (fun w=>decide (w∉bd))).length:=
 (List.Sublist.filter _ (List.take_sublist i ws)).length_le
theorem zez {ws bd:List Str}{i:Nat}(h:i<ws.length):(ws.take (i+1)).filter (fun w=>decide (w∉bd))=(ws.take i).filter (fun w=>decide (w∉bd))++if ws[i]∈bd then[]else[ws[i]]:=by
 rw[List.take_succ_eq_append_getElem h,List.filter_append]
 congr 1
 by_cases hb:ws[i]∈bd
 ·simp[hb]
 ·simp[hb]
theorem zjY {xs:List FD}{l:List UInt8}:zaf (xs++[FD.s l])=zaf xs++[D.fz (FD.s l)]:=by simp[zaf,FD.cells]
theorem zfv {fs:List Abs.zac}{bd:List Str}{j:Nat}(h:j<fs.length):zb9 (fs.take (j+1)) bd=zb9 (fs.take j) bd++cst fs[j] bd:=by
 rw[List.take_succ_eq_append_getElem h,zkP,zb9,zb9,List.append_nil]
theorem zf9 {fs:List Abs.zac}{bd:List Str}(j:Nat):(zb9 (fs.take j) bd).length≤(zb9 fs bd).length:=by
 have h:=zkP bd (fs.take j) (fs.drop j)
 rw[List.take_append_drop]at h
 rw[h,List.length_append];omega
theorem f77:∀(k:Nat) (f:Abs.zac) (bd acc:List Str) (g n:Nat) (X:zax),f.size≤k→(enc f).Wf→g<n→2<n→acc.length+(cst f bd).length≤1000000→bd.length+f.size≤1000000→
  (∀id o,X id=some o→id.2<n∧id.1≠49003∧id.1≠49004∧id.1≠77024)→
  zaH Tryz.prog GA 77 [.fz (enc f),.fz (enc bd),.ptr (49003,1) 0,.ptr (49004,2) 0] (hpX (HHk acc g) X) n
   (fun d' H' n'=>d'= .tup []∧n≤n'∧(∃g',g'<n'∧zeF H' (HHk (acc++cst f bd) g'))∧∀id o,X id=some o→H' id=some o):=by
 intro k
 induction k with
 |zero=>intro f bd acc g n X hs;have:=f.size_pos;omega
 |succ k ih=>
  intro f bd acc g n X hs hw hg hn hlen hbl hX
  obtain⟨Q,hQ⟩:∃Q:D→zax→Nat→Prop,Q=(fun d' H' n'=>d'= .tup []∧n≤n'∧(∃g',g'<n'∧zeF H' (HHk (acc++cst f bd) g'))∧∀id o,X id=some o→H' id=some o):=⟨_,rfl⟩
  rw[←hQ]
  have hX':∀{l:List (Abs.Id×Option O)} (id o),X id=some o→(id.2<n∧id.1≠49003∧id.1≠49004∧id.1≠77024→zhf id l)→hpX l X id=some o:=fun id o h1 h2=>(za0 (h2 (hX id o h1))).trans h1
  have hwl:f.words.length≤za6:=by
   have h:=zbL (by have h:=hw;rw[zaz]at h;exact h) (FD.sl (f.words.map enc)) (by simp)
   have:=zcI h
   simpa using this
  have hsl:f.subs.length≤za6:=by
   have h:=zbL (by have h:=hw;rw[zaz]at h;exact h) (FD.sl (f.subs.map enc)) (by simp)
   have:=zcI h
   simpa using this
  have hsw:∀g∈f.subs,(enc g).Wf:=fun g hg=>zh6 (zbL (by have h:=hw;rw[zaz]at h;exact h) (FD.sl (f.subs.map enc)) (by simp)) _ (List.mem_map_of_mem hg)
  have hss:∀g∈f.subs,g.size≤k∧g.size+1≤f.size:=fun g hg=>by have:=zac.size_sub hg;omega
  unfold za6 at hwl hsl
  rw[zpu,List.length_append]at hlen
  obtain⟨A,hA⟩:∃A:Nat→List Str,A=fun i=>acc++(f.words.take i).filter (fun w=>decide (w∉bd)):=⟨_,rfl⟩
  have hA0:A 0=acc:=by rw[hA];simp
  have hAl:∀i,(A i).length≤acc.length+(f.words.filter (fun w=>decide (w∉bd))).length:=fun i=>by
   rw[hA];simp only[List.length_append];have:=@zeX f.words bd i;omega
  have hAs:∀i (h:i<f.words.length),A (i+1)=A i++if f.words[i]∈bd then[]else[f.words[i]]:=fun i h=>by
   rw[hA];simp only[zez h,List.append_assoc]
  have hAe:A f.words.length=acc++f.words.filter (fun w=>decide (w∉bd)):=by rw[hA];simp only[List.take_length]
  have kA:=Kp.mk hAl
  have kB:=Kp.mk hAs
  have kC:=Kp.mk hAe
  clear hA hAl hAs hAe
  have kX:=Kp.mk @hX'
  have kQ:=Kp.mk hQ
  have kI:=Kp.mk ih
  have kS:=Kp.mk hsw
  have kZ:=Kp.mk hss
  have kx:=Kp.mk hX
  clear hX' hQ ih hsw hss hX
  refine zaj (N:=50) hm hR1 77000 (lst [24]) zIN Tryz.func77 rfl rfl (by simp) (by kernel_rfl) ?_
  repeat'(first|refine rq fun _=>?_|simp only[go_sem,HHk,Tryz.f77, *])
  refine zam hm hR1 77000 (lst [24]) (ι:=zdR f.words.length (n+1) fun _=>True)
   ⟨fun q=>⟨frL [(1,.fz (.sl (bd.map enc))),(2,.ptr (49003,1) 0),(3,.ptr (49004,2) 0),(4,.ptr (77004,n) 0),(11,.fz (.sl (f.words.map enc))),(12,.fz (.i .i64 f.words.length)),(13,.fz (.i .i64 q.i))],
    hpX (((77004,n),some ⟨[.fz (.i .i64 f.kind),.fz (.s f.name.l),.fz (.sl (f.words.map enc)),.fz (.sl (f.subs.map enc))],true,false⟩)::HHk (A q.i) q.g) X,q.m⟩,fun q=>f.words.length-q.i⟩
   ⟨0,g,n+1,by omega,by omega,by omega,trivial⟩ (by kernel_rfl) ?_ ?_
  ·refine zay ?_ ?_ (fun id o ho=>?_) ?_
   ·simp only[go_sem]
   ·simp only[go_sem,HHk,hA0]
   ·refine kX.out id o ho fun h1=>?_
    ((repeat'(first|exact trivial|apply And.intro))<;>(rintro rfl;simp only at h1;omega))
   ·simp only[go_sem]
  rintro⟨i,g1,m1,hi,hg1,hm1,_⟩
  try simp only at hi hg1 hm1
  rcases Nat.lt_or_ge i f.words.length with h1|h1
  ·have hfl:=kB.out i h1
   have hl1:=kA.out i
   have hl2:=kA.out (i+1)
   by_cases hin:f.words[i]∈bd
   ·rw[if_pos hin,List.append_nil]at hfl
    repeat'(first|refine rq fun _=>?_|simp only[go_sem,HHk,h1,hin,zad,zaa,Tryz.f77])
    refine⟨⟨i+1,g1,m1,by omega,by omega,by omega,trivial⟩,by simp only;omega,?_⟩
    refine zay ?_ ?_ (fun id o ho=>?_) ?_
    ·simp only[go_sem]
    ·simp only[go_sem,HHk,hfl]
    ·refine kX.out id o ho fun h1=>?_
     ((repeat'(first|exact trivial|apply And.intro))<;>(rintro rfl;simp only at h1;omega))
    ·simp only[go_sem]
   ·rw[if_neg hin]at hfl
    have hl3:(zaf ((A i).map enc)).length=(A i).length:=by rw[zdw (zcf (f:=enc) (k:=1) (fun _=>rfl) _),List.length_map]
    repeat'(first|refine rq fun _=>?_|refine zaq.i (zal (by omega) (by decide)) fun _=>?_|simp only[go_sem,HHk,h1,hin,zad,zaa,Tryz.f77])
    refine⟨⟨i+1,m1,m1+1,by omega,by omega,by omega,trivial⟩,by simp only;omega,?_⟩
    refine zay ?_ ?_ (fun id o ho=>?_) ?_
    ·simp only[go_sem]
    ·simp only[go_sem,HHk,hfl,zjY]
    ·refine kX.out id o ho fun h1=>?_
     ((repeat'(first|exact trivial|apply And.intro))<;>(rintro rfl;simp only at h1;omega))
    ·simp only[go_sem]
  ·obtain rfl:i=f.words.length:=by omega
   have hAe:=kC.out
   obtain⟨bd2,hbd⟩:∃bd2,bd2=if isQ f.kind then bd++[f.name]else bd:=⟨_,rfl⟩
   rw[←hbd]at hlen
   obtain⟨B,hB⟩:∃B:Nat→List Str,B=fun j=>A f.words.length++zb9 (f.subs.take j) bd2:=⟨_,rfl⟩
   have hB0:B 0=A f.words.length:=by rw[hB];simp[zb9]
   have hBs:∀j (h:j<f.subs.length),B (j+1)=B j++cst f.subs[j] bd2:=fun j h=>by rw[hB];simp only[zfv h,List.append_assoc]
   have hBl:∀j,(B j).length≤1000000:=fun j=>by rw[hB,List.length_append,hAe,List.length_append];have:=@zf9 f.subs bd2 j;omega
   have hBe:B f.subs.length=acc++cst f bd:=by rw[hB,zpu,←hbd,hAe];simp only[List.take_length,List.append_assoc]
   have hb2:bd2.length≤bd.length+1:=by
    rw[hbd];split
    ·simp
    ·omega
   have kBs:=Kp.mk hBs
   have kBl:=Kp.mk hBl
   have kBe:=Kp.mk hBe
   clear hBs hBl hBe hB hAe
   rcases Decidable.em (isQ f.kind)with hq|hq
   all_goals
    (first|rw[if_pos hq]at hbd|rw[if_neg hq]at hbd)
    unfold isQ at hq
    repeat'(first|refine rq fun _=>?_|refine zaq.i (zal (by omega) (by decide)) fun _=>?_|simp only[go_sem,HHk,hq,Nat.lt_irrefl,zad,Tryz.f77])
    refine zam hm hR1 77000 (lst [24]) (ι:=zdR f.subs.length (n+1) fun _=>True)
     ⟨fun q=>⟨frL [(1,.fz (.sl (bd2.map enc))),(2,.ptr (49003,1) 0),(3,.ptr (49004,2) 0),(39,.fz (.sl (f.subs.map enc))),(40,.fz (.i .i64 f.subs.length)),(41,.fz (.i .i64 q.i))],hpX (HHk (B q.i) q.g) X,q.m⟩,fun q=>f.subs.length-q.i⟩
     ⟨0,g1,m1,by omega,by omega,by omega,trivial⟩ (by kernel_rfl) ?_ ?_
    ·refine zay ?_ ?_ (fun id o ho=>?_) ?_
     ·simp only[go_sem,hbd,List.map_append]
     ·simp only[go_sem,HHk,hB0]
     ·refine kX.out id o ho fun h1=>?_
      ((repeat'(first|exact trivial|apply And.intro))<;>(rintro rfl;simp only at h1;omega))
     ·simp only[go_sem]
    rintro⟨j,g2,m2,hj,hg2,hm2,_⟩
    try simp only at hj hg2 hm2
    rcases Nat.lt_or_ge j f.subs.length with h2|h2
    ·have hmem:=List.getElem_mem h2
     have hBj:=kBs.out j h2
     have hl4:=kBl.out (j+1)
     have hz:=kZ.out _ hmem
     rw[hBj,List.length_append]at hl4
     have ih2:=kI.out f.subs[j] bd2 (B j) g2 (m2+1) X hz.1 (kS.out _ hmem) (by omega) (by omega) hl4 (by omega) (fun id o ho=>by have:=kx.out id o ho;omega)
     rw[zaz]at ih2
     repeat'(first|refine rq fun _=>?_|simp only[go_sem,HHk,h2,zaa,Tryz.f77])
     refine zaQ.i (zdF rfl (zcY (by simp only[go_sem,zgJ]) (by simp only[go_sem,HHk]) (fun id o ho=>?_) (Nat.le_refl _) (zaL ih2 ?_)))
     ·refine kX.out id o ho fun h1=>?_
      ((repeat'(first|exact trivial|apply And.intro))<;>(rintro rfl;simp only at h1;omega))
     rintro d' H' n' ⟨rfl,e1,⟨g3,hg3,e2⟩,e3⟩
     rw[←hBj]at e2
     simp only[go_sem,HHk]at e2
     obtain⟨b1,b2,b3⟩:=e2
     rw[show H'=hpX [] H' from rfl]
     repeat'(first|refine rq fun _=>?_|simp only[go_sem,HHk,h2,Tryz.f77])
     refine⟨⟨j+1,g3,n',by omega,by omega,by omega,trivial⟩,by simp only;omega,?_⟩
     refine zay ?_ ?_ (fun id o ho=>?_) ?_
     ·simp only[go_sem]
     ·simp only[go_sem,HHk,b1,b2,b3]
     ·exact e3 id o ho
     ·simp only[go_sem]
    ·obtain rfl:j=f.subs.length:=by omega
     repeat'(first|refine rq fun _=>?_|simp only[go_sem,HHk,Nat.lt_irrefl,Tryz.f77])
     rw[kQ.out]
     refine⟨rfl,by omega,⟨g2,by omega,?_⟩,fun id o ho=>kX.out id o ho fun h1=>?_⟩
     ·rw[←kBe.out];simp only[go_sem,HHk]
     ·((repeat'(first|exact trivial|apply And.intro))<;>(rintro rfl;simp only at h1;omega))
end Go.Proofs.YtmconmiemdinkaaGreatDoor
namespace Go.Proofs.YtmconmiemdinkaaGreatDoor
open Go Go.Abs Go.Proofs
def znz (l:List Str):List Str:=(zlF (l.map (·.l))).map Str.mk
def zjo (l:List Str):List Str:=(zen (l.map (·.l))).map Str.mk
theorem zpQ (l:List (List UInt8)):(l.map Str.mk).map (·.l)=l:=by rw[List.map_map,show((·.l)∘Str.mk:List UInt8→List UInt8)=id from rfl,List.map_id]
theorem zqn (f:Abs.zac):zcy f=zjo (znz (cst f [])):=by
 unfold zcy zjo znz;rw[zpQ]
theorem zd9 (l:List Str):zaf (l.map enc)=strCells (l.map (·.l)):=by rw[zbi,strCells,List.map_map];rfl
theorem zfi (l:List (List UInt8)):strCells l=zaf ((l.map Str.mk).map enc):=by rw[zd9,zpQ]
theorem zla {H:zax}{id:Abs.Id}{o:Option O}:zaM H id o=hpX [(id,o)] H:=rfl
theorem zwM {H:zax}{id:Abs.Id}{l:List Str}{bx vt:Bool}{n:Nat}{R:D→zax→Nat→Prop}(ho:H id=some ⟨zaf (l.map enc),bx,vt⟩)
  (hR:R (.tup []) (hpX [(id,some ⟨zaf ((znz l).map enc),bx,vt⟩)] H) n):zaH Tryz.prog GA 78 [.arr id 1 0 l.length] H n R:=by
 rw[zd9]at ho
 have h:=zjy (G:=GA) (n:=n) zIO Tryz.slices_Sort_string Tryz.slices_Sort_string_none ho
 rw[List.length_map]at h
 refine zaL h ?_
 rintro d H' n' ⟨rfl,rfl,rfl⟩
 rw[zla,zfi]
 exact hR
theorem zvB {H:zax}{id:Abs.Id}{l:List Str}{bx vt:Bool}{n:Nat}{R:D→zax→Nat→Prop}(ho:H id=some ⟨zaf (l.map enc),bx,vt⟩)
  (hR:R (.arr id 1 0 (zjo l).length) (hpX [(id,some ⟨zaf ((zjo l).map enc),bx,vt⟩)] H) n):zaH Tryz.prog GA 79 [.arr id 1 0 l.length] H n R:=by
 rw[zd9]at ho
 have h:=zf1 (G:=GA) (n:=n) zIP Tryz.slices_Compact_string Tryz.slices_Compact_string_empty ho
 rw[List.length_map]at h
 refine zaL h ?_
 rintro d H' n' ⟨rfl,rfl,rfl⟩
 rw[zla,zfi,show(zen (l.map (·.l))).length=(zjo l).length by unfold zjo;rw[List.length_map]]
 exact hR
theorem znA (l:List Str):(znz l).length=l.length:=by unfold znz;rw[List.length_map,zi2,List.length_map]
theorem f49 {f:Abs.zac}(hw:(enc f).Wf)(hl:(cst f []).length≤1000000)(hs:f.size≤1000000):zaH Tryz.prog GA 49 [.fz (enc f)] (hpL []) 0
  (fun d H n=>∃g,g<n∧d= .arr (77024,g) 1 0 (zcy f).length∧H (77024,g)=some ⟨zaf ((zcy f).map enc),false,(cst f []).isEmpty⟩):=by
 obtain⟨Q,hQ⟩:∃Q:D→zax→Nat→Prop,Q=(fun d H n=>∃g,g<n∧d= .arr (77024,g) 1 0 (zcy f).length∧H (77024,g)=some ⟨zaf ((zcy f).map enc),false,(cst f []).isEmpty⟩):=⟨_,rfl⟩
 rw[←hQ]
 refine zaj (N:=13) hm hR1 49000 (lst []) zGB Tryz.func49 rfl rfl (by simp) (by kernel_rfl) ?_
 have h:=f77 f.size f [] [] 3 4 (fun _=>none) (Nat.le_refl _) hw (by omega) (by omega) (by simpa using hl) (by simpa using hs) (fun id o ho=>by cases ho)
 rw[zaz]at h
 repeat'(first|refine rq fun _=>?_|simp only[go_sem,Tryz.f49])
 refine zaQ.i (zdF rfl (zky (args':=[.fz (.agg [.i .i64 f.kind,.s f.name.l,.sl (f.words.map enc),.sl (f.subs.map enc)]),.fz (enc ([]:List Str)),.ptr (49003,1) 0,.ptr (49004,2) 0])
  (hl:=HHk [] 3) (n':=4) [] [(77024,3)] [] rfl ?_ ?_ ?_ ?_ ?_ ?_))
 case _=>omega
 case _=>simp only[go_sem]
 case _=>simp only[go_sem,HHk];first|done|rfl
 case _=>simp only[go_sem,HHk];first|done|rfl
 case _=>simp only[go_sem];first|done|rfl
 rw[show hpL (HHk [] 3)=hpX (HHk [] 3) (fun _=>none)from rfl]
 refine zaL h ?_
 rintro d' H' n' ⟨rfl,e1,⟨g,hg,e2⟩,_⟩
 rw[List.nil_append]at e2
 obtain⟨C,hC⟩:∃C,C=cst f []:=⟨_,rfl⟩
 rw[←hC]at e2
 rw[zqn,←hC]at hQ
 simp only[go_sem,HHk]at e2
 obtain⟨b1,b2,b3⟩:=e2
 rw[show H'=hpX [] H' from rfl]
 repeat'(first|refine rq fun _=>?_|simp only[go_sem,b1,b2,b3,Tryz.f49])
 refine zaQ.i (zwM (l:=C) (bx:=false) (vt:=C.isEmpty) (by simp only[go_sem,b3]) ?_)
 rw[←znA C]at b1
 repeat'(first|refine rq fun _=>?_|simp only[go_sem,b1,b2,b3,Tryz.f49])
 refine zaQ.i (zvB (l:=znz C) (bx:=false) (vt:=C.isEmpty) (by simp only[go_sem]) ?_)
 repeat'(first|refine rq fun _=>?_|simp only[go_sem,b1,b2,b3,Tryz.f49])
 rw[hQ]
 exact⟨g,hg,by simp only[go_sem],by simp only[go_sem]⟩
end Go.Proofs.YtmconmiemdinkaaGreatDoor
namespace Go.Proofs.YtmconmiemdinkaaGreatDoor
open Go Go.Abs Go.Proofs
def HHn (k:Nat)(used:List Str)(ga gb:Nat):List (Abs.Id×Option O):=
 [((60010,ga),some ⟨[.fz (.i .i64 k)],true,false⟩),((60005,gb),some ⟨[.fz (.sl (used.map enc))],true,false⟩)]
structure zEP (used:List Str)(k:Nat) where
 j:Nat
 h1:k≤j
 h2:j≤k+used.length
 h3:zbX used k=zbX used j
theorem f84 {used:List Str}{k n ga gb:Nat}{X:zax}(_:ga<n)(_:gb<n)(hk:k+used.length≤999999999999)
  (hX:∀id o,X id=some o→id.2<n∧id.1≠60010∧id.1≠60005):
  zaH Tryz.prog GA 84 [.ptr (60010,ga) 0,.ptr (60005,gb) 0] (hpX (HHn k used ga gb) X) n
   (fun d' H' n'=>d'= .fz (enc (vg used k).1)∧n≤n'∧zeF H' (HHn (vg used k).2 used ga gb)∧∀id o,X id=some o→H' id=some o):=by
 obtain⟨Q,hQ⟩:∃Q:D→zax→Nat→Prop,Q=(fun d' H' n'=>d'= .fz (enc (vg used k).1)∧n≤n'∧zeF H' (HHn (vg used k).2 used ga gb)∧∀id o,X id=some o→H' id=some o):=⟨_,rfl⟩
 rw[←hQ]
 have hX':∀{l:List (Abs.Id×Option O)} (id o),X id=some o→(id.2<n∧id.1≠60010∧id.1≠60005→zhf id l)→hpX l X id=some o:=fun id o h1 h2=>(za0 (h2 (hX id o h1))).trans h1
 have kX:=Kp.mk @hX'
 have kQ:=Kp.mk hQ
 clear hX' hQ hX
 refine zaj (N:=14) hm hR1 84000 (lst []) zKA Tryz.func84 rfl rfl (by simp) (by kernel_rfl) ?_
 repeat'(first|refine rq fun _=>?_|simp only[go_sem,HHn,Tryz.f84])
 refine zam hm hR1 84000 (lst []) (ι:=zEP used k)
  ⟨fun q=>⟨frL [(0,.ptr (60010,ga) 0),(1,.ptr (60005,gb) 0)],hpX (HHn q.j used ga gb) X,n⟩,fun q=>k+used.length+1-q.j⟩
  ⟨k,by omega,by omega,rfl⟩ (by kernel_rfl) ?_ ?_
 ·refine zay ?_ ?_ (fun id o ho=>?_) ?_
  ·simp only[go_sem]
  ·simp only[go_sem,HHn]
  ·refine kX.out id o ho fun h1=>?_
   ((repeat'(first|exact trivial|apply And.intro))<;>(rintro rfl;simp only at h1;omega))
  ·simp only[go_sem]
 rintro⟨j,h1,h2,h3⟩
 try simp only at h1 h2 h3
 have hs:=za9 used k
 have hdl:=zfk j
 by_cases hin:zew j∈used
 ·have hin':(⟨118::zbb j⟩:Str)∈used:=hin
  have h4:=zpW hin
  have h5:=(za9 used (j+1)).1
  repeat'(first|refine rq fun _=>?_|refine zaq.i ⟨by omega,by omega⟩ fun _=>?_|simp only[go_sem,HHn,hin',zmT,Tryz.f84])
  refine⟨⟨j+1,by omega,by omega,by rw[h3,h4]⟩,by simp only;omega,?_⟩
  refine zay ?_ ?_ (fun id o ho=>?_) ?_
  ·simp only[go_sem]
  ·simp only[go_sem,HHn,Int.natCast_add,Int.cast_ofNat_Int]
  ·refine kX.out id o ho fun h1=>?_
   ((repeat'(first|exact trivial|apply And.intro))<;>(rintro rfl;simp only at h1;omega))
  ·simp only[go_sem]
 ·have hin':(⟨118::zbb j⟩:Str)∉used:=hin
  have h4:=zm9 hin
  repeat'(first|refine rq fun _=>?_|refine zaq.i ⟨by omega,by omega⟩ fun _=>?_|simp only[go_sem,HHn,hin',zmT,Tryz.f84])
  rw[kQ.out]
  have e1:vg used k=(zew j,j+1):=by unfold vg;rw[h3,h4]
  rw[e1]
  refine⟨rfl,Nat.le_refl _,by simp only[go_sem,HHn,Int.natCast_add,Int.cast_ofNat_Int],fun id o ho=>kX.out id o ho fun h1=>?_⟩
  ((repeat'(first|exact trivial|apply And.intro))<;>(rintro rfl;simp only at h1;omega))
end Go.Proofs.YtmconmiemdinkaaGreatDoor
namespace Go.Proofs.YtmconmiemdinkaaGreatDoor
open Go Go.Abs Go.Proofs
theorem zdG {G:Nat→List FD}{N:Nat}{l:List (Nat×D)}{H:zax}{n:Nat}{id:Abs.Id}{t:Nat}{ys:List FD}{b:Bool}(ho:H id=some ⟨ys.map .fz,b,false⟩)(hs:frL l t= .ptr id 0):
  zd2 G N ⟨frL l,H,n⟩ ⟨frL ((t,.rp ys)::l),zaM H id none,n⟩:=zx8 (st:=⟨frL l,H,n⟩) ho hs
theorem zpa {G:Nat→List FD}{d r:D}{H:zax}{m:Nat}(h:D.val d=some r):zd2 G 1 ⟨frL [(0,d)],H,m⟩ ⟨frL [(0,r)],H,m⟩:=by
 intro a w L F hr
 refine⟨L,F,⟨hr.ok,hr.size,fun t=>?_,hr.nd⟩,zbv.refl _ _ _ _ _⟩
 have:=hr.fr t
 simp only[frL]at this ⊢
 by_cases e:t=0
 ·rw[if_pos e]at this ⊢;exact this.val h
 ·rw[if_neg e]at this ⊢;exact this
def zwf (p:Nat):Int:=(p:Int)-1
theorem zmO:zwf 0= -1:=rfl
theorem zgl (p:Nat):zwf (p+1)=(p:Int):=by unfold zwf;omega
structure zAY (env:List zbg)(w:Str) where
 p:Nat
 hp:p≤env.length
 h:lkp env w=zhM env w p
structure zvh (len n0 lo:Nat) where
 i:Nat
 g:Nat
 m:Nat
 hi:i≤len
 hg:g<m
 hm:n0≤m
 hl:lo≤g
structure zJf (n len:Nat)(p:Nat→Nat→Prop) where
 i:Nat
 g:Nat
 k:Nat
 m:Nat
 hi:i≤len
 hg:g<m
 hm:n≤m
 hp:p i k
theorem zcR:∀{fs:List Abs.zac} {j:Nat} (h:j<fs.length),zac.sizes (fs.take j)+fs[j].size≤zac.sizes fs
 |f::fs,0,h=>by simp only[List.take_zero,zac.sizes,List.getElem_cons_zero];omega
 |f::fs,j+1,h=>by
  have:=zcR (fs:=fs) (j:=j) (by simpa using h)
  simp only[List.take_succ_cons,zac.sizes,List.getElem_cons_succ];omega
theorem zxQ {g:Nat→Str×Nat}{f:Abs.zac}{env:List zbg}{n:Nat}:ren g f env n=if isQ f.kind then(.mk f.kind (g n).1 (f.words.map (lkp env)) (zbd g f.subs (env++[⟨f.name,(g n).1⟩]) (g n).2).1,(zbd g f.subs (env++[⟨f.name,(g n).1⟩]) (g n).2).2)
  else(.mk f.kind f.name (f.words.map (lkp env)) (zbd g f.subs env n).1,(zbd g f.subs env n).2):=by cases f;rw[ren];rfl
def zo3:Tv:=(.q 0 (.q 2 (.q 3 (.q 4 (.br [(1,(.br [(5,(.q 6 (.br [(7,(.q 8 (.br [(9,.leaf)])))])))])),(5,(.q 1 (.q 6 (.br [(7,(.q 8 (.br [(9,.leaf)])))]))))])))))
set_option maxHeartbeats 8000000 in
theorem f85 {used:List Str}{ga gb:Nat}:∀(s:Nat) (f:Abs.zac) (env:List zbg) (k n:Nat) (X:zax),f.size≤s→(enc f).Wf→f.fit=true→ga<n→gb<n→k+(used.length+1)*f.size≤999999999999→env.length+f.size≤1000000→
    (∀id o,X id=some o→id.2<n∧id.1≠60010∧id.1≠60005)→
    zaH Tryz.prog GA 85 [.fz (enc f),.fz (enc env),.fn 84 [.ptr (60010,ga) 0,.ptr (60005,gb) 0]] (hpX (HHn k used ga gb) X) n
      (fun d' H' n'=>d'= .fz (enc (ren (vg used) f env k).1)∧n≤n'∧zeF H' (HHn (ren (vg used) f env k).2 used ga gb)∧∀id o,X id=some o→H' id=some o):=by
  intro s
  induction s with
  |zero=>intro f env k n X hs;have:=f.size_pos;omega
  |succ s ih=>
    intro f env k n X hs hw hfit hga hgb hk hel hX
    obtain⟨Q,hQ⟩:∃Q:D→zax→Nat→Prop,Q=(fun d' H' n'=>d'= .fz (enc (ren (vg used) f env k).1)∧n≤n'∧zeF H' (HHn (ren (vg used) f env k).2 used ga gb)∧∀id o,X id=some o→H' id=some o):=⟨_,rfl⟩
    obtain⟨QQ,hQQ⟩:∃QQ:D→zax→Nat→Prop,QQ=(fun d' H' n'=>D.val d'=some (.fz (enc (ren (vg used) f env k).1))∧n≤n'∧zeF H' (HHn (ren (vg used) f env k).2 used ga gb)∧∀id o,X id=some o→H' id=some o):=⟨_,rfl⟩
    have hfin:∀d H m,QQ d H m→∃d' H' n',zd2 GA 1 ⟨frL [(0,d)],H,m⟩ ⟨frL [(0,d')],H',n'⟩∧Q d' H' n':=by
      rw[hQQ,hQ]
      rintro d H m ⟨h1,h2,h3,h4⟩
      exact⟨_,H,m,zpa h1,rfl,h2,h3,h4⟩
    rw[←hQ]
    refine zb1 (Q:=QQ) ?_ hfin
    clear hfin hQ
    have hX':∀{l:List (Abs.Id×Option O)} (id o),X id=some o→(id.2<n∧id.1≠60010∧id.1≠60005→zhf id l)→hpX l X id=some o:=fun id o h1 h2=>(za0 (h2 (hX id o h1))).trans h1
    obtain⟨hwl,hsl,hfs⟩:=zac.fit_eq hfit
    have hsw:∀g∈f.subs,(enc g).Wf:=fun g hg=>zh6 (zbL (by have h:=hw;rw[zaz]at h;exact h) (FD.sl (f.subs.map enc)) (by simp)) _ (List.mem_map_of_mem hg)
    have hss:∀g∈f.subs,g.size≤s∧g.fit=true:=fun g hg=>⟨by have:=zac.size_sub hg;omega,zac.fits_mem hfs hg⟩
    have hszs:f.size=zac.sizes f.subs+1:=by cases f;rw[zac.size];rfl
    have hreq:=@zxQ (vg used) f env k
    have kX:=Kp.mk @hX'
    have kQ:=Kp.mk hQQ
    have kI:=Kp.mk ih
    have kS:=Kp.mk hsw
    have kZ:=Kp.mk hss
    have kx:=Kp.mk hX
    have kR:=Kp.mk hreq
    clear hX' hQQ ih hsw hss hX hfs hreq hw hfit
    refine zaj (N:=87) hm hR1 85000 (lsw [48,83] [1000018]) zKB Tryz.func85 rfl rfl (by simp) (by kernel_rfl) ?_
    repeat'(first|refine rq fun _=>?_|simp only[go_sem,HHn,Tryz.f85])
    refine zam hm hR1 85000 (lsw [48,83] [1000018]) (ι:=zvh f.words.length (n+5) n)
      ⟨fun q=>⟨frL [(1,.fz (.sl (env.map enc))),(2,.fn 84 [.ptr (60010,ga) 0,.ptr (60005,gb) 0]),(3,.ptr (85003,n) 0),(6,.ptr (85006,n+1) 0),(7,.ptr (85007,n+1+1) 0),
          (19,.fz (.sl (f.words.map enc))),(20,.fz (.i .i64 f.words.length)),(21,.fz (.i .i64 q.i))],
        hpX ([((85003,n),some ⟨[.fz (.i .i64 f.kind),.fz (.s f.name.l),.fz (.sl (f.words.map enc)),.fz (.sl (f.subs.map enc))],true,false⟩),((85006,n+1),some ⟨[.fz (.i .i64 0),.fz (.s []),.full [],.full []],true,false⟩),
          ((85007,n+1+1),some ⟨[.fz (.i .i64 f.kind),.fz (.s f.name.l),.ow (85048,q.g) 1 (((f.words.take q.i).map (lkp env)).map enc),.ow (85083,n+1+1+1) 4 []],true,false⟩),
          ((85048,q.g),some tok),((85083,n+1+1+1),some tok)]++HHn k used ga gb) X,q.m⟩,fun q=>f.words.length-q.i⟩
      ⟨0,n+1+1+1+1,n+1+1+1+1+1,by omega,by omega,by omega,by omega⟩ (by kernel_rfl) ?_ ?_
    · refine zbw (zd4 85083) (zbw (zd4 85048) (zbw (zd3 (id:=(85007,n+1+1)) (id2:=(85048,n+1+1+1+1)) (es:=1) (k:=2) (xs:=[]) (b:=true) (by simp only[go_sem];rfl) (by simp) (by rfl) (by simp only;omega))
        (zbw (zd3 (id:=(85007,n+1+1)) (id2:=(85083,n+1+1+1)) (es:=4) (k:=3) (xs:=[]) (b:=true) (by simp only[go_sem];rfl) (by simp) (by rfl) (by simp only;omega)) ?_)))
      refine zay ?_ ?_ (fun id o ho=>?_) ?_
      · simp only[go_sem]
      · simp only[go_sem,HHn]
      · refine kX.out id o ho fun h1=>?_
        ((repeat'(first|exact trivial|apply And.intro))<;>(rintro rfl;simp only at h1;omega))
      · simp only[go_sem]
    rintro⟨i,g1,m1,hi,hg1,hm1,hgl⟩
    try simp only at hi hg1 hm1 hgl
    rcases Nat.lt_or_ge i f.words.length with h1|h1
    · obtain⟨w,hwi⟩:∃w,f.words[i]=w:=⟨_,rfl⟩
      have e3:=List.take_succ_eq_append_getElem h1
      rw[hwi]at e3
      have e4:((f.words.take (i+1)).map (lkp env))=((f.words.take i).map (lkp env))++[lkp env w]:=by rw[e3,List.map_append];rfl
      have e5:((f.words.take i).map (lkp env)).length=i:=by rw[List.length_map,List.length_take];omega
      obtain⟨ws,hws⟩:∃ws,(f.words.take i).map (lkp env)=ws:=⟨_,rfl⟩
      rw[hws]at e4 e5
      obtain⟨v,hv⟩:∃v,lkp env w=v:=⟨_,rfl⟩
      rw[hv]at e4
      have k4:=Kp.mk e4
      clear e4 e3
      repeat'(first|refine rq fun _=>?_|simp only[go_sem,HHn,h1,hwi,hws,zad,zaa,Tryz.f85])
      refine zam hm hR1 85000 (lsw [48,83] [1000018]) (ι:=zAY env w)
        ⟨fun q=>⟨frL [(1,.fz (.sl (env.map enc))),(2,.fn 84 [.ptr (60010,ga) 0,.ptr (60005,gb) 0]),(3,.ptr (85003,n) 0),(6,.ptr (85006,n+1) 0),(7,.ptr (85007,n+1+1) 0),
            (9,.fz (.s w.l)),(10,.fz (.i .i64 (zwf q.p))),(19,.fz (.sl (f.words.map enc))),(20,.fz (.i .i64 f.words.length)),(21,.fz (.i .i64 i))],
          hpX ([((85003,n),some ⟨[.fz (.i .i64 f.kind),.fz (.s f.name.l),.fz (.sl (f.words.map enc)),.fz (.sl (f.subs.map enc))],true,false⟩),((85006,n+1),some ⟨[.fz (.i .i64 0),.fz (.s []),.full [],.full []],true,false⟩),
            ((85007,n+1+1),some ⟨[.fz (.i .i64 f.kind),.fz (.s f.name.l),.ow (85048,g1) 1 (ws.map enc),.ow (85083,n+1+1+1) 4 []],true,false⟩),
            ((85048,g1),some tok),((85083,n+1+1+1),some tok)]++HHn k used ga gb) X,m1⟩,fun q=>q.p⟩
        ⟨env.length,Nat.le_refl _,rfl⟩ (by kernel_rfl) ?_ ?_
      · refine zay ?_ ?_ (fun id o ho=>?_) ?_
        · simp only[go_sem,zwf]
        · simp only[go_sem,HHn]
        · refine kX.out id o ho fun h1=>?_
          ((repeat'(first|exact trivial|apply And.intro))<;>(rintro rfl;simp only at h1;omega))
        · simp only[go_sem]
      rintro⟨p,hp,hl⟩
      try simp only at hp hl
      cases p with
      |zero=>
        have hvw:v=w:=by rw[←hv,hl,zhM]
        repeat'(first|refine rq fun _=>?_|refine zaq.i (zal (by omega) (by decide)) fun _=>?_|refine rq fun _=>?_|simp only[go_sem,HHn,h1,hwi,zmO,Tryz.f85])
        refine⟨⟨i+1,m1,m1+1,by omega,by omega,by omega,by omega⟩,by simp only;omega,?_⟩
        refine zay ?_ ?_ (fun id o ho=>?_) ?_
        · simp only[go_sem]
        · simp only[go_sem,HHn,k4.out,List.map_append,hvw]
        · refine kX.out id o ho fun h1=>?_
          ((repeat'(first|exact trivial|apply And.intro))<;>(rintro rfl;simp only at h1;omega))
        · simp only[go_sem]
      |succ p=>
        rw[zhM]at hl
        have hpg:env.getD p default=env[p]:=by rw[List.getD_eq_getElem?_getD,List.getElem?_eq_getElem (by omega),Option.getD_some]
        rw[hpg]at hl
        have hp':p<env.length:=by omega
        by_cases he:env[p].fr=w
        · rw[if_pos he,hv]at hl
          have he':env[p].fr.l=w.l:=by rw[he]
          repeat'(first|refine rq fun _=>?_|refine zaq.i (zal (by omega) (by decide)) fun _=>?_|refine rq fun _=>?_|simp only[go_sem,HHn,h1,hp',he',hwi,zgl,zaa,Tryz.f85])
          refine⟨⟨i+1,m1,m1+1,by omega,by omega,by omega,by omega⟩,by simp only;omega,?_⟩
          refine zay ?_ ?_ (fun id o ho=>?_) ?_
          · simp only[go_sem]
          · simp only[go_sem,HHn,k4.out,List.map_append,hl]
          · refine kX.out id o ho fun h1=>?_
            ((repeat'(first|exact trivial|apply And.intro))<;>(rintro rfl;simp only at h1;omega))
          · simp only[go_sem]
        · rw[if_neg he]at hl
          have he':¬env[p].fr.l=w.l:=fun e=>he (by cases h7:env[p].fr;cases h8:w;rw[h7,h8]at e;simp only at e;rw[e])
          repeat'(first|refine rq fun _=>?_|refine zaq.i (zal (by omega) (by decide)) fun _=>?_|refine rq fun _=>?_|simp only[go_sem,HHn,h1,hp',he',hwi,zgl,zaa,Tryz.f85])
          refine⟨⟨p,by omega,hl⟩,by simp only;omega,?_⟩
          refine zay ?_ ?_ (fun id o ho=>?_) ?_
          · simp only[go_sem,zwf]
          · simp only[go_sem,HHn]
          · refine kX.out id o ho fun h1=>?_
            ((repeat'(first|exact trivial|apply And.intro))<;>(rintro rfl;simp only at h1;omega))
          · simp only[go_sem]
    · obtain rfl:i=f.words.length:=by omega
      obtain⟨wl,hwl2⟩:∃wl,f.words.map (lkp env)=wl:=⟨_,rfl⟩
      have hres:∃(env2:List zbg) (nm2:Str) (k2:Nat),ren (vg used) f env k=(.mk f.kind nm2 wl (zbd (vg used) f.subs env2 k2).1,(zbd (vg used) f.subs env2 k2).2)∧k2≤k+(used.length+1)∧env2.length≤env.length+1∧
          (isQ f.kind→env2=env++[⟨f.name,(vg used k).1⟩]∧nm2=(vg used k).1∧k2=(vg used k).2)∧(¬isQ f.kind→env2=env∧nm2=f.name∧k2=k):=by
        have h5:=zuT used k
        rw[kR.out]
        by_cases hq:isQ f.kind
        · exact⟨_,_,_,by rw[if_pos hq,hwl2],by omega,by simp,fun _=>⟨rfl,rfl,rfl⟩,fun h=>absurd hq h⟩
        · exact⟨_,_,_,by rw[if_neg hq,hwl2],by omega,by simp,fun h=>absurd h hq,fun _=>⟨rfl,rfl,rfl⟩⟩
      obtain⟨env2,nm2,k2,hres,hk2,hel2,hq1,hq2⟩:=hres
      have kW:=Kp.mk hres
      have kq1:=Kp.mk hq1
      have kq2:=Kp.mk hq2
      clear hres hq1 hq2
      obtain⟨U,hU⟩:∃U,used.length+1=U:=⟨_,rfl⟩
      rw[hU]at hk hk2
      have hUf:U*f.size=U*zac.sizes f.subs+U:=by rw[hszs,Nat.mul_add,Nat.mul_one]
      have hU0:used.length≤U:=by omega
      have hUs:U≤U*f.size:=by omega
      obtain⟨A,hA⟩:∃A:Nat→List Abs.zac,A=fun j=>(zbd (vg used) (f.subs.take j) env2 k2).1:=⟨_,rfl⟩
      obtain⟨K,hK⟩:∃K:Nat→Nat,K=fun j=>(zbd (vg used) (f.subs.take j) env2 k2).2:=⟨_,rfl⟩
      have hA0:A 0=[]:=by rw[hA];simp[zbd]
      have hK0:K 0=k2:=by rw[hK];simp[zbd]
      have hAs:∀j (h:j<f.subs.length),A (j+1)=A j++[(ren (vg used) f.subs[j] env2 (K j)).1]∧K (j+1)=(ren (vg used) f.subs[j] env2 (K j)).2:=fun j h=>by
        rw[hA,hK];simp only[List.take_succ_eq_append_getElem h,zlw,zbd];constructor<;>first|rfl|trivial
      have hAl:∀j,(A j).length≤j:=fun j=>by rw[hA];simp only[zdj,List.length_take];omega
      have hKb:∀j (h:j<f.subs.length),K j+U*f.subs[j].size≤999999999999:=fun j h=>by
        have h6:=((zht (zuT used)).2 (f.subs.take j) env2 k2).2
        rw[hU]at h6
        have h7:=Nat.mul_le_mul_left U (zcR h)
        rw[Nat.mul_add]at h7
        rw[hK];simp only;omega
      have hAe:A f.subs.length=(zbd (vg used) f.subs env2 k2).1∧K f.subs.length=(zbd (vg used) f.subs env2 k2).2:=by rw[hA,hK];simp only[List.take_length];first|trivial|(constructor<;>first|rfl|trivial)
      have kA:=Kp.mk hAs
      have kB:=Kp.mk hAl
      have kC:=Kp.mk hKb
      have kE:=Kp.mk hAe
      clear hAs hAl hKb hAe hA hK
      rcases Decidable.em (isQ f.kind)with hq|hq
      case' inl=>
        obtain⟨q1,q2,q3⟩:=kq1.out hq
        unfold isQ at hq
        have h214:=f84 (used:=used) (k:=k) (n:=m1) (ga:=ga) (gb:=gb) (X:=hpX [((85003,n),some ⟨[.fz (.i .i64 f.kind),.fz (.s f.name.l),.fz (.sl (f.words.map enc)),.fz (.sl (f.subs.map enc))],true,false⟩),((85006,n+1),some ⟨[.fz (.i .i64 0),.fz (.s []),.full [],.full []],true,false⟩),
            ((85007,n+1+1),some ⟨[.fz (.i .i64 f.kind),.fz (.s f.name.l),.ow (85048,g1) 1 (wl.map enc),.ow (85083,n+1+1+1) 4 []],true,false⟩),((85083,n+1+1+1),some tok)] X) (by omega) (by omega) (by omega) (by
          intro id o ho
          simp only[hpX]at ho
          split at ho
          · rename_i e;subst e;simp only;omega
          split at ho
          · rename_i e;subst e;simp only;omega
          split at ho
          · rename_i e;subst e;simp only;omega
          split at ho
          · rename_i e;subst e;simp only;omega
          · have:=kx.out id o ho;omega)
        rw[←q2,←q3]at h214
        repeat'(first|refine rq fun _=>?_|simp only[go_sem,HHn,hq,Nat.lt_irrefl,List.take_length,hwl2,zad,Tryz.f85])
        refine zaQ.i (zcY (by simp only[go_sem,zgJ]) (by simp only[go_sem,HHn]) (fun id o ho=>?_) (Nat.le_refl _) (zaL h214 ?_))
        · simp only[hpX]at ho
          split at ho
          · rename_i e;subst e;simp only[go_sem];exact Option.some.inj ho
          split at ho
          · rename_i e;subst e;simp only[go_sem];exact Option.some.inj ho
          split at ho
          · rename_i e;subst e;simp only[go_sem];exact Option.some.inj ho
          split at ho
          · rename_i e;subst e;simp only[go_sem];exact Option.some.inj ho
          · refine kX.out id o ho fun h1=>?_
            ((repeat'(first|exact trivial|apply And.intro))<;>(rintro rfl;simp only at h1;omega))
        rintro d' H' n' ⟨rfl,e1,e2,e3⟩
        have b3:=e3 (85003,n) ⟨[.fz (.i .i64 f.kind),.fz (.s f.name.l),.fz (.sl (f.words.map enc)),.fz (.sl (f.subs.map enc))],true,false⟩ (by simp only[go_sem])
        have b6:=e3 (85006,n+1) ⟨[.fz (.i .i64 0),.fz (.s []),.full [],.full []],true,false⟩ (by simp only[go_sem])
        have b7:=e3 (85007,n+1+1) ⟨[.fz (.i .i64 f.kind),.fz (.s f.name.l),.ow (85048,g1) 1 (wl.map enc),.ow (85083,n+1+1+1) 4 []],true,false⟩ (by simp only[go_sem])
        have b8:=e3 (85083,n+1+1+1) tok (by simp only[go_sem])
        have hX2:∀id o,X id=some o→H' id=some o:=fun id o ho=>e3 id o (kX.out id o ho fun h1=>by
          ((repeat'(first|exact trivial|apply And.intro))<;>(rintro rfl;simp only at h1;omega)))
        have kX2:=Kp.mk hX2
        clear hX2 e3
        simp only[go_sem,HHn]at e2
        obtain⟨b1,b2⟩:=e2
        rw[show H'=hpX [] H' from rfl]
        repeat'(first|refine rq fun _=>?_|refine zaq.i (zal (by omega) (by decide)) fun _=>?_|refine rq fun _=>?_|simp only[go_sem,HHn,b3,b6,b7,b8,zad,Tryz.f85])
      case' inr=>
        obtain⟨q1,q2,q3⟩:=kq2.out hq
        unfold isQ at hq
        repeat'(first|refine rq fun _=>?_|simp only[go_sem,HHn,hq,Nat.lt_irrefl,List.take_length,hwl2,zad,Tryz.f85])
      all_goals
        refine zam hm hR1 85000 (lsw [48,83] [1000018]) (ι:=zvh f.subs.length (n+5) n)
          ⟨fun q=>⟨frL [(1,.fz (.sl (env2.map enc))),(2,.fn 84 [.ptr (60010,ga) 0,.ptr (60005,gb) 0]),(6,.ptr (85006,n+1) 0),(7,.ptr (85007,n+1+1) 0),
              (70,.fz (.sl (f.subs.map enc))),(71,.fz (.i .i64 f.subs.length)),(72,.fz (.i .i64 q.i))],
            hpX ([((85006,n+1),some ⟨[.fz (.i .i64 0),.fz (.s []),.full [],.full []],true,false⟩),
              ((85007,n+1+1),some ⟨[.fz (.i .i64 f.kind),.fz (.s nm2.l),.ow (85048,g1) 1 (wl.map enc),.ow (85083,q.g) 4 ((A q.i).map enc)],true,false⟩),
              ((85083,q.g),some tok)]++HHn (K q.i) used ga gb) X,q.m⟩,fun q=>f.subs.length-q.i⟩
          ⟨0,n+1+1+1,by first|exact n'|exact m1,by omega,by omega,by omega,by omega⟩ (by kernel_rfl) ?_ ?_
        · refine zay ?_ ?_ (fun id o ho=>?_) ?_
          · simp only[go_sem,q1,q2,List.map_append]
          · first
              |(simp only[go_sem,HHn,hA0,hK0,q2,q3,b1,b2,b3,b6,b7,b8];done)
              |(simp only[go_sem,HHn,hA0,hK0,q2,q3];done)
          · first
              |(have h1:=kx.out id o ho
                refine(za0 ?_).trans (kX2.out id o ho)
                ((repeat'(first|exact trivial|apply And.intro))<;>(rintro rfl;simp only at h1;omega)))
              |(refine kX.out id o ho fun h1=>?_
                ((repeat'(first|exact trivial|apply And.intro))<;>(rintro rfl;simp only at h1;omega)))
          · simp only[go_sem]
        rintro⟨j,g2,m2,hj,hg2,hm2,hgl2⟩
        try simp only at hj hg2 hm2 hgl2
        rcases Nat.lt_or_ge j f.subs.length with h2|h2
        · have hmem:=List.getElem_mem h2
          obtain⟨x,hx⟩:∃x,f.subs[j]=x:=⟨_,rfl⟩
          have hz:=kZ.out _ hmem
          have hwx:=kS.out _ hmem
          have hAj:=kA.out j h2
          have hKj:=kC.out j h2
          have hAlj:=kB.out j
          rw[hx]at hz hwx hAj hKj
          obtain⟨y,hy⟩:∃y,(ren (vg used) x env2 (K j)).1=y:=⟨_,rfl⟩
          obtain⟨kj,hkj⟩:∃kj,(ren (vg used) x env2 (K j)).2=kj:=⟨_,rfl⟩
          rw[hy,hkj]at hAj
          have hlx:=zac.size_mem (l:=f.subs) hmem
          rw[hx]at hlx
          have ih2:∀(m3:Nat),m2≤m3→_:=fun m3 hm3=>kI.out x env2 (K j) m3 (hpX [((85006,n+1),some ⟨[.fz (.i .i64 0),.fz (.s []),.full [],.full []],true,false⟩),
              ((85007,n+1+1),some ⟨[.fz (.i .i64 f.kind),.fz (.s nm2.l),.ow (85048,g1) 1 (wl.map enc),.ow (85083,g2) 4 ((A j).map enc)],true,false⟩),((85083,g2),some tok)] X) hz.1 hwx hz.2 (by omega) (by omega) (by rw[hU];omega) (by omega) (by
            intro id o ho
            simp only[hpX]at ho
            split at ho
            · rename_i e;subst e;simp only;omega
            split at ho
            · rename_i e;subst e;simp only;omega
            split at ho
            · rename_i e;subst e;simp only;omega
            · have:=kx.out id o ho;omega)
          simp only[hy,hkj]at ih2
          rw[zaz (f:=x)]at ih2
          obtain⟨fy,hfy⟩:∃fy,enc y=fy:=⟨_,rfl⟩
          have hcy:fy.cells.length=4:=by rw[←hfy,zaz];rfl
          have hff:(zaf [fy]).all zcp=true:=by rw[←hfy];have h9:=@ziA [y];exact eq_true h9▸h9
          repeat'(first|refine rq fun _=>?_|simp only[go_sem,HHn,h2,hx,zaa,Tryz.f85])
          refine zb0 (zdG (id:=(85012,m2)) (t:=12) (b:=true) (ys:=[.i .i64 x.kind,.s x.name.l,.sl (x.words.map enc),.sl (x.subs.map enc)]) (by simp only[go_sem]) (by simp only[go_sem])) ?_
          refine zbk hm hR1 85000 (lsw [48,83] [1000018]) zo3 (by kernel_rfl) (by kernel_rfl) ?_
          repeat'(first|refine And.intro ?_ ?_|exact True.intro|refine rq fun _=>?_|simp only[go_sem,zo3,HHn,h2,hx,zaa,Tryz.f85])
          all_goals
            refine zaQ.i (zcY (by simp only[go_sem,zgJ]) (by simp only[go_sem,HHn]) (fun id o ho=>?_) (Nat.le_refl _) (zaL (ih2 _ (by omega)) ?_))
            · simp only[hpX]at ho
              split at ho
              · rename_i e;subst e;simp only[go_sem];exact Option.some.inj ho
              split at ho
              · rename_i e;subst e;simp only[go_sem];exact Option.some.inj ho
              split at ho
              · rename_i e;subst e;simp only[go_sem];exact Option.some.inj ho
              · refine kX.out id o ho fun h1=>?_
                ((repeat'(first|exact trivial|apply And.intro))<;>(rintro rfl;simp only at h1;omega))
            rintro d' H' n' ⟨rfl,e1,e2,e3⟩
            have c6:=e3 (85006,n+1) ⟨[.fz (.i .i64 0),.fz (.s []),.full [],.full []],true,false⟩ (by simp only[go_sem])
            have c7:=e3 (85007,n+1+1) ⟨[.fz (.i .i64 f.kind),.fz (.s nm2.l),.ow (85048,g1) 1 (wl.map enc),.ow (85083,g2) 4 ((A j).map enc)],true,false⟩ (by simp only[go_sem])
            have c8:=e3 (85083,g2) tok (by simp only[go_sem])
            have hX2:∀id o,X id=some o→H' id=some o:=fun id o ho=>e3 id o (kX.out id o ho fun h1=>by
              ((repeat'(first|exact trivial|apply And.intro))<;>(rintro rfl;simp only at h1;omega)))
            clear e3
            simp only[go_sem,HHn]at e2
            obtain⟨c1,c2⟩:=e2
            rw[show H'=hpX [] H' from rfl]
            rw[hfy]
            repeat'(first|refine rq fun _=>?_|refine zaq.i (zal (by omega) (by decide)) fun _=>?_|refine rq fun _=>?_|simp only[go_sem,zo3,c1,c2,c6,c7,c8,h2,hcy,hff,Tryz.f85])
            refine⟨⟨j+1,n',n'+1,by omega,by omega,by omega,by omega⟩,by simp only;omega,?_⟩
            refine zay ?_ ?_ (fun id o ho=>?_) ?_
            · simp only[go_sem]
            · simp only[go_sem,HHn,c1,c2,c6,c7,c8,hAj.1,hAj.2,hfy,List.map_append]
            · have h1:=kx.out id o ho
              refine(za0 ?_).trans (hX2 id o ho)
              ((repeat'(first|exact trivial|apply And.intro))<;>(rintro rfl;simp only at h1;omega))
            · simp only[go_sem]
        · obtain rfl:j=f.subs.length:=by omega
          have hE:=kE.out
          repeat'(first|refine rq fun _=>?_|simp only[go_sem,HHn,Nat.lt_irrefl,Tryz.f85])
          rw[kQ.out,kW.out]
          refine⟨?_,by omega,?_,fun id o ho=>kX.out id o ho fun h1=>?_⟩
          · rw[←hE.1];simp only[go_sem]
          · rw[←hE.2];simp only[go_sem,HHn]
          · ((repeat'(first|exact trivial|apply And.intro))<;>(rintro rfl;simp only at h1;omega))
end Go.Proofs.YtmconmiemdinkaaGreatDoor
