/- several texts of this proof in one; no conditions -/
import Derived.Test.YtmconmiemdinkaaDoorAT
import Derived.Test.YtmconmiemdinkaaDoorY0
import Derived.Test.YtmconmiemdinkaaDoorY13
import Derived.Test.YtmconmiemdinkaaDoorSH
import Derived.Test.YtmconmiemdinkaaDoorY8
set_option maxRecDepth 100000
set_option maxHeartbeats 1000000
set_option linter.unusedSimpArgs false
namespace Go.Proofs.YtmconmiemdinkaaDoor
open Go Go.Abs Go.Proofs
def GA:Nat→List FD:=fun g=>if g=0 then[.i .i64 0,.i .i64 0]else[]
def R1:Tbl:=Q20
attribute [go_sem] R1
theorem hR1:zam Tryd.prog GA R1:=zcd zt4
def HHk (acc:List Str)(g:Nat):List (Abs.Id×Option O):=
  [((42003,1),some ⟨[.arr (54024,g) 1 0 acc.length],true,false⟩),
   ((42004,2),some ⟨[.fn 54 [.ptr (42003,1) 0,.ptr (42004,2) 0]],true,false⟩),
   ((54024,g),some ⟨zag (acc.map enc),false,acc.isEmpty⟩)]
theorem zmM {f:Abs.zab}{bd:List Str}:cst f bd=f.words.filter (fun w=>decide (w∉bd))++zb3 f.subs (if isQ f.kind then bd++[f.name]else bd):=by cases f;rw[cst];rfl
theorem zef {ws bd:List Str}(i:Nat):((ws.take i).filter (fun w=>decide (w∉bd))).length≤(ws.filter (fun w=>decide (w∉bd))).length:=
 (List.Sublist.filter _ (List.take_sublist i ws)).length_le
theorem zdX {ws bd:List Str}{i:Nat}(h:i<ws.length):(ws.take (i+1)).filter (fun w=>decide (w∉bd))=(ws.take i).filter (fun w=>decide (w∉bd))++if ws[i]∈bd then[]else[ws[i]]:=by
 rw[List.take_succ_eq_append_getElem h,List.filter_append]
 congr 1
 by_cases hb:ws[i]∈bd
 ·simp[hb]
 ·simp[hb]
theorem ziv {xs:List FD}{l:List UInt8}:zag (xs++[FD.s l])=zag xs++[D.fz (FD.s l)]:=by simp[zag,FD.cells]
theorem zeI {fs:List Abs.zab}{bd:List Str}{j:Nat}(h:j<fs.length):zb3 (fs.take (j+1)) bd=zb3 (fs.take j) bd++cst fs[j] bd:=by
 rw[List.take_succ_eq_append_getElem h,zjb,zb3,zb3,List.append_nil]
theorem zfe {fs:List Abs.zab}{bd:List Str}(j:Nat):(zb3 (fs.take j) bd).length≤(zb3 fs bd).length:=by
 have h:=zjb bd (fs.take j) (fs.drop j)
 rw[List.take_append_drop]at h
 rw[h,List.length_append];omega
theorem f54:∀(k:Nat) (f:Abs.zab) (bd acc:List Str) (g n:Nat) (X:zau),f.size≤k→(enc f).Wf→g<n→2<n→acc.length+(cst f bd).length≤1000000→bd.length+f.size≤1000000→
  (∀id o,X id=some o→id.2<n∧id.1≠42003∧id.1≠42004∧id.1≠54024)→
  zaE Tryd.prog GA 54 [.fz (enc f),.fz (enc bd),.ptr (42003,1) 0,.ptr (42004,2) 0] (hpX (HHk acc g) X) n
   (fun d' H' n'=>d'= .tup []∧n≤n'∧(∃g',g'<n'∧zfO H' (HHk (acc++cst f bd) g'))∧∀id o,X id=some o→H' id=some o):=by
 intro k
 induction k with
 |zero=>intro f bd acc g n X hs;have:=f.size_pos;omega
 |succ k ih=>
  intro f bd acc g n X hs hw hg hn hlen hbl hX
  obtain⟨Q,hQ⟩:∃Q:D→zau→Nat→Prop,Q=(fun d' H' n'=>d'= .tup []∧n≤n'∧(∃g',g'<n'∧zfO H' (HHk (acc++cst f bd) g'))∧∀id o,X id=some o→H' id=some o):=⟨_,rfl⟩
  rw[←hQ]
  have hX':∀{l:List (Abs.Id×Option O)} (id o),X id=some o→(id.2<n∧id.1≠42003∧id.1≠42004∧id.1≠54024→zj4 id l)→hpX l X id=some o:=fun id o h1 h2=>(zba (h2 (hX id o h1))).trans h1
  have hwl:f.words.length≤zbj:=by
   have h:=zbM (by have h:=hw;rw[zaJ]at h;exact h) (FD.sl (f.words.map enc)) (by simp)
   have:=zdq h
   simpa using this
  have hsl:f.subs.length≤zbj:=by
   have h:=zbM (by have h:=hw;rw[zaJ]at h;exact h) (FD.sl (f.subs.map enc)) (by simp)
   have:=zdq h
   simpa using this
  have hsw:∀g∈f.subs,(enc g).Wf:=fun g hg=>zjX (zbM (by have h:=hw;rw[zaJ]at h;exact h) (FD.sl (f.subs.map enc)) (by simp)) _ (List.mem_map_of_mem hg)
  have hss:∀g∈f.subs,g.size≤k∧g.size+1≤f.size:=fun g hg=>by have:=zab.size_sub hg;omega
  unfold zbj at hwl hsl
  rw[zmM,List.length_append]at hlen
  obtain⟨A,hA⟩:∃A:Nat→List Str,A=fun i=>acc++(f.words.take i).filter (fun w=>decide (w∉bd)):=⟨_,rfl⟩
  have hA0:A 0=acc:=by rw[hA];simp
  have hAl:∀i,(A i).length≤acc.length+(f.words.filter (fun w=>decide (w∉bd))).length:=fun i=>by
   rw[hA];simp only[List.length_append];have:=@zef f.words bd i;omega
  have hAs:∀i (h:i<f.words.length),A (i+1)=A i++if f.words[i]∈bd then[]else[f.words[i]]:=fun i h=>by
   rw[hA];simp only[zdX h,List.append_assoc]
  have hAe:A f.words.length=acc++f.words.filter (fun w=>decide (w∉bd)):=by rw[hA];simp only[List.take_length]
  have kA:=Kp.mk hAl
  have kB:=Kp.mk hAs
  have kC:=Kp.mk hAe
  clear hA hAl hAs hAe
  have kX:=Kp.mk @hX'
  have kQ:=Kp.mk hQ
  have kI:=Kp.mk ih
  have kS:=Kp.mk hsw
  have kZ:=Kp.mk hss
  have kx:=Kp.mk hX
  clear hX' hQ ih hsw hss hX
  refine zak (N:=50) hm hR1 54000 (lst [24]) zC0 Tryd.func54 rfl rfl (by simp) (by kernel_rfl) ?_
  repeat'(first|refine rq fun _=>?_|simp only[go_sem,HHk,Tryd.f54, *])
  refine zap hm hR1 54000 (lst [24]) (ι:=zeF f.words.length (n+1) fun _=>True)
   ⟨fun q=>⟨frL [(1,.fz (.sl (bd.map enc))),(2,.ptr (42003,1) 0),(3,.ptr (42004,2) 0),(4,.ptr (54004,n) 0),(11,.fz (.sl (f.words.map enc))),(12,.fz (.i .i64 f.words.length)),(13,.fz (.i .i64 q.i))],
    hpX (((54004,n),some ⟨[.fz (.i .i64 f.kind),.fz (.s f.name.l),.fz (.sl (f.words.map enc)),.fz (.sl (f.subs.map enc))],true,false⟩)::HHk (A q.i) q.g) X,q.m⟩,fun q=>f.words.length-q.i⟩
   ⟨0,g,n+1,by omega,by omega,by omega,trivial⟩ (by kernel_rfl) ?_ ?_
  ·refine zaL ?_ ?_ (fun id o ho=>?_) ?_
   ·simp only[go_sem]
   ·simp only[go_sem,HHk,hA0]
   ·refine kX.out id o ho fun h1=>?_
    ((repeat'(first|exact trivial|apply And.intro))<;>(rintro rfl;simp only at h1;omega))
   ·simp only[go_sem]
  rintro⟨i,g1,m1,hi,hg1,hm1,_⟩
  try simp only at hi hg1 hm1
  rcases Nat.lt_or_ge i f.words.length with h1|h1
  ·have hfl:=kB.out i h1
   have hl1:=kA.out i
   have hl2:=kA.out (i+1)
   by_cases hin:f.words[i]∈bd
   ·rw[if_pos hin,List.append_nil]at hfl
    repeat'(first|refine rq fun _=>?_|simp only[go_sem,HHk,h1,hin,zae,zaa,Tryd.f54])
    refine⟨⟨i+1,g1,m1,by omega,by omega,by omega,trivial⟩,by simp only;omega,?_⟩
    refine zaL ?_ ?_ (fun id o ho=>?_) ?_
    ·simp only[go_sem]
    ·simp only[go_sem,HHk,hfl]
    ·refine kX.out id o ho fun h1=>?_
     ((repeat'(first|exact trivial|apply And.intro))<;>(rintro rfl;simp only at h1;omega))
    ·simp only[go_sem]
   ·rw[if_neg hin]at hfl
    have hl3:(zag ((A i).map enc)).length=(A i).length:=by rw[zc1 (zbR (f:=enc) (k:=1) (fun _=>rfl) _),List.length_map]
    repeat'(first|refine rq fun _=>?_|refine zaG.i (zaA (by omega) (by decide)) fun _=>?_|simp only[go_sem,HHk,h1,hin,zae,zaa,Tryd.f54])
    refine⟨⟨i+1,m1,m1+1,by omega,by omega,by omega,trivial⟩,by simp only;omega,?_⟩
    refine zaL ?_ ?_ (fun id o ho=>?_) ?_
    ·simp only[go_sem]
    ·simp only[go_sem,HHk,hfl,ziv]
    ·refine kX.out id o ho fun h1=>?_
     ((repeat'(first|exact trivial|apply And.intro))<;>(rintro rfl;simp only at h1;omega))
    ·simp only[go_sem]
  ·obtain rfl:i=f.words.length:=by omega
   have hAe:=kC.out
   obtain⟨bd2,hbd⟩:∃bd2,bd2=if isQ f.kind then bd++[f.name]else bd:=⟨_,rfl⟩
   rw[←hbd]at hlen
   obtain⟨B,hB⟩:∃B:Nat→List Str,B=fun j=>A f.words.length++zb3 (f.subs.take j) bd2:=⟨_,rfl⟩
   have hB0:B 0=A f.words.length:=by rw[hB];simp[zb3]
   have hBs:∀j (h:j<f.subs.length),B (j+1)=B j++cst f.subs[j] bd2:=fun j h=>by rw[hB];simp only[zeI h,List.append_assoc]
   have hBl:∀j,(B j).length≤1000000:=fun j=>by rw[hB,List.length_append,hAe,List.length_append];have:=@zfe f.subs bd2 j;omega
   have hBe:B f.subs.length=acc++cst f bd:=by rw[hB,zmM,←hbd,hAe];simp only[List.take_length,List.append_assoc]
   have hb2:bd2.length≤bd.length+1:=by
    rw[hbd];split
    ·simp
    ·omega
   have kBs:=Kp.mk hBs
   have kBl:=Kp.mk hBl
   have kBe:=Kp.mk hBe
   clear hBs hBl hBe hB hAe
   rcases Decidable.em (isQ f.kind)with hq|hq
   all_goals
    (first|rw[if_pos hq]at hbd|rw[if_neg hq]at hbd)
    unfold isQ at hq
    repeat'(first|refine rq fun _=>?_|refine zaG.i (zaA (by omega) (by decide)) fun _=>?_|simp only[go_sem,HHk,hq,Nat.lt_irrefl,zae,Tryd.f54])
    refine zap hm hR1 54000 (lst [24]) (ι:=zeF f.subs.length (n+1) fun _=>True)
     ⟨fun q=>⟨frL [(1,.fz (.sl (bd2.map enc))),(2,.ptr (42003,1) 0),(3,.ptr (42004,2) 0),(39,.fz (.sl (f.subs.map enc))),(40,.fz (.i .i64 f.subs.length)),(41,.fz (.i .i64 q.i))],hpX (HHk (B q.i) q.g) X,q.m⟩,fun q=>f.subs.length-q.i⟩
     ⟨0,g1,m1,by omega,by omega,by omega,trivial⟩ (by kernel_rfl) ?_ ?_
    ·refine zaL ?_ ?_ (fun id o ho=>?_) ?_
     ·simp only[go_sem,hbd,List.map_append]
     ·simp only[go_sem,HHk,hB0]
     ·refine kX.out id o ho fun h1=>?_
      ((repeat'(first|exact trivial|apply And.intro))<;>(rintro rfl;simp only at h1;omega))
     ·simp only[go_sem]
    rintro⟨j,g2,m2,hj,hg2,hm2,_⟩
    try simp only at hj hg2 hm2
    rcases Nat.lt_or_ge j f.subs.length with h2|h2
    ·have hmem:=List.getElem_mem h2
     have hBj:=kBs.out j h2
     have hl4:=kBl.out (j+1)
     have hz:=kZ.out _ hmem
     rw[hBj,List.length_append]at hl4
     have ih2:=kI.out f.subs[j] bd2 (B j) g2 (m2+1) X hz.1 (kS.out _ hmem) (by omega) (by omega) hl4 (by omega) (fun id o ho=>by have:=kx.out id o ho;omega)
     rw[zaJ]at ih2
     repeat'(first|refine rq fun _=>?_|simp only[go_sem,HHk,h2,zaa,Tryd.f54])
     refine zaF.i (zes rfl (ze3 (by simp only[go_sem,zg1]) (by simp only[go_sem,HHk]) (fun id o ho=>?_) (Nat.le_refl _) (zaQ ih2 ?_)))
     ·refine kX.out id o ho fun h1=>?_
      ((repeat'(first|exact trivial|apply And.intro))<;>(rintro rfl;simp only at h1;omega))
     rintro d' H' n' ⟨rfl,e1,⟨g3,hg3,e2⟩,e3⟩
     rw[←hBj]at e2
     simp only[go_sem,HHk]at e2
     obtain⟨b1,b2,b3⟩:=e2
     rw[show H'=hpX [] H' from rfl]
     repeat'(first|refine rq fun _=>?_|simp only[go_sem,HHk,h2,Tryd.f54])
     refine⟨⟨j+1,g3,n',by omega,by omega,by omega,trivial⟩,by simp only;omega,?_⟩
     refine zaL ?_ ?_ (fun id o ho=>?_) ?_
     ·simp only[go_sem]
     ·simp only[go_sem,HHk,b1,b2,b3]
     ·exact e3 id o ho
     ·simp only[go_sem]
    ·obtain rfl:j=f.subs.length:=by omega
     repeat'(first|refine rq fun _=>?_|simp only[go_sem,HHk,Nat.lt_irrefl,Tryd.f54])
     rw[kQ.out]
     refine⟨rfl,by omega,⟨g2,by omega,?_⟩,fun id o ho=>kX.out id o ho fun h1=>?_⟩
     ·rw[←kBe.out];simp only[go_sem,HHk]
     ·((repeat'(first|exact trivial|apply And.intro))<;>(rintro rfl;simp only at h1;omega))
end Go.Proofs.YtmconmiemdinkaaDoor
namespace Go.Proofs.YtmconmiemdinkaaDoor
open Go Go.Abs Go.Proofs
def zld (l:List Str):List Str:=(zjM (l.map (·.l))).map Str.mk
def zh1 (l:List Str):List Str:=(zdM (l.map (·.l))).map Str.mk
theorem zm5 (l:List (List UInt8)):(l.map Str.mk).map (·.l)=l:=by rw[List.map_map,show((·.l)∘Str.mk:List UInt8→List UInt8)=id from rfl,List.map_id]
theorem znq (f:Abs.zab):zcw f=zh1 (zld (cst f [])):=by
 unfold zcw zh1 zld;rw[zm5]
theorem zdu (l:List Str):zag (l.map enc)=zbo (l.map (·.l)):=by rw[za0,zbo,List.map_map];rfl
theorem zev (l:List (List UInt8)):zbo l=zag ((l.map Str.mk).map enc):=by rw[zdu,zm5]
theorem zjw {H:zau}{id:Abs.Id}{o:Option O}:zaK H id o=hpX [(id,o)] H:=rfl
theorem zsA {H:zau}{id:Abs.Id}{l:List Str}{bx vt:Bool}{n:Nat}{R:D→zau→Nat→Prop}(ho:H id=some ⟨zag (l.map enc),bx,vt⟩)
  (hR:R (.tup []) (hpX [(id,some ⟨zag ((zld l).map enc),bx,vt⟩)] H) n):zaE Tryd.prog GA 55 [.arr id 1 0 l.length] H n R:=by
 rw[zdu]at ho
 have h:=zia (G:=GA) (n:=n) zC1 Tryd.slices_Sort_string Tryd.slices_Sort_string_none ho
 rw[List.length_map]at h
 refine zaQ h ?_
 rintro d H' n' ⟨rfl,rfl,rfl⟩
 rw[zjw,zev]
 exact hR
theorem zrz {H:zau}{id:Abs.Id}{l:List Str}{bx vt:Bool}{n:Nat}{R:D→zau→Nat→Prop}(ho:H id=some ⟨zag (l.map enc),bx,vt⟩)
  (hR:R (.arr id 1 0 (zh1 l).length) (hpX [(id,some ⟨zag ((zh1 l).map enc),bx,vt⟩)] H) n):zaE Tryd.prog GA 56 [.arr id 1 0 l.length] H n R:=by
 rw[zdu]at ho
 have h:=ze2 (G:=GA) (n:=n) zC2 Tryd.slices_Compact_string Tryd.slices_Compact_string_empty ho
 rw[List.length_map]at h
 refine zaQ h ?_
 rintro d H' n' ⟨rfl,rfl,rfl⟩
 rw[zjw,zev,show(zdM (l.map (·.l))).length=(zh1 l).length by unfold zh1;rw[List.length_map]]
 exact hR
theorem zle (l:List Str):(zld l).length=l.length:=by unfold zld;rw[List.length_map,zhH,List.length_map]
theorem f42 {f:Abs.zab}(hw:(enc f).Wf)(hl:(cst f []).length≤1000000)(hs:f.size≤1000000):zaE Tryd.prog GA 42 [.fz (enc f)] (hpL []) 0
  (fun d H n=>∃g,g<n∧d= .arr (54024,g) 1 0 (zcw f).length∧H (54024,g)=some ⟨zag ((zcw f).map enc),false,(cst f []).isEmpty⟩):=by
 obtain⟨Q,hQ⟩:∃Q:D→zau→Nat→Prop,Q=(fun d H n=>∃g,g<n∧d= .arr (54024,g) 1 0 (zcw f).length∧H (54024,g)=some ⟨zag ((zcw f).map enc),false,(cst f []).isEmpty⟩):=⟨_,rfl⟩
 rw[←hQ]
 refine zak (N:=13) hm hR1 42000 (lst []) zA2 Tryd.func42 rfl rfl (by simp) (by kernel_rfl) ?_
 have h:=f54 f.size f [] [] 3 4 (fun _=>none) (Nat.le_refl _) hw (by omega) (by omega) (by simpa using hl) (by simpa using hs) (fun id o ho=>by cases ho)
 rw[zaJ]at h
 repeat'(first|refine rq fun _=>?_|simp only[go_sem,Tryd.f42])
 refine zaF.i (zes rfl (zlD (args':=[.fz (.agg [.i .i64 f.kind,.s f.name.l,.sl (f.words.map enc),.sl (f.subs.map enc)]),.fz (enc ([]:List Str)),.ptr (42003,1) 0,.ptr (42004,2) 0])
  (hl:=HHk [] 3) (n':=4) [] [(54024,3)] [] rfl ?_ ?_ ?_ ?_ ?_ ?_))
 case _=>omega
 case _=>simp only[go_sem]
 case _=>simp only[go_sem,HHk];first|done|rfl
 case _=>simp only[go_sem,HHk];first|done|rfl
 case _=>simp only[go_sem];first|done|rfl
 rw[show hpL (HHk [] 3)=hpX (HHk [] 3) (fun _=>none)from rfl]
 refine zaQ h ?_
 rintro d' H' n' ⟨rfl,e1,⟨g,hg,e2⟩,_⟩
 rw[List.nil_append]at e2
 obtain⟨C,hC⟩:∃C,C=cst f []:=⟨_,rfl⟩
 rw[←hC]at e2
 rw[znq,←hC]at hQ
 simp only[go_sem,HHk]at e2
 obtain⟨b1,b2,b3⟩:=e2
 rw[show H'=hpX [] H' from rfl]
 repeat'(first|refine rq fun _=>?_|simp only[go_sem,b1,b2,b3,Tryd.f42])
 refine zaF.i (zsA (l:=C) (bx:=false) (vt:=C.isEmpty) (by simp only[go_sem,b3]) ?_)
 rw[←zle C]at b1
 repeat'(first|refine rq fun _=>?_|simp only[go_sem,b1,b2,b3,Tryd.f42])
 refine zaF.i (zrz (l:=zld C) (bx:=false) (vt:=C.isEmpty) (by simp only[go_sem]) ?_)
 repeat'(first|refine rq fun _=>?_|simp only[go_sem,b1,b2,b3,Tryd.f42])
 rw[hQ]
 exact⟨g,hg,by simp only[go_sem],by simp only[go_sem]⟩
end Go.Proofs.YtmconmiemdinkaaDoor
namespace Go.Proofs.YtmconmiemdinkaaDoor
open Go Go.Abs Go.Proofs
structure zDo (used:List Str)(k:Nat) where
 j:Nat
 h1:k≤j
 h2:j≤k+used.length
 h3:zd0 used k=zd0 used j
end Go.Proofs.YtmconmiemdinkaaDoor
namespace Go.Proofs.YtmconmiemdinkaaDoor
open Go Go.Abs Go.Proofs
theorem ze4 {G:Nat→List FD}{N:Nat}{l:List (Nat×D)}{H:zau}{n:Nat}{id:Abs.Id}{t:Nat}{ys:List FD}{b:Bool}(ho:H id=some ⟨ys.map .fz,b,false⟩)(hs:frL l t= .ptr id 0):
  zeu G N ⟨frL l,H,n⟩ ⟨frL ((t,.rp ys)::l),zaK H id none,n⟩:=ztu (st:=⟨frL l,H,n⟩) ho hs
structure zDk (env:List zbH)(w:Str) where
 p:Nat
 hp:p≤env.length
 h:lkp env w=zh6 env w p
structure zDn (len n0 lo:Nat) where
 i:Nat
 g:Nat
 m:Nat
 hi:i≤len
 hg:g<m
 hm:n0≤m
 hl:lo≤g
structure zDl (n len:Nat)(p:Nat→Nat→Prop) where
 i:Nat
 g:Nat
 k:Nat
 m:Nat
 hi:i≤len
 hg:g<m
 hm:n≤m
 hp:p i k
theorem zdB:∀{fs:List Abs.zab} {j:Nat} (h:j<fs.length),zab.sizes (fs.take j)+fs[j].size≤zab.sizes fs
 |f::fs,0,h=>by simp only[List.take_zero,zab.sizes,List.getElem_cons_zero];omega
 |f::fs,j+1,h=>by
  have:=zdB (fs:=fs) (j:=j) (by simpa using h)
  simp only[List.take_succ_cons,zab.sizes,List.getElem_cons_succ];omega
end Go.Proofs.YtmconmiemdinkaaDoor
