import Derived.Test.YtkkffhphodngkaaDoorAT
import Derived.Test.YtkkffhphodngkaaDoorQ8
import Derived.Test.YtkkffhphodngkaaDoorCN
import Derived.Test.YtkkffhphodngkaaDoorSH
set_option linter.unusedSimpArgs false
namespace Go.Proofs.YtkkffhphodngkaaDoor
open Go Go.Abs Go.Proofs
def GA:Nat→List FD:=fun g=>if g=0 then[.i .i64 0,.i .i64 0]else[]
def R1:Tbl:=Q20
attribute [go_sem] R1
theorem hR1:zan Tryd.prog GA R1:=zcq zwH
def HHk (acc:List Str)(g:Nat):List (Abs.Id×Option O):=
  [((49003,1),some ⟨[.arr (76024,g) 1 0 acc.length],true,false⟩),
   ((49004,2),some ⟨[.fn 76 [.ptr (49003,1) 0,.ptr (49004,2) 0]],true,false⟩),
   ((76024,g),some ⟨zae (acc.map enc),false,acc.isEmpty⟩)]
theorem zoi {f:Abs.zaf}{bd:List Str}:cst f bd=f.words.filter (fun w=>decide (w∉bd))++zb8 f.subs (if isQ f.kind then bd++[f.name]else bd):=by cases f;rw[cst];rfl
theorem zeG {ws bd:List Str}(i:Nat):((ws.take i).filter (fun w=>decide (w∉bd))).length≤(ws.filter (fun w=>decide (w∉bd))).length:=
 (List.Sublist.filter _ (List.take_sublist i ws)).length_le
theorem zel {ws bd:List Str}{i:Nat}(h:i<ws.length):(ws.take (i+1)).filter (fun w=>decide (w∉bd))=(ws.take i).filter (fun w=>decide (w∉bd))++if ws[i]∈bd then[]else[ws[i]]:=by
 rw[List.take_succ_eq_append_getElem h,List.filter_append]
 congr 1
 by_cases hb:ws[i]∈bd
 ·simp[hb]
 ·simp[hb]
theorem zji {xs:List FD}{l:List UInt8}:zae (xs++[FD.s l])=zae xs++[D.fz (FD.s l)]:=by simp[zae,FD.cells]
theorem zfc {fs:List Abs.zaf}{bd:List Str}{j:Nat}(h:j<fs.length):zb8 (fs.take (j+1)) bd=zb8 (fs.take j) bd++cst fs[j] bd:=by
 rw[List.take_succ_eq_append_getElem h,zjX,zb8,zb8,List.append_nil]
theorem zfN {fs:List Abs.zaf}{bd:List Str}(j:Nat):(zb8 (fs.take j) bd).length≤(zb8 fs bd).length:=by
 have h:=zjX bd (fs.take j) (fs.drop j)
 rw[List.take_append_drop]at h
 rw[h,List.length_append];omega
set_option maxRecDepth 100000 in
set_option maxHeartbeats 1000000 in
theorem f76:∀(k:Nat) (f:Abs.zaf) (bd acc:List Str) (g n:Nat) (X:zau),f.size≤k→(enc f).Wf→g<n→2<n→acc.length+(cst f bd).length≤1000000→bd.length+f.size≤1000000→
  (∀id o,X id=some o→id.2<n∧id.1≠49003∧id.1≠49004∧id.1≠76024)→
  zay Tryd.prog GA 76 [.fz (enc f),.fz (enc bd),.ptr (49003,1) 0,.ptr (49004,2) 0] (hpX (HHk acc g) X) n
   (fun d' H' n'=>d'= .tup []∧n≤n'∧(∃g',g'<n'∧zhk H' (HHk (acc++cst f bd) g'))∧∀id o,X id=some o→H' id=some o):=by
 intro k
 induction k with
 |zero=>intro f bd acc g n X hs;have:=f.size_pos;omega
 |succ k ih=>
  intro f bd acc g n X hs hw hg hn hlen hbl hX
  obtain⟨Q,hQ⟩:∃Q:D→zau→Nat→Prop,Q=(fun d' H' n'=>d'= .tup []∧n≤n'∧(∃g',g'<n'∧zhk H' (HHk (acc++cst f bd) g'))∧∀id o,X id=some o→H' id=some o):=⟨_,rfl⟩
  rw[←hQ]
  have hX':∀{l:List (Abs.Id×Option O)} (id o),X id=some o→(id.2<n∧id.1≠49003∧id.1≠49004∧id.1≠76024→zhL id l)→hpX l X id=some o:=fun id o h1 h2=>(zdy (h2 (hX id o h1))).trans h1
  have hwl:f.words.length≤zba:=by
   have h:=za9 (by have h:=hw;rw[zaH]at h;exact h) (FD.sl (f.words.map enc)) (by simp)
   have:=zbV h
   simpa using this
  have hsl:f.subs.length≤zba:=by
   have h:=za9 (by have h:=hw;rw[zaH]at h;exact h) (FD.sl (f.subs.map enc)) (by simp)
   have:=zbV h
   simpa using this
  have hsw:∀g∈f.subs,(enc g).Wf:=fun g hg=>zdO (za9 (by have h:=hw;rw[zaH]at h;exact h) (FD.sl (f.subs.map enc)) (by simp)) _ (List.mem_map_of_mem hg)
  have hss:∀g∈f.subs,g.size≤k∧g.size+1≤f.size:=fun g hg=>by have:=zaf.size_sub hg;omega
  unfold zba at hwl hsl
  rw[zoi,List.length_append]at hlen
  obtain⟨A,hA⟩:∃A:Nat→List Str,A=fun i=>acc++(f.words.take i).filter (fun w=>decide (w∉bd)):=⟨_,rfl⟩
  have hA0:A 0=acc:=by rw[hA];simp
  have hAl:∀i,(A i).length≤acc.length+(f.words.filter (fun w=>decide (w∉bd))).length:=fun i=>by
   rw[hA];simp only[List.length_append];have:=@zeG f.words bd i;omega
  have hAs:∀i (h:i<f.words.length),A (i+1)=A i++if f.words[i]∈bd then[]else[f.words[i]]:=fun i h=>by
   rw[hA];simp only[zel h,List.append_assoc]
  have hAe:A f.words.length=acc++f.words.filter (fun w=>decide (w∉bd)):=by rw[hA];simp only[List.take_length]
  have kA:=Kp.mk hAl
  have kB:=Kp.mk hAs
  have kC:=Kp.mk hAe
  clear hA hAl hAs hAe
  have kX:=Kp.mk @hX'
  have kQ:=Kp.mk hQ
  have kI:=Kp.mk ih
  have kS:=Kp.mk hsw
  have kZ:=Kp.mk hss
  have kx:=Kp.mk hX
  clear hX' hQ ih hsw hss hX
  refine zah (N:=50) hm hR1 76000 (lst [24]) zGm Tryd.func76 rfl rfl (by simp) (by kernel_rfl) ?_
  repeat'(first|refine rq fun _=>?_|simp only[go_sem,HHk,Tryd.f76, *])
  refine zai hm hR1 76000 (lst [24]) (ι:=zen f.words.length (n+1) fun _=>True)
   ⟨fun q=>⟨frL [(1,.fz (.sl (bd.map enc))),(2,.ptr (49003,1) 0),(3,.ptr (49004,2) 0),(4,.ptr (76004,n) 0),(11,.fz (.sl (f.words.map enc))),(12,.fz (.i .i64 f.words.length)),(13,.fz (.i .i64 q.i))],
    hpX (((76004,n),some ⟨[.fz (.i .i64 f.kind),.fz (.s f.name.l),.fz (.sl (f.words.map enc)),.fz (.sl (f.subs.map enc))],true,false⟩)::HHk (A q.i) q.g) X,q.m⟩,fun q=>f.words.length-q.i⟩
   ⟨0,g,n+1,by omega,by omega,by omega,trivial⟩ (by kernel_rfl) ?_ ?_
  ·refine zaX ?_ ?_ (fun id o ho=>?_) ?_
   ·simp only[go_sem]
   ·simp only[go_sem,HHk,hA0]
   ·refine kX.out id o ho fun h1=>?_
    ((repeat'(first|exact trivial|apply And.intro))<;>(rintro rfl;simp only at h1;omega))
   ·simp only[go_sem]
  rintro⟨i,g1,m1,hi,hg1,hm1,_⟩
  try simp only at hi hg1 hm1
  rcases Nat.lt_or_ge i f.words.length with h1|h1
  ·have hfl:=kB.out i h1
   have hl1:=kA.out i
   have hl2:=kA.out (i+1)
   by_cases hin:f.words[i]∈bd
   ·rw[if_pos hin,List.append_nil]at hfl
    repeat'(first|refine rq fun _=>?_|simp only[go_sem,HHk,h1,hin,zac,zaa,Tryd.f76])
    refine⟨⟨i+1,g1,m1,by omega,by omega,by omega,trivial⟩,by simp only;omega,?_⟩
    refine zaX ?_ ?_ (fun id o ho=>?_) ?_
    ·simp only[go_sem]
    ·simp only[go_sem,HHk,hfl]
    ·refine kX.out id o ho fun h1=>?_
     ((repeat'(first|exact trivial|apply And.intro))<;>(rintro rfl;simp only at h1;omega))
    ·simp only[go_sem]
   ·rw[if_neg hin]at hfl
    have hl3:(zae ((A i).map enc)).length=(A i).length:=by rw[zlE (zeg (f:=enc) (k:=1) (fun _=>rfl) _),List.length_map]
    repeat'(first|refine rq fun _=>?_|refine zaB.i (zaL (by omega) (by decide)) fun _=>?_|simp only[go_sem,HHk,h1,hin,zac,zaa,Tryd.f76])
    refine⟨⟨i+1,m1,m1+1,by omega,by omega,by omega,trivial⟩,by simp only;omega,?_⟩
    refine zaX ?_ ?_ (fun id o ho=>?_) ?_
    ·simp only[go_sem]
    ·simp only[go_sem,HHk,hfl,zji]
    ·refine kX.out id o ho fun h1=>?_
     ((repeat'(first|exact trivial|apply And.intro))<;>(rintro rfl;simp only at h1;omega))
    ·simp only[go_sem]
  ·obtain rfl:i=f.words.length:=by omega
   have hAe:=kC.out
   obtain⟨bd2,hbd⟩:∃bd2,bd2=if isQ f.kind then bd++[f.name]else bd:=⟨_,rfl⟩
   rw[←hbd]at hlen
   obtain⟨B,hB⟩:∃B:Nat→List Str,B=fun j=>A f.words.length++zb8 (f.subs.take j) bd2:=⟨_,rfl⟩
   have hB0:B 0=A f.words.length:=by rw[hB];simp[zb8]
   have hBs:∀j (h:j<f.subs.length),B (j+1)=B j++cst f.subs[j] bd2:=fun j h=>by rw[hB];simp only[zfc h,List.append_assoc]
   have hBl:∀j,(B j).length≤1000000:=fun j=>by rw[hB,List.length_append,hAe,List.length_append];have:=@zfN f.subs bd2 j;omega
   have hBe:B f.subs.length=acc++cst f bd:=by rw[hB,zoi,←hbd,hAe];simp only[List.take_length,List.append_assoc]
   have hb2:bd2.length≤bd.length+1:=by
    rw[hbd];split
    ·simp
    ·omega
   have kBs:=Kp.mk hBs
   have kBl:=Kp.mk hBl
   have kBe:=Kp.mk hBe
   clear hBs hBl hBe hB hAe
   rcases Decidable.em (isQ f.kind)with hq|hq
   all_goals
    (first|rw[if_pos hq]at hbd|rw[if_neg hq]at hbd)
    unfold isQ at hq
    repeat'(first|refine rq fun _=>?_|refine zaB.i (zaL (by omega) (by decide)) fun _=>?_|simp only[go_sem,HHk,hq,Nat.lt_irrefl,zac,Tryd.f76])
    refine zai hm hR1 76000 (lst [24]) (ι:=zen f.subs.length (n+1) fun _=>True)
     ⟨fun q=>⟨frL [(1,.fz (.sl (bd2.map enc))),(2,.ptr (49003,1) 0),(3,.ptr (49004,2) 0),(39,.fz (.sl (f.subs.map enc))),(40,.fz (.i .i64 f.subs.length)),(41,.fz (.i .i64 q.i))],hpX (HHk (B q.i) q.g) X,q.m⟩,fun q=>f.subs.length-q.i⟩
     ⟨0,g1,m1,by omega,by omega,by omega,trivial⟩ (by kernel_rfl) ?_ ?_
    ·refine zaX ?_ ?_ (fun id o ho=>?_) ?_
     ·simp only[go_sem,hbd,List.map_append]
     ·simp only[go_sem,HHk,hB0]
     ·refine kX.out id o ho fun h1=>?_
      ((repeat'(first|exact trivial|apply And.intro))<;>(rintro rfl;simp only at h1;omega))
     ·simp only[go_sem]
    rintro⟨j,g2,m2,hj,hg2,hm2,_⟩
    try simp only at hj hg2 hm2
    rcases Nat.lt_or_ge j f.subs.length with h2|h2
    ·have hmem:=List.getElem_mem h2
     have hBj:=kBs.out j h2
     have hl4:=kBl.out (j+1)
     have hz:=kZ.out _ hmem
     rw[hBj,List.length_append]at hl4
     have ih2:=kI.out f.subs[j] bd2 (B j) g2 (m2+1) X hz.1 (kS.out _ hmem) (by omega) (by omega) hl4 (by omega) (fun id o ho=>by have:=kx.out id o ho;omega)
     rw[zaH]at ih2
     repeat'(first|refine rq fun _=>?_|simp only[go_sem,HHk,h2,zaa,Tryd.f76])
     refine zas.i (zci rfl (zdM (by simp only[go_sem,zhM]) (by simp only[go_sem,HHk]) (fun id o ho=>?_) (Nat.le_refl _) (zaI ih2 ?_)))
     ·refine kX.out id o ho fun h1=>?_
      ((repeat'(first|exact trivial|apply And.intro))<;>(rintro rfl;simp only at h1;omega))
     rintro d' H' n' ⟨rfl,e1,⟨g3,hg3,e2⟩,e3⟩
     rw[←hBj]at e2
     simp only[go_sem,HHk]at e2
     obtain⟨b1,b2,b3⟩:=e2
     rw[show H'=hpX [] H' from rfl]
     repeat'(first|refine rq fun _=>?_|simp only[go_sem,HHk,h2,Tryd.f76])
     refine⟨⟨j+1,g3,n',by omega,by omega,by omega,trivial⟩,by simp only;omega,?_⟩
     refine zaX ?_ ?_ (fun id o ho=>?_) ?_
     ·simp only[go_sem]
     ·simp only[go_sem,HHk,b1,b2,b3]
     ·exact e3 id o ho
     ·simp only[go_sem]
    ·obtain rfl:j=f.subs.length:=by omega
     repeat'(first|refine rq fun _=>?_|simp only[go_sem,HHk,Nat.lt_irrefl,Tryd.f76])
     rw[kQ.out]
     refine⟨rfl,by omega,⟨g2,by omega,?_⟩,fun id o ho=>kX.out id o ho fun h1=>?_⟩
     ·rw[←kBe.out];simp only[go_sem,HHk]
     ·((repeat'(first|exact trivial|apply And.intro))<;>(rintro rfl;simp only at h1;omega))
end Go.Proofs.YtkkffhphodngkaaDoor
