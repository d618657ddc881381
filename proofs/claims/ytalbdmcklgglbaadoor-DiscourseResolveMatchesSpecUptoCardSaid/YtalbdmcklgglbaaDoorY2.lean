/- several texts of this proof in one; no conditions -/
import Derived.Test.YtalbdmcklgglbaaDoorAT
import Derived.Test.YtalbdmcklgglbaaDoorQ9
set_option maxRecDepth 100000
set_option maxHeartbeats 1000000
set_option linter.unusedSimpArgs false
namespace Go.Proofs.YtalbdmcklgglbaaDoor
open Go Go.Abs Go.Proofs
theorem zmJ (k:List (Abs.Id×Option O)):∀l:List (Abs.Id×Option O),hpL (l++k)=hpX l (hpL k)
 |[]=>rfl
 |(i,o)::l=>by funext j;simp only[List.cons_append,hpL,hpX,zmJ k l]
def Q21:Tbl:=Q20.add 10 (sp1 zcy fun _=>True)
attribute [go_sem] Q21
theorem zDJ:zan Tryd.prog G0 Q21:=by
 refine zbY zEI zvX fun b _ hb=>?_
 refine zaj (N:=10) hm zvX 10000 (lst []) zEI Tryd.func10 rfl rfl (by simp) (by kernel_rfl) ?_
 have h:=f27 b.size b 1 200 0 5 6 [] (hpL [((10002,1),some ⟨[.fz (.i .i64 0),.fz (.i .i64 0)],true,false⟩)]) (Nat.le_refl _) hb (by omega) (by omega) (by omega) (by simp) (by omega) (by omega) (fun id o ho=>by
  simp only[hpL]at ho
  split at ho
  ·rename_i e;subst e;simp
  ·cases ho)
 rw[zaQ]at h
 repeat'(first|refine rq fun _=>?_|simp only[go_sem,Tryd.f10])
 refine zaD.i (zex rfl (zp1 (args':=[.fz (.agg [.sl (b.refs.map enc),.sl (b.conds.map enc)]),.fz (.i .i64 1),.fz (.i .i64 200),.ptr (10003,2) 0,.ptr (10004,3) 0,.ptr (10005,4) 0])
  (hl:=HHv 0 [] 5++[((10002,1),some ⟨[.fz (.i .i64 0),.fz (.i .i64 0)],true,false⟩)]) (n':=6) [] [(27070,5)] [] rfl ?_ ?_ ?_ ?_ ?_ ?_))
 case _=>omega
 case _=>simp only[go_sem]
 case _=>simp only[go_sem,HHv];first|done|rfl
 case _=>simp only[go_sem,HHv];first|done|rfl
 case _=>simp only[go_sem];first|done|rfl
 rw[zmJ]
 refine zaP h ?_
 rintro d' H' n' ⟨rfl,e1,e2,e3⟩
 have b2:=e3 (10002,1) ⟨[.fz (.i .i64 0),.fz (.i .i64 0)],true,false⟩ (by simp only[go_sem])
 rw[show H'=hpX [] H' from rfl]
 repeat'(first|refine rq fun _=>?_|simp only[go_sem,zg3,b2,zcy,Tryd.f10])
end Go.Proofs.YtalbdmcklgglbaaDoor
namespace Go.Proofs.YtalbdmcklgglbaaDoor
open Go Go.Abs Go.Proofs
theorem zfm {c:Abs.zal}{refs:List Str}{p:Int}(hp:zax c.kind=p):zbb c refs=if p<0 then 4 else if¬(c.boxes.length:Int)=p then 9
  else if¬c.kind=5∧¬c.name.l=[]∨0<p∧¬(c.form.kind=0∧c.form.name.l=[]∧(c.form.words.length:Int)=0∧(c.form.subs.length:Int)=0)then 5
  else if 0<p then 0 else if¬(zaL false c.form).code=0 then(zaL false c.form).code
  else if c.kind=1∧¬c.form.kind=2∧¬c.form.kind=3∨c.kind=5∧(¬c.form.kind=2∨¬(c.form.words.length:Int)=0)then 5 else if c.kind=5∧c.name∉refs then 6 else 0:=by
 rw[zeB hp]
 have e:(zbJ c.form=false)=¬(c.form.kind=0∧c.form.name.l=[]∧(c.form.words.length:Int)=0∧(c.form.subs.length:Int)=0):=by
  rw[zlv];simp only[decide_eq_false_iff_not]
 simp only[e]
theorem zBH {f:Abs.zac}(h:f.kind=0)(h2:f.name.l=[]):Abs.zac.mk 0 ⟨[]⟩ f.words f.subs=f:=by
 obtain⟨k,⟨nm⟩,w,s⟩:=f
 simp only[zaG,zcd]at h h2
 subst h h2;rfl
theorem zBI {f:Abs.zac}(h:f.kind=0):Abs.zac.mk 0 f.name f.words f.subs=f:=by
 obtain⟨k,nm,w,s⟩:=f
 simp only[zaG]at h
 subst h;rfl
def Q22:Tbl:=Q21.add 52 (sp2 (fun(c:Abs.zal) (r:List Str)=>zbb c r) fun _ _=>True)
attribute [go_sem] Q22
set_option maxHeartbeats 8000000 in
theorem zxj:zan Tryd.prog G0 Q22:=by
  refine zbr zFa zDJ fun c refs _ hc _=>?_
  obtain⟨Q,hQ⟩:∃Q:D→zas→Nat→Prop,Q=(fun d _ _=>D.val d=some (.fz (enc (zbb c refs)))):=⟨_,rfl⟩
  rw[←hQ]
  have hb:∀{e:Int} {H':zas} {n':Nat},zbb c refs=e→Q (.fz (.i .i64 e)) H' n':=fun e=>by rw[hQ,e];rfl
  have kb:=Kp.mk @hb
  clear hb hQ hc
  refine zaj (N:=105) hm zDJ 52000 (lst []) zFa Tryd.func52 rfl rfl (by simp) (by kernel_rfl) ?_
  rcases zhv c.kind with⟨hk,hp⟩|⟨hk,hp⟩|⟨hk,hp⟩|⟨hk,hk5,hk6,hp⟩|⟨hk,hk5,hk6,hp⟩|⟨hk,hk5,hk6,hp⟩
  all_goals repeat'(first|refine zaB.d (fun _=>?_) (fun _=>?_)|refine zaB.i (fun _=>?_) (fun _=>?_)|refine rq fun _=>?_|simp only[go_sem,bk1,bk5,bk6,Tryd.f52, *])
  all_goals try(exfalso;omega)
  all_goals try(have hf:=zBH (f:=c.form) (by assumption) (by assumption);simp only[hf]at*)
  all_goals try(have hf:=zBI (f:=c.form) (by assumption);simp only[hf]at*)
  all_goals try
    refine kb.out ?_
    first
    |rw[zfm hp,if_pos (by omega)]
    |rw[zfm hp,if_neg (by omega),if_pos (by omega)]
    |rw[zfm hp,if_neg (by omega),if_neg (by omega),if_pos (by first|exact .inl ⟨by omega,by assumption⟩|exact .inr ⟨by omega,by rintro⟨g1,g2,g3,g4⟩;first|omega|contradiction⟩)]
    |(rw[zfm hp,if_neg (by omega),if_neg (by omega),if_neg (by rintro(⟨g1,g2⟩|⟨g1,g2⟩)<;>first|omega|contradiction|exact g2 ⟨by omega,by assumption,by omega,by omega⟩)]
      first
      |rw[if_pos (by omega)]
      |rw[if_neg (by omega),if_pos (by omega)]
      |rw[if_neg (by omega),if_neg (by omega),if_pos (by omega)]
      |rw[if_neg (by omega),if_neg (by omega),if_neg (by omega),if_pos ⟨by omega,by assumption⟩]
      |rw[if_neg (by omega),if_neg (by omega),if_neg (by omega),if_neg (by rintro⟨g1,g2⟩;first|omega|exact g2 (by assumption))])
end Go.Proofs.YtalbdmcklgglbaaDoor
namespace Go.Proofs.YtalbdmcklgglbaaDoor
open Go Go.Abs Go.Proofs
attribute [local irreducible] zai zbb
def HHs (n:Nat)(refs:List Str)(g:Nat):List (Abs.Id×Option O):=
 [((7003,2),some ⟨[.fz (.i .i64 n)],true,false⟩),((7004,3),some ⟨[.ow (22079,g) 1 (refs.map enc)],true,false⟩),((22079,g),some tok)]
theorem f22:∀(k:Nat) (b:Abs.Box) (d most:Int) (n g m:Nat) (refs:List Str) (X:zas),b.size≤k→(enc b).Wf→0≤d→d≤11→n≤200→refs.length≤200→g<m→3<m→
  (∀id o,X id=some o→id.2<m∧id.1≠7003∧id.1≠7004∧id.1≠22079)→
  zav Tryd.prog G0 22 [.fz (enc b),.fz (.i .i64 d),.fz (.i .i64 most),.ptr (7003,2) 0,.ptr (7004,3) 0] (hpX (HHs n refs g) X) m
   (fun d' H' n'=>d'=zg3 (zcm b d most n refs).e∧m≤n'∧((zcm b d most n refs).e.code=0→∃g',g'<n'∧zfW H' (HHs (zcm b d most n refs).n (zcm b d most n refs).refs g'))∧∀id o,X id=some o→H' id=some o):=by
 intro k
 induction k with
 |zero=>intro b d most n g m refs X hs;have:=zdh b;omega
 |succ k ih=>
  intro b d most n g m refs X hs hw hd0 hd hn hrl hg hm' hX
  obtain⟨Q,hQ⟩:∃Q:D→zas→Nat→Prop,Q=(fun d' H' n'=>d'=zg3 (zcm b d most n refs).e∧m≤n'∧((zcm b d most n refs).e.code=0→∃g',g'<n'∧zfW H' (HHs (zcm b d most n refs).n (zcm b d most n refs).refs g'))∧∀id o,X id=some o→H' id=some o):=⟨_,rfl⟩
  rw[←hQ]
  have hbad:∀{c i:Int} {d':D} {H':zas} {n':Nat},(zcm b d most n refs).e=⟨c,i⟩→c≠0→d'=zg3 ⟨c,i⟩→m≤n'→(∀id o,X id=some o→H' id=some o)→Q d' H' n':=fun h1 h2 h3 h4 h6=>by
   rw[hQ,h1]
   exact⟨h3,h4,fun h=>absurd h h2,h6⟩
  have hX':∀{l:List (Abs.Id×Option O)} (id o),X id=some o→(id.2<m∧id.1≠7003∧id.1≠7004∧id.1≠22079→zkr id l)→hpX l X id=some o:=fun id o h1 h2=>(zcz (h2 (hX id o h1))).trans h1
  have hw2:=hw
  rw[zaQ]at hw2
  have hrl2:b.refs.length≤zaZ:=by
   have:=zc1 (zbC hw2 (FD.sl (b.refs.map enc)) (by simp))
   simpa using this
  have hcl:b.conds.length≤zaZ:=by
   have:=zc1 (zbC hw2 (FD.sl (b.conds.map enc)) (by simp))
   simpa using this
  have hcw:∀c∈b.conds,(enc c).Wf:=fun c hc=>zg0 (zbC hw2 (FD.sl (b.conds.map enc)) (by simp)) _ (List.mem_map_of_mem hc)
  have hcs:∀c∈b.conds,c.size≤k:=fun c hc=>by have:=Box.size_sub hc;omega
  unfold zaZ at hrl2 hcl
  have kX:=Kp.mk @hX'
  have kQ:=Kp.mk hQ
  have kI:=Kp.mk ih
  have kS:=Kp.mk hcw
  have kZ:=Kp.mk hcs
  have kb:=Kp.mk @hbad
  have kx:=Kp.mk hX
  have kB:=Kp.mk (@zqd b d most n refs)
  clear hX' hQ ih hcw hcs hX hbad hw hw2
  refine zaj (N:=141) hm zxj 22000 (lsw [79] []) zGs Tryd.func22 rfl rfl (by simp) (by kernel_rfl) ?_
  repeat'(first|refine zaB.d (fun _=>?_) (fun _=>?_)|refine zaB.i (fun _=>?_) (fun _=>?_)|refine rq fun _=>?_|simp only[go_sem,HHs,Tryd.f22, *])
  all_goals try
   refine kb.out (by first|rw[kB.out,if_pos (by omega)]|rw[kB.out,if_neg (by omega),if_pos (by omega)]) (by decide) rfl (by omega) fun id o ho=>?_
   refine kX.out id o ho fun h1=>?_
   ((repeat'(first|exact trivial|apply And.intro))<;>(rintro rfl;simp only at h1;omega))
  have hB2:zcm b d most n refs=if(zaV refs b.refs).1≠0 then⟨⟨(zaV refs b.refs).1,n⟩,n+1,(zaV refs b.refs).2⟩else zaI b.refs b.conds d (n+1) (zaV refs b.refs).2:=by
   rw[kB.out,if_neg (by omega),if_neg (by omega)]
  have hsum:refs.length+b.refs.length≤200:=by omega
  have kB2:=Kp.mk hB2
  clear hB2
  refine zar hm zxj 22000 (lsw [79] []) (ι:=zd5 b.refs.length (m+1+1) fun i=>zaV refs b.refs=zaV (refs++b.refs.take i) (b.refs.drop i))
   ⟨fun q=>⟨frL [(1,.fz (.i .i64 d)),(3,.ptr (7003,2) 0),(4,.ptr (7004,3) 0),(5,.ptr (22005,m) 0),(10,.ptr (22010,m+1) 0),(11,.fz (.i .i64 n)),(55,.fz (.sl (b.refs.map enc))),(56,.fz (.i .i64 b.refs.length)),(57,.fz (.i .i64 q.i))],
    hpX ([((22005,m),some ⟨[.fz (.sl (b.refs.map enc)),.fz (.sl (b.conds.map enc))],true,false⟩),((22010,m+1),some ⟨[.fz (.i .i64 0),.fz (.i .i64 0)],true,false⟩)]++HHs (n+1) (refs++b.refs.take q.i) q.g) X,q.m⟩,fun q=>b.refs.length-q.i⟩
   ⟨0,g,m+1+1,by omega,by omega,by omega,by simp⟩ (by kernel_rfl) ?_ ?_
  ·refine zaJ ?_ ?_ (fun id o ho=>?_) ?_
   ·simp only[go_sem, *]
   ·simp only[go_sem,HHs, *]
   ·refine kX.out id o ho fun h1=>?_
    ((repeat'(first|exact trivial|apply And.intro))<;>(rintro rfl;simp only at h1;omega))
   ·simp only[go_sem]
  rintro⟨i,g1,m1,hi,hg1,hm1,hpi⟩
  try simp only at hi hg1 hm1 hpi
  rcases Nat.lt_or_ge i b.refs.length with h1|h1
  ·have hrl3:(refs++b.refs.take i).length=refs.length+i:=by rw[List.length_append,List.length_take];omega
   rw[List.drop_eq_getElem_cons h1,zaV]at hpi
   cases hnm:zai b.refs[i]with
   |false=>
    rw[if_pos hnm]at hpi
    repeat'(first|refine rq fun _=>?_|simp only[go_sem,HHs,h1,hnm,zae,zaa,Tryd.f22])
    refine kb.out (by rw[kB2.out,hpi,if_pos (by simp)]) (by decide) rfl (by omega) fun id o ho=>?_
    refine kX.out id o ho fun h1=>?_
    ((repeat'(first|exact trivial|apply And.intro))<;>(rintro rfl;simp only at h1;omega))
   |true=>
    rw[if_neg (by rw[hnm];simp)]at hpi
    by_cases hin:b.refs[i]∈refs++b.refs.take i
    ·rw[if_pos hin]at hpi
     repeat'(first|refine rq fun _=>?_|simp only[go_sem,HHs,h1,hnm,hin,zae,zaa,Tryd.f22])
     refine kb.out (by rw[kB2.out,hpi,if_pos (by simp)]) (by decide) rfl (by omega) fun id o ho=>?_
     refine kX.out id o ho fun h1=>?_
     ((repeat'(first|exact trivial|apply And.intro))<;>(rintro rfl;simp only at h1;omega))
    ·rw[if_neg hin,List.append_assoc,←List.take_succ_eq_append_getElem h1]at hpi
     have e3:=List.take_succ_eq_append_getElem h1
     repeat'(first|refine rq fun _=>?_|refine zaH.i (zbf (by have h5:=hrl3;rw[List.length_append]at h5;omega) (by decide)) fun _=>?_|simp only[go_sem,HHs,h1,hnm,hin,zae,zaa,Tryd.f22])
     refine⟨⟨i+1,m1,m1+1,by omega,by omega,by omega,hpi⟩,by simp only;omega,?_⟩
     refine zaJ ?_ ?_ (fun id o ho=>?_) ?_
     ·simp only[go_sem,e3,List.map_append,List.append_assoc]
     ·simp only[go_sem,HHs,e3,List.map_append,List.append_assoc]
     ·refine kX.out id o ho fun h1=>?_
      ((repeat'(first|exact trivial|apply And.intro))<;>(rintro rfl;simp only at h1;omega))
     ·simp only[go_sem]
  have h1':¬i<b.refs.length:=by omega
  rw[List.take_of_length_le h1,List.drop_of_length_le h1,zaV]at hpi
  have hB3:zcm b d most n refs=zaI b.refs b.conds d (n+1) (refs++b.refs):=by
   rw[kB2.out,hpi,if_neg (by simp)]
  have kB3:=Kp.mk hB3
  clear hB3 hpi
  repeat'(first|refine rq fun _=>?_|simp only[go_sem,h1',Tryd.f22])
  refine zar hm zxj 22000 (lsw [79] []) (ι:=zsS (m+1+1) b.conds.length fun j n2 rs=>n2≤200∧rs.length≤200∧zaI b.refs b.conds d (n+1) (refs++b.refs)=zaI b.refs (b.conds.drop j) d n2 rs)
   ⟨fun q=>⟨frL [(1,.fz (.i .i64 d)),(3,.ptr (7003,2) 0),(4,.ptr (7004,3) 0),(5,.ptr (22005,m) 0),(10,.ptr (22010,m+1) 0),(84,.fz (.i .i64 b.conds.length)),(85,.fz (.i .i64 q.j))],
    hpX ([((22005,m),some ⟨[.fz (.sl (b.refs.map enc)),.fz (.sl (b.conds.map enc))],true,false⟩),((22010,m+1),some ⟨[.fz (.i .i64 0),.fz (.i .i64 0)],true,false⟩)]++HHs q.n q.rs q.g) X,q.m⟩,fun q=>b.conds.length-q.j⟩
   ⟨0,n+1,refs++b.refs,g1,n,m1,by omega,by omega,by omega,by omega,by rw[List.length_append];omega,rfl⟩ (by kernel_rfl) ?_ ?_
  ·refine zaJ ?_ ?_ (fun id o ho=>?_) ?_
   ·simp only[go_sem]
   ·simp only[go_sem,HHs,List.take_of_length_le h1]
   ·refine kX.out id o ho fun h1=>?_
    ((repeat'(first|exact trivial|apply And.intro))<;>(rintro rfl;simp only at h1;omega))
   ·simp only[go_sem]
  rintro⟨j,n2,rs,g2,a2,m2,hj,hg2,hm2,hn2,hrs,hch⟩
  try simp only at hj hg2 hm2 hn2 hrs hch
  rcases Nat.lt_or_ge j b.conds.length with h2|h2
  ·have hmem:=List.getElem_mem h2
   rw[List.drop_eq_getElem_cons h2,zaI]at hch
   obtain⟨c,hcj⟩:∃c,b.conds[j]=c:=⟨_,rfl⟩
   rw[hcj]at hch hmem
   have hw2:=kS.out _ hmem
   have hs2:=kZ.out _ hmem
   have hwc:=hw2
   rw[zcQ]at hw2
   have hbl:c.boxes.length≤zaZ:=by
    have:=zc1 (zbC hw2 (FD.sl (c.boxes.map enc)) (by simp))
    simpa using this
   have hbw:∀x∈c.boxes,(enc x).Wf:=fun x hx=>zg0 (zbC hw2 (FD.sl (c.boxes.map enc)) (by simp)) _ (List.mem_map_of_mem hx)
   have hbs:∀x∈c.boxes,x.size≤k:=fun x hx=>by have:=zal.size_sub hx;omega
   unfold zaZ at hbl
   have hb0:∀{c' i':Int},(zb7 b.refs c d n2 rs).e=⟨c',i'⟩→c'≠0→(zcm b d most n refs).e=⟨c',i'⟩:=fun g1 g2=>by rw[kB3.out,hch,if_pos (by rw[g1];exact g2),g1]
   have kw:=Kp.mk hbw
   have kz:=Kp.mk hbs
   have k0:=Kp.mk @hb0
   have kh:=Kp.mk hch
   clear hbw hbs hb0 hch hmem hw2 hs2 hwc
   repeat'(first|refine zaB.d (fun _=>?_) (fun _=>?_)|refine zaB.i (fun _=>?_) (fun _=>?_)|refine rq fun _=>?_|simp only[go_sem,HHs,h2,zaa,Tryd.f22, *])
   all_goals try
    first
    |refine kb.out ?_ ?_ (show _=zg3 ⟨zbb c b.refs,n2⟩from rfl) (by omega) fun id o ho=>?_
    |refine kb.out ?_ ?_ rfl (by omega) fun id o ho=>?_
    ·first
     |exact k0.out (by rw[zeC,if_pos (by omega)]) (by decide)
     |exact k0.out (by rw[zeC,if_neg (by omega),if_pos (by assumption)]) (by assumption)
    ·first|assumption|decide
    ·refine kX.out id o ho fun h1=>?_
     ((repeat'(first|exact trivial|apply And.intro))<;>(rintro rfl;simp only at h1;omega))
   have hC:zbb c b.refs=0:=by assumption
   obtain⟨mst,hmst⟩:∃mst:Int,mst=if c.kind=6 then 2 else 200:=⟨_,rfl⟩
   have hcw:zb7 b.refs c d n2 rs=zbv c.boxes (d+1) mst (n2+1) rs:=by
    rw[zeC,if_neg (by omega),if_neg (by rw[hC];simp),hmst]
   have kcw:=Kp.mk hcw
   refine zar hm zxj 22000 (lsw [79] []) (ι:=zsS (m2+1) c.boxes.length fun k' n3 rs3=>n3≤200∧rs3.length≤200∧zbv c.boxes (d+1) mst (n2+1) rs=zbv (c.boxes.drop k') (d+1) mst n3 rs3)
    ⟨fun q=>⟨frL [(1,.fz (.i .i64 d)),(3,.ptr (7003,2) 0),(4,.ptr (7004,3) 0),(5,.ptr (22005,m) 0),(10,.ptr (22010,m+1) 0),(15,.ptr (22015,m2) 0),(84,.fz (.i .i64 b.conds.length)),(85,.fz (.i .i64 j)),(116,.fz (.i .i64 c.boxes.length)),(117,.fz (.i .i64 q.j))],
     hpX ([((22015,m2),some ⟨[.fz (.i .i64 c.kind),.fz (.s c.name.l),.fz (.i .i64 c.form.kind),.fz (.s c.form.name.l),.fz (.sl (c.form.words.map enc)),.fz (.sl (c.form.subs.map enc)),.fz (.sl (c.boxes.map enc))],true,false⟩),((22005,m),some ⟨[.fz (.sl (b.refs.map enc)),.fz (.sl (b.conds.map enc))],true,false⟩),((22010,m+1),some ⟨[.fz (.i .i64 0),.fz (.i .i64 0)],true,false⟩)]++HHs q.n q.rs q.g) X,q.m⟩,fun q=>c.boxes.length-q.j⟩
    ⟨0,n2+1,rs,g2,0,m2+1,by omega,by omega,by omega,by omega,hrs,rfl⟩ (by kernel_rfl) ?_ ?_
   ·refine zaJ ?_ ?_ (fun id o ho=>?_) ?_
    ·simp only[go_sem]
    ·simp only[go_sem,HHs]
    ·refine kX.out id o ho fun h1=>?_
     ((repeat'(first|exact trivial|apply And.intro))<;>(rintro rfl;simp only at h1;omega))
    ·simp only;omega
   clear hcw
   rintro⟨kk,n3,rs3,g3,_,m3,hj3,hg3,hm3,hn3,hrs3,hch3⟩
   try simp only at hj3 hg3 hm3 hn3 hrs3 hch3
   rcases Nat.lt_or_ge kk c.boxes.length with h4|h4
   ·have hmem:=List.getElem_mem h4
    rw[List.drop_eq_getElem_cons h4,zbv]at hch3
    have ih2:=kI.out c.boxes[kk] (d+1) mst n3 g3 m3 rs3 (hpX [((22015,m2),some ⟨[.fz (.i .i64 c.kind),.fz (.s c.name.l),.fz (.i .i64 c.form.kind),.fz (.s c.form.name.l),.fz (.sl (c.form.words.map enc)),.fz (.sl (c.form.subs.map enc)),.fz (.sl (c.boxes.map enc))],true,false⟩),((22005,m),some ⟨[.fz (.sl (b.refs.map enc)),.fz (.sl (b.conds.map enc))],true,false⟩),((22010,m+1),some ⟨[.fz (.i .i64 0),.fz (.i .i64 0)],true,false⟩)] X) (kz.out _ hmem) (kw.out _ hmem) (by omega) (by omega) hn3 hrs3 (by omega) (by omega) (by
     intro id o ho
     simp only[hpX]at ho
     split at ho
     ·rename_i e;subst e;simp only;omega
     split at ho
     ·rename_i e;subst e;simp only;omega
     split at ho
     ·rename_i e;subst e;simp only;omega
     ·have:=kx.out id o ho;omega)
    rw[zaQ]at ih2
    by_cases hk6:c.kind=6
    all_goals
     have hm2:=hmst
     first|rw[if_pos hk6]at hm2|rw[if_neg hk6]at hm2
     rw[hm2]at ih2
     have hkb:(c.kind=6)=(mst=2):=propext ⟨fun e=>by rw[hmst,if_pos e],fun e=>by rw[hmst]at e;split at e<;>first|assumption|omega⟩
     rw[hm2]at hkb
     repeat'(first|refine rq fun _=>?_|simp only[go_sem,HHs,h4,hkb,zaa,Tryd.f22])
     refine zaD.i (zex rfl (zfd (by simp only[go_sem,zg8]) (by simp only[go_sem,HHs]) (fun id o ho=>?_) (Nat.le_refl _) (zaP ih2 ?_)))
     ·simp only[hpX]at ho
      split at ho
      ·rename_i e;subst e;simp only[go_sem];exact Option.some.inj ho
      split at ho
      ·rename_i e;subst e;simp only[go_sem];exact Option.some.inj ho
      split at ho
      ·rename_i e;subst e;simp only[go_sem];exact Option.some.inj ho
      ·refine kX.out id o ho fun h1=>?_
       ((repeat'(first|exact trivial|apply And.intro))<;>(rintro rfl;simp only at h1;omega))
     rintro d' H' n' ⟨hdd,e1,e2,e3⟩
     rw[←hm2]at hdd e2
     subst hdd
     have b15:=e3 (22015,m2) ⟨[.fz (.i .i64 c.kind),.fz (.s c.name.l),.fz (.i .i64 c.form.kind),.fz (.s c.form.name.l),.fz (.sl (c.form.words.map enc)),.fz (.sl (c.form.subs.map enc)),.fz (.sl (c.boxes.map enc))],true,false⟩ (by simp only[go_sem])
     have b5:=e3 (22005,m) ⟨[.fz (.sl (b.refs.map enc)),.fz (.sl (b.conds.map enc))],true,false⟩ (by simp only[go_sem])
     have b10:=e3 (22010,m+1) ⟨[.fz (.i .i64 0),.fz (.i .i64 0)],true,false⟩ (by simp only[go_sem])
     have hX2:∀id o,X id=some o→H' id=some o:=fun id o ho=>e3 id o (kX.out id o ho fun h1=>⟨by rintro rfl;simp only at h1;omega,by rintro rfl;simp only at h1;omega,by rintro rfl;simp only at h1;omega,trivial⟩)
     rw[show H'=hpX [] H' from rfl]
     by_cases hc:(zcm c.boxes[kk] (d+1) mst n3 rs3).e.code=0
     ·obtain⟨g',hg',e4⟩:=e2 hc
      simp only[go_sem,HHs]at e4
      obtain⟨b1,b2,b3⟩:=e4
      rw[if_neg (by rw[hc];simp)]at hch3
      obtain⟨c1,c2,c3,c4⟩:=zgJ _ _ _ _ _ hc
      repeat'(first|refine rq fun _=>?_|simp only[go_sem,HHs,h4,hc,zg3,b10,Tryd.f22])
      refine⟨⟨kk+1,_,_,g',0,n'+1,by omega,by omega,by omega,c3,c4,hch3⟩,by simp only;omega,?_⟩
      refine zaJ ?_ ?_ (fun id o ho=>?_) ?_
      ·simp only[go_sem]
      ·simp only[go_sem,HHs,b1,b2,b3,b5,b10,b15]
      ·have h1:=kx.out id o ho
       refine(zcz ?_).trans (hX2 id o ho)
       ((repeat'(first|exact trivial|apply And.intro))<;>(rintro rfl;simp only at h1;omega))
      ·simp only[go_sem]
     ·rw[if_pos hc]at hch3
      repeat'(first|refine rq fun _=>?_|simp only[go_sem,HHs,h4,hc,zg3,b10,Tryd.f22])
      refine kb.out (k0.out (by rw[kcw.out,hch3]) hc) hc rfl (by omega) fun id o ho=>?_
      have h1:=kx.out id o ho
      refine(zcz ?_).trans (hX2 id o ho)
      ((repeat'(first|exact trivial|apply And.intro))<;>(rintro rfl;simp only at h1;omega))
   ·have h4':¬kk<c.boxes.length:=by omega
    rw[List.drop_of_length_le h4,zbv]at hch3
    have hch:=kh.out
    rw[kcw.out,hch3,if_neg (by simp)]at hch
    repeat'(first|refine rq fun _=>?_|simp only[go_sem,HHs,h4',Tryd.f22])
    refine⟨⟨j+1,n3,rs3,g3,n2,m3,by omega,by omega,by omega,hn3,hrs3,hch⟩,by simp only;omega,?_⟩
    refine zaJ ?_ ?_ (fun id o ho=>?_) ?_
    ·simp only[go_sem]
    ·simp only[go_sem,HHs]
    ·refine kX.out id o ho fun h1=>?_
     ((repeat'(first|exact trivial|apply And.intro))<;>(rintro rfl;simp only at h1;omega))
    ·simp only[go_sem]
  ·have h2':¬j<b.conds.length:=by omega
   rw[List.drop_of_length_le h2,zaI]at hch
   repeat'(first|refine rq fun _=>?_|simp only[go_sem,HHs,h2',zg3,Tryd.f22])
   rw[kQ.out,kB3.out,hch]
   refine⟨rfl,by omega,fun _=>⟨g2,by omega,by simp only[go_sem,HHs]⟩,fun id o ho=>kX.out id o ho fun h1=>?_⟩
   ((repeat'(first|exact trivial|apply And.intro))<;>(rintro rfl;simp only at h1;omega))
end Go.Proofs.YtalbdmcklgglbaaDoor
namespace Go.Proofs.YtalbdmcklgglbaaDoor
open Go Go.Abs Go.Proofs
def Q23:Tbl:=Q22.add 7 (sp1 zcy fun _=>True)
attribute [go_sem] Q23
theorem zDK:zan Tryd.prog G0 Q23:=by
 refine zbY ok7 zxj fun b _ hb=>?_
 refine zaj (N:=7) hm zxj 7000 (lst []) ok7 Tryd.func7 rfl rfl (by simp) (by kernel_rfl) ?_
 have h:=f22 b.size b 1 200 0 4 5 [] (hpL [((7002,1),some ⟨[.fz (.i .i64 0),.fz (.i .i64 0)],true,false⟩)]) (Nat.le_refl _) hb (by omega) (by omega) (by omega) (by simp) (by omega) (by omega) (fun id o ho=>by
  simp only[hpL]at ho
  split at ho
  ·rename_i e;subst e;simp
  ·cases ho)
 rw[zaQ]at h
 repeat'(first|refine rq fun _=>?_|simp only[go_sem,Tryd.f7])
 refine zaD.i (zex rfl (zp1 (args':=[.fz (.agg [.sl (b.refs.map enc),.sl (b.conds.map enc)]),.fz (.i .i64 1),.fz (.i .i64 200),.ptr (7003,2) 0,.ptr (7004,3) 0])
  (hl:=HHs 0 [] 4++[((7002,1),some ⟨[.fz (.i .i64 0),.fz (.i .i64 0)],true,false⟩)]) (n':=5) [] [(22079,4)] [] rfl ?_ ?_ ?_ ?_ ?_ ?_))
 case _=>omega
 case _=>simp only[go_sem]
 case _=>simp only[go_sem,HHs];first|done|rfl
 case _=>simp only[go_sem,HHs];first|done|rfl
 case _=>simp only[go_sem];first|done|rfl
 rw[zmJ]
 refine zaP h ?_
 rintro d' H' n' ⟨rfl,e1,e2,e3⟩
 have b2:=e3 (7002,1) ⟨[.fz (.i .i64 0),.fz (.i .i64 0)],true,false⟩ (by simp only[go_sem])
 rw[show H'=hpX [] H' from rfl]
 repeat'(first|refine rq fun _=>?_|simp only[go_sem,zg3,b2,zcy,Tryd.f7])
def Q24:Tbl:=Q23.add 36 (sp2 zaK fun v b=>v.refs.length+b.refs.length≤1000000∧v.conds.length+b.conds.length≤1000000)
attribute [go_sem] Q24
theorem zBL:zan Tryd.prog G0 Q24:=by
 refine zbr zE3 zDK fun v b hl hv hb=>?_
 refine zaj (N:=30) hm zDK 36000 (lst []) zE3 Tryd.func36 rfl rfl (by simp) (by kernel_rfl) ?_
 repeat'(first|refine rq fun _=>?_|refine zaH.i (zbf (by omega) (by decide)) fun _=>?_|simp only[go_sem,Tryd.f36])
def Q25:Tbl:=Q24.add 38 (sp3 zbH fun v c k=>c.kind=3→k=1→0<c.boxes.length∧v.refs.length+(c.boxes.getD 0 noB).refs.length≤1000000∧v.conds.length+(c.boxes.getD 0 noB).conds.length≤1000000)
attribute [go_sem] Q25
theorem zFV:zan Tryd.prog G0 Q25:=by
 refine zr8 zC6 zBL fun v c k hp _ _ _=>?_
 obtain⟨Q,hQ⟩:∃Q:D→zas→Nat→Prop,Q=(fun d _ _=>D.val d=some (.fz (enc (zbH v c k)))):=⟨_,rfl⟩
 rw[←hQ]
 have h1:¬(c.kind=3∧k=1)→∀{H' n'},Q (.agg [.fz (.sl (v.refs.map enc)),.fz (.sl (v.conds.map enc))]) H' n':=fun h H' n'=>by rw[hQ];unfold zbH;rw[if_neg h,zaQ];rfl
 have h2:c.kind=3→k=1→∀{H' n'},Q (.agg [.fz (.sl (v.refs.map enc++(c.boxes.getD 0 noB).refs.map enc)),.fz (.sl (v.conds.map enc++(c.boxes.getD 0 noB).conds.map enc))]) H' n':=fun h h' H' n'=>by rw[hQ];unfold zbH;rw[if_pos ⟨h,h'⟩,zaQ,←List.map_append,←List.map_append];rfl
 have hd:0<c.boxes.length→c.boxes.getD 0 noB=c.boxes.getD 0 noB:=fun _=>rfl
 have k1:=Kp.mk @h1
 have k2:=Kp.mk @h2
 clear h1 h2 hQ hd
 by_cases hk:c.kind=3∧k=1
 ·obtain⟨hk,hk1⟩:=hk
  obtain⟨p1,p2,p3⟩:=hp hk hk1
  obtain⟨x,hx⟩:∃x,c.boxes[0]=x:=⟨_,rfl⟩
  have hx2:c.boxes.getD 0 noB=x:=by rw[List.getD_eq_getElem?_getD,List.getElem?_eq_getElem p1];exact hx
  rw[hx2]at p2 p3 k2
  have hkb:=eq_true hk
  have hkc:=eq_true hk1
  refine zaj (N:=21) hm zBL 38000 (lst []) zC6 Tryd.func38 rfl rfl (by simp) (by kernel_rfl) ?_
  repeat'(first|refine rq fun _=>?_|simp only[go_sem,hkb,hkc,p1,hx,p2,p3,zaa,Int.toNat_zero,Tryd.f38])
  exact k2.out hk hk1
 ·have kk:=Kp.mk hk
  have kz:=Kp.mk hp
  clear hk hp
  refine zaj (N:=21) hm zBL 38000 (lst []) zC6 Tryd.func38 rfl rfl (by simp) (by kernel_rfl) ?_
  repeat'(first|refine zaB.d (fun _=>?_) (fun _=>?_)|refine rq fun _=>?_|simp only[go_sem,Tryd.f38, *])
  all_goals first|exact k1.out kk.out|exact absurd ⟨by assumption,by assumption⟩ kk.out
end Go.Proofs.YtalbdmcklgglbaaDoor
