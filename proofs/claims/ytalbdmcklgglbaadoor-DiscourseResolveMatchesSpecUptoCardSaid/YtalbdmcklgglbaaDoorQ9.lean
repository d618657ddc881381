import Derived.Test.YtalbdmcklgglbaaDoorAT
import Derived.Test.YtalbdmcklgglbaaDoorY1
import Derived.Test.YtalbdmcklgglbaaDoorY10
set_option maxRecDepth 100000
set_option maxHeartbeats 1000000
set_option linter.unusedSimpArgs false
namespace Go.Proofs.YtalbdmcklgglbaaDoor
open Go Go.Abs Go.Proofs
attribute [local irreducible] zai zbJ
theorem f28 {c a:Int}{id:Abs.Id}{H:zas}{n:Nat}{R:D→zas→Nat→Prop}(hid:id.2<n)(ho:H id=some ⟨[.fz (.i .i64 a)],true,false⟩)(hR:∀n',n≤n'→R (.agg [.fz (.i .i64 c),.fz (.i .i64 a)]) H n'):
  zav Tryd.prog G0 28 [.fz (.i .i64 c),.ptr id 0] H n R:=by
 refine zb3 zEV (fun hfr=>?_) hR
 have hne:id≠(28003,n):=by rintro rfl;simp at hid
 obtain⟨Q,hQ⟩:∃Q:D→zas→Nat→Prop,Q=(fun d' H' n'=>d'= .agg [.fz (.i .i64 c),.fz (.i .i64 a)]∧n≤n'∧∀id,id.2<n→H' id=H id):=⟨_,rfl⟩
 rw[←hQ]
 have e:H=hpX [] H:=rfl
 rw[e]
 refine zaj (N:=7) hm hQ9 28000 (lst []) zEV Tryd.func28 rfl rfl (by simp) (by kernel_rfl) ?_
 simp only[go_sem]
 rw[if_neg hne,ho]
 simp only[go_sem,Tryd.f28]
 rw[hQ]
 refine⟨?_,by omega,fun id hid=>zmK (n:=n) (by intro p hp;simp at hp;rcases hp with rfl|rfl<;>simp) id hid⟩
 simp only[go_sem]
def HHv (n:Nat)(refs:List Str)(g:Nat):List (Abs.Id×Option O):=
  [((10003,2),some ⟨[.fz (.i .i64 n)],true,false⟩),((10004,3),some ⟨[.ow (27070,g) 1 (refs.map enc)],true,false⟩),
   ((10005,4),some ⟨[.fn 27 [.ptr (10003,2) 0,.ptr (10004,3) 0,.ptr (10005,4) 0]],true,false⟩),((27070,g),some tok)]
theorem zdh (b:Abs.Box):0<b.size:=by cases b;rw[Box.size];omega
theorem zqd {b:Abs.Box}{d most:Int}{n:Nat}{refs:List Str}:zcm b d most n refs=if 200<n+1∨10<d then⟨⟨1,n⟩,n+1,refs⟩
  else if most<b.refs.length∨200<refs.length+b.refs.length then⟨⟨2,n⟩,n+1,refs⟩
  else if(zaV refs b.refs).1≠0 then⟨⟨(zaV refs b.refs).1,n⟩,n+1,(zaV refs b.refs).2⟩
  else zaI b.refs b.conds d (n+1) (zaV refs b.refs).2:=by cases b;rw[zcm];rfl
theorem zeC {r:List Str}{c:Abs.zal}{d:Int}{n:Nat}{refs:List Str}:zb7 r c d n refs=if 200<n+1 then⟨⟨1,n⟩,n+1,refs⟩else if zbb c r≠0 then⟨⟨zbb c r,n⟩,n+1,refs⟩
  else zbv c.boxes (d+1) (if c.kind=6 then 2 else 200) (n+1) refs:=by cases c;rw[zb7];rfl
theorem zeB {c:Abs.zal}{refs:List Str}{p:Int}(hp:zax c.kind=p):zbb c refs=if p<0 then 4 else if¬(c.boxes.length:Int)=p then 9 else if¬c.kind=5∧¬c.name.l=[]∨0<p∧zbJ c.form=false then 5
  else if 0<p then 0 else if¬(zaL false c.form).code=0 then(zaL false c.form).code
  else if c.kind=1∧¬c.form.kind=2∧¬c.form.kind=3∨c.kind=5∧(¬c.form.kind=2∨¬(c.form.words.length:Int)=0)then 5 else if c.kind=5∧c.name∉refs then 6 else 0:=by
 have e3:(c.name≠⟨[]⟩)=¬c.name.l=[]:=propext (by rw[Ne,zm7])
 have e4:((c.form.words.length:Int)=0)=(c.form.words.length=0):=propext (by omega)
 unfold zbb
 simp only[hp,e3,e4,ne_eq]
theorem bk1:zax 1=0:=by decide
theorem bk5:zax 5=0:=by decide
theorem bk6:zax 6=1:=by decide
theorem zhv (k:Int):(k=1∧zax k=0)∨(k=5∧zax k=0)∨(k=6∧zax k=1)∨(¬k=1∧¬k=5∧¬k=6∧zax k=1)∨(¬k=1∧¬k=5∧¬k=6∧zax k=2)∨(¬k=1∧¬k=5∧¬k=6∧zax k= -1):=by
 unfold zax
 by_cases h1:k=1∨k=5
 ·rw[if_pos h1];omega
 ·rw[if_neg h1]
  by_cases h2:k=2∨k=6
  ·rw[if_pos h2];omega
  ·rw[if_neg h2]
   by_cases h3:k=3∨k=4
   ·rw[if_pos h3];omega
   ·rw[if_neg h3];omega
structure zsS (m0 len:Nat)(p:Nat→Nat→List Str→Prop) where
 j:Nat
 n:Nat
 rs:List Str
 g:Nat
 a:Int
 m:Nat
 hj:j≤len
 hg:g<m
 hm:m0≤m
 hp:p j n rs
theorem f27:∀(k:Nat) (b:Abs.Box) (d most:Int) (n g m:Nat) (refs:List Str) (X:zas),b.size≤k→(enc b).Wf→0≤d→d≤11→n≤200→refs.length≤200→g<m→4<m→
    (∀id o,X id=some o→id.2<m∧id.1≠10003∧id.1≠10004∧id.1≠10005∧id.1≠27070)→
    zav Tryd.prog G0 27 [.fz (enc b),.fz (.i .i64 d),.fz (.i .i64 most),.ptr (10003,2) 0,.ptr (10004,3) 0,.ptr (10005,4) 0] (hpX (HHv n refs g) X) m
      (fun d' H' n'=>d'=zg3 (zcm b d most n refs).e∧m≤n'∧((zcm b d most n refs).e.code=0→∃g',g'<n'∧zfW H' (HHv (zcm b d most n refs).n (zcm b d most n refs).refs g'))∧∀id o,X id=some o→H' id=some o):=by
  intro k
  induction k with
  |zero=>intro b d most n g m refs X hs;have:=zdh b;omega
  |succ k ih=>
    intro b d most n g m refs X hs hw hd0 hd hn hrl hg hm' hX
    obtain⟨Q,hQ⟩:∃Q:D→zas→Nat→Prop,Q=(fun d' H' n'=>d'=zg3 (zcm b d most n refs).e∧m≤n'∧((zcm b d most n refs).e.code=0→∃g',g'<n'∧zfW H' (HHv (zcm b d most n refs).n (zcm b d most n refs).refs g'))∧∀id o,X id=some o→H' id=some o):=⟨_,rfl⟩
    rw[←hQ]
    have hbad:∀{c i:Int} {d':D} {H':zas} {n':Nat},(zcm b d most n refs).e=⟨c,i⟩→c≠0→d'=zg3 ⟨c,i⟩→m≤n'→(∀id o,X id=some o→H' id=some o)→Q d' H' n':=fun h1 h2 h3 h4 h6=>by
      rw[hQ,h1]
      exact⟨h3,h4,fun h=>absurd h h2,h6⟩
    have hX':∀{l:List (Abs.Id×Option O)} (id o),X id=some o→(id.2<m∧id.1≠10003∧id.1≠10004∧id.1≠10005∧id.1≠27070→zkr id l)→hpX l X id=some o:=fun id o h1 h2=>(zcz (h2 (hX id o h1))).trans h1
    have hw2:=hw
    rw[zaQ]at hw2
    have hrl2:b.refs.length≤zaZ:=by
      have:=zc1 (zbC hw2 (FD.sl (b.refs.map enc)) (by simp))
      simpa using this
    have hcl:b.conds.length≤zaZ:=by
      have:=zc1 (zbC hw2 (FD.sl (b.conds.map enc)) (by simp))
      simpa using this
    have hcw:∀c∈b.conds,(enc c).Wf:=fun c hc=>zg0 (zbC hw2 (FD.sl (b.conds.map enc)) (by simp)) _ (List.mem_map_of_mem hc)
    have hcs:∀c∈b.conds,c.size≤k:=fun c hc=>by have:=Box.size_sub hc;omega
    unfold zaZ at hrl2 hcl
    have hB:=@zqd b d most n refs
    have kX:=Kp.mk @hX'
    have kQ:=Kp.mk hQ
    have kI:=Kp.mk ih
    have kS:=Kp.mk hcw
    have kZ:=Kp.mk hcs
    have kb:=Kp.mk @hbad
    have kx:=Kp.mk hX
    have kB:=Kp.mk hB
    clear hX' hQ ih hcw hcs hX hbad hB hw hw2
    refine zaj (N:=194) hm zvX 27000 (lsw [70] []) zGt Tryd.func27 rfl rfl (by simp) (by kernel_rfl) ?_
    repeat'(first|refine zaB.d (fun _=>?_) (fun _=>?_)|refine zaB.i (fun _=>?_) (fun _=>?_)|refine rq fun _=>?_|refine zaD.i (f28 (a:=(n:Int)) (by simp only;omega) (by simp only[go_sem,HHv]) fun n' hn'=>?_)|simp only[go_sem,HHv,Tryd.f27, *])
    all_goals try
      refine kb.out (by first|rw[kB.out,if_pos (by omega)]|rw[kB.out,if_neg (by omega),if_pos (by omega)]) (by decide) rfl (by omega) fun id o ho=>?_
      refine kX.out id o ho fun h1=>?_
      ((repeat'(first|exact trivial|apply And.intro))<;>(rintro rfl;simp only at h1;omega))
    have hB2:zcm b d most n refs=if(zaV refs b.refs).1≠0 then⟨⟨(zaV refs b.refs).1,n⟩,n+1,(zaV refs b.refs).2⟩else zaI b.refs b.conds d (n+1) (zaV refs b.refs).2:=by
      rw[kB.out,if_neg (by omega),if_neg (by omega)]
    have hsum:refs.length+b.refs.length≤200:=by omega
    have kB2:=Kp.mk hB2
    clear hB2
    refine zar hm zvX 27000 (lsw [70] []) (ι:=zd5 b.refs.length (m+1+1+1) fun i=>zaV refs b.refs=zaV (refs++b.refs.take i) (b.refs.drop i))
      ⟨fun q=>⟨frL [(1,.fz (.i .i64 d)),(3,.ptr (10003,2) 0),(4,.ptr (10004,3) 0),(5,.ptr (10005,4) 0),(6,.ptr (27006,m) 0),(9,.ptr (27009,m+1) 0),(10,.ptr (27010,m+1+1) 0),(11,.fn 28 [.ptr (27010,m+1+1) 0]),(51,.fz (.sl (b.refs.map enc))),(52,.fz (.i .i64 b.refs.length)),(53,.fz (.i .i64 q.i))],
        hpX ([((27006,m),some ⟨[.fz (.sl (b.refs.map enc)),.fz (.sl (b.conds.map enc))],true,false⟩),((27009,m+1),some ⟨[.fz (.i .i64 0),.fz (.i .i64 0)],true,false⟩),((27010,m+1+1),some ⟨[.fz (.i .i64 n)],true,false⟩)]++HHv (n+1) (refs++b.refs.take q.i) q.g) X,q.m⟩,fun q=>b.refs.length-q.i⟩
      ⟨0,g,m+1+1+1,by omega,by omega,by omega,by simp⟩ (by kernel_rfl) ?_ ?_
    · refine zaJ ?_ ?_ (fun id o ho=>?_) ?_
      · simp only[go_sem, *]
      · simp only[go_sem,HHv, *]
      · refine kX.out id o ho fun h1=>?_
        ((repeat'(first|exact trivial|apply And.intro))<;>(rintro rfl;simp only at h1;omega))
      · simp only[go_sem]
    rintro⟨i,g1,m1,hi,hg1,hm1,hpi⟩
    try simp only at hi hg1 hm1 hpi
    rcases Nat.lt_or_ge i b.refs.length with h1|h1
    · have hrl3:(refs++b.refs.take i).length=refs.length+i:=by rw[List.length_append,List.length_take];omega
      rw[List.drop_eq_getElem_cons h1,zaV]at hpi
      cases hnm:zai b.refs[i]with
      |false=>
        rw[if_pos hnm]at hpi
        repeat'(first|refine rq fun _=>?_|refine zaD.i (f28 (a:=(n:Int)) (by simp only;omega) (by simp only[go_sem,HHv]) fun n' hn'=>?_)|simp only[go_sem,HHv,h1,hnm,zae,zaa,Tryd.f27])
        refine kb.out (by rw[kB2.out,hpi,if_pos (by simp)]) (by decide) rfl (by omega) fun id o ho=>?_
        refine kX.out id o ho fun h1=>?_
        ((repeat'(first|exact trivial|apply And.intro))<;>(rintro rfl;simp only at h1;omega))
      |true=>
        rw[if_neg (by rw[hnm];simp)]at hpi
        by_cases hin:b.refs[i]∈refs++b.refs.take i
        · rw[if_pos hin]at hpi
          repeat'(first|refine rq fun _=>?_|refine zaD.i (f28 (a:=(n:Int)) (by simp only;omega) (by simp only[go_sem,HHv]) fun n' hn'=>?_)|simp only[go_sem,HHv,h1,hnm,hin,zae,zaa,Tryd.f27])
          refine kb.out (by rw[kB2.out,hpi,if_pos (by simp)]) (by decide) rfl (by omega) fun id o ho=>?_
          refine kX.out id o ho fun h1=>?_
          ((repeat'(first|exact trivial|apply And.intro))<;>(rintro rfl;simp only at h1;omega))
        · rw[if_neg hin,List.append_assoc,←List.take_succ_eq_append_getElem h1]at hpi
          have e3:=List.take_succ_eq_append_getElem h1
          repeat'(first|refine rq fun _=>?_|refine zaH.i (zbf (by have h5:=hrl3;rw[List.length_append]at h5;omega) (by decide)) fun _=>?_|refine zaD.i (f28 (a:=(n:Int)) (by simp only;omega) (by simp only[go_sem,HHv]) fun n' hn'=>?_)|simp only[go_sem,HHv,h1,hnm,hin,zae,zaa,Tryd.f27])
          refine⟨⟨i+1,m1,m1+1,by omega,by omega,by omega,hpi⟩,by simp only;omega,?_⟩
          refine zaJ ?_ ?_ (fun id o ho=>?_) ?_
          · simp only[go_sem,e3,List.map_append,List.append_assoc]
          · simp only[go_sem,HHv,e3,List.map_append,List.append_assoc]
          · refine kX.out id o ho fun h1=>?_
            ((repeat'(first|exact trivial|apply And.intro))<;>(rintro rfl;simp only at h1;omega))
          · simp only[go_sem]
    have h1':¬i<b.refs.length:=by omega
    rw[List.take_of_length_le h1,List.drop_of_length_le h1,zaV]at hpi
    have hB3:zcm b d most n refs=zaI b.refs b.conds d (n+1) (refs++b.refs):=by
      rw[kB2.out,hpi,if_neg (by simp)]
    have kB3:=Kp.mk hB3
    have kP:=Kp.mk hpi
    clear hB3 hpi
    repeat'(first|refine rq fun _=>?_|simp only[go_sem,h1',bk1,bk5,bk6,Tryd.f27])
    refine zar hm zvX 27000 (lsw [70] []) (ι:=zsS (m+1+1+1) b.conds.length fun j n2 rs=>n2≤200∧rs.length≤200∧zaI b.refs b.conds d (n+1) (refs++b.refs)=zaI b.refs (b.conds.drop j) d n2 rs)
      ⟨fun q=>⟨frL [(1,.fz (.i .i64 d)),(3,.ptr (10003,2) 0),(4,.ptr (10004,3) 0),(5,.ptr (10005,4) 0),(6,.ptr (27006,m) 0),(9,.ptr (27009,m+1) 0),(10,.ptr (27010,m+1+1) 0),(11,.fn 28 [.ptr (27010,m+1+1) 0]),(73,.fz (.sl (b.conds.map enc))),(74,.fz (.i .i64 b.conds.length)),(75,.fz (.i .i64 q.j))],
        hpX ([((27006,m),some ⟨[.fz (.sl (b.refs.map enc)),.fz (.sl (b.conds.map enc))],true,false⟩),((27009,m+1),some ⟨[.fz (.i .i64 0),.fz (.i .i64 0)],true,false⟩),((27010,m+1+1),some ⟨[.fz (.i .i64 q.a)],true,false⟩)]++HHv q.n q.rs q.g) X,q.m⟩,fun q=>b.conds.length-q.j⟩
      ⟨0,n+1,refs++b.refs,g1,n,m1,by omega,by omega,by omega,by omega,by rw[List.length_append];omega,rfl⟩ (by kernel_rfl) ?_ ?_
    · refine zaJ ?_ ?_ (fun id o ho=>?_) ?_
      · simp only[go_sem]
      · simp only[go_sem,HHv,List.take_of_length_le h1]
      · refine kX.out id o ho fun h1=>?_
        ((repeat'(first|exact trivial|apply And.intro))<;>(rintro rfl;simp only at h1;omega))
      · simp only[go_sem]
    rintro⟨j,n2,rs,g2,a2,m2,hj,hg2,hm2,hn2,hrs,hch⟩
    try simp only at hj hg2 hm2 hn2 hrs hch
    rcases Nat.lt_or_ge j b.conds.length with h2|h2
    · have hmem:=List.getElem_mem h2
      rw[List.drop_eq_getElem_cons h2,zaI]at hch
      obtain⟨c,hcj⟩:∃c,b.conds[j]=c:=⟨_,rfl⟩
      rw[hcj]at hch hmem
      have hw2:=kS.out _ hmem
      have hs2:=kZ.out _ hmem
      rw[zcQ]at hw2
      have hbl:c.boxes.length≤zaZ:=by
        have:=zc1 (zbC hw2 (FD.sl (c.boxes.map enc)) (by simp))
        simpa using this
      have hbw:∀x∈c.boxes,(enc x).Wf:=fun x hx=>zg0 (zbC hw2 (FD.sl (c.boxes.map enc)) (by simp)) _ (List.mem_map_of_mem hx)
      have hbs:∀x∈c.boxes,x.size≤k:=fun x hx=>by have:=zal.size_sub hx;omega
      unfold zaZ at hbl
      have hb0:∀{c' i':Int},(zb7 b.refs c d n2 rs).e=⟨c',i'⟩→c'≠0→(zcm b d most n refs).e=⟨c',i'⟩:=fun g1 g2=>by rw[kB3.out,hch,if_pos (by rw[g1];exact g2),g1]
      have hb1:200<(n2:Int)+1→(zcm b d most n refs).e=⟨1,n2⟩:=fun g1=>hb0 (by rw[zeC,if_pos (by omega)]) (by decide)
      have hb3:∀{c':Int},¬200<(n2:Int)+1→zbb c b.refs=c'→c'≠0→(zcm b d most n refs).e=⟨c',n2⟩:=fun g1 g2 g3=>hb0 (by rw[zeC,if_neg (by omega),if_pos (by rw[g2];exact g3),g2]) g3
      have kw:=Kp.mk hbw
      have kz:=Kp.mk hbs
      have k0:=Kp.mk @hb0
      have k1:=Kp.mk hb1
      have k3:=Kp.mk @hb3
      have kh:=Kp.mk hch
      clear hbw hbs hb0 hb1 hb3 hch hmem hw2 hs2
      rcases zhv c.kind with⟨hk,hp⟩|⟨hk,hp⟩|⟨hk,hp⟩|⟨hk,hk5,hk6,hp⟩|⟨hk,hk5,hk6,hp⟩|⟨hk,hk5,hk6,hp⟩
      all_goals repeat'(first|refine zaB.d (fun _=>?_) (fun _=>?_)|refine zaB.i (fun _=>?_) (fun _=>?_)|refine rq fun _=>?_|refine zaD.i (f28 (a:=(n2:Int)) (by simp only;omega) (by simp only[go_sem,HHv]) fun n' hn'=>?_)|simp only[go_sem,HHv,h2,zaa,bk1,bk5,bk6,Tryd.f27, *])
      all_goals try(exfalso;omega)
      all_goals try
        first
        |refine kb.out ?_ ?_ rfl (by omega) fun id o ho=>?_
        |refine kb.out ?_ ?_ (show _=zg3 ⟨(zaL false c.form).code,n2⟩from rfl) (by omega) fun id o ho=>?_
        · first
          |exact k1.out (by omega)
          |exact k3.out (by omega) (by first
            |rw[zeB hp,if_pos (by omega)]
            |rw[zeB hp,if_neg (by omega),if_pos (by omega)]
            |rw[zeB hp,if_neg (by omega),if_neg (by omega),if_pos (by first|exact .inl ⟨by omega,by assumption⟩|exact .inr ⟨by omega,by assumption⟩)]
            |(rw[zeB hp,if_neg (by omega),if_neg (by omega),if_neg (by rintro(⟨g1,g2⟩|⟨g1,g2⟩)<;>first|omega|contradiction|simp_all),if_neg (by omega)]
              first
              |rw[if_pos (by omega)]
              |rw[if_neg (by omega),if_pos (by omega)]
              |rw[if_neg (by omega),if_neg (by omega),if_pos ⟨by omega,by assumption⟩])) (by first|assumption|decide)
        · first|assumption|decide
        · refine kX.out id o ho fun h1=>?_
          ((repeat'(first|exact trivial|apply And.intro))<;>(rintro rfl;simp only at h1;omega))
      all_goals
        have hC:zbb c b.refs=0:=by
          rw[zeB hp,if_neg (by omega),if_neg (by omega),if_neg (by rintro(⟨g1,g2⟩|⟨g1,g2⟩)<;>first|omega|contradiction|simp_all)]
          first
          |rw[if_pos (by omega)]
          |rw[if_neg (by omega),if_neg (by omega),if_neg (by omega),if_neg (by rintro⟨g1,g2⟩;first|omega|exact g2 (by assumption))]
        obtain⟨mst,hmst⟩:∃mst:Int,mst=if c.kind=6 then 2 else 200:=⟨_,rfl⟩
        have hcw:zb7 b.refs c d n2 rs=zbv c.boxes (d+1) mst (n2+1) rs:=by
          rw[zeC,if_neg (by omega),if_neg (by rw[hC];simp),hmst]
        have kcw:=Kp.mk hcw
        refine zar hm zvX 27000 (lsw [70] []) (ι:=zsS (m+1+1+1) c.boxes.length fun k' n3 rs3=>n3≤200∧rs3.length≤200∧zbv c.boxes (d+1) mst (n2+1) rs=zbv (c.boxes.drop k') (d+1) mst n3 rs3)
          ⟨fun q=>⟨frL [(1,.fz (.i .i64 d)),(3,.ptr (10003,2) 0),(4,.ptr (10004,3) 0),(5,.ptr (10005,4) 0),(6,.ptr (27006,m) 0),(9,.ptr (27009,m+1) 0),(10,.ptr (27010,m+1+1) 0),(11,.fn 28 [.ptr (27010,m+1+1) 0]),(18,.fz (.i .i64 mst)),(73,.fz (.sl (b.conds.map enc))),(74,.fz (.i .i64 b.conds.length)),(75,.fz (.i .i64 j)),(175,.fz (.sl (c.boxes.map enc))),(176,.fz (.i .i64 c.boxes.length)),(177,.fz (.i .i64 q.j))],
            hpX ([((27006,m),some ⟨[.fz (.sl (b.refs.map enc)),.fz (.sl (b.conds.map enc))],true,false⟩),((27009,m+1),some ⟨[.fz (.i .i64 0),.fz (.i .i64 0)],true,false⟩),((27010,m+1+1),some ⟨[.fz (.i .i64 n2)],true,false⟩)]++HHv q.n q.rs q.g) X,q.m⟩,fun q=>c.boxes.length-q.j⟩
          ⟨0,n2+1,rs,g2,0,m2+5,by omega,by omega,by omega,by omega,hrs,rfl⟩ (by kernel_rfl) ?_ ?_
        · refine zaJ ?_ ?_ (fun id o ho=>?_) ?_
          · simp only[hmst]
            simp only[go_sem,if_true,if_false,hk, *]
          · simp only[go_sem,HHv]
          · refine kX.out id o ho fun h1=>?_
            ((repeat'(first|exact trivial|apply And.intro))<;>(rintro rfl;simp only at h1;omega))
          · simp only;omega
        clear hcw
        rintro⟨kk,n3,rs3,g3,_,m3,hj3,hg3,hm3,hn3,hrs3,hch3⟩
        try simp only at hj3 hg3 hm3 hn3 hrs3 hch3
        rcases Nat.lt_or_ge kk c.boxes.length with h4|h4
        · have hmem:=List.getElem_mem h4
          rw[List.drop_eq_getElem_cons h4,zbv]at hch3
          have ih2:=kI.out c.boxes[kk] (d+1) mst n3 g3 (m3+1) rs3 (hpX [((27006,m),some ⟨[.fz (.sl (b.refs.map enc)),.fz (.sl (b.conds.map enc))],true,false⟩),((27009,m+1),some ⟨[.fz (.i .i64 0),.fz (.i .i64 0)],true,false⟩),((27010,m+1+1),some ⟨[.fz (.i .i64 n2)],true,false⟩)] X) (kz.out _ hmem) (kw.out _ hmem) (by omega) (by omega) hn3 hrs3 (by omega) (by omega) (by
            intro id o ho
            simp only[hpX]at ho
            split at ho
            · rename_i e;subst e;simp only;omega
            split at ho
            · rename_i e;subst e;simp only;omega
            split at ho
            · rename_i e;subst e;simp only;omega
            · have:=kx.out id o ho;omega)
          rw[zaQ]at ih2
          repeat'(first|refine rq fun _=>?_|simp only[go_sem,HHv,h4,zaa,bk1,bk5,bk6,Tryd.f27])
          refine zaD.i (zex rfl (zfd (by simp only[go_sem,zg8]) (by simp only[go_sem,HHv]) (fun id o ho=>?_) (Nat.le_refl _) (zaP ih2 ?_)))
          · simp only[hpX]at ho
            split at ho
            · rename_i e;subst e;simp only[go_sem];exact Option.some.inj ho
            split at ho
            · rename_i e;subst e;simp only[go_sem];exact Option.some.inj ho
            split at ho
            · rename_i e;subst e;simp only[go_sem];exact Option.some.inj ho
            · refine kX.out id o ho fun h1=>?_
              ((repeat'(first|exact trivial|apply And.intro))<;>(rintro rfl;simp only at h1;omega))
          rintro d' H' n' ⟨rfl,e1,e2,e3⟩
          have b6:=e3 (27006,m) ⟨[.fz (.sl (b.refs.map enc)),.fz (.sl (b.conds.map enc))],true,false⟩ (by simp only[go_sem])
          have b9:=e3 (27009,m+1) ⟨[.fz (.i .i64 0),.fz (.i .i64 0)],true,false⟩ (by simp only[go_sem])
          have b10:=e3 (27010,m+1+1) ⟨[.fz (.i .i64 n2)],true,false⟩ (by simp only[go_sem])
          have hX2:∀id o,X id=some o→H' id=some o:=fun id o ho=>e3 id o (kX.out id o ho fun h1=>⟨by rintro rfl;simp only at h1;omega,by rintro rfl;simp only at h1;omega,by rintro rfl;simp only at h1;omega,trivial⟩)
          rw[show H'=hpX [] H' from rfl]
          by_cases hc:(zcm c.boxes[kk] (d+1) mst n3 rs3).e.code=0
          · obtain⟨g',hg',e4⟩:=e2 hc
            simp only[go_sem,HHv]at e4
            obtain⟨b1,b2,b3,b4⟩:=e4
            rw[if_neg (by rw[hc];simp)]at hch3
            obtain⟨c1,c2,c3,c4⟩:=zgJ _ _ _ _ _ hc
            repeat'(first|refine rq fun _=>?_|simp only[go_sem,HHv,h4,hc,zg3,b9,bk1,bk5,bk6,Tryd.f27])
            refine⟨⟨kk+1,_,_,g',0,n'+1,by omega,by omega,by omega,c3,c4,hch3⟩,by simp only;omega,?_⟩
            refine zaJ ?_ ?_ (fun id o ho=>?_) ?_
            · simp only[go_sem]
            · simp only[go_sem,HHv,b1,b2,b3,b4,b6,b9,b10]
            · have h1:=kx.out id o ho
              refine(zcz ?_).trans (hX2 id o ho)
              ((repeat'(first|exact trivial|apply And.intro))<;>(rintro rfl;simp only at h1;omega))
            · simp only[go_sem]
          · rw[if_pos hc]at hch3
            repeat'(first|refine rq fun _=>?_|simp only[go_sem,HHv,h4,hc,zg3,b9,bk1,bk5,bk6,Tryd.f27])
            refine kb.out (k0.out (by rw[kcw.out,hch3]) hc) hc rfl (by omega) fun id o ho=>?_
            have h1:=kx.out id o ho
            refine(zcz ?_).trans (hX2 id o ho)
            ((repeat'(first|exact trivial|apply And.intro))<;>(rintro rfl;simp only at h1;omega))
        · have h4':¬kk<c.boxes.length:=by omega
          rw[List.drop_of_length_le h4,zbv]at hch3
          have hch:=kh.out
          rw[kcw.out,hch3,if_neg (by simp)]at hch
          repeat'(first|refine rq fun _=>?_|simp only[go_sem,HHv,h4',bk1,bk5,bk6,Tryd.f27])
          refine⟨⟨j+1,n3,rs3,g3,n2,m3,by omega,by omega,by omega,hn3,hrs3,hch⟩,by simp only;omega,?_⟩
          refine zaJ ?_ ?_ (fun id o ho=>?_) ?_
          · simp only[go_sem]
          · simp only[go_sem,HHv]
          · refine kX.out id o ho fun h1=>?_
            ((repeat'(first|exact trivial|apply And.intro))<;>(rintro rfl;simp only at h1;omega))
          · simp only[go_sem]
    · have h2':¬j<b.conds.length:=by omega
      rw[List.drop_of_length_le h2,zaI]at hch
      repeat'(first|refine rq fun _=>?_|simp only[go_sem,HHv,h2',zg3,bk1,bk5,bk6,Tryd.f27])
      rw[kQ.out,kB3.out,hch]
      refine⟨rfl,by omega,fun _=>⟨g2,by omega,by simp only[go_sem,HHv]⟩,fun id o ho=>kX.out id o ho fun h1=>?_⟩
      ((repeat'(first|exact trivial|apply And.intro))<;>(rintro rfl;simp only at h1;omega))
end Go.Proofs.YtalbdmcklgglbaaDoor
