/- several texts of this proof in one; no conditions -/
import Derived.Test.YtmconmiemdinkaaGreatDoorAT
import Derived.Test.YtmconmiemdinkaaGreatDoorY3
import Derived.Test.YtmconmiemdinkaaGreatDoorY15
set_option maxRecDepth 100000
set_option maxHeartbeats 1000000
set_option linter.unusedSimpArgs false
namespace Go.Proofs.YtmconmiemdinkaaGreatDoor
open Go Go.Abs Go.Proofs
attribute [local irreducible] zaq
def X29:Tbl:=R28
attribute [go_sem] X29
theorem zIl:zai Tryz.prog GA X29:=zIe
end Go.Proofs.YtmconmiemdinkaaGreatDoor
namespace Go.Proofs.YtmconmiemdinkaaGreatDoor
open Go Go.Abs Go.Proofs
def X30:Tbl:=X29.add 42 (sp1 zas fun f=>f.size≤1000)
attribute [go_sem] X30
theorem zIm:zai Tryz.prog GA X30:=by
 refine zyg zab.size zE3 zIl fun n hT f hn hpre hw=>?_
 by_cases hk:f.kind=10
 ·have e:zas f=[f.name]:=by rw[zlV,if_pos hk]
  rw[e]
  refine zam (N:=25) hm hT 42000 (lsw [22] []) zE3 Tryz.func42 rfl rfl (by simp) (by kernel_rfl) ?_
  repeat'(first|refine rq fun _=>?_|simp only[go_sem,hk,Tryz.f42])
 have e:zas f=zaG f.subs:=by rw[zlV,if_neg hk]
 have hsl:f.subs.length≤zbr:=by
  have h:=zc2 (by have h:=hw;rw[zaD]at h;exact h) (FD.sl (f.subs.map enc)) (by simp)
  have:=zd9 h
  simpa using this
 unfold zbr at hsl
 have hse:=@zth f
 have hlt:∀i (_:i<f.subs.length),(zaG (f.subs.take i)).length+(zas f.subs[i]).length≤1000:=fun i h=>by
  have h1:=zgK h
  have h2:=zff (f.subs.take (i+1))
  have h3:=congrArg zab.sizes (List.take_append_drop (i+1) f.subs)
  rw[zab.sizes_app]at h3
  rw[h1,List.length_append]at h2
  omega
 have hsz:∀g∈f.subs,g.size<n∧g.size≤1000:=fun g hg=>by have:=zab.size_sub hg;omega
 have kT:=Kp.mk hT
 have kz:=Kp.mk hsz
 have kl:=Kp.mk hlt
 rw[e]
 clear hT hsz hlt hse hn hw
 refine zam (N:=25) hm kT.out 42000 (lsw [22] []) zE3 Tryz.func42 rfl rfl (by simp) (by kernel_rfl) ?_
 repeat'(first|refine rq fun _=>?_|simp only[go_sem,hk,Tryz.f42])
 refine zaJ hm kT.out 42000 (lsw [22] []) (ι:=zg3 f.subs.length 1 fun _=>True)
  ⟨fun q=>⟨frL [(1,.ptr (42001,0) 0),(3,.ow (42022,q.g) 1 ((zaG (f.subs.take q.i)).map enc)),(13,.fz (.sl (f.subs.map enc))),(14,.fz (.i .i64 f.subs.length)),(15,.fz (.i .i64 q.i))],
   hpL [((42022,q.g),some tok)],q.m⟩,fun q=>f.subs.length-q.i⟩
  ⟨0,1,2,by omega,by omega,by omega,trivial⟩ (by kernel_rfl) ?_ ?_
 ·refine zei [] [(42022,1)] [] ?_ ?_ ?_ ?_ ?_<;>simp only[go_sem,zaG]
  all_goals rfl
 rintro⟨i,g,m,hi,hg,hm1,_⟩
 try simp only at hi hg hm1
 rcases Nat.lt_or_ge i f.subs.length with h1|h1
 ·obtain⟨x,hx⟩:∃x,f.subs[i]=x:=⟨_,rfl⟩
  have hxs:x.size<n∧x.size≤1000:=kz.out x (by rw[←hx];exact List.getElem_mem h1)
  have hb:=kl.out i h1
  have et:=zgK h1
  rw[hx]at hb et
  repeat'(first|refine zaA.i hxs fun _=>?_|refine rq fun _=>?_|refine zaA.i (zaE (by omega) (by decide)) fun _=>?_|refine rq fun _=>?_|simp only[go_sem,h1,hx,zac,zaa,Tryz.f42])
  refine⟨⟨i+1,m+1,m+2,by omega,by omega,by omega,trivial⟩,by simp only;omega,?_⟩
  refine zau ?_ ?_ ?_<;>simp only[go_sem,et,List.map_append]
 ·obtain rfl:i=f.subs.length:=by omega
  repeat'(first|refine rq fun _=>?_|simp only[go_sem,Nat.lt_irrefl,List.take_length,Tryz.f42])
def X31:Tbl:=X30
attribute [go_sem] X31
theorem zuU:zai Tryz.prog GA X31:=zIm
end Go.Proofs.YtmconmiemdinkaaGreatDoor
namespace Go.Proofs.YtmconmiemdinkaaGreatDoor
open Go Go.Abs Go.Proofs
theorem f38 {c a:Int}{id:Abs.Id}{H:zaw}{n:Nat}{R:D→zaw→Nat→Prop}(hid:id.2<n)(ho:H id=some ⟨[.fz (.i .i64 a)],true,false⟩)(hR:∀n',n≤n'→R (.agg [.fz (.i .i64 c),.fz (.i .i64 a)]) H n'):
  zaH Tryz.prog GA 38 [.fz (.i .i64 c),.ptr id 0] H n R:=by
 refine zeJ zGI (fun hfr=>?_) hR
 have hne:id≠(38003,n):=by rintro rfl;simp at hid
 have hne':(id=(38003,n))=False:=eq_false hne
 obtain⟨Q,hQ⟩:∃Q:D→zaw→Nat→Prop,Q=(fun d' H' n'=>d'= .agg [.fz (.i .i64 c),.fz (.i .i64 a)]∧n≤n'∧∀id,id.2<n→H' id=H id):=⟨_,rfl⟩
 rw[←hQ]
 have e:H=hpX [] H:=rfl
 rw[e]
 refine zam (N:=7) hm zuU 38000 (lst []) zGI Tryz.func38 rfl rfl (by simp) (by kernel_rfl) ?_
 simp only[go_sem]
 rw[if_neg hne,ho]
 simp only[go_sem,Tryz.f38]
 rw[hQ]
 refine⟨?_,by omega,fun id hid=>znE (n:=n) (by intro p hp;simp at hp;rcases hp with rfl|rfl<;>simp) id hid⟩
 simp only[go_sem]
structure VI (s:Abs.zao) where
 i:Nat
 g1:Nat
 g2:Nat
 m:Nat
 hi:i≤s.pieces.length
 h1:g1<m
 h2:g2<m
 hm:4≤m
 hn:zdq (s.pieces.take i)≤200*i∧zdT (s.pieces.take i)≤200*i∧(zbt (s.pieces.take i)).length≤200*i
 hp:zgr (zaS (s.pieces.take i)) (zbt (s.pieces.take i)) (s.pieces.drop i) i=zgr [] [] s.pieces 0
def X32:Tbl:=X31.add 12 (sp1 zaZ fun _=>True)
attribute [go_sem] X32
set_option maxHeartbeats 8000000 in
theorem zIn:zai Tryz.prog GA X32:=by
 refine zdd zCZ zuU fun s _ hw=>?_
 obtain⟨Q,hQ⟩:∃Q:D→zaw→Nat→Prop,Q=(fun d _ _=>D.val d=some (.fz (enc (zaZ s)))):=⟨_,rfl⟩
 rw[←hQ]
 have hres:∀{c i:Int} {H':zaw} {n':Nat},zaZ s=⟨c,i⟩→Q (.agg [.fz (.i .i64 c),.fz (.i .i64 i)]) H' n':=fun e=>by
  rw[hQ];show _=some (D.fz (enc (zaZ s)));rw[e];rfl
 have kr:=Kp.mk @hres
 have hlo:s.overs.length≤zbr:=by
  have h:=zc2 (by have h:=hw;rw[zgg]at h;exact h) (FD.sl (s.overs.map enc)) (by simp)
  have:=zd9 h
  simpa using this
 have hlv:s.vars.length≤zbr:=by
  have h:=zc2 (by have h:=hw;rw[zgg]at h;exact h) (FD.sl (s.vars.map enc)) (by simp)
  have:=zd9 h
  simpa using this
 unfold zbr at hlo hlv
 clear hres hQ hw
 by_cases h0:s.pieces.length=0
 ·refine zam (N:=156) hm zuU 12000 (lsw [55,82] []) zCZ Tryz.func12 rfl rfl (by simp) (by kernel_rfl) ?_
  have h0':(((s.pieces.length:Nat):Int)=0)=True:=eq_true (by omega)
  have h0'':(((s.pieces.length:Nat):Int)<1)=True:=eq_true (by omega)
  repeat'(first|refine rq fun _=>?_|simp only[go_sem,h0',h0'',zad,zac,Tryz.f12])
  exact kr.out (by unfold zaZ;rw[if_pos (.inl h0)])
 by_cases h6:6<s.pieces.length
 ·refine zam (N:=156) hm zuU 12000 (lsw [55,82] []) zCZ Tryz.func12 rfl rfl (by simp) (by kernel_rfl) ?_
  have h0':(((s.pieces.length:Nat):Int)=0)=False:=eq_false (by omega)
  have h0'':(((s.pieces.length:Nat):Int)<1)=False:=eq_false (by omega)
  have h6':(6<((s.pieces.length:Nat):Int))=True:=eq_true (by omega)
  repeat'(first|refine rq fun _=>?_|simp only[go_sem,h0',h0'',h6',zad,zac,Tryz.f12])
  exact kr.out (by unfold zaZ;rw[if_pos (.inr h6)])
 have h0':(((s.pieces.length:Nat):Int)=0)=False:=eq_false (by omega)
 have h0'':(((s.pieces.length:Nat):Int)<1)=False:=eq_false (by omega)
 have h6':(6<((s.pieces.length:Nat):Int))=False:=eq_false (by omega)
 have e1:=zte h0 h6
 refine zam (N:=156) hm zuU 12000 (lsw [55,82] []) zCZ Tryz.func12 rfl rfl (by simp) (by kernel_rfl) ?_
 repeat'(first|refine rq fun _=>?_|simp only[go_sem,h0',h0'',h6',zad,zac,Tryz.f12])
 refine zaJ hm zuU 12000 (lsw [55,82] []) (ι:=VI s)
  ⟨fun q=>⟨frL [(1,.ptr (12001,0) 0),(2,.ptr (12002,1) 0),(3,.ow (12055,q.g1) 1 ((zaS (s.pieces.take q.i)).map enc)),(4,.ow (12082,q.g2) 1 ((zbt (s.pieces.take q.i)).map enc)),(5,.fz (.i .i64 (zdq (s.pieces.take q.i)))),(6,.fz (.i .i64 (zdT (s.pieces.take q.i)))),(31,.fz (.sl (s.pieces.map enc))),(32,.fz (.i .i64 s.pieces.length)),(33,.fz (.i .i64 q.i))],
   hpL [((12001,0),some ⟨[.fz (.sl (s.pieces.map enc)),.fz (.sl (s.overs.map enc)),.fz (.sl (s.vars.map enc))],true,false⟩),((12002,1),some ⟨[.fz (.i .i64 0),.fz (.i .i64 0)],true,false⟩),((12055,q.g1),some tok),((12082,q.g2),some tok)],q.m⟩,fun q=>s.pieces.length-q.i⟩
  ⟨0,2,3,4,by omega,by omega,by omega,by omega,⟨by simp[zdq,zab.sizes],by simp[zdT],by simp[zbt]⟩,by simp[zaS,zbt]⟩ (by kernel_rfl) ?_ ?_
 ·refine zei [] [(12055,2),(12082,3)] [] ?_ ?_ ?_ ?_ ?_<;>simp only[go_sem,List.take_zero,zaS,zbt,zdq,zdT,zab.sizes]
  all_goals first|done|rfl
 rintro⟨i,g1,g2,m,hi,hg1,hg2,hm1,⟨hn1,hn2,hn3⟩,hp⟩
 try simp only at hi hg1 hg2 hm1 hn1 hn2 hn3 hp
 have hll:(zaS (s.pieces.take i)).length=i:=by unfold zaS;rw[List.length_map,List.length_take];omega
 rcases Nat.lt_or_ge i s.pieces.length with h1|h1
 ·rw[zqH h1]at hp
  have el:=zlX h1
  have ea:=zrw h1
  have en:=znP h1
  have ed:=zpP h1
  obtain⟨p,hpe⟩:∃p,s.pieces[i]=p:=⟨_,rfl⟩
  rw[hpe]at hp el ea en ed
  obtain⟨L,hL⟩:∃L,zaS (s.pieces.take i)=L:=⟨_,rfl⟩
  obtain⟨A,hA⟩:∃A,zbt (s.pieces.take i)=A:=⟨_,rfl⟩
  obtain⟨N,hN⟩:∃N,zdq (s.pieces.take i)=N:=⟨_,rfl⟩
  obtain⟨E,hE⟩:∃E,zdT (s.pieces.take i)=E:=⟨_,rfl⟩
  rw[hL,hA]at hp
  rw[hL]at el hll
  rw[hA]at ea hn3
  rw[hN]at en hn1
  rw[hE]at ed hn2
  simp only[hL,hA,hN,hE]
  have bad:∀{c:Int},zd7 L A p=c→c≠0→zaZ s=⟨c,i⟩:=fun h h2=>by
   rw[h,if_pos h2]at hp
   rw[e1,←hp,if_pos h2]
  cases hnm:zaq p.label with
  |false=>
   repeat'(first|refine rq fun _=>?_|refine zaA.i hsz fun _=>?_|refine zaA.i hsp fun _=>?_|refine zaA.i (zaE (by first|omega|(simp only[List.length_map,List.length_append,List.length_cons,List.length_nil];omega)) (by decide)) fun _=>?_|refine rq fun _=>?_|refine zaV.i (f38 (a:=(i:Int)) (by simp only;omega) (by simp only[go_sem]) fun n' hn'=>?_)|simp only[go_sem,h1,hpe,hnm,zaa,zad,zac,Tryz.f12])
   exact kr.out (bad (by unfold zd7;rw[if_pos hnm]) (by decide))
  |true=>
  by_cases hlm:p.label∈L
  ·repeat'(first|refine rq fun _=>?_|refine zaA.i hsz fun _=>?_|refine zaA.i hsp fun _=>?_|refine zaA.i (zaE (by first|omega|(simp only[List.length_map,List.length_append,List.length_cons,List.length_nil];omega)) (by decide)) fun _=>?_|refine rq fun _=>?_|refine zaV.i (f38 (a:=(i:Int)) (by simp only;omega) (by simp only[go_sem]) fun n' hn'=>?_)|simp only[go_sem,h1,hpe,hnm,hlm,decide_true,zaa,zad,zac,Tryz.f12])
   exact kr.out (bad (by unfold zd7;rw[if_neg (by simp[hnm]),if_pos hlm]) (by decide))
  have hlm':=decide_eq_false hlm
  by_cases hck:¬(zaX true p.form).code=0
  ·obtain⟨ck,hcke⟩:∃ck,zaX true p.form=ck:=⟨_,rfl⟩
   rw[hcke]at hck
   repeat'(first|refine rq fun _=>?_|refine zaA.i hsz fun _=>?_|refine zaA.i hsp fun _=>?_|refine zaA.i (zaE (by first|omega|(simp only[List.length_map,List.length_append,List.length_cons,List.length_nil];omega)) (by decide)) fun _=>?_|refine rq fun _=>?_|refine zaV.i (f38 (a:=(i:Int)) (by simp only;omega) (by simp only[go_sem]) fun n' hn'=>?_)|simp only[go_sem,h1,hpe,hnm,hlm',hcke,hck,zaa,zad,zac,Tryz.f12])
   exact kr.out (bad (by unfold zd7;rw[if_neg (by simp[hnm]),if_neg hlm,if_pos (by rw[hcke];exact hck),hcke]) hck)
  have hck:=Decidable.not_not.1 hck
  have hcke:=zfa hck
  have hsp:p.form.size≤1000:=by have:=zbo hck;omega
  have hsz:zyo p.form:=⟨zcZ hck,by omega⟩
  have hs2:=zbo hck
  have hd2:=p.form.depth_size
  have hr2:=zlh hck
  have hhl:=zdG p.form
  obtain⟨hs,hhs⟩:∃hs,zas p.form=hs:=⟨_,rfl⟩
  rw[hhs]at hr2 hhl ea hp
  have hpc:zd7 L A p=if zr1 A hs=true then 7 else 0:=by unfold zd7;rw[if_neg (by simp[hnm]),if_neg hlm,if_neg (by simp[hck]),hhs]
  repeat'(first|refine rq fun _=>?_|refine zaA.i hsz fun _=>?_|refine zaA.i hsp fun _=>?_|refine zaA.i (zaE (by first|omega|(simp only[List.length_map,List.length_append,List.length_cons,List.length_nil];omega)) (by decide)) fun _=>?_|refine rq fun _=>?_|refine zaV.i (f38 (a:=(i:Int)) (by simp only;omega) (by simp only[go_sem]) fun n' hn'=>?_)|simp only[go_sem,h1,hpe,hnm,hlm',hcke,hhs,hr2,zaa,zad,zac,Tryz.f12])
  refine zaJ hm zuU 12000 (lsw [55,82] []) (ι:=zg3 hs.length (m+4) fun j=>zr1 (A++hs.take j) (hs.drop j)=zr1 A hs)
   ⟨fun q=>⟨frL [(1,.ptr (12001,0) 0),(2,.ptr (12002,1) 0),(3,.ow (12055,m+2) 1 ((L++[p.label]).map enc)),(4,.ow (12082,q.g) 1 ((A++hs.take q.i).map enc)),(5,.fz (.i .i64 N)),(6,.fz (.i .i64 E)),(7,.ptr (12007,m) 0),(8,.ptr (12008,m+1) 0),(9,.fn 38 [.ptr (12007,m) 0]),(31,.fz (.sl (s.pieces.map enc))),(32,.fz (.i .i64 s.pieces.length)),(33,.fz (.i .i64 i)),(68,.fz (.sl (hs.map enc))),(69,.fz (.i .i64 hs.length)),(70,.fz (.i .i64 q.i))],
    hpL [((12001,0),some ⟨[.fz (.sl (s.pieces.map enc)),.fz (.sl (s.overs.map enc)),.fz (.sl (s.vars.map enc))],true,false⟩),((12002,1),some ⟨[.fz (.i .i64 0),.fz (.i .i64 0)],true,false⟩),((12055,m+2),some tok),((12082,q.g),some tok),((12007,m),some ⟨[.fz (.i .i64 i)],true,false⟩),((12008,m+1),some ⟨[.fz (.s p.label.l),.fz (.i .i64 p.form.kind),.fz (.s p.form.name.l),.fz (.sl (p.form.words.map enc)),.fz (.sl (p.form.subs.map enc))],true,false⟩)],q.m⟩,fun q=>hs.length-q.i⟩
   ⟨0,g2,m+4,by omega,by omega,by omega,by simp⟩ (by kernel_rfl) ?_ ?_
  ·refine zau ?_ ?_ ?_<;>simp only[go_sem,List.take_zero,List.append_nil,List.map_append]
  rintro⟨j,g,m',hj,hg,hm',hd⟩
  try simp only at hj hg hm' hd
  have hAl:(A++hs.take j).length≤200*i+200:=by rw[List.length_append,List.length_take];omega
  rcases Nat.lt_or_ge j hs.length with h2|h2
  ·rw[zr2 h2]at hd
   have et:A++hs.take (j+1)=(A++hs.take j)++[hs[j]]:=by rw[List.take_succ_eq_append_getElem h2,List.append_assoc]
   obtain⟨x,hx⟩:∃x,hs[j]=x:=⟨_,rfl⟩
   rw[hx]at hd et
   obtain⟨B,hB⟩:∃B,A++hs.take j=B:=⟨_,rfl⟩
   rw[hB]at hd hAl et
   simp only[hB]
   by_cases hxm:x∈B
   ·repeat'(first|refine rq fun _=>?_|refine zaA.i hsz fun _=>?_|refine zaA.i hsp fun _=>?_|refine zaA.i (zaE (by first|omega|(simp only[List.length_map,List.length_append,List.length_cons,List.length_nil];omega)) (by decide)) fun _=>?_|refine rq fun _=>?_|refine zaV.i (f38 (a:=(i:Int)) (by simp only;omega) (by simp only[go_sem]) fun n' hn'=>?_)|simp only[go_sem,h2,hx,hxm,decide_true,zaa,zad,zac,Tryz.f12])
    exact kr.out (bad (by rw[hpc,←hd,decide_eq_true hxm];rfl) (by decide))
   ·have hxm':=decide_eq_false hxm
    repeat'(first|refine rq fun _=>?_|refine zaA.i hsz fun _=>?_|refine zaA.i hsp fun _=>?_|refine zaA.i (zaE (by first|omega|(simp only[List.length_map,List.length_append,List.length_cons,List.length_nil];omega)) (by decide)) fun _=>?_|refine rq fun _=>?_|refine zaV.i (f38 (a:=(i:Int)) (by simp only;omega) (by simp only[go_sem]) fun n' hn'=>?_)|simp only[go_sem,h2,hx,hxm',zaa,zad,zac,Tryz.f12])
    refine⟨⟨j+1,m',m'+1,by omega,by omega,by omega,by rw[et,←hd,hxm',Bool.false_or]⟩,by simp only;omega,?_⟩
    refine zau ?_ ?_ ?_<;>simp only[go_sem,et,List.map_append]
  ·obtain rfl:j=hs.length:=by omega
   rw[List.take_length,List.drop_length]at hd
   have h2':¬hs.length<hs.length:=Nat.lt_irrefl _
   rw[hpc,←hd,if_neg (by simp[zr1])]at hp
   try rw[if_neg (by simp)]at hp
   rw[List.take_length]at hAl
   simp only[List.take_length]
   repeat'(first|refine rq fun _=>?_|refine zaA.i hsz fun _=>?_|refine zaA.i hsp fun _=>?_|refine zaA.i (zaE (by first|omega|(simp only[List.length_map,List.length_append,List.length_cons,List.length_nil];omega)) (by decide)) fun _=>?_|refine rq fun _=>?_|refine zaV.i (f38 (a:=(i:Int)) (by simp only;omega) (by simp only[go_sem]) fun n' hn'=>?_)|simp only[go_sem,h2',Int.lt_irrefl,zad,zac,Tryz.f12])
   refine⟨⟨i+1,m+2,g,m',by omega,by omega,by omega,by omega,⟨by rw[en];omega,by rw[ed];omega,by rw[ea];omega⟩,by rw[el,ea];exact hp⟩,by simp only;omega,?_⟩
   refine zau ?_ ?_ ?_<;>simp only[go_sem,el,ea,en,ed,List.map_append,Int.natCast_add]
 obtain rfl:i=s.pieces.length:=by omega
 rw[List.drop_length,zgr]at hp
 rw[←hp,if_neg (by simp)]at e1
 rw[List.take_length]at hn1 hn2 hn3 hll
 simp only[List.take_length]
 obtain⟨L,hL⟩:∃L,zaS s.pieces=L:=⟨_,rfl⟩
 obtain⟨A,hA⟩:∃A,zbt s.pieces=A:=⟨_,rfl⟩
 obtain⟨N,hN⟩:∃N,zdq s.pieces=N:=⟨_,rfl⟩
 obtain⟨E,hE⟩:∃E,zdT s.pieces=E:=⟨_,rfl⟩
 rw[hL,hA,hN,hE]at e1
 simp only[hL,hA,hN,hE]
 clear hp hn1 hn2 hn3 hL hA hN hE hll
 by_cases hN2:200<N
 ·have c1:(200<(N:Int))=True:=eq_true (by omega)
  repeat'(first|refine rq fun _=>?_|simp only[go_sem,Nat.lt_irrefl,Int.lt_irrefl,c1,zad,zac,Tryz.f12])
  exact kr.out (by rw[e1,if_pos (.inl hN2)])
 have c1:(200<(N:Int))=False:=eq_false (by omega)
 by_cases hE2:40<E
 ·have c2:(40<(E:Int))=True:=eq_true (by omega)
  repeat'(first|refine rq fun _=>?_|simp only[go_sem,Nat.lt_irrefl,Int.lt_irrefl,c1,c2,zad,zac,Tryz.f12])
  exact kr.out (by rw[e1,if_pos (.inr hE2)])
 have c2:(40<(E:Int))=False:=eq_false (by omega)
 rw[if_neg (by omega)]at e1
 by_cases ho:300<s.overs.length
 ·have c3:(300<((s.overs.length:Nat):Int))=True:=eq_true (by omega)
  repeat'(first|refine rq fun _=>?_|simp only[go_sem,Nat.lt_irrefl,Int.lt_irrefl,c1,c2,c3,zad,zac,Tryz.f12])
  exact kr.out (by rw[e1,if_pos ho])
 have c3:(300<((s.overs.length:Nat):Int))=False:=eq_false (by omega)
 rw[if_neg ho]at e1
 repeat'(first|refine rq fun _=>?_|simp only[go_sem,Nat.lt_irrefl,Int.lt_irrefl,c1,c2,c3,zad,zac,Tryz.f12])
 refine zaJ hm zuU 12000 (lsw [55,82] []) (ι:=zjB s.overs.length m fun j=>(s.overs.take j).all (zck L A)=true)
  ⟨fun q=>⟨frL [(1,.ptr (12001,0) 0),(2,.ptr (12002,1) 0),(3,.ow (12055,g1) 1 (L.map enc)),(4,.ow (12082,g2) 1 (A.map enc)),(110,.fz (.sl (s.overs.map enc))),(111,.fz (.i .i64 s.overs.length)),(112,.fz (.i .i64 q.i))],
   hpL [((12001,0),some ⟨[.fz (.sl (s.pieces.map enc)),.fz (.sl (s.overs.map enc)),.fz (.sl (s.vars.map enc))],true,false⟩),((12002,1),some ⟨[.fz (.i .i64 0),.fz (.i .i64 0)],true,false⟩),((12055,g1),some tok),((12082,g2),some tok)],q.m⟩,fun q=>s.overs.length-q.i⟩
  ⟨0,m,by omega,by omega,by simp⟩ (by kernel_rfl) ?_ ?_
 ·refine zau ?_ ?_ ?_<;>simp only[go_sem]
 rintro⟨j,m',hj,hm',hal⟩
 try simp only at hj hm' hal
 rcases Nat.lt_or_ge j s.overs.length with h2|h2
 ·have hat:(s.overs.take (j+1)).all (zck L A)=((s.overs.take j).all (zck L A)&&zck L A s.overs[j]):=by
   rw[List.take_succ_eq_append_getElem h2,List.all_append];simp
  have hbd:zck L A s.overs[j]=false→s.overs.all (zck L A)=false:=fun hb=>by
   cases ha:s.overs.all (zck L A)with
   |false=>rfl
   |true=>rw[List.all_eq_true.1 ha _ (List.getElem_mem h2)]at hb;cases hb
  obtain⟨x,hx⟩:∃x,s.overs[j]=x:=⟨_,rfl⟩
  rw[hx]at hat hbd
  by_cases hxa:x.hole∈A
  ·by_cases hxl:x.label∈L
   ·repeat'(first|refine rq fun _=>?_|refine zaA.i hsz fun _=>?_|refine zaA.i hsp fun _=>?_|refine zaA.i (zaE (by first|omega|(simp only[List.length_map,List.length_append,List.length_cons,List.length_nil];omega)) (by decide)) fun _=>?_|refine rq fun _=>?_|simp only[go_sem,h2,hx,hxa,hxl,decide_true,zaa,zad,zac,Tryz.f12])
    refine⟨⟨j+1,m'+1,by omega,by omega,by rw[hat,hal];simp[zck,hxa,hxl]⟩,by simp only;omega,?_⟩
    refine zau ?_ ?_ ?_<;>simp only[go_sem]
   ·have hxl':=decide_eq_false hxl
    repeat'(first|refine rq fun _=>?_|refine zaA.i hsz fun _=>?_|refine zaA.i hsp fun _=>?_|refine zaA.i (zaE (by first|omega|(simp only[List.length_map,List.length_append,List.length_cons,List.length_nil];omega)) (by decide)) fun _=>?_|refine rq fun _=>?_|simp only[go_sem,h2,hx,hxa,hxl',decide_true,zaa,zad,zac,Tryz.f12])
    exact kr.out (by rw[e1,if_pos (hbd (by simp[zck,hxl]))])
  ·have hxa':=decide_eq_false hxa
   repeat'(first|refine rq fun _=>?_|refine zaA.i hsz fun _=>?_|refine zaA.i hsp fun _=>?_|refine zaA.i (zaE (by first|omega|(simp only[List.length_map,List.length_append,List.length_cons,List.length_nil];omega)) (by decide)) fun _=>?_|refine rq fun _=>?_|simp only[go_sem,h2,hx,hxa',zaa,zad,zac,Tryz.f12])
   exact kr.out (by rw[e1,if_pos (hbd (by simp[zck,hxa]))])
 obtain rfl:j=s.overs.length:=by omega
 rw[List.take_length]at hal
 rw[if_neg (by simp[hal])]at e1
 by_cases hv:6<s.vars.length
 ·have c4:(6<((s.vars.length:Nat):Int))=True:=eq_true (by omega)
  repeat'(first|refine rq fun _=>?_|simp only[go_sem,Nat.lt_irrefl,Int.lt_irrefl,c4,zad,zac,Tryz.f12])
  exact kr.out (by rw[e1,if_pos hv])
 have c4:(6<((s.vars.length:Nat):Int))=False:=eq_false (by omega)
 rw[if_neg hv]at e1
 repeat'(first|refine rq fun _=>?_|simp only[go_sem,Nat.lt_irrefl,Int.lt_irrefl,c4,zad,zac,Tryz.f12])
 refine zaJ hm zuU 12000 (lsw [55,82] []) (ι:=zg4 s.vars.length fun j=>zii (s.vars.take j) (s.vars.drop j)=zii [] s.vars)
  ⟨fun q=>⟨frL [(1,.ptr (12001,0) 0),(2,.ptr (12002,1) 0),(136,.fz (.sl (s.vars.map enc))),(137,.fz (.i .i64 s.vars.length)),(138,.fz (.i .i64 q.i))],
   hpL [((12001,0),some ⟨[.fz (.sl (s.pieces.map enc)),.fz (.sl (s.overs.map enc)),.fz (.sl (s.vars.map enc))],true,false⟩),((12002,1),some ⟨[.fz (.i .i64 0),.fz (.i .i64 0)],true,false⟩)],m'⟩,fun q=>s.vars.length-q.i⟩
  ⟨0,by omega,by simp⟩ (by kernel_rfl) ?_ ?_
 ·refine zau ?_ ?_ ?_<;>simp only[go_sem]
 rintro⟨j,hj,hvr⟩
 try simp only at hj hvr
 rcases Nat.lt_or_ge j s.vars.length with h2|h2
 ·rw[zqI h2]at hvr
  have et:s.vars.take (j+1)=s.vars.take j++[s.vars[j]]:=List.take_succ_eq_append_getElem h2
  obtain⟨x,hx⟩:∃x,s.vars[j]=x:=⟨_,rfl⟩
  rw[hx]at hvr et
  have bad:∀{c:Int},zvW (s.vars.take j) x=c→c≠0→zaZ s=⟨c, -3⟩:=fun h h3=>by
   rw[h,if_pos h3]at hvr
   rw[e1,←hvr,if_pos h3]
  cases hnm:zaq x with
  |false=>
   repeat'(first|refine rq fun _=>?_|refine zaA.i hsz fun _=>?_|refine zaA.i hsp fun _=>?_|refine zaA.i (zaE (by first|omega|(simp only[List.length_map,List.length_append,List.length_cons,List.length_nil];omega)) (by decide)) fun _=>?_|refine rq fun _=>?_|simp only[go_sem,h2,hx,hnm,zaa,zad,zac,Tryz.f12])
   exact kr.out (bad (by unfold zvW;rw[if_pos hnm]) (by decide))
  |true=>
  by_cases hm2:x∈s.vars.take j
  ·repeat'(first|refine rq fun _=>?_|refine zaA.i hsz fun _=>?_|refine zaA.i hsp fun _=>?_|refine zaA.i (zaE (by first|omega|(simp only[List.length_map,List.length_append,List.length_cons,List.length_nil];omega)) (by decide)) fun _=>?_|refine rq fun _=>?_|simp only[go_sem,h2,hx,hnm,hm2,hj,decide_true,zaa,←List.map_take,List.drop_zero,zad,zac,Tryz.f12])
   exact kr.out (bad (by unfold zvW;rw[if_neg (by simp[hnm]),if_pos hm2]) (by decide))
  ·have hm2':=decide_eq_false hm2
   repeat'(first|refine rq fun _=>?_|refine zaA.i hsz fun _=>?_|refine zaA.i hsp fun _=>?_|refine zaA.i (zaE (by first|omega|(simp only[List.length_map,List.length_append,List.length_cons,List.length_nil];omega)) (by decide)) fun _=>?_|refine rq fun _=>?_|simp only[go_sem,h2,hx,hnm,hm2',hj,zaa,←List.map_take,List.drop_zero,zad,zac,Tryz.f12])
   refine⟨⟨j+1,by omega,?_⟩,by simp only;omega,?_⟩
   ·rw[show zvW (s.vars.take j) x=0 by unfold zvW;rw[if_neg (by simp[hnm]),if_neg hm2],if_neg (by simp)]at hvr
    rw[et];exact hvr
   ·refine zau ?_ ?_ ?_<;>simp only[go_sem]
 obtain rfl:j=s.vars.length:=by omega
 rw[List.drop_length,zii]at hvr
 rw[←hvr,if_neg (by simp)]at e1
 repeat'(first|refine rq fun _=>?_|simp only[go_sem,Nat.lt_irrefl,Int.lt_irrefl,zad,zac,Tryz.f12])
 exact kr.out e1
end Go.Proofs.YtmconmiemdinkaaGreatDoor
namespace Go.Proofs.YtmconmiemdinkaaGreatDoor
open Go Go.Abs Go.Proofs
def X33:Tbl:=X32
attribute [go_sem] X33
theorem zFI:zai Tryz.prog GA X33:=zIn
end Go.Proofs.YtmconmiemdinkaaGreatDoor
