/- several texts of this proof in one; no conditions -/
import Derived.Test.YtdlioodgfopmfaaGreatDoorAT
import Derived.Test.YtdlioodgfopmfaaGreatDoorQ32
import Derived.Test.YtdlioodgfopmfaaGreatDoorLW
set_option maxRecDepth 100000
set_option maxHeartbeats 1000000
set_option linter.unusedSimpArgs false
namespace Go.Abs
open Go
theorem zCj {fr to:List Str}{f:Abs.zac}:swp fr to f= .mk f.kind (if isQ f.kind then zb8 fr to f.name else f.name) (f.words.map (zb8 fr to)) (f.subs.map (swp fr to)):=by cases f;rw[swp,zpF];rfl
theorem znl {fr to:List Str}{w:Str}{i:Nat}(h1:i<fr.length)(h2:i<to.length)(he:fr[i]=w):zb8 (fr.drop i) (to.drop i) w=to[i]:=by
 rw[List.drop_eq_getElem_cons h1,List.drop_eq_getElem_cons h2];unfold zb8;rw[if_pos he]
theorem zka {fr to:List Str}{w:Str}{i:Nat}(h1:i<fr.length)(h2:i<to.length)(he:¬fr[i]=w):zb8 (fr.drop i) (to.drop i) w=zb8 (fr.drop (i+1)) (to.drop (i+1)) w:=by
 rw[List.drop_eq_getElem_cons h1,List.drop_eq_getElem_cons h2];conv=>lhs;unfold zb8
 rw[if_neg he]
theorem znk {fr to:List Str}{w:Str}{i:Nat}(h:fr.length≤i):zb8 (fr.drop i) (to.drop i) w=w:=by
 rw[List.drop_of_length_le h];unfold zb8;rfl
end Go.Abs
namespace Go.Proofs.YtdlioodgfopmfaaGreatDoor
open Go Go.Abs Go.Proofs
def zlq:Tv:=(.q 0 (.q 1 (.q 2 (.q 3 (.q 4 (.q 5 (.q 6 .leaf)))))))
def zuh:Tv:=(.q 0 (.q 1 (.q 2 (.q 3 (.q 4 (.q 5 (.q 6 (.q 7 (.q 8 (.q 9 (.q 10 (.br [(11,(.q 12 (.br [(13,.leaf)])))]))))))))))))
def zud (f:Abs.zac)(fr to:List Str):Prop:=f.fit=true∧fr.length=to.length
def R9:Tbl:=R8.add 52 (sp3 (fun f fr to=>swp fr to f) zud)
attribute [go_sem] R9
set_option maxHeartbeats 8000000 in
theorem hR9:zap Tryz.prog GA R9:=by
 refine zt2 zac.size zHy hR8 fun n hT f fr to hn hpre hw hwf hwt=>?_
 obtain⟨hfit,hlen⟩:=hpre
 have la:=zh6 hwf
 simp only[List.length_map,zbp]at la
 obtain⟨hwl,hsl,hfs⟩:=zac.fit_eq hfit
 have hsz:∀g∈f.subs,g.size<n∧zud g fr to:=fun g hg=>⟨by have:=zac.size_sub hg;omega,zac.fits_mem hfs hg,hlen⟩
 obtain⟨nm2,hnm2⟩:∃nm2,(if isQ f.kind then zb8 fr to f.name else f.name)=nm2:=⟨_,rfl⟩
 obtain⟨wl,hwl2⟩:∃wl,f.words.map (zb8 fr to)=wl:=⟨_,rfl⟩
 obtain⟨A,hA⟩:∃A:Nat→List Abs.zac,A=fun j=>(f.subs.take j).map (swp fr to):=⟨_,rfl⟩
 have hA0:A 0=[]:=by rw[hA];rfl
 have hAs:∀j (h:j<f.subs.length),A (j+1)=A j++[swp fr to f.subs[j]]:=fun j h=>by rw[hA];simp only[List.take_succ_eq_append_getElem h,List.map_append,List.map_cons,List.map_nil]
 have hAl:∀j,(A j).length≤f.subs.length:=fun j=>by rw[hA];simp only[List.length_map,List.length_take];omega
 have hres:swp fr to f= .mk f.kind nm2 wl (A f.subs.length):=by rw[zCj,hnm2,hwl2,hA];simp only[List.take_length]
 rw[hres]
 have kT:=Kp.mk hT
 have kz:=Kp.mk hsz
 have kn:=Kp.mk hnm2
 have kA:=Kp.mk hAs
 have kL:=Kp.mk hAl
 clear hT hsz hnm2 hAs hAl hA hres hw hwf hwt hfit hfs hn
 refine zah (N:=95) hm kT.out 52000 (lsw [45,91] [1000017,1000023]) zHy Tryz.func52 rfl rfl (by simp) (by kernel_rfl) ?_
 repeat'(first|refine rq fun _=>?_|refine zaj.i (zat (by first|omega|(simp only[List.length_map,List.length_append,List.length_cons,List.length_nil];omega)) (by decide)) fun _=>?_|refine rq fun _=>?_|simp only[go_sem,Tryz.f52])
 refine zaL (zaM (id:=(52003,0)) (t:=3) (b:=true) (ys:=[.i .i64 f.kind,.s f.name.l,.sl (f.words.map enc),.sl (f.subs.map enc)]) (by simp only[go_sem]) (by simp only[go_sem])) ?_
 refine zao hm kT.out 52000 (lsw [45,91] [1000017,1000023]) (ι:=zkj f.words.length 5 fun _=>True)
  ⟨fun q=>⟨frL [(1,.fz (.sl (fr.map enc))),(2,.fz (.sl (to.map enc))),(3,.rp [.i .i64 f.kind,.s f.name.l,.sl (f.words.map enc),.sl (f.subs.map enc)]),(6,.ptr (52006,1) 0),(7,.ptr (52007,2) 0),(19,.fz (.sl (f.words.map enc))),(20,.fz (.i .i64 f.words.length)),(21,.fz (.i .i64 q.i))],
   hpL [((52006,1),some ⟨[.fz (.i .i64 0),.fz (.s []),.full [],.full []],true,false⟩),((52007,2),some ⟨[.fz (.i .i64 f.kind),.fz (.s f.name.l),.ow (52045,q.g) 1 (((f.words.take q.i).map (zb8 fr to)).map enc),.ow (52091,3) 4 ([])],true,false⟩),((52045,q.g),some tok),((52091,3),some tok)],q.m⟩,fun q=>f.words.length-q.i⟩
  ⟨0,4,5,by omega,by omega,by omega,trivial⟩ (by kernel_rfl) ?_ ?_
 ·refine zbl [] [(52091,3),(52045,4)] [] ?_ ?_ ?_ ?_ ?_<;>simp only[go_sem]
  all_goals first|done|rfl
 rintro⟨i,g1,m1,hi,hg1,hm1,_⟩
 try simp only at hi hg1 hm1
 rcases Nat.lt_or_ge i f.words.length with h1|h1
 ·obtain⟨w,hwi⟩:∃w,f.words[i]=w:=⟨_,rfl⟩
  have e4:((f.words.take (i+1)).map (zb8 fr to))=((f.words.take i).map (zb8 fr to))++[zb8 fr to w]:=by rw[List.take_succ_eq_append_getElem h1,hwi,List.map_append];rfl
  have e5:((f.words.take i).map (zb8 fr to)).length=i:=by rw[List.length_map,List.length_take];omega
  obtain⟨ws,hws⟩:∃ws,(f.words.take i).map (zb8 fr to)=ws:=⟨_,rfl⟩
  rw[hws]at e4 e5
  obtain⟨v,hv⟩:∃v,zb8 fr to w=v:=⟨_,rfl⟩
  rw[hv]at e4
  repeat'(first|refine rq fun _=>?_|refine zaj.i (zat (by first|omega|(simp only[List.length_map,List.length_append,List.length_cons,List.length_nil];omega)) (by decide)) fun _=>?_|refine rq fun _=>?_|simp only[go_sem,h1,hwi,hws,zad,zaa,Tryz.f52])
  refine zao hm kT.out 52000 (lsw [45,91] [1000017,1000023]) (ι:=zcO fr.length fun p=>v=zb8 (fr.drop p) (to.drop p) w)
   ⟨fun q=>⟨frL [(1,.fz (.sl (fr.map enc))),(2,.fz (.sl (to.map enc))),(3,.rp [.i .i64 f.kind,.s f.name.l,.sl (f.words.map enc),.sl (f.subs.map enc)]),(6,.ptr (52006,1) 0),(7,.ptr (52007,2) 0),(9,.fz (.s w.l)),(19,.fz (.sl (f.words.map enc))),(20,.fz (.i .i64 f.words.length)),(21,.fz (.i .i64 i)),(26,.fz (.i .i64 fr.length)),(27,.fz (.i .i64 q.i))],
    hpL [((52006,1),some ⟨[.fz (.i .i64 0),.fz (.s []),.full [],.full []],true,false⟩),((52007,2),some ⟨[.fz (.i .i64 f.kind),.fz (.s f.name.l),.ow (52045,g1) 1 (ws.map enc),.ow (52091,3) 4 ([])],true,false⟩),((52045,g1),some tok),((52091,3),some tok)],m1⟩,fun q=>fr.length-q.i⟩
   ⟨0,by omega,hv.symm⟩ (by kernel_rfl) ?_ ?_
  ·refine zai ?_ ?_ ?_<;>simp only[go_sem]
  rintro⟨p,hp,hl⟩
  try simp only at hp hl
  rcases Nat.lt_or_ge p fr.length with h2|h2
  ·have h3:p<to.length:=by omega
   by_cases he:fr[p]=w
   ·have hl2:=hl.trans (znl h2 h3 he)
    have he':fr[p].l=w.l:=by rw[he]
    repeat'(first|refine rq fun _=>?_|refine zaj.i (zat (by first|omega|(simp only[List.length_map,List.length_append,List.length_cons,List.length_nil];omega)) (by decide)) fun _=>?_|refine rq fun _=>?_|simp only[go_sem,h1,h2,h3,he',hwi,zaa,Tryz.f52])
    refine⟨⟨i+1,m1,m1+1,by omega,by omega,by omega,trivial⟩,by simp only;omega,?_⟩
    refine zai ?_ ?_ ?_<;>simp only[go_sem,e4,List.map_append,hl2]
   ·have hl2:=hl.trans (zka h2 h3 he)
    have he':¬fr[p].l=w.l:=fun e=>he (by cases h7:fr[p];cases w;rw[h7]at e;simp only at e;rw[e])
    repeat'(first|refine rq fun _=>?_|refine zaj.i (zat (by first|omega|(simp only[List.length_map,List.length_append,List.length_cons,List.length_nil];omega)) (by decide)) fun _=>?_|refine rq fun _=>?_|simp only[go_sem,h1,h2,h3,he',hwi,zaa,Tryz.f52])
    refine⟨⟨p+1,by omega,hl2⟩,by simp only;omega,?_⟩
    refine zai ?_ ?_ ?_<;>simp only[go_sem]
  ·obtain rfl:p=fr.length:=by omega
   have hl2:=hl.trans (znk (Nat.le_refl _))
   repeat'(first|refine rq fun _=>?_|refine zaj.i (zat (by first|omega|(simp only[List.length_map,List.length_append,List.length_cons,List.length_nil];omega)) (by decide)) fun _=>?_|refine rq fun _=>?_|simp only[go_sem,h1,Nat.lt_irrefl,hwi,Tryz.f52])
   refine⟨⟨i+1,m1,m1+1,by omega,by omega,by omega,trivial⟩,by simp only;omega,?_⟩
   refine zai ?_ ?_ ?_<;>simp only[go_sem,e4,List.map_append,hl2]
 ·obtain rfl:i=f.words.length:=by omega
  by_cases hq:isQ f.kind
  case' pos=>
   have hn2:=kn.out
   rw[if_pos hq]at hn2
   unfold isQ at hq
   have hq8:((f.kind=8)=True∧(f.kind=8)=True)∨((f.kind=8)=False∧(f.kind=9)=True):=by
    rcases hq with h|h
    ·exact .inl ⟨eq_true h,eq_true h⟩
    ·exact .inr ⟨eq_false (by omega),eq_true h⟩
   rcases hq8 with⟨h8,h9⟩|⟨h8,h9⟩
   all_goals
    repeat'(first|refine rq fun _=>?_|refine zaj.i (zat (by first|omega|(simp only[List.length_map,List.length_append,List.length_cons,List.length_nil];omega)) (by decide)) fun _=>?_|refine rq fun _=>?_|simp only[go_sem,h8,h9,Nat.lt_irrefl,List.take_length,hwl2,zad,Tryz.f52])
    refine zao hm kT.out 52000 (lsw [45,91] [1000017,1000023]) (ι:=zcO fr.length fun p=>nm2=zb8 (fr.drop p) (to.drop p) f.name)
     ⟨fun q=>⟨frL [(1,.fz (.sl (fr.map enc))),(2,.fz (.sl (to.map enc))),(3,.rp [.i .i64 f.kind,.s f.name.l,.sl (f.words.map enc),.sl (f.subs.map enc)]),(6,.ptr (52006,1) 0),(7,.ptr (52007,2) 0),(57,.fz (.i .i64 fr.length)),(58,.fz (.i .i64 q.i))],
      hpL [((52006,1),some ⟨[.fz (.i .i64 0),.fz (.s []),.full [],.full []],true,false⟩),((52007,2),some ⟨[.fz (.i .i64 f.kind),.fz (.s f.name.l),.ow (52045,g1) 1 (wl.map enc),.ow (52091,3) 4 ([])],true,false⟩),((52091,3),some tok)],m1⟩,fun q=>fr.length-q.i⟩
     ⟨0,by omega,hn2.symm⟩ (by kernel_rfl) ?_ ?_
    ·refine zai ?_ ?_ ?_<;>simp only[go_sem]
    rintro⟨p,hp,hl⟩
    try simp only at hp hl
    rcases Nat.lt_or_ge p fr.length with h2|h2
    have h3:p<to.length:=by omega
    by_cases he:fr[p]=f.name
    case' pos=>
     have hl2:=hl.trans (znl h2 h3 he)
     have he':fr[p].l=f.name.l:=by rw[he]
     repeat'(first|refine rq fun _=>?_|refine zaj.i (zat (by first|omega|(simp only[List.length_map,List.length_append,List.length_cons,List.length_nil];omega)) (by decide)) fun _=>?_|refine rq fun _=>?_|simp only[go_sem,h2,h3,he',zaa,Tryz.f52])
     refine zae hm kT.out 52000 (lsw [45,91] [1000017,1000023]) zlq (by kernel_rfl) (by kernel_rfl) ?_
     repeat'(first|refine And.intro ?_ ?_|exact True.intro|refine rq fun _=>?_|refine zaj.i (zat (by first|omega|(simp only[List.length_map,List.length_append,List.length_cons,List.length_nil];omega)) (by decide)) fun _=>?_|refine rq fun _=>?_|simp only[go_sem,zlq,h2,h3,he',zaa,Tryz.f52])
    case neg=>
     have hl2:=hl.trans (zka h2 h3 he)
     have he':¬fr[p].l=f.name.l:=fun e=>he (by cases h7:fr[p];cases h8:f.name;rw[h7,h8]at e;simp only at e;rw[e])
     repeat'(first|refine rq fun _=>?_|refine zaj.i (zat (by first|omega|(simp only[List.length_map,List.length_append,List.length_cons,List.length_nil];omega)) (by decide)) fun _=>?_|refine rq fun _=>?_|simp only[go_sem,h2,h3,he',zaa,Tryz.f52])
     refine zae hm kT.out 52000 (lsw [45,91] [1000017,1000023]) zlq (by kernel_rfl) (by kernel_rfl) ?_
     repeat'(first|refine And.intro ?_ ?_|exact True.intro|refine rq fun _=>?_|refine zaj.i (zat (by first|omega|(simp only[List.length_map,List.length_append,List.length_cons,List.length_nil];omega)) (by decide)) fun _=>?_|refine rq fun _=>?_|simp only[go_sem,zlq,h2,h3,he',zaa,Tryz.f52])
     refine⟨⟨p+1,by omega,hl2⟩,by simp only;omega,?_⟩
     refine zai ?_ ?_ ?_<;>simp only[go_sem]
    case' inr=>
     obtain rfl:p=fr.length:=by omega
     have hl2:=hl.trans (znk (Nat.le_refl _))
     repeat'(first|refine rq fun _=>?_|refine zaj.i (zat (by first|omega|(simp only[List.length_map,List.length_append,List.length_cons,List.length_nil];omega)) (by decide)) fun _=>?_|refine rq fun _=>?_|simp only[go_sem,Nat.lt_irrefl,Tryz.f52])
  case' neg=>
   have hl2:=kn.out.symm
   rw[if_neg hq]at hl2
   unfold isQ at hq
   have h8:(f.kind=8)=False:=eq_false fun h=>hq (.inl h)
   have h9:(f.kind=9)=False:=eq_false fun h=>hq (.inr h)
   repeat'(first|refine rq fun _=>?_|refine zaj.i (zat (by first|omega|(simp only[List.length_map,List.length_append,List.length_cons,List.length_nil];omega)) (by decide)) fun _=>?_|refine rq fun _=>?_|simp only[go_sem,h8,h9,Nat.lt_irrefl,List.take_length,hwl2,zad,Tryz.f52])
  all_goals
   refine zao hm kT.out 52000 (lsw [45,91] [1000017,1000023]) (ι:=zkj f.subs.length 5 fun _=>True)
    ⟨fun q=>⟨frL [(1,.fz (.sl (fr.map enc))),(2,.fz (.sl (to.map enc))),(3,.rp [.i .i64 f.kind,.s f.name.l,.sl (f.words.map enc),.sl (f.subs.map enc)]),(6,.ptr (52006,1) 0),(7,.ptr (52007,2) 0),(76,.fz (.i .i64 f.subs.length)),(77,.fz (.i .i64 q.i))],
     hpL [((52006,1),some ⟨[.fz (.i .i64 0),.fz (.s []),.full [],.full []],true,false⟩),((52007,2),some ⟨[.fz (.i .i64 f.kind),.fz (.s nm2.l),.ow (52045,g1) 1 (wl.map enc),.ow (52091,q.g) 4 ((A q.i).map enc)],true,false⟩),((52091,q.g),some tok)],q.m⟩,fun q=>f.subs.length-q.i⟩
    ⟨0,3,m1+10,by omega,by omega,by omega,trivial⟩ (by kernel_rfl) ?_ ?_
   ·refine zai ?_ ?_ ?_<;>(try simp only[go_sem,hA0,hl2])
    all_goals first|done|omega
   rintro⟨j,g2,m2,hj,hg2,hm2,_⟩
   try simp only at hj hg2 hm2
   rcases Nat.lt_or_ge j f.subs.length with h2|h2
   ·have hms:=kA.out j h2
    have hml:=kL.out j
    have hsz:=kz.out _ (List.getElem_mem h2)
    obtain⟨x,hx⟩:∃x,f.subs[j]=x:=⟨_,rfl⟩
    rw[hx]at hms hsz
    repeat'(first|refine zaj.i hsz fun _=>?_|refine rq fun _=>?_|refine zaj.i (zat (by first|omega|(simp only[List.length_map,List.length_append,List.length_cons,List.length_nil];omega)) (by decide)) fun _=>?_|refine rq fun _=>?_|simp only[go_sem,h2,hx,zaa,Tryz.f52])
    refine zae hm kT.out 52000 (lsw [45,91] [1000017,1000023]) zuh (by kernel_rfl) (by kernel_rfl) ?_
    repeat'(first|refine And.intro ?_ ?_|exact True.intro|refine zaj.i hsz fun _=>?_|refine rq fun _=>?_|refine zaj.i (zat (by first|omega|(simp only[List.length_map,List.length_append,List.length_cons,List.length_nil];omega)) (by decide)) fun _=>?_|refine rq fun _=>?_|simp only[go_sem,zuh,h2,hx,zaa,Tryz.f52])
    all_goals
     refine⟨⟨j+1,m2,m2+10,by omega,by omega,by omega,trivial⟩,by simp only;omega,?_⟩
     refine zai ?_ ?_ ?_<;>(try simp only[go_sem,hms,List.map_append])
     all_goals first|done|omega
   ·obtain rfl:j=f.subs.length:=by omega
    repeat'(first|refine rq fun _=>?_|refine zaj.i (zat (by first|omega|(simp only[List.length_map,List.length_append,List.length_cons,List.length_nil];omega)) (by decide)) fun _=>?_|refine rq fun _=>?_|simp only[go_sem,Nat.lt_irrefl,Tryz.f52])
end Go.Proofs.YtdlioodgfopmfaaGreatDoor
namespace Go.Proofs.YtdlioodgfopmfaaGreatDoor
open Go Go.Abs Go.Proofs
theorem zxS:∀{fr to:List Str},fr.length=to.length→(List.zipWith Abs.zaR.mk fr to).map (·.fr)=fr∧(List.zipWith Abs.zaR.mk fr to).map (·.to)=to
 |[],[],_=>⟨rfl,rfl⟩
 |a::fr,b::to,h=>by
  have:=zxS (fr:=fr) (to:=to) (by simpa using h)
  simp only[List.zipWith_cons_cons,List.map_cons,this.1,this.2,and_self]
theorem zq0 (i:Nat):zdX (i+1)=zdX i++[znO i]:=by unfold zdX;rw[List.range_succ,List.map_append];rfl
theorem zqZ (us:List Str)(i:Nat):zee us (i+1)=zee us i++[zdR (zbR us (ctr us 0 i))]:=by unfold zee;rw[List.range_succ,List.map_append];rfl
theorem ztz (i:Nat):(zdX i).length=i:=by unfold zdX;rw[List.length_map,List.length_range]
theorem zts (us:List Str)(i:Nat):(zee us i).length=i:=by unfold zee;rw[List.length_map,List.length_range]
theorem zxb (us:List Str):∀i,ctr us 0 i≤i*(us.length+1)
 |0=>by simp[ctr]
 |i+1=>by
  rw[zhR,Nat.add_mul,Nat.one_mul]
  have h1:=zxb us i
  have h2:=(za4 us (ctr us 0 i)).2.1
  omega
structure zDW (len n0:Nat) where
 i:Nat
 g1:Nat
 g2:Nat
 m:Nat
 hi:i≤len
 h1:g1<m
 h2:g2<m
 hm:n0≤m
structure zH0 (us:List Str)(k0:Nat) where
 k:Nat
 hk:k0≤k
 h:zbR us k=zbR us k0
def zpV (f:Abs.zac)(fr to:List Str):Prop:=f.fit=true∧f.size≤1000∧fr.length=to.length∧fr.length≤1000
def R10:Tbl:=R9.add 28 (sp3 (fun f fr to=>zje f (List.zipWith Abs.zaR.mk fr to)) zpV)
attribute [go_sem] R10
set_option maxHeartbeats 8000000 in
theorem zGg:zap Tryz.prog GA R10:=by
 refine zhx zHj hR9 fun f fr to hpre hw _ _=>?_
 obtain⟨hfit,hsz,hlen,hle⟩:=hpre
 obtain⟨z1,z2⟩:=zxS hlen
 obtain⟨env,henv⟩:∃env,List.zipWith Abs.zaR.mk fr to=env:=⟨_,rfl⟩
 rw[henv]at z1 z2 ⊢
 have hel:env.length≤1000:=by rw[←z1,List.length_map]at hle;exact hle
 have h183:=f51 (ga:=2) f.size f env 0 3 (hpL [((28006,1),some ⟨[.fz (.i .i64 0),.fz (.s []),.full [],.full []],true,false⟩)]) (Nat.le_refl _) hw hfit (by omega) (by omega) (by omega) (fun id o ho=>by
  simp only[hpL]at ho
  split at ho
  ·rename_i e;subst e;simp only;omega
  ·cases ho)
 rw[z1,z2]at h183
 obtain⟨g,hg⟩:∃g,(ren bg f env 0).1=g:=⟨_,rfl⟩
 obtain⟨c2,hc2⟩:∃c2,(ren bg f env 0).2=c2:=⟨_,rfl⟩
 have hc2l:c2≤1000:=by have:=((zgu zve).1 f env 0).2;omega
 have hgs:g.size≤1000:=by rw[←hg,zla];exact hsz
 have hgf:g.fit=true:=by rw[←hg,zot];exact hfit
 obtain⟨us,hus⟩:∃us,zgR g [] []=us:=⟨_,rfl⟩
 have hul:us.length≤1000000:=by
  have:=zo5 g [] [] hgf
  rw[hus]at this;simp only[List.length_nil]at this;omega
 have hres:zje f env=swp (zdX c2) (zee us c2) g:=by
  unfold zje zoH zol;rw[hg,hc2,hus]
 obtain⟨r,hr⟩:∃r,swp (zdX c2) (zee us c2) g=r:=⟨_,rfl⟩
 rw[hres,hr]
 rw[hg,hc2]at h183
 rw[zaO (f:=f)]at h183
 clear hres z1 z2 henv hlen hg hc2 hw
 refine zah (N:=62) hm hR9 28000 (lsw [30,49,55] []) zHj Tryz.func28 rfl rfl (by simp) (by kernel_rfl) ?_
 repeat'(first|refine rq fun _=>?_|refine zaj.i (zat (by first|omega|(simp only[List.length_map,List.length_append,List.length_cons,List.length_nil];omega)) (by decide)) fun _=>?_|refine rq fun _=>?_|refine zaj.i ⟨by omega,by omega⟩ fun _=>?_|simp only[go_sem,Tryz.f28])
 refine zaI.i (zfh rfl (zdq (by simp only[go_sem,zhD]) (by simp only[go_sem,HM];try rfl) (fun id o ho=>?_) (Nat.le_refl _) (zbc h183 ?_)))
 ·simp only[hpL]at ho
  split at ho
  ·rename_i e;subst e;simp only[go_sem];exact Option.some.inj ho
  ·cases ho
 rintro d' H' n1 ⟨rfl,e1,e2,e3⟩
 have b6:=e3 (28006,1) ⟨[.fz (.i .i64 0),.fz (.s []),.full [],.full []],true,false⟩ (by simp only[go_sem])
 simp only[go_sem,HM]at e2
 have b7:=e2
 clear e3 e2
 rw[show H'=hpX [] H' from rfl,zaO (f:=g)]
 repeat'(first|refine zaj.i ⟨hgf,hgs⟩ fun _=>?_|refine rq fun _=>?_|refine zaj.i (zat (by first|omega|(simp only[List.length_map,List.length_append,List.length_cons,List.length_nil];omega)) (by decide)) fun _=>?_|refine rq fun _=>?_|refine zaj.i ⟨by omega,by omega⟩ fun _=>?_|simp only[go_sem,b6,b7,hgf,hgs,hus,zab,Tryz.f28])
 refine zaL (zai (l:=[(6,.ptr (28006,1) 0),(7,.ptr (28007,2) 0),(8,.ptr (28008,n1) 0),(9,.full []),(21,.fz (.sl (us.map enc))),(22,.fz (.i .i64 us.length)),(23,.fz (.i .i64 0))]) (hl:=[((28006,1),some ⟨[.fz (.i .i64 0),.fz (.s []),.full [],.full []],true,false⟩),((28007,2),some ⟨[.fz (.i .i64 (c2:Nat))],true,false⟩),((28008,n1),some ⟨[.fz (.i .i64 g.kind),.fz (.s g.name.l),.fz (.sl (g.words.map enc)),.fz (.sl (g.subs.map enc))],true,false⟩)]) (n:=n1+1) ?_ ?_ ?_) ?_
 ·simp only[go_sem]
 ·simp only[go_sem,b6,b7]
 ·simp only[go_sem]
 clear b6 b7
 refine zao hm hR9 28000 (lsw [30,49,55] []) (ι:=zkj us.length (n1+2) fun _=>True)
  ⟨fun q=>⟨frL [(6,.ptr (28006,1) 0),(7,.ptr (28007,2) 0),(8,.ptr (28008,n1) 0),(9,.ow (28030,q.g) 1 ((us.take q.i).map enc)),(21,.fz (.sl (us.map enc))),(22,.fz (.i .i64 us.length)),(23,.fz (.i .i64 q.i))],
   hpL [((28006,1),some ⟨[.fz (.i .i64 0),.fz (.s []),.full [],.full []],true,false⟩),((28007,2),some ⟨[.fz (.i .i64 (c2:Nat))],true,false⟩),((28008,n1),some ⟨[.fz (.i .i64 g.kind),.fz (.s g.name.l),.fz (.sl (g.words.map enc)),.fz (.sl (g.subs.map enc))],true,false⟩),((28030,q.g),some tok)],q.m⟩,fun q=>us.length-q.i⟩
  ⟨0,n1+1,n1+2,by omega,by omega,by omega,trivial⟩ (by kernel_rfl) ?_ ?_
 ·refine zbl [] [(28030,n1+1)] [] ?_ ?_ ?_ ?_ ?_<;>simp only[go_sem]
  all_goals first|done|rfl|omega|(repeat'(first|omega|rfl|apply And.intro))
 rintro⟨i,gg,m,hi,hgg,hmm,_⟩
 try simp only at hi hgg hmm
 rcases Nat.lt_or_ge i us.length with h1|h1
 ·obtain⟨w,hwi⟩:∃w,us[i]=w:=⟨_,rfl⟩
  have e3:=List.take_succ_eq_append_getElem h1
  rw[hwi]at e3
  have e5:(us.take i).length=i:=by rw[List.length_take];omega
  obtain⟨ut,hut⟩:∃ut,us.take i=ut:=⟨_,rfl⟩
  rw[hut]at e3 e5
  repeat'(first|refine rq fun _=>?_|refine zaj.i (zat (by first|omega|(simp only[List.length_map,List.length_append,List.length_cons,List.length_nil];omega)) (by decide)) fun _=>?_|refine rq fun _=>?_|refine zaj.i ⟨by omega,by omega⟩ fun _=>?_|simp only[go_sem,h1,hwi,hut,zad,zaa,Tryz.f28])
  refine⟨⟨i+1,m,m+1,by omega,by omega,by omega,trivial⟩,by simp only;omega,?_⟩
  refine zai ?_ ?_ ?_<;>simp only[go_sem,e3,List.map_append]
 obtain rfl:i=us.length:=by omega
 repeat'(first|refine rq fun _=>?_|refine zaj.i (zat (by first|omega|(simp only[List.length_map,List.length_append,List.length_cons,List.length_nil];omega)) (by decide)) fun _=>?_|refine rq fun _=>?_|refine zaj.i ⟨by omega,by omega⟩ fun _=>?_|simp only[go_sem,Nat.lt_irrefl,List.take_length,Tryz.f28])
 refine zao hm hR9 28000 (lsw [30,49,55] []) (ι:=zDW c2 (m+2))
  ⟨fun q=>⟨frL [(6,.ptr (28006,1) 0),(7,.ptr (28007,2) 0),(8,.ptr (28008,n1) 0),(9,.fz (.sl (us.map enc))),(12,.ow (28049,q.g1) 1 ((zdX q.i).map enc)),(13,.ow (28055,q.g2) 1 ((zee us q.i).map enc)),(14,.fz (.i .i64 (ctr us 0 q.i:Nat))),(15,.fz (.i .i64 q.i))],
   hpL [((28006,1),some ⟨[.fz (.i .i64 0),.fz (.s []),.full [],.full []],true,false⟩),((28007,2),some ⟨[.fz (.i .i64 (c2:Nat))],true,false⟩),((28008,n1),some ⟨[.fz (.i .i64 g.kind),.fz (.s g.name.l),.fz (.sl (g.words.map enc)),.fz (.sl (g.subs.map enc))],true,false⟩),((28049,q.g1),some tok),((28055,q.g2),some tok)],q.m⟩,fun q=>c2-q.i⟩
  ⟨0,m,m+1,m+2,by omega,by omega,by omega,by omega⟩ (by kernel_rfl) ?_ ?_
 ·refine zbl [] [(28049,m),(28055,m+1)] [] ?_ ?_ ?_ ?_ ?_<;>simp only[go_sem]
  all_goals first|done|rfl|omega|(repeat'(first|omega|rfl|apply And.intro))
 rintro⟨i,ga,gb,m2,hi2,hga,hgb,hm2⟩
 try simp only at hi2 hga hgb hm2
 have hol:=ztz i
 have hnl:=zts us i
 have hcl:=zxb us i
 rcases Nat.lt_or_ge i c2 with h2|h2
 ·have hos:=zq0 i
  have hns:=zqZ us i
  have hcs:=zhR us i 0
  obtain⟨ol,hole⟩:∃ol,zdX i=ol:=⟨_,rfl⟩
  obtain⟨nl,hnle⟩:∃nl,zee us i=nl:=⟨_,rfl⟩
  obtain⟨k0,hk0⟩:∃k0,ctr us 0 i=k0:=⟨_,rfl⟩
  rw[hole]at hol hos
  rw[hnle]at hnl hns
  rw[hk0]at hcl hns hcs
  have hkb:i*(us.length+1)≤1000*1000001:=Nat.mul_le_mul (by omega) (by omega)
  have hnx:=za4 us k0
  repeat'(first|refine rq fun _=>?_|refine zaj.i (zat (by first|omega|(simp only[List.length_map,List.length_append,List.length_cons,List.length_nil];omega)) (by decide)) fun _=>?_|refine rq fun _=>?_|refine zaj.i ⟨by omega,by omega⟩ fun _=>?_|simp only[go_sem,h2,hole,hnle,hk0,Tryz.f28])
  refine zao hm hR9 28000 (lsw [30,49,55] []) (ι:=zH0 us k0)
   ⟨fun q=>⟨frL [(6,.ptr (28006,1) 0),(7,.ptr (28007,2) 0),(8,.ptr (28008,n1) 0),(9,.fz (.sl (us.map enc))),(12,.ow (28049,ga) 1 (ol.map enc)),(13,.ow (28055,gb) 1 (nl.map enc)),(14,.fz (.i .i64 q.k)),(15,.fz (.i .i64 i))],
    hpL [((28006,1),some ⟨[.fz (.i .i64 0),.fz (.s []),.full [],.full []],true,false⟩),((28007,2),some ⟨[.fz (.i .i64 (c2:Nat))],true,false⟩),((28008,n1),some ⟨[.fz (.i .i64 g.kind),.fz (.s g.name.l),.fz (.sl (g.words.map enc)),.fz (.sl (g.subs.map enc))],true,false⟩),((28049,ga),some tok),((28055,gb),some tok)],m2⟩,fun q=>zbR us k0-q.k⟩
   ⟨k0,Nat.le_refl _,rfl⟩ (by kernel_rfl) ?_ ?_
  ·refine zai ?_ ?_ ?_<;>simp only[go_sem]
  rintro⟨k,hk,hke⟩
  try simp only at hk hke
  have hkn:=za4 us k
  have hdl:=zcP k
  have hdi:=zcP i
  rw[hke]at hkn
  by_cases hin:zdR k∈us
  ·have h3:=zps hin
   have h4:=(za4 us (k+1)).1
   rw[←h3,hke]at h4
   have hin':Str.mk (118::zaP k)∈us:=hin
   repeat'(first|refine rq fun _=>?_|refine zaj.i (zat (by first|omega|(simp only[List.length_map,List.length_append,List.length_cons,List.length_nil];omega)) (by decide)) fun _=>?_|refine rq fun _=>?_|refine zaj.i ⟨by omega,by omega⟩ fun _=>?_|simp only[go_sem,hin',zo8,Tryz.f28])
   refine⟨⟨k+1,by omega,by rw[←h3];exact hke⟩,by simp only;omega,?_⟩
   refine zai ?_ ?_ ?_<;>simp only[go_sem]
  ·have h3:=zmV hin
   rw[hke]at h3
   have hin':Str.mk (118::zaP k)∉us:=hin
   repeat'(first|refine rq fun _=>?_|refine zaj.i (zat (by first|omega|(simp only[List.length_map,List.length_append,List.length_cons,List.length_nil];omega)) (by decide)) fun _=>?_|refine rq fun _=>?_|refine zaj.i ⟨by omega,by omega⟩ fun _=>?_|simp only[go_sem,hin',zo8,Tryz.f28])
   refine⟨⟨i+1,m2,m2+1,m2+10,by omega,by omega,by omega,by omega⟩,by simp only;omega,?_⟩
   refine zai ?_ ?_ ?_<;>(try simp only[go_sem,hos,hns,hcs,h3,znO,zdR,List.map_append])
   all_goals first|done|omega|rfl
 ·obtain rfl:i=c2:=by omega
  have hsp:zud g (zdX i) (zee us i):=⟨hgf,by rw[hol,hnl]⟩
  repeat'(first|refine zaj.i hsp fun _=>?_|refine rq fun _=>?_|refine zaj.i (zat (by first|omega|(simp only[List.length_map,List.length_append,List.length_cons,List.length_nil];omega)) (by decide)) fun _=>?_|refine rq fun _=>?_|refine zaj.i ⟨by omega,by omega⟩ fun _=>?_|simp only[go_sem,Nat.lt_irrefl,hr,hsp,zab,Tryz.f28])
def R11:Tbl:=R10.add 20 (sp1 (fun f=>zje f []) fun f=>f.fit=true∧f.size≤1000)
attribute [go_sem] R11
theorem zGh:zap Tryz.prog GA R11:=by
 refine zbM zHf zGg fun f hpre _=>?_
 have hp:zpV f [] []:=⟨hpre.1,hpre.2,rfl,by simp⟩
 have hz:List.zipWith Abs.zaR.mk [] []=[]:=rfl
 obtain⟨r,hr⟩:∃r,zje f []=r:=⟨_,rfl⟩
 rw[hr]
 refine zah (N:=5) hm zGg 20000 (lst []) zHf Tryz.func20 rfl rfl (by simp) (by kernel_rfl) ?_
 repeat'(first|refine rq fun _=>?_|refine zaj.i hp fun _=>?_|simp only[go_sem,hz,hr,zab,Tryz.f20])
end Go.Proofs.YtdlioodgfopmfaaGreatDoor
