/- several texts of this proof in one; no conditions -/
import Derived.Test.YtkkffhphodngkaaDoorAT
import Derived.Test.YtkkffhphodngkaaDoorY14
import Derived.Test.YtkkffhphodngkaaDoorY9
import Derived.Test.YtkkffhphodngkaaDoorY11
set_option maxRecDepth 100000
set_option maxHeartbeats 1000000
set_option linter.unusedSimpArgs false
namespace Go.Proofs.YtkkffhphodngkaaDoor
open Go Go.Abs Go.Proofs
section
variable {G:Nat→List FD}
def zqK (m:zal)(size n:Int):zal:=zdg (m.consts.map (·.name)) (m.rels.map zks) size.toNat n.toNat
structure zCH (m:zal)(size n:Int):Prop where
 s:1≤size∧size≤4
 n:0≤n
 a:∀r∈m.rels,0≤r.arity∧r.arity≤3
 c:m.consts.length≤100000000
 r:m.rels.length≤100000000
 z:∀k∈m.consts,k.value=0
 k:zaQ size.toNat (m.rels.map zks)≤1000
theorem zvK:∀{ns:List Str} {vs:List Int} {p:Nat} {v:Int},p<ns.length→vs.length=ns.length→(zae ((List.zipWith zaF.mk ns vs).map enc)).set (p*2+1) (.fz (.i .i64 v))=zae ((List.zipWith zaF.mk ns (vs.set p v)).map enc)
 |[],_,_,_,h,_=>by simp at h
 |_::_,[],_,_,_,h=>by simp at h
 |_::ns,_::vs,0,v,_,_=>rfl
 |x::ns,y::vs,p+1,v,h,h2=>by
  have ih:=zvK (ns:=ns) (vs:=vs) (p:=p) (v:=v) (by simpa using h) (by simpa using h2)
  rw[List.set_cons_succ,List.zipWith_cons_cons,List.zipWith_cons_cons,List.map_cons,List.map_cons]
  show(.fz (.s x.l):: .fz (.i .i64 y)::zae ((List.zipWith zaF.mk ns vs).map enc)).set _ _= .fz (.s x.l):: .fz (.i .i64 y)::zae ((List.zipWith zaF.mk ns (vs.set p v)).map enc)
  rw[←ih,show(p+1)*2+1=(p*2+1)+1+1 by omega,List.set_cons_succ,List.set_cons_succ]
theorem zvJ {ns:List Str}{vs:List Int}(h:vs.length=ns.length):(List.zipWith zaF.mk ns vs).length=ns.length:=by rw[List.length_zipWith,h,Nat.min_self]
theorem zr0:∀{l:List zaF},(∀k∈l,k.value=0)→List.zipWith zaF.mk (l.map (·.name)) (List.replicate l.length 0)=l
 |[],_=>rfl
 |k::l,h=>by
  rw[List.map_cons,List.length_cons,List.replicate_succ,List.zipWith_cons_cons,zr0 fun q hq=>h q (List.mem_cons_of_mem _ hq)]
  have:=h k (by simp)
  cases k;simp only at this;subst this;rfl
theorem ztG (x:Nat):zAU (x:Int) 1=((x % 2:Nat):Int):=by
 unfold zAU
 have h:(BitVec.ofInt 64 (x:Int)&&& BitVec.ofInt 64 1).toNat=x % 2:=by
  rw[BitVec.toNat_and,BitVec.ofInt_natCast,BitVec.toNat_ofNat,show(BitVec.ofInt 64 1).toNat=1 from rfl,Nat.and_one_is_mod,Nat.mod_mod_of_dvd _ (by decide)]
 rw[h]
 rcases Nat.mod_two_eq_zero_or_one x with e|e<;>rw[e]<;>rfl
theorem zyI {P:Program}{G:Nat→List FD}{N:Nat}{c:Code}{st:St}{q:Exit→St→Prop}{ι:Type}(e0:Exit)(I:ι→St)(h:∀i,q e0 (I i))(h2:@WK P G N c st ⟨fun e s=>e=e0∧∃i,zfv G N s (I i)⟩):@WK P G N c st ⟨q⟩:=by
 unfold WK at h2 ⊢
 intro a w L F hr
 refine wp_mono (h2 a w L F hr) fun e a' w' hs=>?_
 obtain⟨s,L1,F1,⟨rfl,i,hw⟩,g2,g3⟩:=hs
 obtain⟨L2,F2,g4,g5⟩:=hw a' w' L1 F1 g2
 exact⟨I i,L2,F2,h i,g4,zby.trans g3 g5⟩
theorem zvs:∀l:List zaF,(zae (l.map enc)).length=l.length*2
 |[]=>rfl
 |x::l=>by
  rw[List.map_cons,List.length_cons]
  show(D.fz (.s x.name.l)::D.fz (.i .i64 x.value)::zae (l.map enc)).length=_
  rw[List.length_cons,List.length_cons,zvs l];omega
def zpa:Tv:=(.q 0 (.q 1 (.q 2 (.q 3 (.q 4 (.q 5 (.q 6 (.q 7 (.br [(8,.leaf)])))))))))
def zqI (K N j:Nat):List Bool:=(zfx 2 N K j).map fun d=>decide (d=1)
theorem znX {K N j:Nat}(h:j≤K):(zqI K N j).length=K:=by unfold zqI;rw[List.length_map,zgh h]
theorem zrf (K N:Nat):zqI K N 0=List.replicate K false:=by unfold zqI;rw[zeR,List.map_replicate];rfl
theorem ztH {K N j:Nat}(h:j<K):(zqI K N j).set (K-1-j) (decide ((zeN 2 N j % 2:Nat)=(1:Int)))=zqI K N (j+1):=by
 unfold zqI
 rw[←zgi h,List.map_set]
def I8:Tbl:=I7.add 35 (sp3 zqK zCH)
attribute [go_sem] I8
def zEJ (m:zal)(S N:Nat)(d:D)(H:zau)(n:Nat):Prop:=∃g h,g<n∧h<n∧d= .agg [.fz (.i .i64 S),.arr (64007,g) 2 0 m.consts.length,.ow (35132,h) 3 ((zqK m S N).rels.map enc)]∧H (64007,g)=some ⟨zae ((zqK m S N).consts.map enc),false,m.consts.isEmpty⟩
set_option maxHeartbeats 8000000 in
theorem zGZ {m:zal}{size n:Int}(hp:zCH m size n)(S N:Nat)(hS:size=S)(hN:n=N):zay Tryd.prog G 35 [.fz (enc m),.fz (enc size),.fz (enc n)] (hpL []) 0 (zEJ m S N):=by
 obtain⟨⟨hs1,hs4⟩,hn,har,hcl,hrl,hcz,hk⟩:=hp
 subst hS
 subst hN
 obtain⟨Q,hQ⟩:∃Q:D→zau→Nat→Prop,Q=zEJ m S N:=⟨_,rfl⟩
 rw[←hQ]
 have kq:=Kp.mk hQ
 clear hQ
 have kr:=Kp.mk har
 clear har
 rw[Int.toNat_natCast]at hk
 obtain⟨c,hc⟩:∃c,m.consts.length=c:=⟨_,rfl⟩
 have hcl2:=hcl
 rw[hc]at hcl2
 obtain⟨ps,hps⟩:∃ps,m.rels.map zks=ps:=⟨_,rfl⟩
 have hpl:ps.length=m.rels.length:=by rw[←hps,List.length_map]
 have hpi:∀i (h:i<m.rels.length) (h2:i<ps.length),ps[i]=zks m.rels[i]:=fun i h h2=>by subst hps;rw[List.getElem_map]
 rw[hps]at hk
 obtain⟨C,hC⟩:∃C:Nat→Nat,C=fun i=>zaQ S (ps.take i):=⟨_,rfl⟩
 have hC0:C 0=0:=by rw[hC];rfl
 have hCs:∀i (h:i<m.rels.length),C (i+1)=C i+zqi S (zks m.rels[i]):=fun i h=>by rw[hC];simp only;rw[zi8 (by omega),hpi i h (by omega)]
 have hCe:C m.rels.length=zaQ S ps:=by rw[hC,←hpl];simp only[List.take_length]
 have hCm:∀i,i≤m.rels.length→C i≤zaQ S ps:=fun i h=>by
  have key:∀k,C i≤C (i+k)∨m.rels.length<i+k:=by
   intro k
   induction k with
   |zero=>exact .inl (Nat.le_refl _)
   |succ k ih=>
    rcases ih with ih|ih
    ·rcases Nat.lt_or_ge (i+k) m.rels.length with h2|h2
     ·have:=hCs (i+k) h2;rw[←Nat.add_assoc];exact .inl (by omega)
     ·exact .inr (by omega)
    ·exact .inr (by omega)
  rcases key (m.rels.length-i)with h2|h2
  ·rw[show i+(m.rels.length-i)=m.rels.length by omega,hCe]at h2;exact h2
  ·omega
 obtain⟨K,hK⟩:∃K,zaQ S ps=K:=⟨_,rfl⟩
 rw[hK]at hk hCe hCm
 have kC:=Kp.mk hCs
 have kM:=Kp.mk hCm
 have kp:=Kp.mk hpi
 clear hCs hCm
 refine zah (N:=136) hm hI7 35000 (lsw [123,132] [101,1000005,1000018]) zFY Tryd.func35 rfl rfl (by simp) (by kernel_rfl) ?_
 repeat'(first|refine zas.i (zpl rfl (zy1 hcl) fun g b hg hg2=>?_)|refine And.intro ?_ ?_|exact True.intro|refine rq fun _=>?_|refine rf fun _=>?_|simp only[go_sem,hc,zad,zac,zab,zaa,Tryd.f35])
 refine zai hm hI7 35000 (lsw [123,132] [101,1000005,1000018]) (ι:=zbG m.rels.length (b+1) fun _=>True)
  ⟨fun q=>⟨frL [(1,.fz (.i .i64 S)),(2,.fz (.i .i64 N)),(3,.ptr (35003,0) 0),(6,.ptr (35006,1) 0),(7,.ptr (35007,b) 0),(9,.fz (.i .i64 (C q.i:Nat))),(28,.fz (.sl (m.rels.map enc))),(29,.fz (.i .i64 m.rels.length)),(30,.fz (.i .i64 q.i))],hpL [((35003,0),some ⟨[.fz (.i .i64 m.size),.fz (.sl (m.consts.map enc)),.fz (.sl (m.rels.map enc))],true,false⟩),((35006,1),some ⟨[.fz (.i .i64 0),.full [],.full []],true,false⟩),((35007,b),some ⟨[.fz (.i .i64 S),.arr (64007,g) 2 0 c,.full []],true,false⟩),((64007,g),some ⟨zae (m.consts.map enc),false,m.consts.isEmpty⟩)],q.m⟩,fun q=>m.rels.length-q.i⟩
  ⟨0,b+1,by omega,by omega,trivial⟩ (by kernel_rfl) ?_ ?_
 ·refine zag ?_ ?_ ?_<;>simp only[go_sem,hC0]
  all_goals first|done|rfl|omega
 rintro⟨i,n,hi,hn2,_⟩
 try simp only at hi hn2
 have hCi:=kM.out i hi
 rcases Nat.lt_or_ge i m.rels.length with h1|h1
 ·obtain⟨x,hx⟩:∃x,m.rels[i]=x:=⟨_,rfl⟩
  have hxa:=kr.out x (by rw[←hx];exact List.getElem_mem h1)
  have hcs:=kC.out i h1
  rw[hx]at hcs
  obtain⟨P,hP⟩:∃P,zqi S (zks x)=P:=⟨_,rfl⟩
  have hpw:zyB S x.arity=(P:Int):=by rw[←hP];rfl
  rw[hP]at hcs
  have hCi2:=kM.out (i+1) h1
  obtain⟨z,hz⟩:∃z,C i=z:=⟨_,rfl⟩
  rw[hz]at hcs hCi
  have hzp:(z:Int)+(P:Int)=((z+P:Nat):Int):=by simp
  have hpp:(1≤(S:Int)∧(S:Int)≤4)∧0≤x.arity∧x.arity≤3:=⟨⟨hs1,hs4⟩,hxa⟩
  repeat'(first|refine zaB.i hpp fun _=>?_|refine And.intro ?_ ?_|exact True.intro|refine rq fun _=>?_|refine rf fun _=>?_|simp only[go_sem,h1,hx,hpw,hz,hzp,zad,zac,zab,zaa,Tryd.f35])
  refine⟨⟨i+1,n+1,by omega,by omega,trivial⟩,by simp only;omega,?_⟩
  refine zag ?_ ?_ ?_<;>simp only[go_sem,hcs]
  all_goals first|done|rfl|omega
 obtain rfl:i=m.rels.length:=by omega
 have v0:=zrf K N
 obtain⟨I,hI⟩:∃I:Nat→Int,I=fun j:Nat=>(K:Int)-1-(j:Int):=⟨_,rfl⟩
 have hI0:I 0=(K:Int)-1:=by rw[hI];simp
 have hIs:∀j,I (j+1)=I j-1:=fun j=>by rw[hI];simp only;omega
 have hIe:I K= -1:=by rw[hI];simp only;omega
 have hIj:∀j (_:j<K),I j=((K-1-j:Nat):Int):=fun j h=>by rw[hI];simp only;omega
 have kI:=Kp.mk hIj
 have kS:=Kp.mk hIs
 clear hI hIj hIs
 repeat'(first|refine And.intro ?_ ?_|exact True.intro|refine rq fun _=>?_|refine rf fun _=>?_|simp only[go_sem,Nat.lt_irrefl,hCe,zfm,zb3,←v0,hI0,zad,zac,zab,zaa,Tryd.f35])
 refine zai hm hI7 35000 (lsw [123,132] [101,1000005,1000018]) (ι:=zbG K (n+1) fun _=>True)
  ⟨fun q=>⟨frL [(1,.fz (.i .i64 S)),(2,.fz (.i .i64 (zeN 2 N q.i:Nat))),(3,.ptr (35003,0) 0),(6,.ptr (35006,1) 0),(7,.ptr (35007,b) 0),(8,.arr (35042,n) 1 0 K),(12,.fz (.i .i64 (I q.i)))],hpL [((35003,0),some ⟨[.fz (.i .i64 m.size),.fz (.sl (m.consts.map enc)),.fz (.sl (m.rels.map enc))],true,false⟩),((35006,1),some ⟨[.fz (.i .i64 0),.full [],.full []],true,false⟩),((35007,b),some ⟨[.fz (.i .i64 S),.arr (64007,g) 2 0 c,.full []],true,false⟩),((64007,g),some ⟨zae (m.consts.map enc),false,m.consts.isEmpty⟩),((35042,n),some ⟨zae ((zqI K N q.i).map enc),false,false⟩)],q.m⟩,fun q=>K-q.i⟩
  ⟨0,n+1,by omega,by omega,trivial⟩ (by kernel_rfl) ?_ ?_
 ·refine zag ?_ ?_ ?_<;>simp only[go_sem,hI0,zeN]
  all_goals first|done|rfl|omega
 rintro⟨j,n2,hj,hn3,_⟩
 try simp only at hj hn3
 rcases Nat.lt_or_ge j K with h2|h2
 ·have e1:=kI.out j h2
  have e4:=kS.out j
  have hset:=ztH (N:=N) h2
  have hvl:=znX (K:=K) (N:=N) (j:=j) (by omega)
  obtain⟨p,hp⟩:∃p,K-1-j=p:=⟨_,rfl⟩
  have hpl2:p<K:=by omega
  rw[hp]at hset e1
  rw[e1]at e4
  have e2:((0:Int)≤(p:Int))=True:=eq_true (by omega)
  have hq1:zeN 2 N (j+1)=zeN 2 N j / 2:=rfl
  obtain⟨x,hx⟩:∃x,zeN 2 N j=x:=⟨_,rfl⟩
  rw[hx]at hset hq1
  have em:=ztG x
  have ed:(x:Int) / (2:Int)=((x / 2:Nat):Int):=(Int.natCast_ediv x 2).symm
  obtain⟨r,hr⟩:∃r,x % 2=r:=⟨_,rfl⟩
  obtain⟨y,hy⟩:∃y,x / 2=y:=⟨_,rfl⟩
  rw[hr]at em hset
  rw[hy]at ed hq1
  have hfs:(zae ((zqI K N j).map enc)).set p (.fz (.b (decide ((r:Int)=1))))=zae ((zqI K N (j+1)).map enc):=by rw[←hset,←zaV];rfl
  repeat'(first|refine zaB.i ⟨by omega,by decide,by decide⟩ fun _=>?_|refine And.intro ?_ ?_|exact True.intro|refine rq fun _=>?_|refine rf fun _=>?_|simp only[go_sem,hx,e1,e2,em,ed,hvl,hpl2,zad,zac,zab,zaa,Tryd.f35])
  refine⟨⟨j+1,n2,by omega,by omega,trivial⟩,by simp only;omega,?_⟩
  refine zag ?_ ?_ ?_<;>simp only[go_sem,e4,hq1,hfs]
  all_goals first|done|rfl|omega
 obtain rfl:K=j:=by omega
 clear kI kS hI0 v0
 obtain⟨M,hM⟩:∃M,zeN 2 N K=M:=⟨_,rfl⟩
 obtain⟨ns,hns⟩:∃ns,m.consts.map (·.name)=ns:=⟨_,rfl⟩
 have hnl:ns.length=c:=by rw[←hns,List.length_map,hc]
 have hz0:List.zipWith zaF.mk ns (zfx S M c 0)=m.consts:=by rw[zeR,←hns,←hc];exact zr0 hcz
 obtain⟨J,hJ⟩:∃J:Nat→Int,J=fun j:Nat=>(c:Int)-1-(j:Int):=⟨_,rfl⟩
 have hJ0:J 0=(c:Int)-1:=by rw[hJ];simp
 have hJs:∀j,J (j+1)=J j-1:=fun j=>by rw[hJ];simp only;omega
 have hJe:J c= -1:=by rw[hJ];simp only;omega
 have hJj:∀j (_:j<c),J j=((c-1-j:Nat):Int):=fun j h=>by rw[hJ];simp only;omega
 have kI:=Kp.mk hJj
 have kS:=Kp.mk hJs
 clear hJ hJj hJs
 repeat'(first|refine And.intro ?_ ?_|exact True.intro|refine rq fun _=>?_|refine rf fun _=>?_|simp only[go_sem,hIe,hM,zad,zac,zab,zaa,Tryd.f35])
 refine zai hm hI7 35000 (lsw [123,132] [101,1000005,1000018]) (ι:=zbG c n2 fun _=>True)
  ⟨fun q=>⟨frL [(1,.fz (.i .i64 S)),(2,.fz (.i .i64 (zeN S M q.i:Nat))),(3,.ptr (35003,0) 0),(6,.ptr (35006,1) 0),(7,.ptr (35007,b) 0),(8,.arr (35042,n) 1 0 K),(13,.fz (.i .i64 (J q.i)))],hpL [((35003,0),some ⟨[.fz (.i .i64 m.size),.fz (.sl (m.consts.map enc)),.fz (.sl (m.rels.map enc))],true,false⟩),((35006,1),some ⟨[.fz (.i .i64 0),.full [],.full []],true,false⟩),((35007,b),some ⟨[.fz (.i .i64 S),.arr (64007,g) 2 0 c,.full []],true,false⟩),((64007,g),some ⟨zae ((List.zipWith zaF.mk ns (zfx S M c q.i)).map enc),false,m.consts.isEmpty⟩),((35042,n),some ⟨zae ((zqI K N K).map enc),false,false⟩)],q.m⟩,fun q=>c-q.i⟩
  ⟨0,n2,by omega,by omega,trivial⟩ (by kernel_rfl) ?_ ?_
 ·refine zag ?_ ?_ ?_<;>simp only[go_sem,hJ0,zeN,hz0]
  all_goals first|done|rfl|omega
 rintro⟨j,n3,hj,hn3,_⟩
 try simp only at hj hn3
 rcases Nat.lt_or_ge j c with h2|h2
 ·have e1:=kI.out j h2
  have e4:=kS.out j
  have hset:=zgi (s:=S) (i:=M) h2
  have hvl:=zgh (s:=S) (i:=M) (j:=j) (n:=c) (by omega)
  obtain⟨p,hp⟩:∃p,c-1-j=p:=⟨_,rfl⟩
  have hpl2:p<c:=by omega
  rw[hp]at hset e1
  rw[e1]at e4
  have e2:((0:Int)≤(p:Int))=True:=eq_true (by omega)
  have hq1:zeN S M (j+1)=zeN S M j / S:=rfl
  obtain⟨x,hx⟩:∃x,zeN S M j=x:=⟨_,rfl⟩
  rw[hx]at hset hq1
  have em:(x:Int) % (S:Int)=((x % S:Nat):Int):=(Int.natCast_emod x S).symm
  have ed:(x:Int) / (S:Int)=((x / S:Nat):Int):=(Int.natCast_ediv x S).symm
  obtain⟨r,hr⟩:∃r,x % S=r:=⟨_,rfl⟩
  obtain⟨y,hy⟩:∃y,x / S=y:=⟨_,rfl⟩
  rw[hr]at em hset
  rw[hy]at ed hq1
  have hfs:=zvK (ns:=ns) (vs:=zfx S M c j) (p:=p) (v:=(r:Int)) (by omega) (by omega)
  rw[hset]at hfs
  have hce:m.consts.isEmpty=false:=by
   cases h:m.consts with
   |nil=>rw[h]at hc;simp at hc;omega
   |cons=>rfl
  have hfl:p*2+1+1≤(zae ((List.zipWith zaF.mk ns (zfx S M c j)).map enc)).length:=by rw[zvs,zvJ (by omega),hnl];omega
  repeat'(first|refine zaK hm hI7 35000 (lsw [123,132] [101,1000005,1000018]) zpa (by kernel_rfl) (by kernel_rfl) ?_|refine zaB.i hfl fun _=>?_|refine zaB.i ⟨by omega,by omega⟩ fun _=>?_|refine zaB.i ⟨by omega,by omega,by omega⟩ fun _=>?_|refine And.intro ?_ ?_|exact True.intro|refine rq fun _=>?_|refine rf fun _=>?_|simp only[go_sem,hx,e1,e2,em,ed,hvl,hpl2,hce,zpa,zad,zac,zab,zaa,Tryd.f35])
  all_goals
   refine⟨⟨j+1,n3,by omega,by omega,trivial⟩,by simp only;omega,?_⟩
   refine zag ?_ ?_ ?_<;>simp only[go_sem,e4,hq1,hfs,hce]
   all_goals first|done|rfl|omega
 obtain rfl:c=j:=by omega
 obtain⟨B,hB⟩:∃B,zqI K N K=B:=⟨_,rfl⟩
 have hBl:B.length=K:=by rw[←hB];exact znX (Nat.le_refl _)
 obtain⟨Z,hZ⟩:∃Z,List.zipWith zaF.mk ns (zfx S M c c)=Z:=⟨_,rfl⟩
 obtain⟨RF,hRF⟩:∃RF:Nat→List zdq,RF=fun i=>zfo S (ps.take i) B:=⟨_,rfl⟩
 have hR0:RF 0=[]:=by rw[hRF];rfl
 have hRs:∀i (h:i<m.rels.length),RF (i+1)=RF i++[⟨m.rels[i].name,m.rels[i].arity,zmv S m.rels[i].arity.toNat (B.drop (C i)) (S^m.rels[i].arity.toNat)⟩]:=fun i h=>by rw[hRF];simp only;rw[zix B (by omega),hpi i h (by omega),hC];rfl
 have hRl:∀i,i≤m.rels.length→(RF i).length=i:=fun i h=>by rw[hRF];simp only;rw[ziw,List.length_take];omega
 have hfin:(zqK m S N).consts=Z∧(zqK m S N).rels=RF m.rels.length:=by
  unfold zqK
  rw[hps,hns,Int.toNat_natCast,Int.toNat_natCast]
  unfold zdg
  refine⟨?_,?_⟩
  ·rw[←hZ,hnl,ze4,hK,←hM,zoR]
  ·rw[hRF,←hpl];simp only[List.take_length]
   rw[←hB,hK,zmW];rfl
 have kR:=Kp.mk hRs
 have kRl:=Kp.mk hRl
 clear hRs hRl hRF kI kS hJ0 hpi hC
 repeat'(first|refine And.intro ?_ ?_|exact True.intro|refine rq fun _=>?_|refine rf fun _=>?_|simp only[go_sem,hJe,hB,hZ,zad,zac,zab,zaa,Tryd.f35])
 refine zai hm hI7 35000 (lsw [123,132] [101,1000005,1000018]) (ι:=zen m.rels.length (n3+1) fun _=>True)
  ⟨fun q=>⟨frL [(1,.fz (.i .i64 S)),(6,.ptr (35006,1) 0),(7,.ptr (35007,b) 0),(8,.arr (35042,n) 1 0 K),(14,.fz (.i .i64 (C q.i:Nat))),(77,.fz (.sl (m.rels.map enc))),(78,.fz (.i .i64 m.rels.length)),(79,.fz (.i .i64 q.i))],hpL [((35006,1),some ⟨[.fz (.i .i64 0),.full [],.full []],true,false⟩),((35007,b),some ⟨[.fz (.i .i64 S),.arr (64007,g) 2 0 c,.ow (35132,q.g) 3 ((RF q.i).map enc)],true,false⟩),((64007,g),some ⟨zae (Z.map enc),false,m.consts.isEmpty⟩),((35042,n),some ⟨zae (B.map enc),false,false⟩),((35132,q.g),some tok)],q.m⟩,fun q=>m.rels.length-q.i⟩
  ⟨0,n3,n3+1,by omega,by omega,by omega,trivial⟩ (by kernel_rfl) ?_ ?_
 ·refine zbc [] [(35132,n3)] [] ?_ ?_ ?_ ?_ ?_<;>(try simp only[go_sem,hC0,hR0,List.map_nil])
  all_goals first|done|rfl|omega
 rintro⟨i,h,n4,hi,hh,hn4,_⟩
 try simp only at hi hh hn4
 rcases Nat.lt_or_ge i m.rels.length with h1|h1
 rotate_left
 ·obtain rfl:i=m.rels.length:=by omega
  repeat'(first|refine And.intro ?_ ?_|exact True.intro|refine rq fun _=>?_|refine rf fun _=>?_|simp only[go_sem,Nat.lt_irrefl,zad,zac,zab,zaa,Tryd.f35])
  all_goals
   rw[kq.out]
   exact⟨g,h,by omega,by omega,by rw[hfin.2,hc],by rw[hfin.1];simp only[go_sem]⟩
 obtain⟨x,hx⟩:∃x,m.rels[i]=x:=⟨_,rfl⟩
 have hxa:=kr.out x (by rw[←hx];exact List.getElem_mem h1)
 have hcs:=kC.out i h1
 have hrs:=kR.out i h1
 have hrl:=kRl.out i hi
 rw[hx]at hcs hrs
 obtain⟨A,hA⟩:∃A:Nat,x.arity=(A:Int):=⟨x.arity.toNat,by omega⟩
 rw[hA,Int.toNat_natCast]at hrs
 obtain⟨P,hP⟩:∃P,S^A=P:=⟨_,rfl⟩
 have hpw:zyB S (A:Int)=(P:Int):=by rw[←hP];rfl
 have hpw2:zqi S (zks x)=P:=by rw[←hP];show S^x.arity.toNat=_;rw[hA,Int.toNat_natCast]
 rw[hpw2]at hcs
 rw[hP]at hrs
 have hCi2:=kM.out (i+1) h1
 obtain⟨z,hz⟩:∃z,C i=z:=⟨_,rfl⟩
 rw[hz]at hcs hrs
 obtain⟨R0,hR⟩:∃R0,RF i=R0:=⟨_,rfl⟩
 rw[hR]at hrs hrl
 have hpp:(1≤(S:Int)∧(S:Int)≤4)∧0≤(A:Int)∧(A:Int)≤3:=⟨⟨hs1,hs4⟩,by omega,by omega⟩
 obtain⟨T,hT⟩:∃T:Nat→List (List Int),T=zmv S A (B.drop z):=⟨_,rfl⟩
 have hT0:T 0=[]:=by rw[hT];rfl
 have hTs:∀k,T (k+1)=T k++(if(B.drop z).getD k false=true then[zaR S A k]else[]):=fun k=>by rw[hT];exact zmw S A _ k
 have hTl:∀k,(T k).length≤k:=fun k=>by
  rw[hT];unfold zmv;rw[List.length_map]
  exact Nat.le_trans (List.length_filter_le _ _) (by simp)
 have hgb:∀k,k<P→(zae (B.map enc)).getD (z+k) .junk= .fz (.b ((B.drop z).getD k false)):=fun k hk=>by
  have h3:z+k<B.length:=by omega
  rw[zaY,List.getD_eq_getElem?_getD,List.getElem?_map,List.getElem?_eq_getElem h3,List.getD_eq_getElem?_getD,List.getElem?_drop,List.getElem?_eq_getElem h3];rfl
 rw[←hT]at hrs
 have kT:=Kp.mk hTs
 have kTl:=Kp.mk hTl
 have kgb:=Kp.mk hgb
 clear hT hTs hTl hgb
 repeat'(first|refine zaB.i hpp fun _=>?_|refine And.intro ?_ ?_|exact True.intro|refine rq fun _=>?_|refine rf fun _=>?_|simp only[go_sem,h1,hx,hpw,hz,hA,hR,zad,zac,zab,zaa,Tryd.f35])
 refine zai hm hI7 35000 (lsw [123,132] [101,1000005,1000018]) (ι:=zen P (n4+3) fun _=>True)
  ⟨fun q=>⟨frL [(1,.fz (.i .i64 S)),(6,.ptr (35006,1) 0),(7,.ptr (35007,b) 0),(8,.arr (35042,n) 1 0 K),(16,.ptr (35016,n4) 0),(17,.ptr (35017,n4+1) 0),(77,.fz (.sl (m.rels.map enc))),(78,.fz (.i .i64 m.rels.length)),(79,.fz (.i .i64 i)),(91,.fz (.i .i64 P)),(92,.fz (.i .i64 q.i)),(14,.fz (.i .i64 ((z+q.i:Nat):Int)))],hpL [((35006,1),some ⟨[.fz (.i .i64 0),.full [],.full []],true,false⟩),((35007,b),some ⟨[.fz (.i .i64 S),.arr (64007,g) 2 0 c,.ow (35132,h) 3 (R0.map enc)],true,false⟩),((64007,g),some ⟨zae (Z.map enc),false,m.consts.isEmpty⟩),((35042,n),some ⟨zae (B.map enc),false,false⟩),((35132,h),some tok),((35016,n4),some ⟨[.fz (.s x.name.l),.fz (.i .i64 A),.fz (.sl (x.tuples.map enc))],true,false⟩),((35017,n4+1),some ⟨[.fz (.s x.name.l),.fz (.i .i64 A),.ow (35123,q.g) 1 ((T q.i).map enc)],true,false⟩),((35123,q.g),some tok)],q.m⟩,fun q=>P-q.i⟩
  ⟨0,n4+2,n4+3,by omega,by omega,by omega,trivial⟩ (by kernel_rfl) ?_ ?_
 ·refine zbc [] [(35123,n4+2)] [] ?_ ?_ ?_ ?_ ?_<;>(try simp only[go_sem,hT0,List.map_nil])
  all_goals first|done|rfl|omega
 rintro⟨k,h',n5,hk',hh',hn5,_⟩
 try simp only at hk' hh' hn5
 have htl:=kTl.out k
 rcases Nat.lt_or_ge k P with h2|h2
 rotate_left
 ·obtain rfl:k=P:=by omega
  repeat'(first|refine And.intro ?_ ?_|exact True.intro|refine rq fun _=>?_|refine rf fun _=>?_|simp only[go_sem,Int.lt_irrefl,zad,zac,zab,zaa,Tryd.f35])
  all_goals
   refine⟨⟨i+1,n5,n5+1,by omega,by omega,by omega,trivial⟩,by simp only;omega,?_⟩
   refine zag ?_ ?_ ?_<;>(try simp only[go_sem,hcs,hrs,List.map_append,List.map_cons,List.map_nil])
   all_goals first|done|rfl|omega
 have hts:=kT.out k
 have hgd:=kgb.out k h2
 have h2i:((k:Int)<(P:Int))=True:=eq_true (by omega)
 have hzk:((z+k:Nat):Int)+1=((z+(k+1):Nat):Int):=by omega
 have hzk2:z+k<K:=by omega
 have hP64:=(znA (a:=(S:Int)) (n:=(A:Int)) hs1 hs4 (by omega) (by omega) A (by omega)).2
 rw[show((S:Int).toNat^A)=P from hP]at hP64
 obtain⟨v,hv⟩:∃v,(B.drop z).getD k false=v:=⟨_,rfl⟩
 rw[hv]at hts hgd
 cases v with
 |false=>
  rw[if_neg (by decide),List.append_nil]at hts
  repeat'(first|refine And.intro ?_ ?_|exact True.intro|refine rq fun _=>?_|refine rf fun _=>?_|simp only[go_sem,h2i,hgd,hBl,hzk2,hzk,zad,zac,zab,zaa,Tryd.f35])
  all_goals
   refine⟨⟨k+1,h',n5,by omega,by omega,by omega,trivial⟩,by simp only;omega,?_⟩
   refine zag ?_ ?_ ?_<;>(try simp only[go_sem,hts,hzk])
   all_goals first|done|rfl|omega
 |true=>
  rw[if_pos rfl]at hts
  obtain⟨J,hJ⟩:∃J:Nat→Int,J=fun j:Nat=>(A:Int)-1-(j:Int):=⟨_,rfl⟩
  have hJ0:J 0=(A:Int)-1:=by rw[hJ];simp
  have hJs:∀j,J (j+1)=J j-1:=fun j=>by rw[hJ];simp only;omega
  have hJe:J A= -1:=by rw[hJ];simp only;omega
  have hJj:∀j (_:j<A),J j=((A-1-j:Nat):Int):=fun j h=>by rw[hJ];simp only;omega
  have v0:zfx S k A 0=List.replicate A 0:=zeR S k A
  have rep_ints:∀n:Nat,List.replicate n (D.fz (.i .i64 0))=zae ((List.replicate n (0:Int)).map enc):=fun n=>by rw[zaY];simp[zj1]
  have kI:=Kp.mk hJj
  have kS:=Kp.mk hJs
  clear hJ hJj hJs
  repeat'(first|refine And.intro ?_ ?_|exact True.intro|refine rq fun _=>?_|refine rf fun _=>?_|simp only[go_sem,h2i,hgd,hBl,hzk2,zfm,rep_ints,←v0,hJ0,zad,zac,zab,zaa,Tryd.f35])
  refine zyI (.exit 10) (fun _:Unit=>⟨frL [(1,.fz (.i .i64 S)),(6,.ptr (35006,1) 0),(7,.ptr (35007,b) 0),(8,.arr (35042,n) 1 0 K),(16,.ptr (35016,n4) 0),(17,.ptr (35017,n4+1) 0),(77,.fz (.sl (m.rels.map enc))),(78,.fz (.i .i64 m.rels.length)),(79,.fz (.i .i64 i)),(91,.fz (.i .i64 P)),(92,.fz (.i .i64 k)),(14,.fz (.i .i64 ((z+k:Nat):Int))),(19,.fz (.sl ((zaR S A k).map enc)))],hpL [((35006,1),some ⟨[.fz (.i .i64 0),.full [],.full []],true,false⟩),((35007,b),some ⟨[.fz (.i .i64 S),.arr (64007,g) 2 0 c,.ow (35132,h) 3 (R0.map enc)],true,false⟩),((64007,g),some ⟨zae (Z.map enc),false,m.consts.isEmpty⟩),((35042,n),some ⟨zae (B.map enc),false,false⟩),((35132,h),some tok),((35016,n4),some ⟨[.fz (.s x.name.l),.fz (.i .i64 A),.fz (.sl (x.tuples.map enc))],true,false⟩),((35017,n4+1),some ⟨[.fz (.s x.name.l),.fz (.i .i64 A),.ow (35123,h') 1 ((T k).map enc)],true,false⟩),((35123,h'),some tok)],n5+1⟩) (fun _=>?_) ?_
  ·repeat'(first|refine And.intro ?_ ?_|exact True.intro|refine rq fun _=>?_|refine rf fun _=>?_|simp only[go_sem,zad,zac,zab,zaa,Tryd.f35])
   all_goals
    refine⟨⟨k+1,n5+1,n5+2,by omega,by omega,by omega,trivial⟩,by simp only;omega,?_⟩
    refine zag ?_ ?_ ?_<;>(try simp only[go_sem,hts,hzk,List.map_append,List.map_cons,List.map_nil])
    all_goals first|done|rfl|omega
  refine zai hm hI7 35000 (lsw [123,132] [101,1000005,1000018]) (ι:=za5 A fun _=>True)
   ⟨fun q=>⟨frL [(1,.fz (.i .i64 S)),(6,.ptr (35006,1) 0),(7,.ptr (35007,b) 0),(8,.arr (35042,n) 1 0 K),(16,.ptr (35016,n4) 0),(17,.ptr (35017,n4+1) 0),(77,.fz (.sl (m.rels.map enc))),(78,.fz (.i .i64 m.rels.length)),(79,.fz (.i .i64 i)),(91,.fz (.i .i64 P)),(92,.fz (.i .i64 k)),(14,.fz (.i .i64 ((z+k:Nat):Int))),(19,.arr (35101,n5) 1 0 A),(20,.fz (.i .i64 (J q.i))),(21,.fz (.i .i64 (zeN S k q.i:Nat)))],hpL [((35006,1),some ⟨[.fz (.i .i64 0),.full [],.full []],true,false⟩),((35007,b),some ⟨[.fz (.i .i64 S),.arr (64007,g) 2 0 c,.ow (35132,h) 3 (R0.map enc)],true,false⟩),((64007,g),some ⟨zae (Z.map enc),false,m.consts.isEmpty⟩),((35042,n),some ⟨zae (B.map enc),false,false⟩),((35132,h),some tok),((35016,n4),some ⟨[.fz (.s x.name.l),.fz (.i .i64 A),.fz (.sl (x.tuples.map enc))],true,false⟩),((35017,n4+1),some ⟨[.fz (.s x.name.l),.fz (.i .i64 A),.ow (35123,h') 1 ((T k).map enc)],true,false⟩),((35123,h'),some tok),((35101,n5),some ⟨zae ((zfx S k A q.i).map enc),false,false⟩)],n5+1⟩,fun q=>A-q.i⟩
   ⟨0,by omega,trivial⟩ (by kernel_rfl) ?_ ?_
  ·refine zag ?_ ?_ ?_<;>simp only[go_sem,hJ0,zeN]
   all_goals first|done|rfl|omega
  rintro⟨j,hj,_⟩
  try simp only at hj
  rcases Nat.lt_or_ge j A with h3|h3
  ·have e1:=kI.out j h3
   have e4:=kS.out j
   have hset:=zgi (s:=S) (i:=k) h3
   have hvl:=zgh (s:=S) (i:=k) (j:=j) (n:=A) (by omega)
   obtain⟨p,hp⟩:∃p,A-1-j=p:=⟨_,rfl⟩
   have hpl2:p<A:=by omega
   rw[hp]at hset e1
   rw[e1]at e4
   have e2:((0:Int)≤(p:Int))=True:=eq_true (by omega)
   have hq1:zeN S k (j+1)=zeN S k j / S:=rfl
   obtain⟨w,hw⟩:∃w,zeN S k j=w:=⟨_,rfl⟩
   rw[hw]at hset hq1
   have em:(w:Int) % (S:Int)=((w % S:Nat):Int):=(Int.natCast_emod w S).symm
   have ed:(w:Int) / (S:Int)=((w / S:Nat):Int):=(Int.natCast_ediv w S).symm
   obtain⟨r,hr⟩:∃r,w % S=r:=⟨_,rfl⟩
   obtain⟨y,hy⟩:∃y,w / S=y:=⟨_,rfl⟩
   rw[hr]at em hset
   rw[hy]at ed hq1
   have hfs:(zae ((zfx S k A j).map enc)).set p (.fz (.i .i64 r))=zae ((zfx S k A (j+1)).map enc):=by rw[←hset,←zaV];rfl
   repeat'(first|refine zaB.i ⟨by omega,by omega⟩ fun _=>?_|refine zaB.i ⟨by omega,by omega,by omega⟩ fun _=>?_|refine And.intro ?_ ?_|exact True.intro|refine rq fun _=>?_|refine rf fun _=>?_|simp only[go_sem,hw,e1,e2,em,ed,hvl,hpl2,zad,zac,zab,zaa,Tryd.f35])
   all_goals
    refine⟨⟨j+1,by omega,trivial⟩,by simp only;omega,?_⟩
    refine zag ?_ ?_ ?_<;>simp only[go_sem,e4,hq1,hfs]
    all_goals first|done|rfl|omega
  obtain rfl:A=j:=by omega
  repeat'(first|refine And.intro ?_ ?_|exact True.intro|refine rq fun _=>?_|refine rf fun _=>?_|simp only[go_sem,hJe,ze4,zad,zac,zab,zaa,Tryd.f35])
  all_goals
   refine⟨(),?_⟩
   refine zbc [] [] [((35101,n5),(zaR S A k).map enc)] ?_ ?_ ?_ ?_ ?_<;>(try simp only[go_sem,ze4,zaS])
   all_goals first|done|rfl|omega
theorem hI8:zan Tryd.prog G I8:=by
 refine zg3 zFY hI7 fun m size n hp _ _ _=>?_
 obtain⟨S,hS⟩:∃S:Nat,size=(S:Int):=⟨size.toNat,by have:=hp.s;omega⟩
 obtain⟨N,hN⟩:∃N:Nat,n=(N:Int):=⟨n.toNat,by have:=hp.n;omega⟩
 refine zcs (zGZ (G:=G) hp S N hS hN) ?_
 subst hS
 subst hN
 rintro d H n1 ⟨g,h,hg,hh,rfl,ho⟩
 have hcl:(zqK m S N).consts.length=m.consts.length:=by unfold zqK zdg;simp[zaS]
 have hsz:(zqK m S N).size=(S:Int):=rfl
 obtain⟨V,hV⟩:∃V,zqK m S N=V:=⟨_,rfl⟩
 rw[hV]at ho hcl hsz ⊢
 refine⟨.agg [.fz (.i .i64 S),.fz (.sl (V.consts.map enc)),.ow (35132,h) 3 (V.rels.map enc)],H0,n1,?_,by simp only[go_sem,hsz]⟩
 have e:H0=hpL []:=rfl
 rw[e,←hcl]
 have hce:m.consts.isEmpty=true→V.consts=[]:=fun h=>List.eq_nil_of_length_eq_zero (by rw[hcl,List.isEmpty_iff.1 h];rfl)
 refine zbc [] [] [((64007,g),V.consts.map enc)] ?_ ?_ ?_ ?_ ?_<;>simp only[go_sem,ho,hg,hh]
 intro h;rw[hce h];rfl
end
end Go.Proofs.YtkkffhphodngkaaDoor
namespace Go.Proofs.YtkkffhphodngkaaDoor
open Go Go.Abs Go.Proofs
section
variable {G:Nat→List FD}
theorem zik (l:List Pd):(l.map ziY).map zks=l:=by
 rw[List.map_map]
 have:∀p∈l,(zks∘ziY) p=p:=fun p _=>by cases p;rfl
 rw[List.map_congr_left this,List.map_id'' fun _=>rfl]
theorem zyX (l:List Str):(l.map c0).map (·.name)=l:=by
 rw[List.map_map]
 have:∀p∈l,((fun c:zaF=>c.name)∘c0) p=p:=fun p _=>rfl
 rw[List.map_congr_left this,List.map_id'' fun _=>rfl]
theorem zn3 (l:List Abs.zaf)(S:Nat):zyZ (zqO l) S=zqJ (zfe l S):=by
 unfold zyZ zqO zfe
 rw[Int.toNat_natCast,zik,List.length_map]
theorem zor (l:List Abs.zaf)(S i:Nat):zqK (zqO l) S i=zmJ l S i:=by
 unfold zqK zqO zmJ
 rw[Int.toNat_natCast,Int.toNat_natCast,zik,zyX]
theorem zhq:∀{l:List Pd} {p:Pd},(ziP l p).length≤l.length+1
 |[],p=>by simp[ziP]
 |x::l,p=>by
  have ih:=zhq (l:=l) (p:=p)
  rw[ziP]
  repeat' split
  all_goals(simp only[List.length_cons];omega)
structure zh0 (l:List Abs.zaf)(S:Nat):Prop where
 f:∀f∈l,(zaA false f).code=0∧zbf f≤5
 l:l.length≤41
 s:1≤S
 t:S≤4
theorem zhl {l:List Abs.zaf}{S:Nat}(hp:zh0 l S):∀p∈zeq l,0≤p.arity∧p.arity≤3:=fun p h=>by
 obtain⟨f,hf,h2⟩:=zkG.1 h
 have:=zoN f (zdR (hp.f f hf).1) p h2
 omega
theorem zuX {l:List Abs.zaf}:(zeq l).length≤1000000+(zcO l).length:=by
 unfold zeq zhx
 have key:∀(ps a:List Pd),(ps.foldl ziP a).length≤a.length+ps.length:=by
  intro ps
  induction ps with
  |nil=>intro a;simp
  |cons p ps ih=>
   intro a
   have h1:=ih (ziP a p)
   have h2:(ziP a p).length≤a.length+1:=zhq
   rw[List.foldl_cons,List.length_cons];omega
 have:=key (zcO l) []
 simp only[List.length_nil]at this
 omega
theorem zh2 {l:List Abs.zaf}{S:Nat}(hp:zh0 l S):zEG (zqO l) S:=by
 have h1:=zgE (l:=l) (fun f hf=>(hp.f f hf).1) hp.l
 have h2:=zuX (l:=l)
 have h3:=zeM (l:=l) fun f hf=>(hp.f f hf).1
 have:=hp.l
 have:=hp.s
 have:=hp.t
 refine⟨⟨by omega,by omega⟩,fun r hr=>?_,by unfold zqO;simp only[List.length_map];omega,by unfold zqO;simp only[List.length_map];omega⟩
 obtain⟨p,h,rfl⟩:=List.mem_map.1 (show r∈(zeq l).map ziY from hr)
 exact zhl hp p h
theorem zll {l:List Abs.zaf}{S n i:Nat}(hp:zh0 l S)(hn:zfe l S=some n):zCH (zqO l) S i:=by
 have hc:=zh2 hp
 refine⟨hc.s,by omega,hc.a,hc.c,hc.r,fun k hk=>?_,?_⟩
 ·obtain⟨w,_,rfl⟩:=List.mem_map.1 (show k∈(zbu l).map c0 from hk)
  rfl
 ·show zaQ (S:Int).toNat (((zeq l).map ziY).map zks)≤1000
  rw[zik,Int.toNat_natCast]
  have:=(zc3 (by have:=hp.s;omega) hn).2.2
  omega
theorem zh1 {l:List Abs.zaf}{S n i:Nat}(hp:zh0 l S)(hn:zfe l S=some n):zCv (zmJ l S i) l:=
 ⟨zrK (zAE (fun f hf=>(hp.f f hf).1) hp.l hp.s hp.t hn),hp.f,by have:=hp.l;omega⟩
theorem zjn (l:List Abs.zaf)(S:Nat):zbS l S 0=[]:=rfl
theorem zGS {W:zal}{v:Int}(hv:0≤v∧v≤1000000):zay Tryd.prog G 20 ([enc W].map .fz++[.ptr (7,0) 0]) (hpL [((7,0),some ⟨([FD.i .i64 v]).map .fz,true,false⟩)]) 1 (fun d H' _=>D.val d=some (.fz (.b true))∧H' (7,0)=some ⟨([FD.i .i64 (v+1)]).map .fz,true,false⟩):=by
 simp only[go_sem]
 refine zah (N:=6) hm hI8 20000 (lst []) zHG Tryd.func20 rfl rfl (by simp) (by kernel_rfl) ?_
 repeat'(first|refine And.intro ?_ ?_|exact True.intro|refine rq fun _=>?_|refine rf fun _=>?_|simp only[go_sem,zad,zac,zab,zaa,Tryd.f20])
 all_goals first|done|exact⟨rfl,rfl⟩|(simp only[go_sem];done)|(refine⟨by simp only[go_sem],by simp only[go_sem]⟩)
theorem zGT {W:zal}:zay Tryd.prog G 26 ([enc W].map .fz++[.ptr (7,0) 0]) (hpL [((7,0),some ⟨([FD.i .i64 0,FD.sl [],FD.sl []]).map .fz,true,false⟩)]) 1 (fun d H' _=>D.val d=some (.fz (.b false))∧H' (7,0)=some ⟨([FD.i .i64 W.size,FD.sl (W.consts.map enc),FD.sl (W.rels.map enc)]).map .fz,true,false⟩):=by
 simp only[go_sem]
 refine zah (N:=5) hm hI8 26000 (lst []) zHH Tryd.func26 rfl rfl (by simp) (by kernel_rfl) ?_
 repeat'(first|refine And.intro ?_ ?_|exact True.intro|refine rq fun _=>?_|refine rf fun _=>?_|simp only[go_sem,zad,zac,zab,zaa,Tryd.f26])
 all_goals first|done|exact⟨rfl,rfl⟩|(simp only[go_sem];done)|(refine⟨by simp only[go_sem],by simp only[go_sem]⟩)
def zyt:Option (List zal)→Int
 |none=>0
 |some l=>(l.length:Int)
set_option maxHeartbeats 8000000 in
theorem zza {l:List Abs.zaf}{S:Nat}(hp:zh0 l S):zay Tryd.prog G 19 ([enc l,.i .i64 (S:Int)].map .fz++[.fn 20 [.ptr (7,0) 0]]) (hpL [((7,0),some ⟨([FD.i .i64 0]).map .fz,true,false⟩)]) 1 (fun d H' _=>D.val d=some (.fz (.b (zfe l S).isSome))∧H' (7,0)=some ⟨([FD.i .i64 (zyt (zbb l S))]).map .fz,true,false⟩):=by
 obtain⟨Q,hQ⟩:∃Q:D→zau→Nat→Prop,Q=(fun d H' _=>D.val d=some (.fz (.b (zfe l S).isSome))∧H' (7,0)=some ⟨([FD.i .i64 (zyt (zbb l S))]).map .fz,true,false⟩):=⟨_,rfl⟩
 rw[←hQ]
 have hsg:sgP l:=⟨fun f hf=>(hp.f f hf).1,hp.l⟩
 have hcq:=zh2 hp
 have hV:=zn3 l S
 have hfl:=fun n i=>zll hp (n:=n) (i:=i)
 have hal:=fun n i=>zh1 hp (n:=n) (i:=i)
 have hfi:=zor l S
 obtain⟨V,hVe⟩:∃V,zqO l=V:=⟨_,rfl⟩
 rw[hVe]at hcq hV hfi
 simp only[hVe]at hfl
 have h8:∀n,zfe l S=some n→n≤8192:=fun n h=>(zc3 (by have:=hp.s;omega) h).2.1
 have kfl:=Kp.mk hfl
 have kal:=Kp.mk hal
 have kfi:=Kp.mk hfi
 clear hfl hal hfi
 simp only[go_sem]
 refine zah (N:=40) hm hI8 19000 (lst []) zFO Tryd.func19 rfl rfl (by simp) (by kernel_rfl) ?_
 cases hn:zfe l S with
 |none=>
  rw[hn]at hV
  unfold zqJ at hV
  repeat'(first|refine zaB.i hsg fun _=>?_|refine zaB.i hcq fun _=>?_|refine And.intro ?_ ?_|exact True.intro|refine rq fun _=>?_|refine rf fun _=>?_|simp only[go_sem,hVe,hV,zad,zac,zab,zaa,Tryd.f19])
  all_goals
   rw[hQ,hn]
   exact⟨rfl,by unfold zbb zyt;rw[hn];rfl⟩
 |some n=>
  have hn8:=h8 n hn
  rw[hn]at hV
  simp only[zqJ]at hV
  repeat'(first|refine zaB.i hsg fun _=>?_|refine zaB.i hcq fun _=>?_|refine And.intro ?_ ?_|exact True.intro|refine rq fun _=>?_|refine rf fun _=>?_|simp only[go_sem,hVe,hV,zad,zac,zab,zaa,Tryd.f19])
  refine zai hm hI8 19000 (lst []) (ι:=zbG n 2 fun _=>True)
   ⟨fun q=>⟨frL [(0,.fz (.sl (l.map enc))),(1,.fz (.i .i64 S)),(2,.fn 20 [.ptr (7,0) 0]),(7,.ptr (19007,1) 0),(22,.fz (.i .i64 n)),(23,.fz (.i .i64 q.i))],hpL [((7,0),some ⟨([FD.i .i64 ((zbS l S q.i).length:Nat)]).map .fz,true,false⟩),((19007,1),some ⟨[.fz (.i .i64 V.size),.fz (.sl (V.consts.map enc)),.fz (.sl (V.rels.map enc))],true,false⟩)],q.m⟩,fun q=>n-q.i⟩
   ⟨0,2,by omega,by omega,trivial⟩ (by kernel_rfl) ?_ ?_
  ·refine zag ?_ ?_ ?_<;>simp only[go_sem,zjn,List.length_nil]
   all_goals first|done|rfl|omega
  rintro⟨i,q,hi,hq,hz⟩
  try simp only at hi hq hz
  rcases Nat.lt_or_ge i n with h1|h1
  rotate_left
  ·obtain rfl:i=n:=by omega
   repeat'(first|refine And.intro ?_ ?_|exact True.intro|refine rq fun _=>?_|refine rf fun _=>?_|simp only[go_sem,Int.lt_irrefl,zad,zac,zab,zaa,Tryd.f19])
   all_goals
    rw[hQ,hn]
    exact⟨rfl,by unfold zbb zyt;rw[hn];rfl⟩
  have h2:=kfl.out n i hn
  have h3:=kal.out n i hn
  have h4:=kfi.out i
  have h5:((i:Int)<(n:Int))=True:=eq_true (by omega)
  have hms:=zgD l S i
  have hml:=zf3 l S i
  obtain⟨W,hW⟩:∃W,zmJ l S i=W:=⟨_,rfl⟩
  rw[hW]at h3 h4 hms
  obtain⟨v,hv⟩:∃v,okF l W=v:=⟨_,rfl⟩
  rw[hv]at hms
  cases v with
  |false=>
   rw[if_neg (by decide),List.append_nil]at hms
   repeat'(first|refine zaB.i h2 fun _=>?_|refine zaB.i h3 fun _=>?_|refine And.intro ?_ ?_|exact True.intro|refine rq fun _=>?_|refine rf fun _=>?_|simp only[go_sem,h4,h5,hv,zad,zac,zab,zaa,Tryd.f19])
   all_goals
    refine⟨⟨i+1,q+1,by omega,by omega,trivial⟩,by simp only;omega,?_⟩
    refine zag ?_ ?_ ?_<;>simp only[go_sem,hms]
    all_goals first|done|rfl|omega
  |true=>
   rw[if_pos rfl]at hms
   repeat'(first|refine zaB.i h2 fun _=>?_|refine zaB.i h3 fun _=>?_|refine And.intro ?_ ?_|exact True.intro|refine rq fun _=>?_|refine rf fun _=>?_|simp only[go_sem,h4,h5,hv,zad,zac,zab,zaa,Tryd.f19])
   have hcl:=zGS (G:=G) (W:=W) (v:=((zbS l S i).length:Nat)) ⟨by omega,by omega⟩
   refine zas.i (zhF (T:=7) (sid:=(7,0)) (ds:=[.agg [.fz (.i .i64 W.size),.fz (.sl (W.consts.map enc)),.fz (.sl (W.rels.map enc))]]) (xs:=[enc W]) rfl hcl (by simp only[go_sem]) ?_)
   repeat'(first|refine And.intro ?_ ?_|exact True.intro|refine rq fun _=>?_|refine rf fun _=>?_|simp only[go_sem,zaG,zad,zac,zab,zaa,Tryd.f19])
   all_goals
    refine⟨⟨i+1,q+1,by omega,by omega,trivial⟩,by simp only;omega,?_⟩
    refine zag ?_ ?_ ?_<;>simp only[go_sem,hms,List.length_append,List.length_cons,List.length_nil]
    all_goals first|done|rfl|omega
def ziW:Option (List zal)→zal
 |none=>zdp
 |some []=>zdp
 |some (m::_)=>m
set_option maxHeartbeats 8000000 in
theorem zzb {l:List Abs.zaf}{S:Nat}(hp:zh0 l S):zay Tryd.prog G 19 ([enc l,.i .i64 (S:Int)].map .fz++[.fn 26 [.ptr (7,0) 0]]) (hpL [((7,0),some ⟨([FD.i .i64 0,FD.sl [],FD.sl []]).map .fz,true,false⟩)]) 1 (fun d H' _=>D.val d=some (.fz (.b (zfe l S).isSome))∧H' (7,0)=some ⟨([FD.i .i64 (ziW (zbb l S)).size,FD.sl ((ziW (zbb l S)).consts.map enc),FD.sl ((ziW (zbb l S)).rels.map enc)]).map .fz,true,false⟩):=by
 obtain⟨Q,hQ⟩:∃Q:D→zau→Nat→Prop,Q=(fun d H' _=>D.val d=some (.fz (.b (zfe l S).isSome))∧H' (7,0)=some ⟨([FD.i .i64 (ziW (zbb l S)).size,FD.sl ((ziW (zbb l S)).consts.map enc),FD.sl ((ziW (zbb l S)).rels.map enc)]).map .fz,true,false⟩):=⟨_,rfl⟩
 rw[←hQ]
 have hsg:sgP l:=⟨fun f hf=>(hp.f f hf).1,hp.l⟩
 have hcq:=zh2 hp
 have hV:=zn3 l S
 have hfl:=fun n i=>zll hp (n:=n) (i:=i)
 have hal:=fun n i=>zh1 hp (n:=n) (i:=i)
 have hfi:=zor l S
 obtain⟨V,hVe⟩:∃V,zqO l=V:=⟨_,rfl⟩
 rw[hVe]at hcq hV hfi
 simp only[hVe]at hfl
 have h8:∀n,zfe l S=some n→n≤8192:=fun n h=>(zc3 (by have:=hp.s;omega) h).2.1
 have kfl:=Kp.mk hfl
 have kal:=Kp.mk hal
 have kfi:=Kp.mk hfi
 clear hfl hal hfi
 simp only[go_sem]
 refine zah (N:=40) hm hI8 19000 (lst []) zFO Tryd.func19 rfl rfl (by simp) (by kernel_rfl) ?_
 cases hn:zfe l S with
 |none=>
  rw[hn]at hV
  unfold zqJ at hV
  repeat'(first|refine zaB.i hsg fun _=>?_|refine zaB.i hcq fun _=>?_|refine And.intro ?_ ?_|exact True.intro|refine rq fun _=>?_|refine rf fun _=>?_|simp only[go_sem,hVe,hV,zad,zac,zab,zaa,Tryd.f19])
  all_goals
   rw[hQ,hn]
   exact⟨rfl,by unfold zbb;rw[hn];rfl⟩
 |some n=>
  have hn8:=h8 n hn
  rw[hn]at hV
  simp only[zqJ]at hV
  repeat'(first|refine zaB.i hsg fun _=>?_|refine zaB.i hcq fun _=>?_|refine And.intro ?_ ?_|exact True.intro|refine rq fun _=>?_|refine rf fun _=>?_|simp only[go_sem,hVe,hV,zad,zac,zab,zaa,Tryd.f19])
  refine zai hm hI8 19000 (lst []) (ι:=zbG n 2 fun i=>zbS l S i=[])
   ⟨fun q=>⟨frL [(0,.fz (.sl (l.map enc))),(1,.fz (.i .i64 S)),(2,.fn 26 [.ptr (7,0) 0]),(7,.ptr (19007,1) 0),(22,.fz (.i .i64 n)),(23,.fz (.i .i64 q.i))],hpL [((7,0),some ⟨([FD.i .i64 0,FD.sl [],FD.sl []]).map .fz,true,false⟩),((19007,1),some ⟨[.fz (.i .i64 V.size),.fz (.sl (V.consts.map enc)),.fz (.sl (V.rels.map enc))],true,false⟩)],q.m⟩,fun q=>n-q.i⟩
   ⟨0,2,by omega,by omega,rfl⟩ (by kernel_rfl) ?_ ?_
  ·refine zag ?_ ?_ ?_<;>simp only[go_sem,zjn,List.length_nil]
   all_goals first|done|rfl|omega
  rintro⟨i,q,hi,hq,hz⟩
  try simp only at hi hq hz
  rcases Nat.lt_or_ge i n with h1|h1
  rotate_left
  ·obtain rfl:i=n:=by omega
   repeat'(first|refine And.intro ?_ ?_|exact True.intro|refine rq fun _=>?_|refine rf fun _=>?_|simp only[go_sem,Int.lt_irrefl,zad,zac,zab,zaa,Tryd.f19])
   all_goals
    rw[hQ,hn]
    have e:zbb l S=some []:=by unfold zbb;rw[hn];exact congrArg some hz
    exact⟨rfl,by rw[e];rfl⟩
  have h2:=kfl.out n i hn
  have h3:=kal.out n i hn
  have h4:=kfi.out i
  have h5:((i:Int)<(n:Int))=True:=eq_true (by omega)
  have hms:=zgD l S i
  have hml:=zf3 l S i
  obtain⟨W,hW⟩:∃W,zmJ l S i=W:=⟨_,rfl⟩
  rw[hW]at h3 h4 hms
  obtain⟨v,hv⟩:∃v,okF l W=v:=⟨_,rfl⟩
  rw[hv]at hms
  cases v with
  |false=>
   rw[if_neg (by decide),List.append_nil]at hms
   repeat'(first|refine zaB.i h2 fun _=>?_|refine zaB.i h3 fun _=>?_|refine And.intro ?_ ?_|exact True.intro|refine rq fun _=>?_|refine rf fun _=>?_|simp only[go_sem,h4,h5,hv,zad,zac,zab,zaa,Tryd.f19])
   all_goals
    refine⟨⟨i+1,q+1,by omega,by omega,by rw[hms];exact hz⟩,by simp only;omega,?_⟩
    refine zag ?_ ?_ ?_<;>simp only[go_sem,hms]
    all_goals first|done|rfl|omega
  |true=>
   rw[if_pos rfl]at hms
   repeat'(first|refine zaB.i h2 fun _=>?_|refine zaB.i h3 fun _=>?_|refine And.intro ?_ ?_|exact True.intro|refine rq fun _=>?_|refine rf fun _=>?_|simp only[go_sem,h4,h5,hv,zad,zac,zab,zaa,Tryd.f19])
   have hcl:=zGT (G:=G) (W:=W)
   refine zas.i (zhF (T:=7) (sid:=(7,0)) (ds:=[.agg [.fz (.i .i64 W.size),.fz (.sl (W.consts.map enc)),.fz (.sl (W.rels.map enc))]]) (xs:=[enc W]) rfl hcl (by simp only[go_sem]) ?_)
   repeat'(first|refine And.intro ?_ ?_|exact True.intro|refine rq fun _=>?_|refine rf fun _=>?_|simp only[go_sem,zaG,zad,zac,zab,zaa,Tryd.f19])
   all_goals
    have e:zbb l S=some (zbS l S n):=by unfold zbb;rw[hn];rfl
    obtain⟨r,hr⟩:=zl0 l S (n:=i+1) (t:=n) h1
    rw[hms,hz]at hr
    have e2:ziW (zbb l S)=W:=by rw[e,hr];rfl
    rw[hQ,hn,e2]
    exact⟨rfl,by simp only[go_sem]⟩
end
end Go.Proofs.YtkkffhphodngkaaDoor
namespace Go.Proofs.YtkkffhphodngkaaDoor
open Go Go.Abs Go.Proofs
section
variable {G:Nat→List FD}
section
variable {P:Program} {T:Tbl}
def zAF {α β ρ σ τ:Type}[Enc α][Enc β][Enc ρ][Enc σ][Enc τ](f:α→β→ρ×σ×τ)(pre:α→β→Prop):List FD→Option (D×Prop)
 |[x,y]=>some (.tup [.fz (enc (f (dec x) (dec y)).1),.fz (enc (f (dec x) (dec y)).2.1),.fz (enc (f (dec x) (dec y)).2.2)],x=enc (dec (α:=α) x)∧y=enc (dec (α:=β) y)∧pre (dec x) (dec y))
 |_=>none
@[go_sem] theorem zFw {α β ρ σ τ:Type}[Enc α][Enc β][Enc ρ][Enc σ][Enc τ]{f:α→β→ρ×σ×τ}{pre:α→β→Prop}{x y:FD}:zAF f pre [x,y]=some (.tup [.fz (enc (f (dec x) (dec y)).1),.fz (enc (f (dec x) (dec y)).2.1),.fz (enc (f (dec x) (dec y)).2.2)],x=enc (dec (α:=α) x)∧y=enc (dec (α:=β) y)∧pre (dec x) (dec y)):=rfl
theorem zsN {α β ρ σ τ:Type}[Enc α][Enc β][Enc ρ][Enc σ][Enc τ]{f:FuncId}{g:α→β→ρ×σ×τ}{pre:α→β→Prop}(hc:zam P f)(hT:zan P G T)
  (h:∀a b,pre a b→(enc a).Wf→(enc b).Wf→zay P G f [.fz (enc a),.fz (enc b)] (hpL []) 0 (fun d _ _=>D.val d=some (.tup [.fz (enc (g a b).1),.fz (enc (g a b).2.1),.fz (enc (g a b).2.2)]))):zan P G (T.add f (zAF g pre)):=by
 refine zdL hT fun xs r c hx hcc=>?_
 unfold zAF at hx
 split at hx
 ·rename_i x y
  simp only[Option.some.injEq,Prod.mk.injEq]at hx
  obtain⟨rfl,rfl⟩:=hx
  obtain⟨e,e2,hp⟩:=hcc
  refine zeS hc fun hw=>?_
  rw[zhe]
  have:=h (dec x) (dec y) hp (by rw[←e];exact hw x (by simp)) (by rw[←e2];exact hw y (by simp))
  rw[←e,←e2]at this
  exact this
 ·cases hx
end
theorem zdE (f:zcD):(⟨f.code,f.index⟩:zcD)=f:=rfl
def zs0:Tv:=(.q 0 (.q 1 (.br [(2,.leaf)])))
def znI:Tv:=(.q 0 (.br [(1,(.br [(2,(.q 3 (.br [(4,.leaf)])))])),(2,(.q 1 (.q 3 (.br [(4,.leaf)]))))]))
theorem zhm {l:List Abs.zaf}{size:Int}(h:(zaM l size).code=0){k:Nat}(hk:1≤k)(hk2:(k:Int)≤size):zh0 l k:=by
 obtain⟨_,h2,h3,h4,h5⟩:=zdV h
 exact⟨h3,h2,hk,by omega⟩
theorem zl1 {l:List Abs.zaf}{k:Nat}{x:zal}{ms:List zal}(h:zbb l k=some (x::ms)):x.size=(k:Int):=by
 unfold zbb at h
 cases hn:zfe l k with
 |none=>rw[hn]at h;cases h
 |some n=>
  rw[hn]at h
  have h2:zbS l k n=x::ms:=Option.some.inj h
  have h3:x∈zbS l k n:=by rw[h2];simp
  unfold zbS at h3
  obtain⟨j,_,e⟩:=List.mem_map.1 (List.mem_filter.1 h3).1
  rw[←e];rfl
def I9:Tbl:=I8.add 7 (zxv zdT fun _ _=>True)
attribute [go_sem] I9
set_option maxHeartbeats 4000000 in
theorem hI9:zan Tryd.prog G I9:=by
 refine zkH ok7 hI8 fun l size _ _ _=>?_
 obtain⟨V,hV⟩:∃V,zaM l size=V:=⟨_,rfl⟩
 obtain⟨Q,hQ⟩:∃Q:D→zau→Nat→Prop,Q=(fun d _ _=>D.val d=some (.tup [.fz (enc (zdT l size).1),.fz (enc (zdT l size).2)])):=⟨_,rfl⟩
 rw[←hQ]
 by_cases hz:V.code=0
 rotate_left
 ·have hz':(V.code=0)=False:=eq_false hz
  have e:zdT l size=(0,V):=by unfold zdT;rw[hV,if_pos hz]
  rw[e]at hQ
  refine zah (N:=23) hm hI8 7000 (lst []) ok7 Tryd.func7 rfl rfl (by simp) (by kernel_rfl) ?_
  repeat'(first|refine zaK hm hI8 7000 (lst []) zs0 (by kernel_rfl) (by kernel_rfl) ?_|refine And.intro ?_ ?_|exact True.intro|refine rq fun _=>?_|refine rf fun _=>?_|simp only[go_sem,hV,hz',zs0,zad,zac,zab,zaa,Tryd.f7])
  all_goals first|done|rfl|(rw[hQ];done)|(rw[hQ];rfl)|(rw[hQ];simp only[go_sem];done)|(rw[hQ];simp only[go_sem];rfl)|(rw[hQ];trace_state)
 have hz':(V.code=0)=True:=eq_true hz
 have hf:(zaM l size).code=0:=by rw[hV];exact hz
 obtain⟨_,_,_,hs1,hs4⟩:=zdV hf
 obtain⟨S,hS⟩:∃S:Nat,size=(S:Int):=⟨size.toNat,by omega⟩
 subst hS
 have hp:zh0 l S:=zhm hf (by omega) (by omega)
 have hcl:=zza (G:=G) hp
 have e:zdT l S=match zbb l S with|none=>(0,⟨17, -2⟩)|some l=>((l.length:Int),⟨0,0⟩):=by unfold zdT;rw[if_neg (by simp[hf]),Int.toNat_natCast];rfl
 refine zah (N:=23) hm hI8 7000 (lst []) ok7 Tryd.func7 rfl rfl (by simp) (by kernel_rfl) ?_
 repeat'(first|refine And.intro ?_ ?_|exact True.intro|refine rq fun _=>?_|refine rf fun _=>?_|simp only[go_sem,hV,hz',zs0,zad,zac,zab,zaa,Tryd.f7])
 cases hn:zfe l S with
 |none=>
  have hmd:zbb l S=none:=by unfold zbb;rw[hn];rfl
  rw[hn,hmd]at hcl
  rw[hmd]at e
  rw[e]at hQ
  refine zas.i (zc6 (T:=7) (sid:=(7007,2)) (ds:=[.fz (enc l),.fz (.i .i64 (S:Int))]) (xs:=[enc l,.i .i64 (S:Int)]) rfl hcl (by simp only[go_sem]) ?_)
  repeat'(first|refine And.intro ?_ ?_|exact True.intro|refine rq fun _=>?_|refine rf fun _=>?_|simp only[go_sem,zaG,zyt,Option.isSome_none,Option.isSome_some,zad,zac,zab,zaa,Tryd.f7])
  all_goals first|done|rfl|(rw[hQ];done)|(rw[hQ];rfl)|(rw[hQ];simp only[go_sem];done)|(rw[hQ];simp only[go_sem];rfl)|(rw[hQ];trace_state)
 |some n=>
  have hmd:zbb l S=some (zbS l S n):=by unfold zbb;rw[hn];rfl
  rw[hn,hmd]at hcl
  rw[hmd]at e
  rw[e]at hQ
  refine zas.i (zc6 (T:=7) (sid:=(7007,2)) (ds:=[.fz (enc l),.fz (.i .i64 (S:Int))]) (xs:=[enc l,.i .i64 (S:Int)]) rfl hcl (by simp only[go_sem]) ?_)
  repeat'(first|refine And.intro ?_ ?_|exact True.intro|refine rq fun _=>?_|refine rf fun _=>?_|simp only[go_sem,zaG,zyt,Option.isSome_none,Option.isSome_some,zad,zac,zab,zaa,Tryd.f7])
  all_goals first|done|rfl|(rw[hQ];done)|(rw[hQ];rfl)|(rw[hQ];simp only[go_sem];done)|(rw[hQ];simp only[go_sem];rfl)|(rw[hQ];trace_state)
def I10:Tbl:=I9.add 13 (zAF zh7 fun _ _=>True)
attribute [go_sem] I10
set_option maxHeartbeats 4000000 in
theorem zEM:zan Tryd.prog G I10:=by
 refine zsN zD3 hI9 fun l size _ _ _=>?_
 obtain⟨V,hV⟩:∃V,zaM l size=V:=⟨_,rfl⟩
 obtain⟨r,hr⟩:∃r,zh7 l size=r:=⟨_,rfl⟩
 rw[hr]
 obtain⟨Q,hQ⟩:∃Q:D→zau→Nat→Prop,Q=(fun d _ _=>D.val d=some (.tup [.fz (enc r.1),.fz (enc r.2.1),.fz (enc r.2.2)])):=⟨_,rfl⟩
 rw[←hQ]
 by_cases hz:V.code=0
 rotate_left
 ·have hz':(V.code=0)=False:=eq_false hz
  have e:zh7 l size=(zdp,false,V):=by unfold zh7;rw[hV,if_pos hz]
  rw[e]at hr
  subst hr
  refine zah (N:=37) hm hI9 13000 (lst [1000003]) zD3 Tryd.func13 rfl rfl (by simp) (by kernel_rfl) ?_
  repeat'(first|refine zaK hm hI9 13000 (lst [1000003]) znI (by kernel_rfl) (by kernel_rfl) ?_|refine And.intro ?_ ?_|exact True.intro|refine rq fun _=>?_|refine rf fun _=>?_|simp only[go_sem,hV,hz',znI,zad,zac,zab,zaa,Tryd.f13])
  all_goals first|done|rfl|(rw[hQ];done)|(rw[hQ];rfl)|(rw[hQ];simp only[go_sem];done)|(rw[hQ];simp only[go_sem];rfl)|(rw[hQ];trace_state)
 have hz':(V.code=0)=True:=eq_true hz
 have hf:(zaM l size).code=0:=by rw[hV];exact hz
 obtain⟨_,_,_,hs1,hs4⟩:=zdV hf
 obtain⟨S,hS⟩:∃S:Nat,size=(S:Int):=⟨size.toNat,by omega⟩
 subst hS
 have e:zfS l 1 S=r:=by rw[←hr];unfold zh7;rw[if_neg (by simp[hf]),Int.toNat_natCast]
 refine zah (N:=37) hm hI9 13000 (lst [1000003]) zD3 Tryd.func13 rfl rfl (by simp) (by kernel_rfl) ?_
 repeat'(first|refine And.intro ?_ ?_|exact True.intro|refine rq fun _=>?_|refine rf fun _=>?_|simp only[go_sem,hV,hz',znI,zad,zac,zab,zaa,Tryd.f13])
 refine zai hm hI9 13000 (lst [1000003]) (ι:=zbG S 3 fun i=>zfS l (i+1) (S-i)=r)
  ⟨fun q=>⟨frL [(0,.fz (.sl (l.map enc))),(1,.fz (.i .i64 S)),(4,.ptr (13004,0) 0),(6,.ptr (13006,1) 0),(8,.fz (.i .i64 ((q.i+1:Nat):Int)))],hpL [((13004,0),some ⟨[.fz (.i .i64 0),.full [],.full []],true,false⟩),((13006,1),some ⟨[.fz (.i .i64 0),.fz (.i .i64 0)],true,false⟩)],q.m⟩,fun q=>S-q.i⟩
  ⟨0,3,by omega,by omega,e⟩ (by kernel_rfl) ?_ ?_
 ·refine zag ?_ ?_ ?_<;>simp only[go_sem]
  all_goals first|done|rfl|omega
 rintro⟨i,m,hi,hm2,hp⟩
 try simp only at hi hm2 hp
 rcases Nat.lt_or_ge i S with h1|h1
 rotate_left
 ·obtain rfl:i=S:=by omega
  rw[Nat.sub_self,zfS]at hp
  subst hp
  have h5:((i:Int)+1≤(i:Int))=False:=eq_false (by omega)
  repeat'(first|refine And.intro ?_ ?_|exact True.intro|refine rq fun _=>?_|refine rf fun _=>?_|simp only[go_sem,h5,zad,zac,zab,zaa,Tryd.f13])
  all_goals first|done|rfl|(rw[hQ];done)|(rw[hQ];rfl)|(rw[hQ];simp only[go_sem];done)|(rw[hQ];simp only[go_sem];rfl)|(rw[hQ];trace_state)
 have hep:zh0 l (i+1):=zhm hf (by omega) (by omega)
 have hcl:=zzb (G:=G) hep
 rw[show S-i=(S-(i+1))+1 by omega,zfS]at hp
 have h5:((i:Int)+1≤(S:Int))=True:=eq_true (by omega)
 repeat'(first|refine And.intro ?_ ?_|exact True.intro|refine rq fun _=>?_|refine rf fun _=>?_|simp only[go_sem,h5,zad,zac,zab,zaa,Tryd.f13])
 have hB4:((i+1:Nat):Int)=(i:Int)+1:=by simp
 cases hn:zbb l (i+1)with
 |none=>
  have hm0:zfe l (i+1)=none:=by
   unfold zbb at hn
   cases h:zfe l (i+1)with
   |none=>rfl
   |some n=>rw[h]at hn;cases hn
  rw[hn]at hcl hp
  rw[hm0,hB4]at hcl
  simp only at hp
  subst hp
  refine zas.i (zdN (args':=[.fz (enc l),.fz (.i .i64 ((i:Int)+1)),.fn 26 [.ptr (13009,m) 0]]) (H':=hpL [((13009,m),some ⟨[.fz (.i .i64 0),.fz (.sl []),.fz (.sl [])],true,false⟩),((13004,0),some ⟨[.fz (.i .i64 0),.full [],.full []],true,false⟩),((13006,1),some ⟨[.fz (.i .i64 0),.fz (.i .i64 0)],true,false⟩)]) (n':=m+1) rfl ?_ (zc6 (T:=7) (sid:=(13009,m)) (ds:=[.fz (enc l),.fz (.i .i64 ((i:Int)+1))]) (xs:=[enc l,.i .i64 ((i:Int)+1)]) rfl hcl (by simp only[go_sem]) ?_))
  ·simp only[go_sem,zhM]
   refine zbc [] [] [] ?_ ?_ ?_ ?_ ?_<;>simp only[go_sem]
   all_goals first|done|omega
  repeat'(first|refine And.intro ?_ ?_|exact True.intro|refine rq fun _=>?_|refine rf fun _=>?_|simp only[go_sem,zaG,ziW,Option.isSome_none,Option.isSome_some,zad,zac,zab,zaa,Tryd.f13])
  all_goals first|done|rfl|(rw[hQ];done)|(rw[hQ];rfl)|(rw[hQ];simp only[go_sem];done)|(rw[hQ];simp only[go_sem];rfl)|(rw[hQ];trace_state)
 |some ms=>
  have hm0:(zfe l (i+1)).isSome=true:=by
   unfold zbb at hn
   cases h:zfe l (i+1)with
   |none=>rw[h]at hn;cases hn
   |some n=>rfl
  rw[hn]at hcl hp
  rw[hm0,hB4]at hcl
  cases ms with
  |nil=>
   simp only at hp
   refine zas.i (zdN (args':=[.fz (enc l),.fz (.i .i64 ((i:Int)+1)),.fn 26 [.ptr (13009,m) 0]]) (H':=hpL [((13009,m),some ⟨[.fz (.i .i64 0),.fz (.sl []),.fz (.sl [])],true,false⟩),((13004,0),some ⟨[.fz (.i .i64 0),.full [],.full []],true,false⟩),((13006,1),some ⟨[.fz (.i .i64 0),.fz (.i .i64 0)],true,false⟩)]) (n':=m+1) rfl ?_ (zc6 (T:=7) (sid:=(13009,m)) (ds:=[.fz (enc l),.fz (.i .i64 ((i:Int)+1))]) (xs:=[enc l,.i .i64 ((i:Int)+1)]) rfl hcl (by simp only[go_sem]) ?_))
   ·simp only[go_sem,zhM]
    refine zbc [] [] [] ?_ ?_ ?_ ?_ ?_<;>simp only[go_sem]
    all_goals first|done|omega
   repeat'(first|refine And.intro ?_ ?_|exact True.intro|refine rq fun _=>?_|refine rf fun _=>?_|simp only[go_sem,zaG,ziW,zdp,zad,zac,zab,zaa,Tryd.f13])
   all_goals
    refine⟨⟨i+1,m+1,by omega,by omega,hp⟩,by simp only;omega,?_⟩
    refine zag ?_ ?_ ?_<;>simp only[go_sem,hB4,Int.natCast_add]
    all_goals first|done|rfl|omega
  |cons x ms=>
   simp only at hp
   subst hp
   have hx1:((0:Int)<x.size)=True:=eq_true (by rw[zl1 hn];omega)
   refine zas.i (zdN (args':=[.fz (enc l),.fz (.i .i64 ((i:Int)+1)),.fn 26 [.ptr (13009,m) 0]]) (H':=hpL [((13009,m),some ⟨[.fz (.i .i64 0),.fz (.sl []),.fz (.sl [])],true,false⟩),((13004,0),some ⟨[.fz (.i .i64 0),.full [],.full []],true,false⟩),((13006,1),some ⟨[.fz (.i .i64 0),.fz (.i .i64 0)],true,false⟩)]) (n':=m+1) rfl ?_ (zc6 (T:=7) (sid:=(13009,m)) (ds:=[.fz (enc l),.fz (.i .i64 ((i:Int)+1))]) (xs:=[enc l,.i .i64 ((i:Int)+1)]) rfl hcl (by simp only[go_sem]) ?_))
   ·simp only[go_sem,zhM]
    refine zbc [] [] [] ?_ ?_ ?_ ?_ ?_<;>simp only[go_sem]
    all_goals first|done|omega
   repeat'(first|refine And.intro ?_ ?_|exact True.intro|refine rq fun _=>?_|refine rf fun _=>?_|simp only[go_sem,zaG,ziW,hx1,zad,zac,zab,zaa,Tryd.f13])
   all_goals first|done|rfl|(rw[hQ];done)|(rw[hQ];rfl)|(rw[hQ];simp only[go_sem];done)|(rw[hQ];simp only[go_sem];rfl)|(rw[hQ];trace_state)
end
end Go.Proofs.YtkkffhphodngkaaDoor
