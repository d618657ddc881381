/- several texts of this proof in one; no conditions -/
import Derived.Test.YtkkffhphodngkabGreatDoorAT
import Derived.Test.YtkkffhphodngkabGreatDoorY21
import Derived.Test.YtkkffhphodngkabGreatDoorY11
import Derived.Test.YtkkffhphodngkabGreatDoorY14
import Derived.Test.YtkkffhphodngkabGreatDoorY4
import Derived.Test.YtkkffhphodngkabGreatDoorY1
import Derived.Test.YtkkffhphodngkabGreatDoorVP
import Derived.Test.YtkkffhphodngkabGreatDoorY20
set_option maxRecDepth 100000
set_option maxHeartbeats 1000000
set_option linter.unusedSimpArgs false
namespace Go.Proofs.YtkkffhphodngkabGreatDoor
open Go Go.Abs Go.Proofs
section
variable {G:Nat→List FD}
def ztw (m:zay)(size n:Int):zay:=zcs (m.consts.map (·.name)) (m.rels.map zlT) size.toNat n.toNat
structure zHL (m:zay)(size n:Int):Prop where
 s:1≤size∧size≤4
 n:0≤n
 a:∀r∈m.rels,0≤r.arity∧r.arity≤3
 c:m.consts.length≤100000000
 r:m.rels.length≤100000000
 z:∀k∈m.consts,k.value=0
 k:zbk size.toNat (m.rels.map zlT)≤1000
theorem zz1:∀{ns:List Str} {vs:List Int} {p:Nat} {v:Int},p<ns.length→vs.length=ns.length→(zaf ((List.zipWith zaG.mk ns vs).map enc)).set (p*2+1) (.fz (.i .i64 v))=zaf ((List.zipWith zaG.mk ns (vs.set p v)).map enc)
 |[],_,_,_,h,_=>by simp at h
 |_::_,[],_,_,_,h=>by simp at h
 |_::ns,_::vs,0,v,_,_=>rfl
 |x::ns,y::vs,p+1,v,h,h2=>by
  have ih:=zz1 (ns:=ns) (vs:=vs) (p:=p) (v:=v) (by simpa using h) (by simpa using h2)
  rw[List.set_cons_succ,List.zipWith_cons_cons,List.zipWith_cons_cons,List.map_cons,List.map_cons]
  show(.fz (.s x.l):: .fz (.i .i64 y)::zaf ((List.zipWith zaG.mk ns vs).map enc)).set _ _= .fz (.s x.l):: .fz (.i .i64 y)::zaf ((List.zipWith zaG.mk ns (vs.set p v)).map enc)
  rw[←ih,show(p+1)*2+1=(p*2+1)+1+1 by omega,List.set_cons_succ,List.set_cons_succ]
theorem zEs {ns:List Str}{vs:List Int}(h:vs.length=ns.length):(List.zipWith zaG.mk ns vs).length=ns.length:=by rw[List.length_zipWith,h,Nat.min_self]
theorem zvh:∀{l:List zaG},(∀k∈l,k.value=0)→List.zipWith zaG.mk (l.map (·.name)) (List.replicate l.length 0)=l
 |[],_=>rfl
 |k::l,h=>by
  rw[List.map_cons,List.length_cons,List.replicate_succ,List.zipWith_cons_cons,zvh fun q hq=>h q (List.mem_cons_of_mem _ hq)]
  have:=h k (by simp)
  cases k;simp only at this;subst this;rfl
theorem zxo (x:Nat):zFM (x:Int) 1=((x % 2:Nat):Int):=by
 unfold zFM
 have h:(BitVec.ofInt 64 (x:Int)&&& BitVec.ofInt 64 1).toNat=x % 2:=by
  rw[BitVec.toNat_and,BitVec.ofInt_natCast,BitVec.toNat_ofNat,show(BitVec.ofInt 64 1).toNat=1 from rfl,Nat.and_one_is_mod,Nat.mod_mod_of_dvd _ (by decide)]
 rw[h]
 rcases Nat.mod_two_eq_zero_or_one x with e|e<;>rw[e]<;>rfl
theorem zC7 {P:Program}{G:Nat→List FD}{N:Nat}{c:Code}{st:St}{q:Exit→St→Prop}{ι:Type}(e0:Exit)(I:ι→St)(h:∀i,q e0 (I i))(h2:@WK P G N c st ⟨fun e s=>e=e0∧∃i,zfa G N s (I i)⟩):@WK P G N c st ⟨q⟩:=by
 unfold WK at h2 ⊢
 intro a w L F hr
 refine wp_mono (h2 a w L F hr) fun e a' w' hs=>?_
 obtain⟨s,L1,F1,⟨rfl,i,hw⟩,g2,g3⟩:=hs
 obtain⟨L2,F2,g4,g5⟩:=hw a' w' L1 F1 g2
 exact⟨I i,L2,F2,h i,g4,zbA.trans g3 g5⟩
theorem zzL:∀l:List zaG,(zaf (l.map enc)).length=l.length*2
 |[]=>rfl
 |x::l=>by
  rw[List.map_cons,List.length_cons]
  show(D.fz (.s x.name.l)::D.fz (.i .i64 x.value)::zaf (l.map enc)).length=_
  rw[List.length_cons,List.length_cons,zzL l];omega
def zru:Tv:=(.q 0 (.q 1 (.q 2 (.q 3 (.q 4 (.q 5 (.q 6 (.q 7 (.br [(8,.leaf)])))))))))
def ztv (K N j:Nat):List Bool:=(zkM 2 N K j).map fun d=>decide (d=1)
theorem zqk {K N j:Nat}(h:j≤K):(ztv K N j).length=K:=by unfold ztv;rw[List.length_map,zmp h]
theorem zt7 (K N:Nat):ztv K N 0=List.replicate K false:=by unfold ztv;rw[zjN,List.map_replicate];rfl
theorem zxs {K N j:Nat}(h:j<K):(ztv K N j).set (K-1-j) (decide ((zic 2 N j % 2:Nat)=(1:Int)))=ztv K N (j+1):=by
 unfold ztv
 rw[←zmq h,List.map_set]
def I8:Tbl:=I7.add 102 (sp3 ztw zHL)
attribute [go_sem] I8
def zJ8 (m:zay)(S N:Nat)(d:D)(H:zav)(n:Nat):Prop:=∃g h,g<n∧h<n∧d= .agg [.fz (.i .i64 S),.arr (136007,g) 2 0 m.consts.length,.ow (102132,h) 3 ((ztw m S N).rels.map enc)]∧H (136007,g)=some ⟨zaf ((ztw m S N).consts.map enc),false,m.consts.isEmpty⟩
set_option maxHeartbeats 8000000 in
theorem zMa {m:zay}{size n:Int}(hp:zHL m size n)(S N:Nat)(hS:size=S)(hN:n=N):zaw Tryz.prog G 102 [.fz (enc m),.fz (enc size),.fz (enc n)] (hpL []) 0 (zJ8 m S N):=by
 obtain⟨⟨hs1,hs4⟩,hn,har,hcl,hrl,hcz,hk⟩:=hp
 subst hS
 subst hN
 obtain⟨Q,hQ⟩:∃Q:D→zav→Nat→Prop,Q=zJ8 m S N:=⟨_,rfl⟩
 rw[←hQ]
 have kq:=Kp.mk hQ
 clear hQ
 have kr:=Kp.mk har
 clear har
 rw[Int.toNat_natCast]at hk
 obtain⟨c,hc⟩:∃c,m.consts.length=c:=⟨_,rfl⟩
 have hcl2:=hcl
 rw[hc]at hcl2
 obtain⟨ps,hps⟩:∃ps,m.rels.map zlT=ps:=⟨_,rfl⟩
 have hpl:ps.length=m.rels.length:=by rw[←hps,List.length_map]
 have hpi:∀i (h:i<m.rels.length) (h2:i<ps.length),ps[i]=zlT m.rels[i]:=fun i h h2=>by subst hps;rw[List.getElem_map]
 rw[hps]at hk
 obtain⟨C,hC⟩:∃C:Nat→Nat,C=fun i=>zbk S (ps.take i):=⟨_,rfl⟩
 have hC0:C 0=0:=by rw[hC];rfl
 have hCs:∀i (h:i<m.rels.length),C (i+1)=C i+zw1 S (zlT m.rels[i]):=fun i h=>by rw[hC];simp only;rw[zr2 (by omega),hpi i h (by omega)]
 have hCe:C m.rels.length=zbk S ps:=by rw[hC,←hpl];simp only[List.take_length]
 have hCm:∀i,i≤m.rels.length→C i≤zbk S ps:=fun i h=>by
  have key:∀k,C i≤C (i+k)∨m.rels.length<i+k:=by
   intro k
   induction k with
   |zero=>exact .inl (Nat.le_refl _)
   |succ k ih=>
    rcases ih with ih|ih
    ·rcases Nat.lt_or_ge (i+k) m.rels.length with h2|h2
     ·have:=hCs (i+k) h2;rw[←Nat.add_assoc];exact .inl (by omega)
     ·exact .inr (by omega)
    ·exact .inr (by omega)
  rcases key (m.rels.length-i)with h2|h2
  ·rw[show i+(m.rels.length-i)=m.rels.length by omega,hCe]at h2;exact h2
  ·omega
 obtain⟨K,hK⟩:∃K,zbk S ps=K:=⟨_,rfl⟩
 rw[hK]at hk hCe hCm
 have kC:=Kp.mk hCs
 have kM:=Kp.mk hCm
 have kp:=Kp.mk hpi
 clear hCs hCm
 refine zae (N:=136) hm hI7 102000 (lsw [123,132] [101,1000005,1000018]) zEJ Tryz.func102 rfl rfl (by simp) (by kernel_rfl) ?_
 repeat'(first|refine zak.i (zrQ rfl (zDo hcl) fun g b hg hg2=>?_)|refine And.intro ?_ ?_|exact True.intro|refine rq fun _=>?_|refine rf fun _=>?_|simp only[go_sem,hc,zab,zad,zag,zaa,Tryz.f102])
 refine zat hm hI7 102000 (lsw [123,132] [101,1000005,1000018]) (ι:=zcW m.rels.length (b+1) fun _=>True)
  ⟨fun q=>⟨frL [(1,.fz (.i .i64 S)),(2,.fz (.i .i64 N)),(3,.ptr (102003,0) 0),(6,.ptr (102006,1) 0),(7,.ptr (102007,b) 0),(9,.fz (.i .i64 (C q.i:Nat))),(28,.fz (.sl (m.rels.map enc))),(29,.fz (.i .i64 m.rels.length)),(30,.fz (.i .i64 q.i))],hpL [((102003,0),some ⟨[.fz (.i .i64 m.size),.fz (.sl (m.consts.map enc)),.fz (.sl (m.rels.map enc))],true,false⟩),((102006,1),some ⟨[.fz (.i .i64 0),.full [],.full []],true,false⟩),((102007,b),some ⟨[.fz (.i .i64 S),.arr (136007,g) 2 0 c,.full []],true,false⟩),((136007,g),some ⟨zaf (m.consts.map enc),false,m.consts.isEmpty⟩)],q.m⟩,fun q=>m.rels.length-q.i⟩
  ⟨0,b+1,by omega,by omega,trivial⟩ (by kernel_rfl) ?_ ?_
 ·refine zaj ?_ ?_ ?_<;>simp only[go_sem,hC0]
  all_goals first|done|rfl|omega
 rintro⟨i,n,hi,hn2,_⟩
 try simp only at hi hn2
 have hCi:=kM.out i hi
 rcases Nat.lt_or_ge i m.rels.length with h1|h1
 ·obtain⟨x,hx⟩:∃x,m.rels[i]=x:=⟨_,rfl⟩
  have hxa:=kr.out x (by rw[←hx];exact List.getElem_mem h1)
  have hcs:=kC.out i h1
  rw[hx]at hcs
  obtain⟨P,hP⟩:∃P,zw1 S (zlT x)=P:=⟨_,rfl⟩
  have hpw:zCW S x.arity=(P:Int):=by rw[←hP];rfl
  rw[hP]at hcs
  have hCi2:=kM.out (i+1) h1
  obtain⟨z,hz⟩:∃z,C i=z:=⟨_,rfl⟩
  rw[hz]at hcs hCi
  have hzp:(z:Int)+(P:Int)=((z+P:Nat):Int):=by simp
  have hpp:(1≤(S:Int)∧(S:Int)≤4)∧0≤x.arity∧x.arity≤3:=⟨⟨hs1,hs4⟩,hxa⟩
  repeat'(first|refine zaA.i hpp fun _=>?_|refine And.intro ?_ ?_|exact True.intro|refine rq fun _=>?_|refine rf fun _=>?_|simp only[go_sem,h1,hx,hpw,hz,hzp,zab,zad,zag,zaa,Tryz.f102])
  refine⟨⟨i+1,n+1,by omega,by omega,trivial⟩,by simp only;omega,?_⟩
  refine zaj ?_ ?_ ?_<;>simp only[go_sem,hcs]
  all_goals first|done|rfl|omega
 obtain rfl:i=m.rels.length:=by omega
 have v0:=zt7 K N
 obtain⟨I,hI⟩:∃I:Nat→Int,I=fun j:Nat=>(K:Int)-1-(j:Int):=⟨_,rfl⟩
 have hI0:I 0=(K:Int)-1:=by rw[hI];simp
 have hIs:∀j,I (j+1)=I j-1:=fun j=>by rw[hI];simp only;omega
 have hIe:I K= -1:=by rw[hI];simp only;omega
 have hIj:∀j (_:j<K),I j=((K-1-j:Nat):Int):=fun j h=>by rw[hI];simp only;omega
 have kI:=Kp.mk hIj
 have kS:=Kp.mk hIs
 clear hI hIj hIs
 repeat'(first|refine And.intro ?_ ?_|exact True.intro|refine rq fun _=>?_|refine rf fun _=>?_|simp only[go_sem,Nat.lt_irrefl,hCe,zEB,zvX,←v0,hI0,zab,zad,zag,zaa,Tryz.f102])
 refine zat hm hI7 102000 (lsw [123,132] [101,1000005,1000018]) (ι:=zcW K (n+1) fun _=>True)
  ⟨fun q=>⟨frL [(1,.fz (.i .i64 S)),(2,.fz (.i .i64 (zic 2 N q.i:Nat))),(3,.ptr (102003,0) 0),(6,.ptr (102006,1) 0),(7,.ptr (102007,b) 0),(8,.arr (102042,n) 1 0 K),(12,.fz (.i .i64 (I q.i)))],hpL [((102003,0),some ⟨[.fz (.i .i64 m.size),.fz (.sl (m.consts.map enc)),.fz (.sl (m.rels.map enc))],true,false⟩),((102006,1),some ⟨[.fz (.i .i64 0),.full [],.full []],true,false⟩),((102007,b),some ⟨[.fz (.i .i64 S),.arr (136007,g) 2 0 c,.full []],true,false⟩),((136007,g),some ⟨zaf (m.consts.map enc),false,m.consts.isEmpty⟩),((102042,n),some ⟨zaf ((ztv K N q.i).map enc),false,false⟩)],q.m⟩,fun q=>K-q.i⟩
  ⟨0,n+1,by omega,by omega,trivial⟩ (by kernel_rfl) ?_ ?_
 ·refine zaj ?_ ?_ ?_<;>simp only[go_sem,hI0,zic]
  all_goals first|done|rfl|omega
 rintro⟨j,n2,hj,hn3,_⟩
 try simp only at hj hn3
 rcases Nat.lt_or_ge j K with h2|h2
 ·have e1:=kI.out j h2
  have e4:=kS.out j
  have hset:=zxs (N:=N) h2
  have hvl:=zqk (K:=K) (N:=N) (j:=j) (by omega)
  obtain⟨p,hp⟩:∃p,K-1-j=p:=⟨_,rfl⟩
  have hpl2:p<K:=by omega
  rw[hp]at hset e1
  rw[e1]at e4
  have e2:((0:Int)≤(p:Int))=True:=eq_true (by omega)
  have hq1:zic 2 N (j+1)=zic 2 N j / 2:=rfl
  obtain⟨x,hx⟩:∃x,zic 2 N j=x:=⟨_,rfl⟩
  rw[hx]at hset hq1
  have em:=zxo x
  have ed:(x:Int) / (2:Int)=((x / 2:Nat):Int):=(Int.natCast_ediv x 2).symm
  obtain⟨r,hr⟩:∃r,x % 2=r:=⟨_,rfl⟩
  obtain⟨y,hy⟩:∃y,x / 2=y:=⟨_,rfl⟩
  rw[hr]at em hset
  rw[hy]at ed hq1
  have hfs:(zaf ((ztv K N j).map enc)).set p (.fz (.b (decide ((r:Int)=1))))=zaf ((ztv K N (j+1)).map enc):=by rw[←hset,←zlp];rfl
  repeat'(first|refine zaA.i ⟨by omega,by decide,by decide⟩ fun _=>?_|refine And.intro ?_ ?_|exact True.intro|refine rq fun _=>?_|refine rf fun _=>?_|simp only[go_sem,hx,e1,e2,em,ed,hvl,hpl2,zab,zad,zag,zaa,Tryz.f102])
  refine⟨⟨j+1,n2,by omega,by omega,trivial⟩,by simp only;omega,?_⟩
  refine zaj ?_ ?_ ?_<;>simp only[go_sem,e4,hq1,hfs]
  all_goals first|done|rfl|omega
 obtain rfl:K=j:=by omega
 clear kI kS hI0 v0
 obtain⟨M,hM⟩:∃M,zic 2 N K=M:=⟨_,rfl⟩
 obtain⟨ns,hns⟩:∃ns,m.consts.map (·.name)=ns:=⟨_,rfl⟩
 have hnl:ns.length=c:=by rw[←hns,List.length_map,hc]
 have hz0:List.zipWith zaG.mk ns (zkM S M c 0)=m.consts:=by rw[zjN,←hns,←hc];exact zvh hcz
 obtain⟨J,hJ⟩:∃J:Nat→Int,J=fun j:Nat=>(c:Int)-1-(j:Int):=⟨_,rfl⟩
 have hJ0:J 0=(c:Int)-1:=by rw[hJ];simp
 have hJs:∀j,J (j+1)=J j-1:=fun j=>by rw[hJ];simp only;omega
 have hJe:J c= -1:=by rw[hJ];simp only;omega
 have hJj:∀j (_:j<c),J j=((c-1-j:Nat):Int):=fun j h=>by rw[hJ];simp only;omega
 have kI:=Kp.mk hJj
 have kS:=Kp.mk hJs
 clear hJ hJj hJs
 repeat'(first|refine And.intro ?_ ?_|exact True.intro|refine rq fun _=>?_|refine rf fun _=>?_|simp only[go_sem,hIe,hM,zab,zad,zag,zaa,Tryz.f102])
 refine zat hm hI7 102000 (lsw [123,132] [101,1000005,1000018]) (ι:=zcW c n2 fun _=>True)
  ⟨fun q=>⟨frL [(1,.fz (.i .i64 S)),(2,.fz (.i .i64 (zic S M q.i:Nat))),(3,.ptr (102003,0) 0),(6,.ptr (102006,1) 0),(7,.ptr (102007,b) 0),(8,.arr (102042,n) 1 0 K),(13,.fz (.i .i64 (J q.i)))],hpL [((102003,0),some ⟨[.fz (.i .i64 m.size),.fz (.sl (m.consts.map enc)),.fz (.sl (m.rels.map enc))],true,false⟩),((102006,1),some ⟨[.fz (.i .i64 0),.full [],.full []],true,false⟩),((102007,b),some ⟨[.fz (.i .i64 S),.arr (136007,g) 2 0 c,.full []],true,false⟩),((136007,g),some ⟨zaf ((List.zipWith zaG.mk ns (zkM S M c q.i)).map enc),false,m.consts.isEmpty⟩),((102042,n),some ⟨zaf ((ztv K N K).map enc),false,false⟩)],q.m⟩,fun q=>c-q.i⟩
  ⟨0,n2,by omega,by omega,trivial⟩ (by kernel_rfl) ?_ ?_
 ·refine zaj ?_ ?_ ?_<;>simp only[go_sem,hJ0,zic,hz0]
  all_goals first|done|rfl|omega
 rintro⟨j,n3,hj,hn3,_⟩
 try simp only at hj hn3
 rcases Nat.lt_or_ge j c with h2|h2
 ·have e1:=kI.out j h2
  have e4:=kS.out j
  have hset:=zmq (s:=S) (i:=M) h2
  have hvl:=zmp (s:=S) (i:=M) (j:=j) (n:=c) (by omega)
  obtain⟨p,hp⟩:∃p,c-1-j=p:=⟨_,rfl⟩
  have hpl2:p<c:=by omega
  rw[hp]at hset e1
  rw[e1]at e4
  have e2:((0:Int)≤(p:Int))=True:=eq_true (by omega)
  have hq1:zic S M (j+1)=zic S M j / S:=rfl
  obtain⟨x,hx⟩:∃x,zic S M j=x:=⟨_,rfl⟩
  rw[hx]at hset hq1
  have em:(x:Int) % (S:Int)=((x % S:Nat):Int):=(Int.natCast_emod x S).symm
  have ed:(x:Int) / (S:Int)=((x / S:Nat):Int):=(Int.natCast_ediv x S).symm
  obtain⟨r,hr⟩:∃r,x % S=r:=⟨_,rfl⟩
  obtain⟨y,hy⟩:∃y,x / S=y:=⟨_,rfl⟩
  rw[hr]at em hset
  rw[hy]at ed hq1
  have hfs:=zz1 (ns:=ns) (vs:=zkM S M c j) (p:=p) (v:=(r:Int)) (by omega) (by omega)
  rw[hset]at hfs
  have hce:m.consts.isEmpty=false:=by
   cases h:m.consts with
   |nil=>rw[h]at hc;simp at hc;omega
   |cons=>rfl
  have hfl:p*2+1+1≤(zaf ((List.zipWith zaG.mk ns (zkM S M c j)).map enc)).length:=by rw[zzL,zEs (by omega),hnl];omega
  repeat'(first|refine zar hm hI7 102000 (lsw [123,132] [101,1000005,1000018]) zru (by kernel_rfl) (by kernel_rfl) ?_|refine zaA.i hfl fun _=>?_|refine zaA.i ⟨by omega,by omega⟩ fun _=>?_|refine zaA.i ⟨by omega,by omega,by omega⟩ fun _=>?_|refine And.intro ?_ ?_|exact True.intro|refine rq fun _=>?_|refine rf fun _=>?_|simp only[go_sem,hx,e1,e2,em,ed,hvl,hpl2,hce,zru,zab,zad,zag,zaa,Tryz.f102])
  all_goals
   refine⟨⟨j+1,n3,by omega,by omega,trivial⟩,by simp only;omega,?_⟩
   refine zaj ?_ ?_ ?_<;>simp only[go_sem,e4,hq1,hfs,hce]
   all_goals first|done|rfl|omega
 obtain rfl:c=j:=by omega
 obtain⟨B,hB⟩:∃B,ztv K N K=B:=⟨_,rfl⟩
 have hBl:B.length=K:=by rw[←hB];exact zqk (Nat.le_refl _)
 obtain⟨Z,hZ⟩:∃Z,List.zipWith zaG.mk ns (zkM S M c c)=Z:=⟨_,rfl⟩
 obtain⟨RF,hRF⟩:∃RF:Nat→List zek,RF=fun i=>zgU S (ps.take i) B:=⟨_,rfl⟩
 have hR0:RF 0=[]:=by rw[hRF];rfl
 have hRs:∀i (h:i<m.rels.length),RF (i+1)=RF i++[⟨m.rels[i].name,m.rels[i].arity,zC1 S m.rels[i].arity.toNat (B.drop (C i)) (S^m.rels[i].arity.toNat)⟩]:=fun i h=>by rw[hRF];simp only;rw[zoa B (by omega),hpi i h (by omega),hC];rfl
 have hRl:∀i,i≤m.rels.length→(RF i).length=i:=fun i h=>by rw[hRF];simp only;rw[zjw,List.length_take];omega
 have hfin:(ztw m S N).consts=Z∧(ztw m S N).rels=RF m.rels.length:=by
  unfold ztw
  rw[hps,hns,Int.toNat_natCast,Int.toNat_natCast]
  unfold zcs
  refine⟨?_,?_⟩
  ·rw[←hZ,hnl,zit,hK,←hM,zq9]
  ·rw[hRF,←hpl];simp only[List.take_length]
   rw[←hB,hK,zo2];rfl
 have kR:=Kp.mk hRs
 have kRl:=Kp.mk hRl
 clear hRs hRl hRF kI kS hJ0 hpi hC
 repeat'(first|refine And.intro ?_ ?_|exact True.intro|refine rq fun _=>?_|refine rf fun _=>?_|simp only[go_sem,hJe,hB,hZ,zab,zad,zag,zaa,Tryz.f102])
 refine zat hm hI7 102000 (lsw [123,132] [101,1000005,1000018]) (ι:=zh6 m.rels.length (n3+1) fun _=>True)
  ⟨fun q=>⟨frL [(1,.fz (.i .i64 S)),(6,.ptr (102006,1) 0),(7,.ptr (102007,b) 0),(8,.arr (102042,n) 1 0 K),(14,.fz (.i .i64 (C q.i:Nat))),(77,.fz (.sl (m.rels.map enc))),(78,.fz (.i .i64 m.rels.length)),(79,.fz (.i .i64 q.i))],hpL [((102006,1),some ⟨[.fz (.i .i64 0),.full [],.full []],true,false⟩),((102007,b),some ⟨[.fz (.i .i64 S),.arr (136007,g) 2 0 c,.ow (102132,q.g) 3 ((RF q.i).map enc)],true,false⟩),((136007,g),some ⟨zaf (Z.map enc),false,m.consts.isEmpty⟩),((102042,n),some ⟨zaf (B.map enc),false,false⟩),((102132,q.g),some tok)],q.m⟩,fun q=>m.rels.length-q.i⟩
  ⟨0,n3,n3+1,by omega,by omega,by omega,trivial⟩ (by kernel_rfl) ?_ ?_
 ·refine zbm [] [(102132,n3)] [] ?_ ?_ ?_ ?_ ?_<;>(try simp only[go_sem,hC0,hR0,List.map_nil])
  all_goals first|done|rfl|omega
 rintro⟨i,h,n4,hi,hh,hn4,_⟩
 try simp only at hi hh hn4
 rcases Nat.lt_or_ge i m.rels.length with h1|h1
 rotate_left
 ·obtain rfl:i=m.rels.length:=by omega
  repeat'(first|refine And.intro ?_ ?_|exact True.intro|refine rq fun _=>?_|refine rf fun _=>?_|simp only[go_sem,Nat.lt_irrefl,zab,zad,zag,zaa,Tryz.f102])
  all_goals
   rw[kq.out]
   exact⟨g,h,by omega,by omega,by rw[hfin.2,hc],by rw[hfin.1];simp only[go_sem]⟩
 obtain⟨x,hx⟩:∃x,m.rels[i]=x:=⟨_,rfl⟩
 have hxa:=kr.out x (by rw[←hx];exact List.getElem_mem h1)
 have hcs:=kC.out i h1
 have hrs:=kR.out i h1
 have hrl:=kRl.out i hi
 rw[hx]at hcs hrs
 obtain⟨A,hA⟩:∃A:Nat,x.arity=(A:Int):=⟨x.arity.toNat,by omega⟩
 rw[hA,Int.toNat_natCast]at hrs
 obtain⟨P,hP⟩:∃P,S^A=P:=⟨_,rfl⟩
 have hpw:zCW S (A:Int)=(P:Int):=by rw[←hP];rfl
 have hpw2:zw1 S (zlT x)=P:=by rw[←hP];show S^x.arity.toNat=_;rw[hA,Int.toNat_natCast]
 rw[hpw2]at hcs
 rw[hP]at hrs
 have hCi2:=kM.out (i+1) h1
 obtain⟨z,hz⟩:∃z,C i=z:=⟨_,rfl⟩
 rw[hz]at hcs hrs
 obtain⟨R0,hR⟩:∃R0,RF i=R0:=⟨_,rfl⟩
 rw[hR]at hrs hrl
 have hpp:(1≤(S:Int)∧(S:Int)≤4)∧0≤(A:Int)∧(A:Int)≤3:=⟨⟨hs1,hs4⟩,by omega,by omega⟩
 obtain⟨T,hT⟩:∃T:Nat→List (List Int),T=zC1 S A (B.drop z):=⟨_,rfl⟩
 have hT0:T 0=[]:=by rw[hT];rfl
 have hTs:∀k,T (k+1)=T k++(if(B.drop z).getD k false=true then[zc5 S A k]else[]):=fun k=>by rw[hT];exact zwE S A _ k
 have hTl:∀k,(T k).length≤k:=fun k=>by
  rw[hT];unfold zC1;rw[List.length_map]
  exact Nat.le_trans (List.length_filter_le _ _) (by simp)
 have hgb:∀k,k<P→(zaf (B.map enc)).getD (z+k) .junk= .fz (.b ((B.drop z).getD k false)):=fun k hk=>by
  have h3:z+k<B.length:=by omega
  rw[zbf,List.getD_eq_getElem?_getD,List.getElem?_map,List.getElem?_eq_getElem h3,List.getD_eq_getElem?_getD,List.getElem?_drop,List.getElem?_eq_getElem h3];rfl
 rw[←hT]at hrs
 have kT:=Kp.mk hTs
 have kTl:=Kp.mk hTl
 have kgb:=Kp.mk hgb
 clear hT hTs hTl hgb
 repeat'(first|refine zaA.i hpp fun _=>?_|refine And.intro ?_ ?_|exact True.intro|refine rq fun _=>?_|refine rf fun _=>?_|simp only[go_sem,h1,hx,hpw,hz,hA,hR,zab,zad,zag,zaa,Tryz.f102])
 refine zat hm hI7 102000 (lsw [123,132] [101,1000005,1000018]) (ι:=zh6 P (n4+3) fun _=>True)
  ⟨fun q=>⟨frL [(1,.fz (.i .i64 S)),(6,.ptr (102006,1) 0),(7,.ptr (102007,b) 0),(8,.arr (102042,n) 1 0 K),(16,.ptr (102016,n4) 0),(17,.ptr (102017,n4+1) 0),(77,.fz (.sl (m.rels.map enc))),(78,.fz (.i .i64 m.rels.length)),(79,.fz (.i .i64 i)),(91,.fz (.i .i64 P)),(92,.fz (.i .i64 q.i)),(14,.fz (.i .i64 ((z+q.i:Nat):Int)))],hpL [((102006,1),some ⟨[.fz (.i .i64 0),.full [],.full []],true,false⟩),((102007,b),some ⟨[.fz (.i .i64 S),.arr (136007,g) 2 0 c,.ow (102132,h) 3 (R0.map enc)],true,false⟩),((136007,g),some ⟨zaf (Z.map enc),false,m.consts.isEmpty⟩),((102042,n),some ⟨zaf (B.map enc),false,false⟩),((102132,h),some tok),((102016,n4),some ⟨[.fz (.s x.name.l),.fz (.i .i64 A),.fz (.sl (x.tuples.map enc))],true,false⟩),((102017,n4+1),some ⟨[.fz (.s x.name.l),.fz (.i .i64 A),.ow (102123,q.g) 1 ((T q.i).map enc)],true,false⟩),((102123,q.g),some tok)],q.m⟩,fun q=>P-q.i⟩
  ⟨0,n4+2,n4+3,by omega,by omega,by omega,trivial⟩ (by kernel_rfl) ?_ ?_
 ·refine zbm [] [(102123,n4+2)] [] ?_ ?_ ?_ ?_ ?_<;>(try simp only[go_sem,hT0,List.map_nil])
  all_goals first|done|rfl|omega
 rintro⟨k,h',n5,hk',hh',hn5,_⟩
 try simp only at hk' hh' hn5
 have htl:=kTl.out k
 rcases Nat.lt_or_ge k P with h2|h2
 rotate_left
 ·obtain rfl:k=P:=by omega
  repeat'(first|refine And.intro ?_ ?_|exact True.intro|refine rq fun _=>?_|refine rf fun _=>?_|simp only[go_sem,Int.lt_irrefl,zab,zad,zag,zaa,Tryz.f102])
  all_goals
   refine⟨⟨i+1,n5,n5+1,by omega,by omega,by omega,trivial⟩,by simp only;omega,?_⟩
   refine zaj ?_ ?_ ?_<;>(try simp only[go_sem,hcs,hrs,List.map_append,List.map_cons,List.map_nil])
   all_goals first|done|rfl|omega
 have hts:=kT.out k
 have hgd:=kgb.out k h2
 have h2i:((k:Int)<(P:Int))=True:=eq_true (by omega)
 have hzk:((z+k:Nat):Int)+1=((z+(k+1):Nat):Int):=by omega
 have hzk2:z+k<K:=by omega
 have hP64:=(zpU (a:=(S:Int)) (n:=(A:Int)) hs1 hs4 (by omega) (by omega) A (by omega)).2
 rw[show((S:Int).toNat^A)=P from hP]at hP64
 obtain⟨v,hv⟩:∃v,(B.drop z).getD k false=v:=⟨_,rfl⟩
 rw[hv]at hts hgd
 cases v with
 |false=>
  rw[if_neg (by decide),List.append_nil]at hts
  repeat'(first|refine And.intro ?_ ?_|exact True.intro|refine rq fun _=>?_|refine rf fun _=>?_|simp only[go_sem,h2i,hgd,hBl,hzk2,hzk,zab,zad,zag,zaa,Tryz.f102])
  all_goals
   refine⟨⟨k+1,h',n5,by omega,by omega,by omega,trivial⟩,by simp only;omega,?_⟩
   refine zaj ?_ ?_ ?_<;>(try simp only[go_sem,hts,hzk])
   all_goals first|done|rfl|omega
 |true=>
  rw[if_pos rfl]at hts
  obtain⟨J,hJ⟩:∃J:Nat→Int,J=fun j:Nat=>(A:Int)-1-(j:Int):=⟨_,rfl⟩
  have hJ0:J 0=(A:Int)-1:=by rw[hJ];simp
  have hJs:∀j,J (j+1)=J j-1:=fun j=>by rw[hJ];simp only;omega
  have hJe:J A= -1:=by rw[hJ];simp only;omega
  have hJj:∀j (_:j<A),J j=((A-1-j:Nat):Int):=fun j h=>by rw[hJ];simp only;omega
  have v0:zkM S k A 0=List.replicate A 0:=zjN S k A
  have rep_ints:∀n:Nat,List.replicate n (D.fz (.i .i64 0))=zaf ((List.replicate n (0:Int)).map enc):=fun n=>by rw[zbf];simp[zAN]
  have kI:=Kp.mk hJj
  have kS:=Kp.mk hJs
  clear hJ hJj hJs
  repeat'(first|refine And.intro ?_ ?_|exact True.intro|refine rq fun _=>?_|refine rf fun _=>?_|simp only[go_sem,h2i,hgd,hBl,hzk2,zEB,rep_ints,←v0,hJ0,zab,zad,zag,zaa,Tryz.f102])
  refine zC7 (.exit 10) (fun _:Unit=>⟨frL [(1,.fz (.i .i64 S)),(6,.ptr (102006,1) 0),(7,.ptr (102007,b) 0),(8,.arr (102042,n) 1 0 K),(16,.ptr (102016,n4) 0),(17,.ptr (102017,n4+1) 0),(77,.fz (.sl (m.rels.map enc))),(78,.fz (.i .i64 m.rels.length)),(79,.fz (.i .i64 i)),(91,.fz (.i .i64 P)),(92,.fz (.i .i64 k)),(14,.fz (.i .i64 ((z+k:Nat):Int))),(19,.fz (.sl ((zc5 S A k).map enc)))],hpL [((102006,1),some ⟨[.fz (.i .i64 0),.full [],.full []],true,false⟩),((102007,b),some ⟨[.fz (.i .i64 S),.arr (136007,g) 2 0 c,.ow (102132,h) 3 (R0.map enc)],true,false⟩),((136007,g),some ⟨zaf (Z.map enc),false,m.consts.isEmpty⟩),((102042,n),some ⟨zaf (B.map enc),false,false⟩),((102132,h),some tok),((102016,n4),some ⟨[.fz (.s x.name.l),.fz (.i .i64 A),.fz (.sl (x.tuples.map enc))],true,false⟩),((102017,n4+1),some ⟨[.fz (.s x.name.l),.fz (.i .i64 A),.ow (102123,h') 1 ((T k).map enc)],true,false⟩),((102123,h'),some tok)],n5+1⟩) (fun _=>?_) ?_
  ·repeat'(first|refine And.intro ?_ ?_|exact True.intro|refine rq fun _=>?_|refine rf fun _=>?_|simp only[go_sem,zab,zad,zag,zaa,Tryz.f102])
   all_goals
    refine⟨⟨k+1,n5+1,n5+2,by omega,by omega,by omega,trivial⟩,by simp only;omega,?_⟩
    refine zaj ?_ ?_ ?_<;>(try simp only[go_sem,hts,hzk,List.map_append,List.map_cons,List.map_nil])
    all_goals first|done|rfl|omega
  refine zat hm hI7 102000 (lsw [123,132] [101,1000005,1000018]) (ι:=zhd A fun _=>True)
   ⟨fun q=>⟨frL [(1,.fz (.i .i64 S)),(6,.ptr (102006,1) 0),(7,.ptr (102007,b) 0),(8,.arr (102042,n) 1 0 K),(16,.ptr (102016,n4) 0),(17,.ptr (102017,n4+1) 0),(77,.fz (.sl (m.rels.map enc))),(78,.fz (.i .i64 m.rels.length)),(79,.fz (.i .i64 i)),(91,.fz (.i .i64 P)),(92,.fz (.i .i64 k)),(14,.fz (.i .i64 ((z+k:Nat):Int))),(19,.arr (102101,n5) 1 0 A),(20,.fz (.i .i64 (J q.i))),(21,.fz (.i .i64 (zic S k q.i:Nat)))],hpL [((102006,1),some ⟨[.fz (.i .i64 0),.full [],.full []],true,false⟩),((102007,b),some ⟨[.fz (.i .i64 S),.arr (136007,g) 2 0 c,.ow (102132,h) 3 (R0.map enc)],true,false⟩),((136007,g),some ⟨zaf (Z.map enc),false,m.consts.isEmpty⟩),((102042,n),some ⟨zaf (B.map enc),false,false⟩),((102132,h),some tok),((102016,n4),some ⟨[.fz (.s x.name.l),.fz (.i .i64 A),.fz (.sl (x.tuples.map enc))],true,false⟩),((102017,n4+1),some ⟨[.fz (.s x.name.l),.fz (.i .i64 A),.ow (102123,h') 1 ((T k).map enc)],true,false⟩),((102123,h'),some tok),((102101,n5),some ⟨zaf ((zkM S k A q.i).map enc),false,false⟩)],n5+1⟩,fun q=>A-q.i⟩
   ⟨0,by omega,trivial⟩ (by kernel_rfl) ?_ ?_
  ·refine zaj ?_ ?_ ?_<;>simp only[go_sem,hJ0,zic]
   all_goals first|done|rfl|omega
  rintro⟨j,hj,_⟩
  try simp only at hj
  rcases Nat.lt_or_ge j A with h3|h3
  ·have e1:=kI.out j h3
   have e4:=kS.out j
   have hset:=zmq (s:=S) (i:=k) h3
   have hvl:=zmp (s:=S) (i:=k) (j:=j) (n:=A) (by omega)
   obtain⟨p,hp⟩:∃p,A-1-j=p:=⟨_,rfl⟩
   have hpl2:p<A:=by omega
   rw[hp]at hset e1
   rw[e1]at e4
   have e2:((0:Int)≤(p:Int))=True:=eq_true (by omega)
   have hq1:zic S k (j+1)=zic S k j / S:=rfl
   obtain⟨w,hw⟩:∃w,zic S k j=w:=⟨_,rfl⟩
   rw[hw]at hset hq1
   have em:(w:Int) % (S:Int)=((w % S:Nat):Int):=(Int.natCast_emod w S).symm
   have ed:(w:Int) / (S:Int)=((w / S:Nat):Int):=(Int.natCast_ediv w S).symm
   obtain⟨r,hr⟩:∃r,w % S=r:=⟨_,rfl⟩
   obtain⟨y,hy⟩:∃y,w / S=y:=⟨_,rfl⟩
   rw[hr]at em hset
   rw[hy]at ed hq1
   have hfs:(zaf ((zkM S k A j).map enc)).set p (.fz (.i .i64 r))=zaf ((zkM S k A (j+1)).map enc):=by rw[←hset,←zlp];rfl
   repeat'(first|refine zaA.i ⟨by omega,by omega⟩ fun _=>?_|refine zaA.i ⟨by omega,by omega,by omega⟩ fun _=>?_|refine And.intro ?_ ?_|exact True.intro|refine rq fun _=>?_|refine rf fun _=>?_|simp only[go_sem,hw,e1,e2,em,ed,hvl,hpl2,zab,zad,zag,zaa,Tryz.f102])
   all_goals
    refine⟨⟨j+1,by omega,trivial⟩,by simp only;omega,?_⟩
    refine zaj ?_ ?_ ?_<;>simp only[go_sem,e4,hq1,hfs]
    all_goals first|done|rfl|omega
  obtain rfl:A=j:=by omega
  repeat'(first|refine And.intro ?_ ?_|exact True.intro|refine rq fun _=>?_|refine rf fun _=>?_|simp only[go_sem,hJe,zit,zab,zad,zag,zaa,Tryz.f102])
  all_goals
   refine⟨(),?_⟩
   refine zbm [] [] [((102101,n5),(zc5 S A k).map enc)] ?_ ?_ ?_ ?_ ?_<;>(try simp only[go_sem,zit,zdK])
   all_goals first|done|rfl|omega
theorem hI8:zaq Tryz.prog G I8:=by
 refine zf4 zEJ hI7 fun m size n hp _ _ _=>?_
 obtain⟨S,hS⟩:∃S:Nat,size=(S:Int):=⟨size.toNat,by have:=hp.s;omega⟩
 obtain⟨N,hN⟩:∃N:Nat,n=(N:Int):=⟨n.toNat,by have:=hp.n;omega⟩
 refine zaU (zMa (G:=G) hp S N hS hN) ?_
 subst hS
 subst hN
 rintro d H n1 ⟨g,h,hg,hh,rfl,ho⟩
 have hcl:(ztw m S N).consts.length=m.consts.length:=by unfold ztw zcs;simp[zdK]
 have hsz:(ztw m S N).size=(S:Int):=rfl
 obtain⟨V,hV⟩:∃V,ztw m S N=V:=⟨_,rfl⟩
 rw[hV]at ho hcl hsz ⊢
 refine⟨.agg [.fz (.i .i64 S),.fz (.sl (V.consts.map enc)),.ow (102132,h) 3 (V.rels.map enc)],H0,n1,?_,by simp only[go_sem,hsz]⟩
 have e:H0=hpL []:=rfl
 rw[e,←hcl]
 have hce:m.consts.isEmpty=true→V.consts=[]:=fun h=>List.eq_nil_of_length_eq_zero (by rw[hcl,List.isEmpty_iff.1 h];rfl)
 refine zbm [] [] [((136007,g),V.consts.map enc)] ?_ ?_ ?_ ?_ ?_<;>simp only[go_sem,ho,hg,hh]
 intro h;rw[hce h];rfl
end
end Go.Proofs.YtkkffhphodngkabGreatDoor
namespace Go.Proofs.YtkkffhphodngkabGreatDoor
open Go Go.Abs Go.Proofs
section
variable {G:Nat→List FD}
theorem zjg (l:List Pd):(l.map zj4).map zlT=l:=by
 rw[List.map_map]
 have:∀p∈l,(zlT∘zj4) p=p:=fun p _=>by cases p;rfl
 rw[List.map_congr_left this,List.map_id'' fun _=>rfl]
theorem zDk (l:List Str):(l.map c0).map (·.name)=l:=by
 rw[List.map_map]
 have:∀p∈l,((fun c:zaG=>c.name)∘c0) p=p:=fun p _=>rfl
 rw[List.map_congr_left this,List.map_id'' fun _=>rfl]
theorem zxy (l:List Abs.zac)(S:Nat):zDm (zv7 l) S=zwS (zlQ l S):=by
 unfold zDm zv7 zlQ
 rw[Int.toNat_natCast,zjg,List.length_map]
theorem zx4 (l:List Abs.zac)(S i:Nat):ztw (zv7 l) S i=zsW l S i:=by
 unfold ztw zv7 zsW
 rw[Int.toNat_natCast,Int.toNat_natCast,zjg,zDk]
theorem zqW:∀{l:List Pd} {p:Pd},(znF l p).length≤l.length+1
 |[],p=>by simp[znF]
 |x::l,p=>by
  have ih:=zqW (l:=l) (p:=p)
  rw[znF]
  repeat' split
  all_goals(simp only[List.length_cons];omega)
structure zpg (l:List Abs.zac)(S:Nat):Prop where
 f:∀f∈l,(zaz false f).code=0∧zbP f≤5
 l:l.length≤41
 s:1≤S
 t:S≤4
theorem zxI {l:List Abs.zac}{S:Nat}(hp:zpg l S):∀p∈zgX l,0≤p.arity∧p.arity≤3:=fun p h=>by
 obtain⟨f,hf,h2⟩:=zgY.1 h
 have:=zq6 f (zcc (hp.f f hf).1) p h2
 omega
theorem zy1 {l:List Abs.zac}:(zgX l).length≤1000000+(zed l).length:=by
 unfold zgX zCZ
 have key:∀(ps a:List Pd),(ps.foldl znF a).length≤a.length+ps.length:=by
  intro ps
  induction ps with
  |nil=>intro a;simp
  |cons p ps ih=>
   intro a
   have h1:=ih (znF a p)
   have h2:(znF a p).length≤a.length+1:=zqW
   rw[List.foldl_cons,List.length_cons];omega
 have:=key (zed l) []
 simp only[List.length_nil]at this
 omega
theorem znc {l:List Abs.zac}{S:Nat}(hp:zpg l S):zJ1 (zv7 l) S:=by
 have h1:=zkz (l:=l) (fun f hf=>(hp.f f hf).1) hp.l
 have h2:=zy1 (l:=l)
 have h3:=zjo (l:=l) fun f hf=>(hp.f f hf).1
 have:=hp.l
 have:=hp.s
 have:=hp.t
 refine⟨⟨by omega,by omega⟩,fun r hr=>?_,by unfold zv7;simp only[List.length_map];omega,by unfold zv7;simp only[List.length_map];omega⟩
 obtain⟨p,h,rfl⟩:=List.mem_map.1 (show r∈(zgX l).map zj4 from hr)
 exact zxI hp p h
theorem zuL {l:List Abs.zac}{S n i:Nat}(hp:zpg l S)(hn:zlQ l S=some n):zHL (zv7 l) S i:=by
 have hc:=znc hp
 refine⟨hc.s,by omega,hc.a,hc.c,hc.r,fun k hk=>?_,?_⟩
 ·obtain⟨w,_,rfl⟩:=List.mem_map.1 (show k∈(zaH l).map c0 from hk)
  rfl
 ·show zbk (S:Int).toNat (((zgX l).map zj4).map zlT)≤1000
  rw[zjg,Int.toNat_natCast]
  have:=(zhf (by have:=hp.s;omega) hn).2.2
  omega
theorem zuK {l:List Abs.zac}{S n i:Nat}(hp:zpg l S)(hn:zlQ l S=some n):zHu (zsW l S i) l:=
 ⟨znr (zz9 (fun f hf=>(hp.f f hf).1) hp.l hp.s hp.t hn),hp.f,by have:=hp.l;omega⟩
theorem zsM (l:List Abs.zac)(S:Nat):zeR l S 0=[]:=rfl
theorem zL6 {W:zay}:zaw Tryz.prog G 54 ([enc W].map .fz++[.ptr (7,0) 0]) (hpL [((7,0),some ⟨([FD.i .i64 0,FD.sl [],FD.sl []]).map .fz,true,false⟩)]) 1 (fun d H' _=>D.val d=some (.fz (.b false))∧H' (7,0)=some ⟨([FD.i .i64 W.size,FD.sl (W.consts.map enc),FD.sl (W.rels.map enc)]).map .fz,true,false⟩):=by
 simp only[go_sem]
 refine zae (N:=5) hm hI8 54000 (lst []) zMY Tryz.func54 rfl rfl (by simp) (by kernel_rfl) ?_
 repeat'(first|refine And.intro ?_ ?_|exact True.intro|refine rq fun _=>?_|refine rf fun _=>?_|simp only[go_sem,zab,zad,zag,zaa,Tryz.f54])
 all_goals first|done|exact⟨rfl,rfl⟩|(simp only[go_sem];done)|(refine⟨by simp only[go_sem],by simp only[go_sem]⟩)
def zj1:Option (List zay)→zay
 |none=>zcM
 |some []=>zcM
 |some (m::_)=>m
set_option maxHeartbeats 8000000 in
theorem zDw {l:List Abs.zac}{S:Nat}(hp:zpg l S):zaw Tryz.prog G 53 ([enc l,.i .i64 (S:Int)].map .fz++[.fn 54 [.ptr (7,0) 0]]) (hpL [((7,0),some ⟨([FD.i .i64 0,FD.sl [],FD.sl []]).map .fz,true,false⟩)]) 1 (fun d H' _=>D.val d=some (.fz (.b (zlQ l S).isSome))∧H' (7,0)=some ⟨([FD.i .i64 (zj1 (zcY l S)).size,FD.sl ((zj1 (zcY l S)).consts.map enc),FD.sl ((zj1 (zcY l S)).rels.map enc)]).map .fz,true,false⟩):=by
 obtain⟨Q,hQ⟩:∃Q:D→zav→Nat→Prop,Q=(fun d H' _=>D.val d=some (.fz (.b (zlQ l S).isSome))∧H' (7,0)=some ⟨([FD.i .i64 (zj1 (zcY l S)).size,FD.sl ((zj1 (zcY l S)).consts.map enc),FD.sl ((zj1 (zcY l S)).rels.map enc)]).map .fz,true,false⟩):=⟨_,rfl⟩
 rw[←hQ]
 have hsg:sgP l:=⟨fun f hf=>(hp.f f hf).1,hp.l⟩
 have hcq:=znc hp
 have hV:=zxy l S
 have hfl:=fun n i=>zuL hp (n:=n) (i:=i)
 have hal:=fun n i=>zuK hp (n:=n) (i:=i)
 have hfi:=zx4 l S
 obtain⟨V,hVe⟩:∃V,zv7 l=V:=⟨_,rfl⟩
 rw[hVe]at hcq hV hfi
 simp only[hVe]at hfl
 have h8:∀n,zlQ l S=some n→n≤8192:=fun n h=>(zhf (by have:=hp.s;omega) h).2.1
 have kfl:=Kp.mk hfl
 have kal:=Kp.mk hal
 have kfi:=Kp.mk hfi
 clear hfl hal hfi
 simp only[go_sem]
 refine zae (N:=40) hm hI8 53000 (lst []) zMX Tryz.func53 rfl rfl (by simp) (by kernel_rfl) ?_
 cases hn:zlQ l S with
 |none=>
  rw[hn]at hV
  unfold zwS at hV
  repeat'(first|refine zaA.i hsg fun _=>?_|refine zaA.i hcq fun _=>?_|refine And.intro ?_ ?_|exact True.intro|refine rq fun _=>?_|refine rf fun _=>?_|simp only[go_sem,hVe,hV,zab,zad,zag,zaa,Tryz.f53])
  all_goals
   rw[hQ,hn]
   exact⟨rfl,by unfold zcY;rw[hn];rfl⟩
 |some n=>
  have hn8:=h8 n hn
  rw[hn]at hV
  simp only[zwS]at hV
  repeat'(first|refine zaA.i hsg fun _=>?_|refine zaA.i hcq fun _=>?_|refine And.intro ?_ ?_|exact True.intro|refine rq fun _=>?_|refine rf fun _=>?_|simp only[go_sem,hVe,hV,zab,zad,zag,zaa,Tryz.f53])
  refine zat hm hI8 53000 (lst []) (ι:=zcW n 2 fun i=>zeR l S i=[])
   ⟨fun q=>⟨frL [(0,.fz (.sl (l.map enc))),(1,.fz (.i .i64 S)),(2,.fn 54 [.ptr (7,0) 0]),(7,.ptr (53007,1) 0),(22,.fz (.i .i64 n)),(23,.fz (.i .i64 q.i))],hpL [((7,0),some ⟨([FD.i .i64 0,FD.sl [],FD.sl []]).map .fz,true,false⟩),((53007,1),some ⟨[.fz (.i .i64 V.size),.fz (.sl (V.consts.map enc)),.fz (.sl (V.rels.map enc))],true,false⟩)],q.m⟩,fun q=>n-q.i⟩
   ⟨0,2,by omega,by omega,rfl⟩ (by kernel_rfl) ?_ ?_
  ·refine zaj ?_ ?_ ?_<;>simp only[go_sem,zsM,List.length_nil]
   all_goals first|done|rfl|omega
  rintro⟨i,q,hi,hq,hz⟩
  try simp only at hi hq hz
  rcases Nat.lt_or_ge i n with h1|h1
  rotate_left
  ·obtain rfl:i=n:=by omega
   repeat'(first|refine And.intro ?_ ?_|exact True.intro|refine rq fun _=>?_|refine rf fun _=>?_|simp only[go_sem,Int.lt_irrefl,zab,zad,zag,zaa,Tryz.f53])
   all_goals
    rw[hQ,hn]
    have e:zcY l S=some []:=by unfold zcY;rw[hn];exact congrArg some hz
    exact⟨rfl,by rw[e];rfl⟩
  have h2:=kfl.out n i hn
  have h3:=kal.out n i hn
  have h4:=kfi.out i
  have h5:((i:Int)<(n:Int))=True:=eq_true (by omega)
  have hms:=zsL l S i
  have hml:=zvu l S i
  obtain⟨W,hW⟩:∃W,zsW l S i=W:=⟨_,rfl⟩
  rw[hW]at h3 h4 hms
  obtain⟨v,hv⟩:∃v,okF l W=v:=⟨_,rfl⟩
  rw[hv]at hms
  cases v with
  |false=>
   rw[if_neg (by decide),List.append_nil]at hms
   repeat'(first|refine zaA.i h2 fun _=>?_|refine zaA.i h3 fun _=>?_|refine And.intro ?_ ?_|exact True.intro|refine rq fun _=>?_|refine rf fun _=>?_|simp only[go_sem,h4,h5,hv,zab,zad,zag,zaa,Tryz.f53])
   all_goals
    refine⟨⟨i+1,q+1,by omega,by omega,by rw[hms];exact hz⟩,by simp only;omega,?_⟩
    refine zaj ?_ ?_ ?_<;>simp only[go_sem,hms]
    all_goals first|done|rfl|omega
  |true=>
   rw[if_pos rfl]at hms
   repeat'(first|refine zaA.i h2 fun _=>?_|refine zaA.i h3 fun _=>?_|refine And.intro ?_ ?_|exact True.intro|refine rq fun _=>?_|refine rf fun _=>?_|simp only[go_sem,h4,h5,hv,zab,zad,zag,zaa,Tryz.f53])
   have hcl:=zL6 (G:=G) (W:=W)
   refine zak.i (zoP (T:=7) (sid:=(7,0)) (ds:=[.agg [.fz (.i .i64 W.size),.fz (.sl (W.consts.map enc)),.fz (.sl (W.rels.map enc))]]) (xs:=[enc W]) rfl hcl (by simp only[go_sem]) ?_)
   repeat'(first|refine And.intro ?_ ?_|exact True.intro|refine rq fun _=>?_|refine rf fun _=>?_|simp only[go_sem,zaI,zab,zad,zag,zaa,Tryz.f53])
   all_goals
    have e:zcY l S=some (zeR l S n):=by unfold zcY;rw[hn];rfl
    obtain⟨r,hr⟩:=zvv l S (n:=i+1) (t:=n) h1
    rw[hms,hz]at hr
    have e2:zj1 (zcY l S)=W:=by rw[e,hr];rfl
    rw[hQ,hn,e2]
    exact⟨rfl,by simp only[go_sem]⟩
end
end Go.Proofs.YtkkffhphodngkabGreatDoor
namespace Go.Proofs.YtkkffhphodngkabGreatDoor
open Go Go.Abs Go.Proofs
section
variable {G:Nat→List FD}
section
variable {P:Program} {T:Tbl}
def zG5 {α β ρ σ τ:Type}[Enc α][Enc β][Enc ρ][Enc σ][Enc τ](f:α→β→ρ×σ×τ)(pre:α→β→Prop):List FD→Option (D×Prop)
 |[x,y]=>some (.tup [.fz (enc (f (dec x) (dec y)).1),.fz (enc (f (dec x) (dec y)).2.1),.fz (enc (f (dec x) (dec y)).2.2)],x=enc (dec (α:=α) x)∧y=enc (dec (α:=β) y)∧pre (dec x) (dec y))
 |_=>none
@[go_sem] theorem zKV {α β ρ σ τ:Type}[Enc α][Enc β][Enc ρ][Enc σ][Enc τ]{f:α→β→ρ×σ×τ}{pre:α→β→Prop}{x y:FD}:zG5 f pre [x,y]=some (.tup [.fz (enc (f (dec x) (dec y)).1),.fz (enc (f (dec x) (dec y)).2.1),.fz (enc (f (dec x) (dec y)).2.2)],x=enc (dec (α:=α) x)∧y=enc (dec (α:=β) y)∧pre (dec x) (dec y)):=rfl
theorem zBR {α β ρ σ τ:Type}[Enc α][Enc β][Enc ρ][Enc σ][Enc τ]{f:FuncId}{g:α→β→ρ×σ×τ}{pre:α→β→Prop}(hc:zan P f)(hT:zaq P G T)
  (h:∀a b,pre a b→(enc a).Wf→(enc b).Wf→zaw P G f [.fz (enc a),.fz (enc b)] (hpL []) 0 (fun d _ _=>D.val d=some (.tup [.fz (enc (g a b).1),.fz (enc (g a b).2.1),.fz (enc (g a b).2.2)]))):zaq P G (T.add f (zG5 g pre)):=by
 refine zcq hT fun xs r c hx hcc=>?_
 unfold zG5 at hx
 split at hx
 ·rename_i x y
  simp only[Option.some.injEq,Prod.mk.injEq]at hx
  obtain⟨rfl,rfl⟩:=hx
  obtain⟨e,e2,hp⟩:=hcc
  refine zdu hc fun hw=>?_
  rw[zdV]
  have:=h (dec x) (dec y) hp (by rw[←e];exact hw x (by simp)) (by rw[←e2];exact hw y (by simp))
  rw[←e,←e2]at this
  exact this
 ·cases hx
end
theorem zco (f:zbp):(⟨f.code,f.index⟩:zbp)=f:=rfl
def zp6:Tv:=(.q 0 (.br [(1,(.br [(2,(.q 3 (.br [(4,.leaf)])))])),(2,(.q 1 (.q 3 (.br [(4,.leaf)]))))]))
theorem zxJ {l:List Abs.zac}{size:Int}(h:(zca l size).code=0){k:Nat}(hk:1≤k)(hk2:(k:Int)≤size):zpg l k:=by
 obtain⟨_,h2,h3,h4,h5⟩:=zgG h
 exact⟨h3,h2,hk,by omega⟩
theorem znV {l:List Abs.zac}{k:Nat}{x:zay}{ms:List zay}(h:zcY l k=some (x::ms)):x.size=(k:Int):=by
 unfold zcY at h
 cases hn:zlQ l k with
 |none=>rw[hn]at h;cases h
 |some n=>
  rw[hn]at h
  have h2:zeR l k n=x::ms:=Option.some.inj h
  have h3:x∈zeR l k n:=by rw[h2];simp
  unfold zeR at h3
  obtain⟨j,_,e⟩:=List.mem_map.1 (List.mem_filter.1 h3).1
  rw[←e];rfl
def I9:Tbl:=I8
attribute [go_sem] I9
theorem hI9:zaq Tryz.prog G I9:=hI8
def I10:Tbl:=I9.add 23 (zG5 ze6 fun _ _=>True)
attribute [go_sem] I10
set_option maxHeartbeats 4000000 in
theorem zKb:zaq Tryz.prog G I10:=by
 refine zBR zJd hI9 fun l size _ _ _=>?_
 obtain⟨V,hV⟩:∃V,zca l size=V:=⟨_,rfl⟩
 obtain⟨r,hr⟩:∃r,ze6 l size=r:=⟨_,rfl⟩
 rw[hr]
 obtain⟨Q,hQ⟩:∃Q:D→zav→Nat→Prop,Q=(fun d _ _=>D.val d=some (.tup [.fz (enc r.1),.fz (enc r.2.1),.fz (enc r.2.2)])):=⟨_,rfl⟩
 rw[←hQ]
 by_cases hz:V.code=0
 rotate_left
 ·have hz':(V.code=0)=False:=eq_false hz
  have e:ze6 l size=(zcM,false,V):=by unfold ze6;rw[hV,if_pos hz]
  rw[e]at hr
  subst hr
  refine zae (N:=37) hm hI9 23000 (lst [1000003]) zJd Tryz.func23 rfl rfl (by simp) (by kernel_rfl) ?_
  repeat'(first|refine zar hm hI9 23000 (lst [1000003]) zp6 (by kernel_rfl) (by kernel_rfl) ?_|refine And.intro ?_ ?_|exact True.intro|refine rq fun _=>?_|refine rf fun _=>?_|simp only[go_sem,hV,hz',zp6,zab,zad,zag,zaa,Tryz.f23])
  all_goals first|done|rfl|(rw[hQ];done)|(rw[hQ];rfl)|(rw[hQ];simp only[go_sem];done)|(rw[hQ];simp only[go_sem];rfl)|(rw[hQ];trace_state)
 have hz':(V.code=0)=True:=eq_true hz
 have hf:(zca l size).code=0:=by rw[hV];exact hz
 obtain⟨_,_,_,hs1,hs4⟩:=zgG hf
 obtain⟨S,hS⟩:∃S:Nat,size=(S:Int):=⟨size.toNat,by omega⟩
 subst hS
 have e:zi1 l 1 S=r:=by rw[←hr];unfold ze6;rw[if_neg (by simp[hf]),Int.toNat_natCast]
 refine zae (N:=37) hm hI9 23000 (lst [1000003]) zJd Tryz.func23 rfl rfl (by simp) (by kernel_rfl) ?_
 repeat'(first|refine And.intro ?_ ?_|exact True.intro|refine rq fun _=>?_|refine rf fun _=>?_|simp only[go_sem,hV,hz',zp6,zab,zad,zag,zaa,Tryz.f23])
 refine zat hm hI9 23000 (lst [1000003]) (ι:=zcW S 3 fun i=>zi1 l (i+1) (S-i)=r)
  ⟨fun q=>⟨frL [(0,.fz (.sl (l.map enc))),(1,.fz (.i .i64 S)),(4,.ptr (23004,0) 0),(6,.ptr (23006,1) 0),(8,.fz (.i .i64 ((q.i+1:Nat):Int)))],hpL [((23004,0),some ⟨[.fz (.i .i64 0),.full [],.full []],true,false⟩),((23006,1),some ⟨[.fz (.i .i64 0),.fz (.i .i64 0)],true,false⟩)],q.m⟩,fun q=>S-q.i⟩
  ⟨0,3,by omega,by omega,e⟩ (by kernel_rfl) ?_ ?_
 ·refine zaj ?_ ?_ ?_<;>simp only[go_sem]
  all_goals first|done|rfl|omega
 rintro⟨i,m,hi,hm2,hp⟩
 try simp only at hi hm2 hp
 rcases Nat.lt_or_ge i S with h1|h1
 rotate_left
 ·obtain rfl:i=S:=by omega
  rw[Nat.sub_self,zi1]at hp
  subst hp
  have h5:((i:Int)+1≤(i:Int))=False:=eq_false (by omega)
  repeat'(first|refine And.intro ?_ ?_|exact True.intro|refine rq fun _=>?_|refine rf fun _=>?_|simp only[go_sem,h5,zab,zad,zag,zaa,Tryz.f23])
  all_goals first|done|rfl|(rw[hQ];done)|(rw[hQ];rfl)|(rw[hQ];simp only[go_sem];done)|(rw[hQ];simp only[go_sem];rfl)|(rw[hQ];trace_state)
 have hep:zpg l (i+1):=zxJ hf (by omega) (by omega)
 have hcl:=zDw (G:=G) hep
 rw[show S-i=(S-(i+1))+1 by omega,zi1]at hp
 have h5:((i:Int)+1≤(S:Int))=True:=eq_true (by omega)
 repeat'(first|refine And.intro ?_ ?_|exact True.intro|refine rq fun _=>?_|refine rf fun _=>?_|simp only[go_sem,h5,zab,zad,zag,zaa,Tryz.f23])
 have hB4:((i+1:Nat):Int)=(i:Int)+1:=by simp
 cases hn:zcY l (i+1)with
 |none=>
  have hm0:zlQ l (i+1)=none:=by
   unfold zcY at hn
   cases h:zlQ l (i+1)with
   |none=>rfl
   |some n=>rw[h]at hn;cases hn
  rw[hn]at hcl hp
  rw[hm0,hB4]at hcl
  simp only at hp
  subst hp
  refine zak.i (zdD (args':=[.fz (enc l),.fz (.i .i64 ((i:Int)+1)),.fn 54 [.ptr (23009,m) 0]]) (H':=hpL [((23009,m),some ⟨[.fz (.i .i64 0),.fz (.sl []),.fz (.sl [])],true,false⟩),((23004,0),some ⟨[.fz (.i .i64 0),.full [],.full []],true,false⟩),((23006,1),some ⟨[.fz (.i .i64 0),.fz (.i .i64 0)],true,false⟩)]) (n':=m+1) rfl ?_ (zf7 (T:=7) (sid:=(23009,m)) (ds:=[.fz (enc l),.fz (.i .i64 ((i:Int)+1))]) (xs:=[enc l,.i .i64 ((i:Int)+1)]) rfl hcl (by simp only[go_sem]) ?_))
  ·simp only[go_sem,zgr]
   refine zbm [] [] [] ?_ ?_ ?_ ?_ ?_<;>simp only[go_sem]
   all_goals first|done|omega
  repeat'(first|refine And.intro ?_ ?_|exact True.intro|refine rq fun _=>?_|refine rf fun _=>?_|simp only[go_sem,zaI,zj1,Option.isSome_none,Option.isSome_some,zab,zad,zag,zaa,Tryz.f23])
  all_goals first|done|rfl|(rw[hQ];done)|(rw[hQ];rfl)|(rw[hQ];simp only[go_sem];done)|(rw[hQ];simp only[go_sem];rfl)|(rw[hQ];trace_state)
 |some ms=>
  have hm0:(zlQ l (i+1)).isSome=true:=by
   unfold zcY at hn
   cases h:zlQ l (i+1)with
   |none=>rw[h]at hn;cases hn
   |some n=>rfl
  rw[hn]at hcl hp
  rw[hm0,hB4]at hcl
  cases ms with
  |nil=>
   simp only at hp
   refine zak.i (zdD (args':=[.fz (enc l),.fz (.i .i64 ((i:Int)+1)),.fn 54 [.ptr (23009,m) 0]]) (H':=hpL [((23009,m),some ⟨[.fz (.i .i64 0),.fz (.sl []),.fz (.sl [])],true,false⟩),((23004,0),some ⟨[.fz (.i .i64 0),.full [],.full []],true,false⟩),((23006,1),some ⟨[.fz (.i .i64 0),.fz (.i .i64 0)],true,false⟩)]) (n':=m+1) rfl ?_ (zf7 (T:=7) (sid:=(23009,m)) (ds:=[.fz (enc l),.fz (.i .i64 ((i:Int)+1))]) (xs:=[enc l,.i .i64 ((i:Int)+1)]) rfl hcl (by simp only[go_sem]) ?_))
   ·simp only[go_sem,zgr]
    refine zbm [] [] [] ?_ ?_ ?_ ?_ ?_<;>simp only[go_sem]
    all_goals first|done|omega
   repeat'(first|refine And.intro ?_ ?_|exact True.intro|refine rq fun _=>?_|refine rf fun _=>?_|simp only[go_sem,zaI,zj1,zcM,zab,zad,zag,zaa,Tryz.f23])
   all_goals
    refine⟨⟨i+1,m+1,by omega,by omega,hp⟩,by simp only;omega,?_⟩
    refine zaj ?_ ?_ ?_<;>simp only[go_sem,hB4,Int.natCast_add]
    all_goals first|done|rfl|omega
  |cons x ms=>
   simp only at hp
   subst hp
   have hx1:((0:Int)<x.size)=True:=eq_true (by rw[znV hn];omega)
   refine zak.i (zdD (args':=[.fz (enc l),.fz (.i .i64 ((i:Int)+1)),.fn 54 [.ptr (23009,m) 0]]) (H':=hpL [((23009,m),some ⟨[.fz (.i .i64 0),.fz (.sl []),.fz (.sl [])],true,false⟩),((23004,0),some ⟨[.fz (.i .i64 0),.full [],.full []],true,false⟩),((23006,1),some ⟨[.fz (.i .i64 0),.fz (.i .i64 0)],true,false⟩)]) (n':=m+1) rfl ?_ (zf7 (T:=7) (sid:=(23009,m)) (ds:=[.fz (enc l),.fz (.i .i64 ((i:Int)+1))]) (xs:=[enc l,.i .i64 ((i:Int)+1)]) rfl hcl (by simp only[go_sem]) ?_))
   ·simp only[go_sem,zgr]
    refine zbm [] [] [] ?_ ?_ ?_ ?_ ?_<;>simp only[go_sem]
    all_goals first|done|omega
   repeat'(first|refine And.intro ?_ ?_|exact True.intro|refine rq fun _=>?_|refine rf fun _=>?_|simp only[go_sem,zaI,zj1,hx1,zab,zad,zag,zaa,Tryz.f23])
   all_goals first|done|rfl|(rw[hQ];done)|(rw[hQ];rfl)|(rw[hQ];simp only[go_sem];done)|(rw[hQ];simp only[go_sem];rfl)|(rw[hQ];trace_state)
end
end Go.Proofs.YtkkffhphodngkabGreatDoor
namespace Go.Proofs.YtkkffhphodngkabGreatDoor
open Go Go.Abs Go.Proofs
def zfu (m:zay)(f:Abs.zac):Bool×zbp:=if(zbw m).code≠0 then(false,zbw m)else if(zaz false f).code≠0 then(false,zaz false f)else if(zck m f).code≠0 then(false,zck m f)else(za2 m f [],⟨0,0⟩)
theorem zDC {m:zay}{f:Abs.zac}(hm:zyy m)(h:(zaz false f).code=0):flP m f:=by
 have h1:=zbW h
 have h2:=zaY h
 have:=zdJ h1 []
 exact⟨hm.c,hm.r,⟨h1,by omega⟩,by omega⟩
theorem zp9 {m:zay}{f:Abs.zac}(h:(zck m f).code=0):zck m f=⟨0,0⟩:=by
 unfold zck at h ⊢
 split at h
 ·exact absurd h (by decide)
 ·rename_i h1
  split at h
  ·exact absurd h (by decide)
  ·rename_i h2;rw[if_neg h1,if_neg h2]
theorem zlz {m:zay}{f:Abs.zac}(h1:(zbw m).code=0)(h2:(zaz false f).code=0)(h3:(zck m f).code=0):zfu m f=(za2 m f [],⟨0,0⟩):=by
 unfold zfu
 rw[if_neg (by simp[h1]),if_neg (by simp[h2]),if_neg (by simp[h3])]
def H1:Tbl:=A21.add 20 (zAa zfu fun _ _=>True)
attribute [go_sem] H1
set_option maxHeartbeats 4000000 in
theorem hH1:zaq Tryz.prog GA H1:=by
 refine zjB zE5 zA5 fun m f _ _ _=>?_
 by_cases h1:(zbw m).code=0
 rotate_left
 ·have e:zfu m f=(false,zbw m):=by unfold zfu;rw[if_pos h1]
  obtain⟨X,hX⟩:∃X,zbw m=X:=⟨_,rfl⟩
  rw[hX]at e h1
  rw[e]
  refine zae (N:=32) hm zA5 20000 (lst []) zE5 Tryz.func20 rfl rfl (by simp) (by kernel_rfl) ?_
  repeat'(first|refine rq fun _=>?_|simp only[go_sem,h1,hX,zag,zab,Tryz.f20])
 have hmv:=(zpK h1).v
 have hmz:=zpL h1
 by_cases h2:(zaz false f).code=0
 rotate_left
 ·have e:zfu m f=(false,zaz false f):=by unfold zfu;rw[if_neg (by simp[h1]),if_pos h2]
  obtain⟨X,hX⟩:∃X,zaz false f=X:=⟨_,rfl⟩
  rw[hX]at e h2
  rw[e]
  refine zae (N:=32) hm zA5 20000 (lst []) zE5 Tryz.func20 rfl rfl (by simp) (by kernel_rfl) ?_
  repeat'(first|refine rq fun _=>?_|simp only[go_sem,hmz,h2,hX,zag,zab,Tryz.f20])
 have hck:=zeK h2
 have hfl:=zDC hmv h2
 have hvp:=zB2 (zFI hmv h2) [] (by simp)
 by_cases h3:(zck m f).code=0
 rotate_left
 ·have e:zfu m f=(false,zck m f):=by unfold zfu;rw[if_neg (by simp[h1]),if_neg (by simp[h2]),if_pos h3]
  obtain⟨X,hX⟩:∃X,zck m f=X:=⟨_,rfl⟩
  rw[hX]at e h3
  rw[e]
  refine zae (N:=32) hm zA5 20000 (lst []) zE5 Tryz.func20 rfl rfl (by simp) (by kernel_rfl) ?_
  repeat'(first|refine zaA.i hfl fun _=>?_|refine rq fun _=>?_|simp only[go_sem,hmz,hck,h3,hX,zag,zab,Tryz.f20])
 have htz:=zp9 h3
 rw[zlz h1 h2 h3]
 obtain⟨b,hb⟩:∃b,za2 m f []=b:=⟨_,rfl⟩
 rw[hb]
 refine zae (N:=32) hm zA5 20000 (lst []) zE5 Tryz.func20 rfl rfl (by simp) (by kernel_rfl) ?_
 repeat'(first|refine zaA.i hfl fun _=>?_|refine zaA.i hvp fun _=>?_|refine rq fun _=>?_|simp only[go_sem,hmz,hck,htz,hb,zer,zag,zab,Tryz.f20])
end Go.Proofs.YtkkffhphodngkabGreatDoor
namespace Go.Proofs.YtkkffhphodngkabGreatDoor
open Go Go.Abs Go.Proofs
section
variable {G:Nat→List FD}
def zFe (a:Str)(b:List Str):Abs.zac:= .mk 2 a b []
def zLE (a:Int)(b c:Abs.zac):Abs.zac:= .mk a ⟨[]⟩ [] [b,c]
def znX (a:zay):Bool:=decide ((a.consts.length:Int)≤300)&&decide ((a.rels.length:Int)≤300)
def I11:Tbl:=I10.add 10 (sp2 zFe fun _ _=>True)
attribute [go_sem] I11
theorem zKc:zaq Tryz.prog G I11:=by
 refine zbC zGX zKb fun a b _ _ _=>?_
 unfold zFe
 refine zae (N:=8) hm zKb 10000 (lst []) zGX Tryz.func10 rfl rfl (by simp) (by kernel_rfl) ?_
 repeat'(first|refine And.intro ?_ ?_|exact True.intro|refine rq fun _=>?_|refine rf fun _=>?_|simp only[go_sem,zab,zad,zag,zaa,Tryz.f10])
 all_goals first|done|rfl|omega
def I12:Tbl:=I11.add 17 (sp1 zbx fun _=>True)
attribute [go_sem] I12
theorem zKd:zaq Tryz.prog G I12:=by
 refine zb3 zGY zKc fun a _ _=>?_
 unfold zbx
 refine zae (N:=6) hm zKc 17000 (lst []) zGY Tryz.func17 rfl rfl (by simp) (by kernel_rfl) ?_
 repeat'(first|refine And.intro ?_ ?_|exact True.intro|refine rq fun _=>?_|refine rf fun _=>?_|simp only[go_sem,zab,zad,zag,zaa,Tryz.f17])
 all_goals first|done|rfl|omega
def I13:Tbl:=I12.add 25 (sp3 zLE fun _ _ _=>True)
attribute [go_sem] I13
theorem zHO:zaq Tryz.prog G I13:=by
 refine zf4 zG0 zKd fun a b c _ _ _ _=>?_
 unfold zLE
 refine zae (N:=12) hm zKd 25000 (lst []) zG0 Tryz.func25 rfl rfl (by simp) (by kernel_rfl) ?_
 repeat'(first|refine And.intro ?_ ?_|exact True.intro|refine rq fun _=>?_|refine rf fun _=>?_|simp only[go_sem,zab,zad,zag,zaa,Tryz.f25])
 all_goals first|done|rfl|omega
def I14:Tbl:=I13.add 19 (sp1 znX fun _=>True)
attribute [go_sem] I14
theorem zKe:zaq Tryz.prog G I14:=by
 refine zb3 zJc zHO fun a _ _=>?_
 unfold znX
 by_cases h1:(a.consts.length:Int)≤300
 ·have h1':((a.consts.length:Int)≤300)=True:=eq_true h1
  refine zae (N:=13) hm zHO 19000 (lst []) zJc Tryz.func19 rfl rfl (by simp) (by kernel_rfl) ?_
  repeat'(first|refine And.intro ?_ ?_|exact True.intro|refine rq fun _=>?_|refine rf fun _=>?_|simp only[go_sem,h1',zab,zad,zag,zaa,Tryz.f19])
  all_goals first|done|rfl|omega
 ·have h1':((a.consts.length:Int)≤300)=False:=eq_false h1
  refine zae (N:=13) hm zHO 19000 (lst []) zJc Tryz.func19 rfl rfl (by simp) (by kernel_rfl) ?_
  repeat'(first|refine And.intro ?_ ?_|exact True.intro|refine rq fun _=>?_|refine rf fun _=>?_|simp only[go_sem,h1',zab,zad,zag,zaa,Tryz.f19])
  all_goals first|done|rfl|omega
end
def L1:Tbl:=Tbl.or I14 H1
attribute [go_sem] L1
theorem hL1:zaq Tryz.prog GA L1:=zgl zKe hH1
end Go.Proofs.YtkkffhphodngkabGreatDoor
namespace Go.Proofs.YtkkffhphodngkabGreatDoor
open Go Go.Abs Go.Proofs
theorem zpW {ax:List Abs.zac}{g:Abs.zac}(h:(zbL ax g 3).2.2.code=0∨(zbL ax g 3).2.2.code=17):ax.length≤40:=by
 refine Classical.byContradiction fun hc=>?_
 have hb:za8 ax g=([],⟨2, -1⟩):=by unfold za8;rw[if_pos (by omega)]
 rw[zjt (by rw[hb];decide),hb]at h
 simp at h
def zcT:Tv:=(.q 0 (.br [(1,(.br [(2,(.br [(3,.leaf)]))])),(2,(.q 1 (.br [(3,.leaf)])))]))
def zcU:Tv:=(.q 0 (.br [(1,(.q 2 (.q 3 (.q 4 (.q 5 (.br [(6,(.q 7 .leaf))])))))),(2,(.q 3 (.q 4 (.q 5 (.br [(1,(.br [(6,(.q 7 .leaf))]))])))))]))
def Fo0:Tbl:=Tbl.or Z6 I14
theorem zjR:zaq Tryz.prog GA Fo0:=zgl hZ6 zKe
def Fo1:Tbl:=Fo0.add 8 (zAa zhc fun _ _=>True)
set_option maxHeartbeats 4000000 in
theorem zKa:zaq Tryz.prog GA Fo1:=by
 refine zjB ok8 zjR fun ax g _ _ _=>?_
 obtain⟨V,hV⟩:∃V,zhc ax g=V:=⟨_,rfl⟩
 rw[hV]
 obtain⟨Q,hQ⟩:∃Q:D→zav→Nat→Prop,Q=(fun d _ _=>D.val d=some (.tup [.fz (enc V.1),.fz (enc V.2)])):=⟨_,rfl⟩
 rw[←hQ]
 have kq:=Kp.mk hQ
 clear hQ
 unfold zhc zzD at hV
 have hsh:=zpW (ax:=ax) (g:=g)
 have hEq:Abs.zac.mk 4 ⟨[]⟩ [] [g]=zbx g:=rfl
 have nk1:(zbx g).kind=4:=rfl
 have nk2:(zbx g).name=⟨[]⟩:=rfl
 have nk3:(zbx g).words=[]:=rfl
 have nk4:(zbx g).subs=[g]:=rfl
 obtain⟨r,hP⟩:∃r,zbL ax g 3=r:=⟨_,rfl⟩
 rw[hP]at hV hsh
 obtain⟨p,ok,e⟩:=r
 simp only at hV hsh
 by_cases h0:e.code=0
 rotate_left
 ·have h0':(e.code=0)=False:=eq_false h0
  by_cases h17:e.code=17
  rotate_left
  ·have h17':(e.code=17)=False:=eq_false h17
   rw[if_pos ⟨h0,h17⟩]at hV
   subst hV
   refine zae (N:=52) Go.Proofs.YtkkffhphodngkabGreatDoor.hm zjR 8000 (lsw [39] [1000003,1000006]) ok8 Tryz.func8 rfl rfl (by simp) (by kernel_rfl) ?_
   repeat'(first|refine zar (id:=3) Go.Proofs.YtkkffhphodngkabGreatDoor.hm zjR 8000 (lsw [39] [1000003,1000006]) zcT (by kernel_rfl) (by kernel_rfl) ?_|refine zar (id:=6) Go.Proofs.YtkkffhphodngkabGreatDoor.hm zjR 8000 (lsw [39] [1000003,1000006]) zcU (by kernel_rfl) (by kernel_rfl) ?_|refine And.intro ?_ ?_|exact True.intro|refine rq fun _=>?_|refine rf fun _=>?_|simp only[go_sem,hP,h0',h17',zal,zbH,zco,zcM,zab,zad,zag,zaa,zcT,zcU,Tryz.f8,Fo0])
   all_goals first|done|rfl|(rw[kq.out];done)|(rw[kq.out];rfl)|(rw[kq.out];simp only[go_sem,zal,zag,zad];done)|(rw[kq.out];simp only[go_sem,zal,zag,zad];rfl)|(rw[kq.out];trace_state)
  have h17':(e.code=17)=True:=eq_true h17
  rw[if_neg (by simp[h17])]at hV
  cases ok with
  |true=>
   rw[if_pos rfl]at hV
   subst hV
   refine zae (N:=52) Go.Proofs.YtkkffhphodngkabGreatDoor.hm zjR 8000 (lsw [39] [1000003,1000006]) ok8 Tryz.func8 rfl rfl (by simp) (by kernel_rfl) ?_
   repeat'(first|refine zar (id:=3) Go.Proofs.YtkkffhphodngkabGreatDoor.hm zjR 8000 (lsw [39] [1000003,1000006]) zcT (by kernel_rfl) (by kernel_rfl) ?_|refine zar (id:=6) Go.Proofs.YtkkffhphodngkabGreatDoor.hm zjR 8000 (lsw [39] [1000003,1000006]) zcU (by kernel_rfl) (by kernel_rfl) ?_|refine And.intro ?_ ?_|exact True.intro|refine rq fun _=>?_|refine rf fun _=>?_|simp only[go_sem,hP,h0',h17',zal,zbH,zco,zcM,zab,zad,zag,zaa,zcT,zcU,Tryz.f8,Fo0])
   all_goals first|done|rfl|(rw[kq.out];done)|(rw[kq.out];rfl)|(rw[kq.out];simp only[go_sem,zal,zag,zad];done)|(rw[kq.out];simp only[go_sem,zal,zag,zad];rfl)|(rw[kq.out];trace_state)
  |false=>
   rw[if_neg (by decide)]at hV
   have hl:=hsh (.inr h17)
   clear hsh
   obtain⟨r,hF⟩:∃r,ze6 (ax++[zbx g]) 4=r:=⟨_,rfl⟩
   rw[hF]at hV
   obtain⟨m,ok2,e2⟩:=r
   simp only at hV
   cases ok2 with
   |true=>
    rw[if_pos rfl]at hV
    subst hV
    refine zae (N:=52) Go.Proofs.YtkkffhphodngkabGreatDoor.hm zjR 8000 (lsw [39] [1000003,1000006]) ok8 Tryz.func8 rfl rfl (by simp) (by kernel_rfl) ?_
    repeat'(first|refine zak.i (zcF (xs:=[FD.sl (ax.map enc)]) rfl (ziO (l:=ax) (by omega)) fun g1 n1 hg1 hn1=>?_)|refine zar (id:=3) Go.Proofs.YtkkffhphodngkabGreatDoor.hm zjR 8000 (lsw [39] [1000003,1000006]) zcT (by kernel_rfl) (by kernel_rfl) ?_|refine zar (id:=6) Go.Proofs.YtkkffhphodngkabGreatDoor.hm zjR 8000 (lsw [39] [1000003,1000006]) zcU (by kernel_rfl) (by kernel_rfl) ?_|refine And.intro ?_ ?_|exact True.intro|refine rq fun _=>?_|refine rf fun _=>?_|simp only[go_sem,hP,hF,hEq,nk1,nk2,nk3,nk4,h0',h17',zal,zbH,zco,zcM,zab,zad,zag,zaa,zcT,zcU,Tryz.f8,Fo0])
    all_goals first|done|rfl|(rw[kq.out];done)|(rw[kq.out];rfl)|(rw[kq.out];simp only[go_sem,zal,zag,zad];done)|(rw[kq.out];simp only[go_sem,zal,zag,zad];rfl)|(rw[kq.out];trace_state)
   |false=>
    rw[if_neg (by decide)]at hV
    subst hV
    refine zae (N:=52) Go.Proofs.YtkkffhphodngkabGreatDoor.hm zjR 8000 (lsw [39] [1000003,1000006]) ok8 Tryz.func8 rfl rfl (by simp) (by kernel_rfl) ?_
    repeat'(first|refine zak.i (zcF (xs:=[FD.sl (ax.map enc)]) rfl (ziO (l:=ax) (by omega)) fun g1 n1 hg1 hn1=>?_)|refine zar (id:=3) Go.Proofs.YtkkffhphodngkabGreatDoor.hm zjR 8000 (lsw [39] [1000003,1000006]) zcT (by kernel_rfl) (by kernel_rfl) ?_|refine zar (id:=6) Go.Proofs.YtkkffhphodngkabGreatDoor.hm zjR 8000 (lsw [39] [1000003,1000006]) zcU (by kernel_rfl) (by kernel_rfl) ?_|refine And.intro ?_ ?_|exact True.intro|refine rq fun _=>?_|refine rf fun _=>?_|simp only[go_sem,hP,hF,hEq,nk1,nk2,nk3,nk4,h0',h17',zal,zbH,zco,zcM,zab,zad,zag,zaa,zcT,zcU,Tryz.f8,Fo0])
    all_goals first|done|rfl|(rw[kq.out];done)|(rw[kq.out];rfl)|(rw[kq.out];simp only[go_sem,zal,zag,zad];done)|(rw[kq.out];simp only[go_sem,zal,zag,zad];rfl)|(rw[kq.out];trace_state)
 have h0':(e.code=0)=True:=eq_true h0
 rw[if_neg (by simp[h0])]at hV
 cases ok with
 |true=>
  rw[if_pos rfl]at hV
  subst hV
  refine zae (N:=52) Go.Proofs.YtkkffhphodngkabGreatDoor.hm zjR 8000 (lsw [39] [1000003,1000006]) ok8 Tryz.func8 rfl rfl (by simp) (by kernel_rfl) ?_
  repeat'(first|refine zar (id:=3) Go.Proofs.YtkkffhphodngkabGreatDoor.hm zjR 8000 (lsw [39] [1000003,1000006]) zcT (by kernel_rfl) (by kernel_rfl) ?_|refine zar (id:=6) Go.Proofs.YtkkffhphodngkabGreatDoor.hm zjR 8000 (lsw [39] [1000003,1000006]) zcU (by kernel_rfl) (by kernel_rfl) ?_|refine And.intro ?_ ?_|exact True.intro|refine rq fun _=>?_|refine rf fun _=>?_|simp only[go_sem,hP,h0',zal,zbH,zco,zcM,zab,zad,zag,zaa,zcT,zcU,Tryz.f8,Fo0])
  all_goals first|done|rfl|(rw[kq.out];done)|(rw[kq.out];rfl)|(rw[kq.out];simp only[go_sem,zal,zag,zad];done)|(rw[kq.out];simp only[go_sem,zal,zag,zad];rfl)|(rw[kq.out];trace_state)
 |false=>
  rw[if_neg (by decide)]at hV
  have hl:=hsh (.inl h0)
  clear hsh
  obtain⟨r,hF⟩:∃r,ze6 (ax++[zbx g]) 4=r:=⟨_,rfl⟩
  rw[hF]at hV
  obtain⟨m,ok2,e2⟩:=r
  simp only at hV
  cases ok2 with
  |true=>
   rw[if_pos rfl]at hV
   subst hV
   refine zae (N:=52) Go.Proofs.YtkkffhphodngkabGreatDoor.hm zjR 8000 (lsw [39] [1000003,1000006]) ok8 Tryz.func8 rfl rfl (by simp) (by kernel_rfl) ?_
   repeat'(first|refine zak.i (zcF (xs:=[FD.sl (ax.map enc)]) rfl (ziO (l:=ax) (by omega)) fun g1 n1 hg1 hn1=>?_)|refine zar (id:=3) Go.Proofs.YtkkffhphodngkabGreatDoor.hm zjR 8000 (lsw [39] [1000003,1000006]) zcT (by kernel_rfl) (by kernel_rfl) ?_|refine zar (id:=6) Go.Proofs.YtkkffhphodngkabGreatDoor.hm zjR 8000 (lsw [39] [1000003,1000006]) zcU (by kernel_rfl) (by kernel_rfl) ?_|refine And.intro ?_ ?_|exact True.intro|refine rq fun _=>?_|refine rf fun _=>?_|simp only[go_sem,hP,hF,hEq,nk1,nk2,nk3,nk4,h0',zal,zbH,zco,zcM,zab,zad,zag,zaa,zcT,zcU,Tryz.f8,Fo0])
   all_goals first|done|rfl|(rw[kq.out];done)|(rw[kq.out];rfl)|(rw[kq.out];simp only[go_sem,zal,zag,zad];done)|(rw[kq.out];simp only[go_sem,zal,zag,zad];rfl)|(rw[kq.out];trace_state)
  |false=>
   rw[if_neg (by decide)]at hV
   subst hV
   refine zae (N:=52) Go.Proofs.YtkkffhphodngkabGreatDoor.hm zjR 8000 (lsw [39] [1000003,1000006]) ok8 Tryz.func8 rfl rfl (by simp) (by kernel_rfl) ?_
   repeat'(first|refine zak.i (zcF (xs:=[FD.sl (ax.map enc)]) rfl (ziO (l:=ax) (by omega)) fun g1 n1 hg1 hn1=>?_)|refine zar (id:=3) Go.Proofs.YtkkffhphodngkabGreatDoor.hm zjR 8000 (lsw [39] [1000003,1000006]) zcT (by kernel_rfl) (by kernel_rfl) ?_|refine zar (id:=6) Go.Proofs.YtkkffhphodngkabGreatDoor.hm zjR 8000 (lsw [39] [1000003,1000006]) zcU (by kernel_rfl) (by kernel_rfl) ?_|refine And.intro ?_ ?_|exact True.intro|refine rq fun _=>?_|refine rf fun _=>?_|simp only[go_sem,hP,hF,hEq,nk1,nk2,nk3,nk4,h0',zal,zbH,zco,zcM,zab,zad,zag,zaa,zcT,zcU,Tryz.f8,Fo0])
   all_goals first|done|rfl|(rw[kq.out];done)|(rw[kq.out];rfl)|(rw[kq.out];simp only[go_sem,zal,zag,zad];done)|(rw[kq.out];simp only[go_sem,zal,zag,zad];rfl)|(rw[kq.out];trace_state)
def zDt (l:List Abs.zac):zqd×zbp:=zhc l (zbx zg4)
def Fo2:Tbl:=Fo1.add 16 (zFt zDt fun _=>True)
theorem zMq:zaq Tryz.prog GA Fo2:=by
 refine zwa zLa zKa fun l _ _=>?_
 have eN:Abs.zac.mk 4 ⟨[]⟩ [] [Abs.zac.mk 1 ⟨[]⟩ [] []]=zbx zg4:=rfl
 unfold zDt
 obtain⟨V,hA⟩:∃V,zhc l (zbx zg4)=V:=⟨_,rfl⟩
 obtain⟨v,e⟩:=V
 rw[hA]
 refine zae (N:=11) Go.Proofs.YtkkffhphodngkabGreatDoor.hm zKa 16000 (lst []) zLa Tryz.func16 rfl rfl (by simp) (by kernel_rfl) ?_
 repeat'(first|refine And.intro ?_ ?_|exact True.intro|refine rq fun _=>?_|refine rf fun _=>?_|simp only[go_sem,zal,zbH,zco,zab,zad,zag,zaa,eN,hA,Tryz.f16,Fo1,Fo0])
 all_goals first|done|rfl|omega
end Go.Proofs.YtkkffhphodngkabGreatDoor
