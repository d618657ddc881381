/- several texts of this proof in one; no conditions -/
import Derived.Test.YtkkffhphodngkaaDoorAT
import Derived.Test.YtkkffhphodngkaaDoorY16
import Derived.Test.YtkkffhphodngkaaDoorY12
set_option maxRecDepth 100000
set_option maxHeartbeats 1000000
set_option linter.unusedSimpArgs false
namespace Go.Proofs.YtkkffhphodngkaaDoor
open Go Go.Abs Go.Proofs
section
variable {G:Nat→List FD}
def zvO:Option (List zal)→List zal×Bool
 |some l=>(l,true)
 |none=>([],false)
def zuD (l:List Abs.zaf)(size most:Int):List zal×Bool:=zvO (zsc l size.toNat most.toNat)
structure zD1 (l:List Abs.zaf)(size most:Int):Prop where
 e:zh0 l size.toNat
 s:1≤size
 m:0≤most
theorem zsb {l:List Abs.zaf}(hv:∀f∈l,(zaA false f).code=0)(hl:l.length≤41){i:Nat}(h:i<l.length):(zeq (l.take i)).length+(pds l[i]).length≤1000000:=by
 have h1:=zhz (zcO (l.take i)) []
 have h2:=zeM (l:=l.take i) fun f hf=>hv f (List.mem_of_mem_take hf)
 have h3:=zkt l[i]
 have h4:=zaT (hv _ (List.getElem_mem h))
 have h5:(l.take i).length≤41:=by rw[List.length_take];omega
 unfold zeq
 simp only[List.length_nil]at h1
 omega
theorem zsJ {l:List Abs.zaf}{i:Nat}(h:i<l.length):zeq (l.take (i+1))=zhx (zeq (l.take i)) (pds l[i]):=by
 unfold zeq
 rw[zdl h,zhy]
theorem zyS {f:Abs.zaf}(h:(zaA false f).code=0):acP f:=ztD h
def zcg (l:List Nat):List Int:=l.map fun n:Nat=>(n:Int)
theorem zlQ (a b:List Nat):zcg (a++b)=zcg a++zcg b:=List.map_append
theorem zfY (a:List Nat):(zcg a).length=a.length:=List.length_map _
theorem zn4 {S:Nat}(h:S≤4):∀ps:List Pd,(∀p∈ps,0≤p.arity∧p.arity≤3)→zaQ S ps≤64*ps.length
 |[],_=>by simp[zaQ]
 |p::ps,hp=>by
  rw[zaQ,List.length_cons]
  have h1:=zn4 h ps fun q hq=>hp q (List.mem_cons_of_mem _ hq)
  have h2:=hp p (by simp)
  have h3:zqi S p≤4^3:=Nat.le_trans (Nat.pow_le_pow_left h _) (Nat.pow_le_pow_right (by omega) (by omega))
  have:(4:Nat)^3=64:=rfl
  omega
theorem zfE (S:Nat):∀(ps:List Pd) (i:Nat),zaQ S (ps.take i)≤zaQ S ps
 |[],i=>by rw[List.take_nil];exact Nat.le_refl _
 |p::ps,0=>Nat.zero_le _
 |p::ps,i+1=>by
  have:=zfE S ps i
  rw[List.take_succ_cons,zaQ,zaQ];omega
theorem zu7 (S A:Nat)(bits:List Bool)(k:Nat):(zmv S A bits k).length≤k:=by
 unfold zmv
 rw[List.length_map]
 refine Nat.le_trans (List.length_filter_le _ _) ?_
 simp
theorem ztI (B:List Bool)(c k:Nat):(B.drop c).getD k false=B.getD (c+k) false:=by
 rw[List.getD_eq_getElem?_getD,List.getD_eq_getElem?_getD,List.getElem?_drop]
def zsX (c S k:Nat):List Int:=zcg (List.replicate c S++List.replicate k 2)
theorem zu5 (c S k:Nat):(zsX c S k).length=c+k:=by unfold zsX;rw[zfY,List.length_append,List.length_replicate,List.length_replicate]
theorem zsY (c S k:Nat):zsX c S (k+1)=zsX c S k++[2]:=by unfold zsX;rw[List.replicate_succ',←List.append_assoc,zlQ (List.replicate c S++List.replicate k 2)];rfl
theorem zsZ (c S:Nat):zcg (List.replicate c S)=zsX c S 0:=by unfold zsX;rw[List.replicate_zero,List.append_nil]
theorem ztT {S j K n k:Nat}(h1:k<(za4 S j K n).length)(h2:k<(zaR S j (n / 2^K)).length):(za4 S j K n)[k]=(zaR S j (n / 2^K))[k]:=by
 have h:∀(l a b:List Int) (_:l=a++b) (k:Nat) (h1:k<l.length) (h2:k<a.length),l[k]=a[k]:=fun l a b e k h1 h2=>by subst e;exact List.getElem_append_left h2
 exact h _ _ _ rfl k h1 h2
theorem ztS {S j K n q:Nat}(h1:j+q<(za4 S j K n).length):(zpu K n).getD q false=decide ((za4 S j K n)[j+q]=1):=by
 have h:∀(l a b:List Int) (_:l=a++b) (_:a.length=j) (h1:j+q<l.length) (h2:q<b.length),l[j+q]=b[q]:=fun l a b e ha h1 h2=>by
  subst e
  subst ha
  rw[List.getElem_append_right (by omega)]
  simp
 have hl:q<(zaR 2 K n).length:=by rw[zaS];rw[zhZ]at h1;omega
 rw[h (za4 S j K n) (zaR S j (n / 2^K)) (zaR 2 K n) rfl (zaS _ _ _) h1 hl]
 unfold zpu
 rw[List.getD_eq_getElem?_getD,List.getElem?_map,List.getElem?_eq_getElem hl]
 rfl
theorem zuH {l:List Abs.zaf}{S k n:Nat}(hp:zh0 l S)(hn:zfe l S=some k){f:Abs.zaf}(hf:f∈l):zg8 (zmJ l S n) f []:=by
 have hal:=zh1 hp hn (i:=n)
 have hvp:=znT hal hf
 refine⟨⟨hal.m,fun c hc=>zug (by have:=hp.s;omega) hc,fun r hr=>?_,fun r hr t ht=>?_⟩,hvp.v,hvp.s,by have:=(hp.f f hf).2;simp only[List.length_nil];omega,fun c hc=>zp1 (zD0.2 ⟨f,hf,hc⟩)⟩
 ·obtain⟨p,hp2,b,rfl⟩:=zf6 hr
  exact zhl hp p hp2
 ·obtain⟨p,hp2,b,rfl⟩:=zf6 hr
  have h1:=zu8 (by have:=hp.s;omega) ht
  have h2:=zhl hp p hp2
  exact⟨by rw[h1.1];simp only;omega,h1.2⟩
def zs4:Tv:=(.q 0 (.q 1 (.q 2 (.q 3 (.q 4 (.q 5 (.q 6 .leaf)))))))
def zcQ:Tv:=(.q 0 (.q 1 (.q 2 (.q 3 (.q 4 (.q 5 (.q 6 (.q 7 (.q 8 .leaf)))))))))
theorem zw5 (l:List zal):zbs (l.map enc) 3:=fun x hx=>by obtain⟨p,_,rfl⟩:=List.mem_map.1 hx;rfl
def zs3:Tv:=(.q 0 (.q 2 (.q 3 (.br [(1,(.br [(4,(.q 5 (.br [(6,(.q 7 (.br [(8,.leaf)])))])))])),(4,(.q 1 (.q 5 (.br [(6,(.q 7 (.br [(8,.leaf)])))]))))]))))
def zs2:Tv:=(.q 0 (.q 1 (.q 2 (.q 3 (.q 4 (.q 5 (.q 6 (.q 7 (.q 8 (.br [(9,(.q 10 (.br [(11,.leaf)])))]))))))))))
def I18:Tbl:=I17.add 10 (zAG zuD zD1)
attribute [go_sem] I18
set_option maxHeartbeats 16000000 in
theorem zCN:zan Tryd.prog G I18:=by
 refine zsO zFK zgB fun l size most hp hwl _ _=>?_
 obtain⟨he,hs,hmo⟩:=hp
 obtain⟨S,hS⟩:∃S:Nat,size=(S:Int):=⟨size.toNat,by omega⟩
 subst hS
 obtain⟨M,hM⟩:∃M:Nat,most=(M:Int):=⟨most.toNat,by omega⟩
 subst hM
 rw[Int.toNat_natCast]at he
 obtain⟨hf,hl,hs1,hs4⟩:=he
 have hv:∀f∈l,(zaA false f).code=0:=fun f h=>(hf f h).1
 have hsw:∀f∈l,(enc f).Wf:=fun f h=>zdO hwl _ (List.mem_map_of_mem h)
 have hpq:∀i (h:i<l.length),zAr l[i] (zeq (l.take i)):=fun i h=>⟨hsw _ (List.getElem_mem h),zsb hv hl h⟩
 have hacp:(∀f∈l,acP f)∧l.length≤41:=⟨fun f h=>zyS (hv f h),hl⟩
 have hnm:acM l=zbu l:=zq3 l
 have hnl:=zgE hv hl
 have hpa:=zhl ⟨hf,hl,hs1,hs4⟩
 have hpl:(zeq l).length≤8200:=by
  have h1:=zhz (zcO l) []
  have h2:=zeM hv
  simp only[List.length_nil]at h1
  unfold zeq;omega
 obtain⟨r,hr⟩:∃r,zuD l S M=r:=⟨_,rfl⟩
 rw[hr]
 obtain⟨Q,hQ⟩:∃Q:D→zau→Nat→Prop,Q=(fun d _ _=>D.val d=some (.tup [.fz (enc r.1),.fz (enc r.2)])):=⟨_,rfl⟩
 rw[←hQ]
 have kq:=Kp.mk hQ
 have kp:=Kp.mk hpq
 have kf:=Kp.mk hf
 clear hQ hpq hsw hf
 refine zah (N:=240) hm zgB 10000 (lsw [56,80,126,154,156,191,213] [1000043,1000052,1000066,1000073]) zFK Tryd.func10 rfl rfl (by simp) (by kernel_rfl) ?_
 repeat'(first|refine And.intro ?_ ?_|exact True.intro|refine rq fun _=>?_|refine rf fun _=>?_|simp only[go_sem,zad,zac,zab,zaa,zaE,zaD,Tryd.f10])
 refine zai hm zgB 10000 (lsw [56,80,126,154,156,191,213] [1000043,1000052,1000066,1000073]) (ι:=za5 l.length fun _=>True)
  ⟨fun q=>⟨frL [(0,.fz (.sl (l.map enc))),(1,.fz (.i .i64 S)),(2,.fz (.i .i64 M)),(8,.fz (.sl ((zeq (l.take q.i)).map enc))),(35,.fz (.sl (l.map enc))),(36,.fz (.i .i64 l.length)),(37,.fz (.i .i64 q.i))],hpL [],0⟩,fun q=>l.length-q.i⟩
  ⟨0,by omega,trivial⟩ (by kernel_rfl) ?_ ?_
 ·refine zbc [] [] [] ?_ ?_ ?_ ?_ ?_<;>simp only[go_sem,show zeq (l.take 0)=[]from rfl,List.map_nil]
  all_goals first|done|rfl|omega
 rintro⟨i,hi,_⟩
 try simp only at hi
 rcases Nat.lt_or_ge i l.length with h1|h1
 ·obtain⟨x,hx⟩:∃x,l[i]=x:=⟨_,rfl⟩
  have hpx:=kp.out i h1
  have ht:=zsJ h1
  rw[hx]at hpx ht
  repeat'(first|refine zaB.i hpx fun _=>?_|refine And.intro ?_ ?_|exact True.intro|refine rq fun _=>?_|refine rf fun _=>?_|simp only[go_sem,h1,hx,zad,zac,zab,zaa,zaE,zaD,Tryd.f10])
  refine⟨⟨i+1,by omega,trivial⟩,by simp only;omega,?_⟩
  refine zag ?_ ?_ ?_<;>simp only[go_sem,ht]
  all_goals first|done|rfl|omega
 obtain rfl:i=l.length:=by omega
 obtain⟨ps,hps⟩:∃ps,zeq l=ps:=⟨_,rfl⟩
 obtain⟨ns,hns⟩:∃ns,zbu l=ns:=⟨_,rfl⟩
 rw[hns]at hnm hnl
 rw[hps]at hpa hpl
 repeat'(first|refine zaB.i hacp fun _=>?_|refine And.intro ?_ ?_|exact True.intro|refine rq fun _=>?_|refine rf fun _=>?_|simp only[go_sem,Nat.lt_irrefl,List.take_length,hps,hnm,zad,zac,zab,zaa,zaE,zaD,Tryd.f10])
 obtain⟨c,hc⟩:∃c,ns.length=c:=⟨_,rfl⟩
 refine zai hm zgB 10000 (lsw [56,80,126,154,156,191,213] [1000043,1000052,1000066,1000073]) (ι:=zen c 1 fun _=>True)
  ⟨fun q=>⟨frL [(0,.fz (.sl (l.map enc))),(1,.fz (.i .i64 S)),(2,.fz (.i .i64 M)),(8,.fz (.sl (ps.map enc))),(10,.fz (.sl (ns.map enc))),(11,.ow (10056,q.g) 1 ((zcg (List.replicate q.i S)).map enc)),(12,.fz (.i .i64 1)),(50,.fz (.i .i64 c)),(51,.fz (.i .i64 q.i))],hpL [((10056,q.g),some tok)],q.m⟩,fun q=>c-q.i⟩
  ⟨0,0,1,by omega,by omega,by omega,trivial⟩ (by kernel_rfl) ?_ ?_
 ·refine zbc [] [(10056,0)] [] ?_ ?_ ?_ ?_ ?_<;>(try simp only[go_sem,hc,List.replicate_zero,show zcg []=[]from rfl,List.map_nil])
  all_goals first|done|rfl|omega
 rintro⟨j,g,m,hj,hg,hm1,_⟩
 try simp only at hj hg hm1
 have hjl:(zcg (List.replicate j S)).length=j:=by rw[zfY,List.length_replicate]
 rcases Nat.lt_or_ge j c with h2|h2
 ·have hrs:zcg (List.replicate (j+1) S)=zcg (List.replicate j S)++[(S:Int)]:=by rw[List.replicate_succ',zlQ];rfl
  have h2i:((j:Int)<(c:Int))=True:=eq_true (by omega)
  repeat'(first|refine zaB.i (zaL (by first|omega|(simp only[List.length_map,hjl];omega)) (by decide)) fun _=>?_|refine And.intro ?_ ?_|exact True.intro|refine rq fun _=>?_|refine rf fun _=>?_|simp only[go_sem,h2i,zad,zac,zab,zaa,zaE,zaD,Tryd.f10])
  refine⟨⟨j+1,m,m+1,by omega,by omega,by omega,trivial⟩,by simp only;omega,?_⟩
  refine zag ?_ ?_ ?_<;>(try simp only[go_sem,hrs,List.map_append,List.map_cons,List.map_nil])
  all_goals first|done|rfl|omega
 obtain rfl:j=c:=by omega
 repeat'(first|refine And.intro ?_ ?_|exact True.intro|refine rq fun _=>?_|refine rf fun _=>?_|simp only[go_sem,Int.lt_irrefl,zad,zac,zab,zaa,zaE,zaD,Tryd.f10])
 obtain⟨C,hC⟩:∃C:Nat→Nat,C=fun i=>zaQ S (ps.take i):=⟨_,rfl⟩
 have hC0:C 0=0:=by rw[hC];rfl
 have hCs:∀i (h:i<ps.length),C (i+1)=C i+zqi S ps[i]:=fun i h=>by rw[hC];exact zi8 h
 have hCl:∀i,C i≤64*8200:=fun i=>by
  rw[hC]
  have h1:=zn4 hs4 (ps.take i) fun p hp=>hpa p (List.mem_of_mem_take hp)
  have h2:(ps.take i).length≤ps.length:=by rw[List.length_take];omega
  simp only
  omega
 have hCe:C ps.length=zaQ S ps:=by rw[hC];simp only[List.take_length]
 have kC:=Kp.mk hCs
 have kCl:=Kp.mk hCl
 have ka:=Kp.mk hpa
 clear hCs hCl hpa
 rw[zsZ]at hjl ⊢
 refine zai hm zgB 10000 (lsw [56,80,126,154,156,191,213] [1000043,1000052,1000066,1000073]) (ι:=zen ps.length (m+1) fun _=>True)
  ⟨fun q=>⟨frL [(0,.fz (.sl (l.map enc))),(1,.fz (.i .i64 S)),(2,.fz (.i .i64 M)),(8,.fz (.sl (ps.map enc))),(10,.fz (.sl (ns.map enc))),(11,.ow (10080,q.g) 1 ((zsX j S (C q.i)).map enc)),(12,.fz (.i .i64 1)),(58,.fz (.sl (ps.map enc))),(59,.fz (.i .i64 ps.length)),(60,.fz (.i .i64 q.i))],hpL [((10080,q.g),some tok)],q.m⟩,fun q=>ps.length-q.i⟩
  ⟨0,m,m+1,by omega,by omega,by omega,trivial⟩ (by kernel_rfl) ?_ ?_
 ·refine zbc [((10080,m),(10056,g))] [] [] ?_ ?_ ?_ ?_ ?_<;>(try simp only[go_sem,hC0,zAv,zoP,vL])
  all_goals first|done|rfl|omega
 rintro⟨i,g2,m2,hi2,hg2,hm2,_⟩
 try simp only at hi2 hg2 hm2
 rcases Nat.lt_or_ge i ps.length with h3|h3
 ·obtain⟨x,hx⟩:∃x,ps[i]=x:=⟨_,rfl⟩
  have hxa:=ka.out x (by rw[←hx];exact List.getElem_mem h3)
  have hcs:=kC.out i h3
  have hcl1:=kCl.out i
  have hcl2:=kCl.out (i+1)
  rw[hx]at hcs
  obtain⟨A,hA⟩:∃A:Nat,x.arity=(A:Int):=⟨x.arity.toNat,by omega⟩
  obtain⟨P,hP⟩:∃P:Nat→Nat,P=fun k=>S^k:=⟨_,rfl⟩
  have hP0:P 0=1:=by rw[hP];rfl
  have hPs:∀k,P k*S=P (k+1):=fun k=>by rw[hP];exact(Nat.pow_succ ..).symm
  have hPl:∀k,k≤A→P k≤64:=fun k hk=>by rw[hP];exact Nat.le_trans (Nat.pow_le_pow_left hs4 k) (Nat.pow_le_pow_right (by omega) (by omega):4^k≤4^3)
  have hPe:zqi S x=P A:=by rw[hP];show S^x.arity.toNat=_;rw[hA,Int.toNat_natCast]
  rw[hPe]at hcs
  have kPs:=Kp.mk hPs
  have kPl:=Kp.mk hPl
  clear hP hPs hPl hPe
  repeat'(first|refine And.intro ?_ ?_|exact True.intro|refine rq fun _=>?_|refine rf fun _=>?_|simp only[go_sem,h3,hx,hA,zad,zac,zab,zaa,zaE,zaD,Tryd.f10])
  refine zai hm zgB 10000 (lsw [56,80,126,154,156,191,213] [1000043,1000052,1000066,1000073]) (ι:=za5 A fun _=>True)
   ⟨fun q=>⟨frL [(0,.fz (.sl (l.map enc))),(1,.fz (.i .i64 S)),(2,.fz (.i .i64 M)),(8,.fz (.sl (ps.map enc))),(10,.fz (.sl (ns.map enc))),(12,.fz (.i .i64 1)),(58,.fz (.sl (ps.map enc))),(59,.fz (.i .i64 ps.length)),(60,.fz (.i .i64 i)),(11,.ow (10080,g2) 1 ((zsX j S (C i)).map enc)),(14,.ptr (10014,m2) 0),(15,.fz (.i .i64 (P q.i:Nat))),(16,.fz (.i .i64 q.i))],hpL [((10080,g2),some tok),((10014,m2),some ⟨[.fz (.s x.name.l),.fz (.i .i64 A)],true,false⟩)],m2+1⟩,fun q=>A-q.i⟩
   ⟨0,by omega,trivial⟩ (by kernel_rfl) ?_ ?_
  ·refine zag ?_ ?_ ?_<;>simp only[go_sem,hP0,hA]
   all_goals first|done|rfl|omega
  rintro⟨k,hk,_⟩
  try simp only at hk
  rcases Nat.lt_or_ge k A with h4|h4
  ·have h5:=kPs.out k
   have h6:=kPl.out k (by omega)
   have h7:=kPl.out (k+1) (by omega)
   have h8:((P k:Nat):Int)*(S:Int)=((P (k+1):Nat):Int):=by rw[←h5];simp
   have h9:((k:Int)<(A:Int))=True:=eq_true (by omega)
   repeat'(first|refine And.intro ?_ ?_|exact True.intro|refine rq fun _=>?_|refine rf fun _=>?_|simp only[go_sem,h8,h9,zad,zac,zab,zaa,zaE,zaD,Tryd.f10])
   refine⟨⟨k+1,by omega,trivial⟩,by simp only;omega,?_⟩
   refine zag ?_ ?_ ?_<;>simp only[go_sem]
   all_goals first|done|rfl|omega
  obtain rfl:A=k:=by omega
  repeat'(first|refine And.intro ?_ ?_|exact True.intro|refine rq fun _=>?_|refine rf fun _=>?_|simp only[go_sem,Int.lt_irrefl,zad,zac,zab,zaa,zaE,zaD,Tryd.f10])
  obtain⟨R,hR⟩:∃R,P A=R:=⟨_,rfl⟩
  rw[hR]at hcs ⊢
  have hRl:=kPl.out A (Nat.le_refl _)
  rw[hR]at hRl
  refine zai hm zgB 10000 (lsw [56,80,126,154,156,191,213] [1000043,1000052,1000066,1000073]) (ι:=zen R (m2+1) fun _=>True)
   ⟨fun q=>⟨frL [(0,.fz (.sl (l.map enc))),(1,.fz (.i .i64 S)),(2,.fz (.i .i64 M)),(8,.fz (.sl (ps.map enc))),(10,.fz (.sl (ns.map enc))),(12,.fz (.i .i64 1)),(58,.fz (.sl (ps.map enc))),(59,.fz (.i .i64 ps.length)),(60,.fz (.i .i64 i)),(11,.ow (10080,q.g) 1 ((zsX j S (C i+q.i)).map enc)),(15,.fz (.i .i64 R)),(17,.fz (.i .i64 q.i))],hpL [((10080,q.g),some tok)],q.m⟩,fun q=>R-q.i⟩
   ⟨0,g2,m2+1,by omega,by omega,by omega,trivial⟩ (by kernel_rfl) ?_ ?_
  ·refine zag ?_ ?_ ?_<;>simp only[go_sem,Nat.add_zero]
   all_goals first|done|rfl|omega
  rintro⟨k,g3,m3,hk2,hg3,hm3,_⟩
  try simp only at hk2 hg3 hm3
  rcases Nat.lt_or_ge k R with h4|h4
  ·have hts:=zsY j S (C i+k)
   have htl:=zu5 j S (C i+k)
   have h9:((k:Int)<(R:Int))=True:=eq_true (by omega)
   repeat'(first|refine zaB.i (zaL (by first|omega|(simp only[List.length_map,htl];omega)) (by decide)) fun _=>?_|refine And.intro ?_ ?_|exact True.intro|refine rq fun _=>?_|refine rf fun _=>?_|simp only[go_sem,h9,zad,zac,zab,zaa,zaE,zaD,Tryd.f10])
   refine⟨⟨k+1,m3,m3+1,by omega,by omega,by omega,trivial⟩,by simp only;omega,?_⟩
   refine zag ?_ ?_ ?_<;>(try simp only[go_sem,←Nat.add_assoc,hts,List.map_append,List.map_cons,List.map_nil])
   all_goals first|done|rfl|omega
  obtain rfl:R=k:=by omega
  repeat'(first|refine And.intro ?_ ?_|exact True.intro|refine rq fun _=>?_|refine rf fun _=>?_|simp only[go_sem,Int.lt_irrefl,zad,zac,zab,zaa,zaE,zaD,Tryd.f10])
  refine⟨⟨i+1,g3,m3,by omega,by omega,by omega,trivial⟩,by simp only;omega,?_⟩
  refine zag ?_ ?_ ?_<;>simp only[go_sem,hcs]
  all_goals first|done|rfl|omega
 obtain rfl:i=ps.length:=by omega
 obtain⟨K,hK⟩:∃K,zaQ S ps=K:=⟨_,rfl⟩
 rw[hK]at hCe
 repeat'(first|refine And.intro ?_ ?_|exact True.intro|refine rq fun _=>?_|refine rf fun _=>?_|simp only[go_sem,Int.lt_irrefl,Nat.lt_irrefl,hCe,zad,zac,zab,zaa,zaE,zaD,Tryd.f10])
 obtain⟨TN,hTN⟩:∃TN:List Nat,List.replicate j S++List.replicate K 2=TN:=⟨_,rfl⟩
 have hTL:zsX j S K=zcg TN:=by rw[←hTN];rfl
 have hTn:TN.length=j+K:=by rw[←hTN,List.length_append,List.length_replicate,List.length_replicate]
 have hTm:∀t∈TN,t≤4:=fun t ht=>by
  rw[←hTN]at ht
  rcases List.mem_append.1 ht with h|h
  ·rw[(List.mem_replicate.1 h).2];exact hs4
  ·rw[(List.mem_replicate.1 h).2];decide
 have hnum:zm0 1 TN=zfe l S:=by
  unfold zfe zeu zqC
  rw[hns,hps,hc,zgd,hK,hTN]
 obtain⟨rr,hrr⟩:∃rr,zfe l S=rr:=⟨_,rfl⟩
 rw[hrr]at hnum
 have hgt:∀i (h:i<TN.length),((zcg TN).map enc).getD i FD.nilf=FD.i .i64 (TN[i]:Nat):=fun i h=>by
  rw[zaa (by rw[zfY];exact h)]
  unfold zcg
  rw[List.getElem_map];rfl
 have kg:=Kp.mk hgt
 have kt:=Kp.mk hTm
 have hil:=zfY TN
 clear hgt hTm
 obtain⟨L,hL⟩:∃L,j+K=L:=⟨_,rfl⟩
 rw[hL]at hTn
 have hLb:L≤11000000:=by
  have:=kCl.out ps.length
  omega
 refine zai hm zgB 10000 (lsw [56,80,126,154,156,191,213] [1000043,1000052,1000066,1000073]) (ι:=zty L m2 fun i v=>v≤8192∧zm0 v (TN.drop i)=rr)
  ⟨fun q=>⟨frL [(0,.fz (.sl (l.map enc))),(1,.fz (.i .i64 S)),(2,.fz (.i .i64 M)),(8,.fz (.sl (ps.map enc))),(10,.fz (.sl (ns.map enc))),(11,.ow (10080,g2) 1 ((zcg TN).map enc)),(12,.fz (.i .i64 (q.v:Nat))),(82,.ow (10080,g2) 1 ((zcg TN).map enc)),(83,.fz (.i .i64 L)),(84,.fz (.i .i64 q.i))],hpL [((10080,g2),some tok)],q.m⟩,fun q=>L-q.i⟩
  ⟨0,1,m2,by omega,by omega,by omega,hnum⟩ (by kernel_rfl) ?_ ?_
 ·refine zag ?_ ?_ ?_<;>simp only[go_sem,hTL,hil,hTn]
  all_goals first|done|rfl|omega
 rintro⟨i,v,m3,hi3,hm3,hv8,hcap⟩
 try simp only at hi3 hm3 hv8 hcap
 rcases Nat.lt_or_ge i L with h3|h3
 ·have h4:i<TN.length:=by omega
  have h5:=kg.out i h4
  obtain⟨t,ht⟩:∃t,TN[i]=t:=⟨_,rfl⟩
  have ht4:=kt.out t (by rw[←ht];exact List.getElem_mem h4)
  rw[ht]at h5
  rw[List.drop_eq_getElem_cons h4,ht,zm0]at hcap
  have h6:(v:Int)*(t:Int)=((v*t:Nat):Int):=by simp
  have h7:((i:Int)<(L:Int))=True:=eq_true (by omega)
  have h8:v*t≤524288:=Nat.le_trans (Nat.mul_le_mul hv8 (show t≤64 by omega)) (by decide)
  have h9:i<(zcg TN).length:=by omega
  by_cases hb:8192<v*t
  ·rw[if_pos hb]at hcap
   have hb':((8192:Int)<((v*t:Nat):Int))=True:=eq_true (by omega)
   have hr0:zuD l S M=([],false):=by
    unfold zuD zsc zbb
    simp only[Int.toNat_natCast]
    rw[hrr,←hcap];rfl
   repeat'(first|refine zaB.i (by rw[h5];rfl) fun _=>?_|refine And.intro ?_ ?_|exact True.intro|refine rq fun _=>?_|refine rf fun _=>?_|simp only[go_sem,h5,h6,h7,h9,hb',hil,hTn,zad,zac,zab,zaa,zaE,zaD,Tryd.f10])
   all_goals
    rw[kq.out,←hr,hr0]
    first|done|rfl|(simp only[go_sem];done)
  ·rw[if_neg hb]at hcap
   have hb':((8192:Int)<((v*t:Nat):Int))=False:=eq_false (by omega)
   repeat'(first|refine zaB.i (by rw[h5];rfl) fun _=>?_|refine And.intro ?_ ?_|exact True.intro|refine rq fun _=>?_|refine rf fun _=>?_|simp only[go_sem,h5,h6,h7,h9,hb',hil,hTn,zad,zac,zab,zaa,zaE,zaD,Tryd.f10])
   refine⟨⟨i+1,v*t,m3,by omega,by omega,by omega,hcap⟩,by simp only;omega,?_⟩
   refine zag ?_ ?_ ?_<;>simp only[go_sem]
   all_goals first|done|rfl|omega
 obtain rfl:i=L:=by omega
 rw[List.drop_of_length_le (by omega),zm0]at hcap
 subst hcap
 have rep_ints:∀n:Nat,List.replicate n (D.fz (.i .i64 0))=zae ((List.replicate n (0:Int)).map enc):=fun n=>by rw[zaY];simp[zj1]
 have hd0:List.replicate i (0:Int)=za4 S j K 0:=by rw[zlj,hL]
 repeat'(first|refine And.intro ?_ ?_|exact True.intro|refine rq fun _=>?_|refine rf fun _=>?_|simp only[go_sem,Int.lt_irrefl,hil,hTn,zfm,rep_ints,hd0,zad,zac,zab,zaa,zaE,zaD,Tryd.f10])
 have hr1:r=((zbS l S v).take M,true):=by
  rw[←hr]
  unfold zuD zsc zbb
  simp only[Int.toNat_natCast]
  rw[hrr];rfl
 have hcl:ns.length=j:=hc
 refine zai hm zgB 10000 (lsw [56,80,126,154,156,191,213] [1000043,1000052,1000066,1000073]) (ι:=zen v (m3+2) fun n=>(zbS l S n).length≤M)
  ⟨fun q=>⟨frL [(0,.fz (.sl (l.map enc))),(1,.fz (.i .i64 S)),(2,.fz (.i .i64 M)),(8,.fz (.sl (ps.map enc))),(10,.fz (.sl (ns.map enc))),(11,.ow (10080,g2) 1 ((zcg TN).map enc)),(12,.fz (.i .i64 v)),(20,.arr (10096,m3) 1 0 i),(21,.ow (10213,q.g) 3 ((zbS l S q.i).map enc)),(22,.fz (.i .i64 q.i))],hpL [((10096,m3),some ⟨zae ((za4 S j K q.i).map enc),false,false⟩),((10080,g2),some tok),((10213,q.g),some tok)],q.m⟩,fun q=>v-q.i⟩
  ⟨0,m3+1,m3+2,by omega,by omega,by omega,by show(zbS l S 0).length≤M;exact Nat.zero_le _⟩ (by kernel_rfl) ?_ ?_
 ·refine zbc [] [(10213,m3+1)] [] ?_ ?_ ?_ ?_ ?_<;>(try simp only[go_sem,show zbS l S 0=[]from rfl,List.map_nil])
  all_goals first|done|rfl|omega
 rintro⟨n,g3,m4,hn,hg3,hm4,hlM⟩
 try simp only at hn hg3 hm4 hlM
 obtain⟨O,hO⟩:∃O,zbS l S n=O:=⟨_,rfl⟩
 rw[hO]at hlM
 rcases Nat.lt_or_ge n v with h3|h3
 rotate_left
 ·obtain rfl:n=v:=by omega
  have h4:r=(O,true):=by rw[hr1,hO,List.take_of_length_le hlM]
  repeat'(first|refine And.intro ?_ ?_|exact True.intro|refine rq fun _=>?_|refine rf fun _=>?_|simp only[go_sem,Int.lt_irrefl,hO,zad,zac,zab,zaa,zaE,zaD,Tryd.f10])
  all_goals
   rw[kq.out,h4]
   first|done|rfl|(simp only[go_sem];done)
 have h3i:((n:Int)<(v:Int))=True:=eq_true (by omega)
 rcases Nat.lt_or_ge O.length M with h4|h4
 rotate_left
 ·have h5:r=(O,true):=by
   obtain⟨w,hw⟩:=zl0 l S (n:=n) (t:=v) hn
   rw[hr1,hw,hO,List.take_append_of_le_length h4,List.take_of_length_le hlM]
  have h6:((O.length:Int)<(M:Int))=False:=eq_false (by omega)
  repeat'(first|refine And.intro ?_ ?_|exact True.intro|refine rq fun _=>?_|refine rf fun _=>?_|simp only[go_sem,h3i,h6,hO,zad,zac,zab,zaa,zaE,zaD,Tryd.f10])
  all_goals
   rw[kq.out,h5]
   first|done|rfl|(simp only[go_sem];done)
 have h6:((O.length:Int)<(M:Int))=True:=eq_true (by omega)
 have hOn:=zf3 l S n
 rw[hO]at hOn
 obtain⟨F,hF⟩:∃F,zmJ l S n=F:=⟨_,rfl⟩
 have hms:=zgD l S n
 rw[hF,hO]at hms
 have hFc:F.consts=List.zipWith zaF.mk ns (zaR S j (n / 2^K)):=by
  rw[←hF];unfold zmJ zdg
  rw[hns,hps,hcl,hK]
 obtain⟨D,hD⟩:∃D,za4 S j K n=D:=⟨_,rfl⟩
 have hDl:D.length=i:=by rw[←hD,zhZ,hL]
 have hFl:F.consts.length=j:=by rw[hFc,zvJ (by rw[zaS,hcl]),hcl]
 have hFk:∀k (h1:k<ns.length) (h2:k<F.consts.length) (h3:k<D.length),F.consts[k]=⟨ns[k],D[k]⟩:=fun k h1 h2 h3=>by
  have e:D[k]=(zaR S j (n / 2^K))[k]'(by rw[zaS];omega):=by
   subst hD
   exact ztT _ _
  rw[e]
  simp only[hFc,List.getElem_zipWith]
 have kF:=Kp.mk hFk
 clear hFk hFc
 repeat'(first|refine And.intro ?_ ?_|exact True.intro|refine rq fun _=>?_|refine rf fun _=>?_|simp only[go_sem,h3i,h6,hO,hcl,zad,zac,zab,zaa,zaE,zaD,Tryd.f10])
 refine zai hm zgB 10000 (lsw [56,80,126,154,156,191,213] [1000043,1000052,1000066,1000073]) (ι:=zen j (m4+2) fun _=>True)
  ⟨fun q=>⟨frL [(0,.fz (.sl (l.map enc))),(1,.fz (.i .i64 S)),(2,.fz (.i .i64 M)),(8,.fz (.sl (ps.map enc))),(10,.fz (.sl (ns.map enc))),(11,.ow (10080,g2) 1 ((zcg TN).map enc)),(12,.fz (.i .i64 v)),(20,.arr (10096,m3) 1 0 i),(21,.ow (10213,g3) 3 (O.map enc)),(22,.fz (.i .i64 n)),(23,.ptr (10023,m4) 0),(110,.fz (.sl (ns.map enc))),(111,.fz (.i .i64 j)),(112,.fz (.i .i64 q.i))],hpL [((10096,m3),some ⟨zae (D.map enc),false,false⟩),((10080,g2),some tok),((10213,g3),some tok),((10023,m4),some ⟨[.fz (.i .i64 S),.ow (10126,q.g) 2 ((F.consts.take q.i).map enc),.full []],true,false⟩),((10126,q.g),some tok)],q.m⟩,fun q=>j-q.i⟩
  ⟨0,m4+1,m4+2,by omega,by omega,by omega,trivial⟩ (by kernel_rfl) ?_ ?_
 ·refine zbc [] [(10126,m4+1)] [] ?_ ?_ ?_ ?_ ?_<;>(try simp only[go_sem,hD,hO,List.take_zero,List.map_nil])
  all_goals first|done|rfl|omega
 rintro⟨k,g4,m5,hk,hg4,hm5,_⟩
 try simp only at hk hg4 hm5
 rcases Nat.lt_or_ge k j with h5|h5
 ·have h7:=kF.out k (by omega) (by omega) (by omega)
  have ht:F.consts.take (k+1)=F.consts.take k++[⟨ns[k],D[k]⟩]:=by rw[List.take_succ_eq_append_getElem (by omega),h7]
  obtain⟨w,hw⟩:∃w,ns[k]=w:=⟨_,rfl⟩
  obtain⟨d,hd⟩:∃d,D[k]=d:=⟨_,rfl⟩
  rw[hw,hd]at ht
  have htl:(F.consts.take k).length=k:=by rw[List.length_take];omega
  have hgw:((ns.map enc).getD k FD.nilf)=FD.s w.l:=by rw[zaa (by omega),hw];rfl
  have hgd:(zae (D.map enc)).getD k .junk= .fz (.i .i64 d):=by rw[zbK (by omega),hd];rfl
  have hkL:k<i:=by omega
  have hkn:k<ns.length:=by omega
  have h8:((k:Int)<(j:Int))=True:=eq_true (by omega)
  repeat'(first|refine zaK (id:=43) hm zgB 10000 (lsw [56,80,126,154,156,191,213] [1000043,1000052,1000066,1000073]) zs2 (by kernel_rfl) (by kernel_rfl) ?_|refine zaB.i (by rw[hgw];rfl) fun _=>?_|refine zaB.i (zaL (by first|omega|(simp only[List.length_map,htl];omega)) (by decide)) fun _=>?_|refine And.intro ?_ ?_|exact True.intro|refine rq fun _=>?_|refine rf fun _=>?_|simp only[go_sem,h8,hgw,hgd,hkL,hkn,hcl,hDl,zs2,zad,zac,zab,zaa,zaE,zaD,Tryd.f10])
  all_goals
   refine⟨⟨k+1,m5,m5+1,by omega,by omega,by omega,trivial⟩,by simp only;omega,?_⟩
   refine zag ?_ ?_ ?_<;>(try simp only[go_sem,ht,List.map_append,List.map_cons,List.map_nil])
   all_goals first|done|rfl|omega
 obtain rfl:j=k:=by omega
 have hft:F.consts.take j=F.consts:=List.take_of_length_le (Nat.le_of_eq hFl)
 repeat'(first|refine And.intro ?_ ?_|exact True.intro|refine rq fun _=>?_|refine rf fun _=>?_|simp only[go_sem,Int.lt_irrefl,hcl,hft,zad,zac,zab,zaa,zaE,zaD,Tryd.f10])
 obtain⟨B,hB⟩:∃B,zpu K n=B:=⟨_,rfl⟩
 have hDB:∀q (h1:j+q<D.length),B.getD q false=decide (D[j+q]=1):=fun q h1=>by subst hB;subst hD;exact ztS h1
 obtain⟨RF,hRF⟩:∃RF:Nat→List zdq,RF=fun q=>zfo S (ps.take q) B:=⟨_,rfl⟩
 have hR0:RF 0=[]:=by rw[hRF];rfl
 have hRs:∀q (h:q<ps.length),RF (q+1)=RF q++[⟨ps[q].name,ps[q].arity,zmv S ps[q].arity.toNat (B.drop (C q)) (S^ps[q].arity.toNat)⟩]:=fun q h=>by rw[hRF,hC];simp only;rw[zix B h];rfl
 have hRe:RF ps.length=F.rels:=by
  rw[hRF];simp only[List.take_length]
  rw[←hF];unfold zmJ zdg
  rw[hps,hK,hB]
 have kR:=Kp.mk hRs
 have kDB:=Kp.mk hDB
 have hCm:∀q,C q≤K:=fun q=>by rw[hC,←hK];exact zfE S ps q
 have kCm:=Kp.mk hCm
 have hRl:∀q,q≤ps.length→(RF q).length=q:=fun q h=>by rw[hRF];simp only;rw[ziw,List.length_take];omega
 have kRl:=Kp.mk hRl
 clear hRs hRF hDB hC hCm hRl
 refine zai hm zgB 10000 (lsw [56,80,126,154,156,191,213] [1000043,1000052,1000066,1000073]) (ι:=zen ps.length (m5+1) fun _=>True)
  ⟨fun q=>⟨frL [(0,.fz (.sl (l.map enc))),(1,.fz (.i .i64 S)),(2,.fz (.i .i64 M)),(8,.fz (.sl (ps.map enc))),(10,.fz (.sl (ns.map enc))),(11,.ow (10080,g2) 1 ((zcg TN).map enc)),(12,.fz (.i .i64 v)),(20,.arr (10096,m3) 1 0 i),(21,.ow (10213,g3) 3 (O.map enc)),(22,.fz (.i .i64 n)),(23,.ptr (10023,m4) 0),(26,.fz (.i .i64 ((j+C q.i:Nat):Int))),(131,.fz (.sl (ps.map enc))),(132,.fz (.i .i64 ps.length)),(133,.fz (.i .i64 q.i))],hpL [((10096,m3),some ⟨zae (D.map enc),false,false⟩),((10080,g2),some tok),((10213,g3),some tok),((10023,m4),some ⟨[.fz (.i .i64 S),.ow (10126,g4) 2 (F.consts.map enc),.ow (10191,q.g) 3 ((RF q.i).map enc)],true,false⟩),((10126,g4),some tok),((10191,q.g),some tok)],q.m⟩,fun q=>ps.length-q.i⟩
  ⟨0,m5,m5+1,by omega,by omega,by omega,trivial⟩ (by kernel_rfl) ?_ ?_
 ·refine zbc [] [(10191,m5)] [] ?_ ?_ ?_ ?_ ?_<;>(try simp only[go_sem,hC0,hR0,List.map_nil,Nat.add_zero])
  all_goals first|done|rfl|omega
 rintro⟨a,g5,m6,ha,hg5,hm6,_⟩
 try simp only at ha hg5 hm6
 rcases Nat.lt_or_ge a ps.length with h5|h5
 ·obtain⟨x,hx⟩:∃x,ps[a]=x:=⟨_,rfl⟩
  have hxa:=ka.out x (by rw[←hx];exact List.getElem_mem h5)
  have hR1:=kR.out a h5
  have hC1:=kC.out a h5
  have hCb:=kCm.out (a+1)
  have hCc:=kCl.out (a+1)
  rw[hx]at hR1 hC1
  obtain⟨nm,ar⟩:=x
  simp only at hxa hR1
  obtain⟨A,hA⟩:∃A:Nat,ar=(A:Int):=⟨ar.toNat,by omega⟩
  subst hA
  rw[Int.toNat_natCast]at hR1
  obtain⟨N,hN⟩:∃N,S^A=N:=⟨_,rfl⟩
  have hC1:C (a+1)=C a+N:=by rw[hC1,←hN];rfl
  rw[hN]at hR1
  have hN64:N≤64:=by
   rw[←hN]
   exact Nat.le_trans (Nat.pow_le_pow_left hs4 A) (Nat.pow_le_pow_right (by omega) (by omega):4^A≤4^3)
  have hRal:=kRl.out a (by omega)
  have hN0:0<N:=by rw[←hN];exact Nat.pow_pos (by omega)
  obtain⟨B',hB'⟩:∃B',B.drop (C a)=B':=⟨_,rfl⟩
  rw[hB']at hR1
  have hbit:∀k,k<N→B'.getD k false=decide (D.getD (j+C a+k) 0=1):=fun k hk=>by
   rw[←hB',ztI,kDB.out (C a+k) (by rw[hDl];omega),List.getD_eq_getElem?_getD,List.getElem?_eq_getElem (show j+C a+k<D.length by rw[hDl];omega)]
   simp only[Nat.add_assoc,Option.getD_some]
  have hU:∀k,zmv S A B' (k+1)=zmv S A B' k++(if B'.getD k false=true then[zaR S A k]else[]):=zmw S A B'
  have hU0:zmv S A B' 0=[]:=rfl
  have hdA:List.replicate A (0:Int)=zaR S A 0:=(zeW S A).symm
  have kU:=Kp.mk hU
  have kb:=Kp.mk hbit
  clear hU hbit hB'
  repeat'(first|refine And.intro ?_ ?_|exact True.intro|refine rq fun _=>?_|refine rf fun _=>?_|simp only[go_sem,h5,hx,zfm,rep_ints,hdA,zad,zac,zab,zaa,zaE,zaD,Tryd.f10])
  refine zai hm zgB 10000 (lsw [56,80,126,154,156,191,213] [1000043,1000052,1000066,1000073]) (ι:=zen N (m6+4) fun k=>k<N)
   ⟨fun q=>⟨frL [(0,.fz (.sl (l.map enc))),(1,.fz (.i .i64 S)),(2,.fz (.i .i64 M)),(8,.fz (.sl (ps.map enc))),(10,.fz (.sl (ns.map enc))),(11,.ow (10080,g2) 1 ((zcg TN).map enc)),(12,.fz (.i .i64 v)),(20,.arr (10096,m3) 1 0 i),(21,.ow (10213,g3) 3 (O.map enc)),(22,.fz (.i .i64 n)),(23,.ptr (10023,m4) 0),(26,.fz (.i .i64 ((j+C a+q.i:Nat):Int))),(28,.ptr (10028,m6) 0),(29,.ptr (10029,m6+1) 0),(30,.arr (10144,m6+2) 1 0 A),(131,.fz (.sl (ps.map enc))),(132,.fz (.i .i64 ps.length)),(133,.fz (.i .i64 a))],hpL [((10096,m3),some ⟨zae (D.map enc),false,false⟩),((10080,g2),some tok),((10213,g3),some tok),((10023,m4),some ⟨[.fz (.i .i64 S),.ow (10126,g4) 2 (F.consts.map enc),.ow (10191,g5) 3 ((RF a).map enc)],true,false⟩),((10126,g4),some tok),((10191,g5),some tok),((10028,m6),some ⟨[.fz (.s nm.l),.fz (.i .i64 A)],true,false⟩),((10029,m6+1),some ⟨[.fz (.s nm.l),.fz (.i .i64 A),.ow (10156,q.g) 1 ((zmv S A B' q.i).map enc)],true,false⟩),((10144,m6+2),some ⟨zae ((zaR S A q.i).map enc),false,false⟩),((10156,q.g),some tok)],q.m⟩,fun q=>N-q.i⟩
   ⟨0,m6+3,m6+4,by omega,by omega,by omega,hN0⟩ (by kernel_rfl) ?_ ?_
  ·refine zbc [] [(10156,m6+3)] [] ?_ ?_ ?_ ?_ ?_<;>(try simp only[go_sem,hU0,List.map_nil,Nat.add_zero])
   all_goals first|done|rfl|omega
  rintro⟨k,g7,m7,hk,hg7,hm7,hkN0⟩
  try simp only at hk hg7 hm7 hkN0
  obtain⟨T,hTe⟩:∃T,zaR S A k=T:=⟨_,rfl⟩
  have hTl:T.length=A:=by rw[←hTe,zaS]
  have hTb:∀x∈T,0≤x∧x<(S:Int):=fun x hx=>by rw[←hTe]at hx;exact zdv (by omega) _ _ _ hx
  have kTv:=Kp.mk (fun q (h:q<T.length)=>hTb _ (List.getElem_mem h))
  obtain⟨TA,hTA⟩:∃TA,List.replicate A S=TA:=⟨_,rfl⟩
  have hTT:TA.length=T.length:=by rw[←hTA,List.length_replicate,hTl]
  have hincA:=zdY (s:=S) (by omega) A k (by rw[hN];exact hkN0)
  rw[hTe,hTA,hN]at hincA
  have hTt:T.take A=T:=List.take_of_length_le (by omega)
  have hzA:zed (TA.drop (A-0)) (T.drop (A-0))=(List.replicate 0 0,true):=by
   have:=zlM hTT
   rw[hTT,hTl]at this
   exact this
  obtain⟨JA,hJA⟩:∃JA:Nat→Int,JA=fun q:Nat=>(A:Int)-1-(q:Int):=⟨_,rfl⟩
  have hJA0:JA 0=(A:Int)-1:=by rw[hJA];simp
  have hJAe:JA A= -1:=by rw[hJA];simp only;omega
  have hJAp:∀q p,p+q+1=A→JA q=(p:Int)∧JA (q+1)=(p:Int)-1:=fun q p h=>by rw[hJA];simp only;omega
  have kJA:=Kp.mk hJAp
  have hczA:=zk3 hTl
  clear hJA hJAp hTb
  have hUl:=zu7 S A B' k
  have hU1:=kU.out k
  have hb1:=kb.out k hkN0
  rw[hTe]at hU1
  have hkk:((j+C a+k:Nat):Int)+1=((j+C a+(k+1):Nat):Int):=by omega
  obtain⟨z,hz⟩:∃z,D.getD (j+C a+k) 0=z:=⟨_,rfl⟩
  have hat:j+C a+k<i:=by omega
  have hgz:(zae (D.map enc)).getD (j+C a+k) .junk= .fz (.i .i64 z):=by
   rw[zbK (by rw[hDl];exact hat),←hz,List.getD_eq_getElem?_getD,List.getElem?_eq_getElem (by rw[hDl];exact hat)];rfl
  rw[hz]at hb1
  by_cases hz1:z=1
  ·have hz1':(z=1)=True:=eq_true hz1
   rw[hb1,decide_eq_true hz1,if_pos rfl]at hU1
   repeat'(first|refine zaK (id:=52) hm zgB 10000 (lsw [56,80,126,154,156,191,213] [1000043,1000052,1000066,1000073]) zs3 (by kernel_rfl) (by kernel_rfl) ?_|refine zaB.i ⟨by omega,zaL (by first|omega|(simp only[List.length_take];omega)) (by decide)⟩ fun _=>?_|refine And.intro ?_ ?_|exact True.intro|refine rq fun _=>?_|refine rf fun _=>?_|simp only[go_sem,hgz,hat,hDl,hz1',hTe,zs3,zad,zac,zab,zaa,zaE,zaD,Tryd.f10])
   all_goals
    refine zai hm zgB 10000 (lsw [56,80,126,154,156,191,213] [1000043,1000052,1000066,1000073]) (ι:=za5 A fun q=>zed (TA.drop (A-q)) (T.drop (A-q))=(List.replicate q 0,true))
     ⟨fun q=>⟨frL [(0,.fz (.sl (l.map enc))),(1,.fz (.i .i64 S)),(2,.fz (.i .i64 M)),(8,.fz (.sl (ps.map enc))),(10,.fz (.sl (ns.map enc))),(11,.ow (10080,g2) 1 ((zcg TN).map enc)),(12,.fz (.i .i64 v)),(20,.arr (10096,m3) 1 0 i),(21,.ow (10213,g3) 3 (O.map enc)),(22,.fz (.i .i64 n)),(23,.ptr (10023,m4) 0),(26,.fz (.i .i64 ((j+C a+(k+1):Nat):Int))),(28,.ptr (10028,m6) 0),(29,.ptr (10029,m6+1) 0),(30,.arr (10144,m6+2) 1 0 A),(131,.fz (.sl (ps.map enc))),(132,.fz (.i .i64 ps.length)),(133,.fz (.i .i64 a)),(31,.fz (.i .i64 (JA q.i)))],hpL [((10096,m3),some ⟨zae (D.map enc),false,false⟩),((10080,g2),some tok),((10213,g3),some tok),((10023,m4),some ⟨[.fz (.i .i64 S),.ow (10126,g4) 2 (F.consts.map enc),.ow (10191,g5) 3 ((RF a).map enc)],true,false⟩),((10126,g4),some tok),((10191,g5),some tok),((10028,m6),some ⟨[.fz (.s nm.l),.fz (.i .i64 A)],true,false⟩),((10029,m6+1),some ⟨[.fz (.s nm.l),.fz (.i .i64 A),.ow (10156,m7+1) 1 ((zmv S A B' k++[T]).map enc)],true,false⟩),((10144,m6+2),some ⟨zae ((zcF T A q.i).map enc),false,false⟩),((10156,m7+1),some tok)],m7+2⟩,fun q=>A-q.i⟩
     ⟨0,by omega,hzA⟩ (by kernel_rfl) ?_ ?_
    ·refine zag ?_ ?_ ?_<;>simp only[go_sem,hTt,hJA0,hczA,hkk,hU1,List.map_append,List.map_cons,List.map_nil,List.append_nil]
     all_goals first|done|rfl|omega
    rintro⟨q,hq,hpq⟩
    try simp only at hq hpq
    rcases Nat.lt_or_ge q A with h12|h12
    rotate_left
    ·obtain rfl:A=q:=by omega
     rw[Nat.sub_self,List.drop_zero,List.drop_zero,hincA]at hpq
     have hkN:k+1=N:=by
      have:=congrArg Prod.snd hpq
      simpa using this
     have hR2:RF a++[⟨nm,(A:Int),zmv S A B' k++[T]⟩]=RF (a+1):=by rw[hR1,←hkN,hU1]
     have hjc:j+C a+(k+1)=j+C (a+1):=by rw[hC1,←hkN];omega
     repeat'(first|refine And.intro ?_ ?_|exact True.intro|refine rq fun _=>?_|refine rf fun _=>?_|simp only[go_sem,hJAe,hjc,zad,zac,zab,zaa,zaE,zaD,Tryd.f10])
     refine⟨⟨a+1,m7+2,m7+2+1,by omega,by omega,by omega,trivial⟩,by simp only;omega,?_⟩
     refine zag ?_ ?_ ?_<;>simp only[go_sem,←hR2,hjc,List.map_append,List.map_cons,List.map_nil]
     all_goals first|done|rfl|omega
    obtain⟨p,hp⟩:∃p,p+q+1=A:=⟨A-1-q,by omega⟩
    obtain⟨e1,e4⟩:=kJA.out q p hp
    have hpD:p<T.length:=by omega
    have hpT:p<TA.length:=by omega
    have hclen:=zfJ hTl hq
    have hpC:p<(zcF T A q).length:=by omega
    have hcg:=zfI hTl hp hpC hpD
    obtain⟨d,hd⟩:∃d,T[p]=d:=⟨_,rfl⟩
    have hdb:=kTv.out p hpD
    rw[hd]at hcg hdb
    have hgd:(zae ((zcF T A q).map enc)).getD p .junk= .fz (.i .i64 d):=by rw[zbK hpC,hcg];rfl
    have hT:=zzo hTT (by rw[show p+1=A-q by omega];exact hpq) hpT hpD
    have hta:TA[p]=S:=by simp only[←hTA,List.getElem_replicate]
    rw[hd,hta]at hT
    have e2:((0:Int)≤(p:Int))=True:=eq_true (by omega)
    have e3:((p:Int)<0)=False:=eq_false (by omega)
    have hpi:p<A:=by omega
    by_cases h11:d+1<(S:Int)
    ·have h11':(d=(S:Int)-1)=False:=eq_false (by omega)
     obtain⟨E,hE⟩:∃E,(zcF T A q).set p (d+1)=E:=⟨_,rfl⟩
     have hst:(zae ((zcF T A q).map enc)).set p (.fz (.i .i64 (d+1)))=zae (E.map enc):=by rw[←hE,←zaV];rfl
     have h13:=hT.2 h11
     rw[hincA]at h13
     have hkN:k+1<N:=by
      have h14:=congrArg Prod.snd h13
      have h15:¬k+1=N:=by simpa using h14
      omega
     have hEn:E=zaR S A (k+1):=by
      have h16:=congrArg Prod.fst h13
      simp only at h16
      rw[←hE,zgt hTl hp,←h16,Nat.mod_eq_of_lt hkN]
     repeat'(first|refine And.intro ?_ ?_|exact True.intro|refine rq fun _=>?_|refine rf fun _=>?_|simp only[go_sem,e1,e2,e3,hgd,hst,hpi,hclen,h11',zad,zac,zab,zaa,zaE,zaD,Tryd.f10])
     refine⟨⟨k+1,m7+1,m7+2,by omega,by omega,by omega,hkN⟩,by simp only;omega,?_⟩
     refine zag ?_ ?_ ?_<;>simp only[go_sem,hEn,hU1,List.map_append,List.map_cons,List.map_nil,List.append_nil]
     all_goals first|done|rfl|omega
    ·have h11':(d=(S:Int)-1)=True:=eq_true (by omega)
     have hst2:(zae ((zcF T A q).map enc)).set p (.fz (.i .i64 0))=zae ((zcF T A (q+1)).map enc):=by rw[←zfK hTl hp,←zaV];rfl
     repeat'(first|refine And.intro ?_ ?_|exact True.intro|refine rq fun _=>?_|refine rf fun _=>?_|simp only[go_sem,e1,e2,hgd,hst2,hpi,hclen,h11',zad,zac,zab,zaa,zaE,zaD,Tryd.f10])
     refine⟨⟨q+1,by omega,by rw[show A-(q+1)=p by omega];exact hT.1 (by omega)⟩,by simp only;omega,?_⟩
     refine zag ?_ ?_ ?_<;>simp only[go_sem,e4]
     all_goals first|done|rfl|omega
  ·have hz1':(z=1)=False:=eq_false hz1
   rw[hb1,decide_eq_false hz1,if_neg (by decide),List.append_nil]at hU1
   repeat'(first|refine And.intro ?_ ?_|exact True.intro|refine rq fun _=>?_|refine rf fun _=>?_|simp only[go_sem,hgz,hat,hDl,hz1',hTe,zad,zac,zab,zaa,zaE,zaD,Tryd.f10])
   refine zai hm zgB 10000 (lsw [56,80,126,154,156,191,213] [1000043,1000052,1000066,1000073]) (ι:=za5 A fun q=>zed (TA.drop (A-q)) (T.drop (A-q))=(List.replicate q 0,true))
    ⟨fun q=>⟨frL [(0,.fz (.sl (l.map enc))),(1,.fz (.i .i64 S)),(2,.fz (.i .i64 M)),(8,.fz (.sl (ps.map enc))),(10,.fz (.sl (ns.map enc))),(11,.ow (10080,g2) 1 ((zcg TN).map enc)),(12,.fz (.i .i64 v)),(20,.arr (10096,m3) 1 0 i),(21,.ow (10213,g3) 3 (O.map enc)),(22,.fz (.i .i64 n)),(23,.ptr (10023,m4) 0),(26,.fz (.i .i64 ((j+C a+(k+1):Nat):Int))),(28,.ptr (10028,m6) 0),(29,.ptr (10029,m6+1) 0),(30,.arr (10144,m6+2) 1 0 A),(131,.fz (.sl (ps.map enc))),(132,.fz (.i .i64 ps.length)),(133,.fz (.i .i64 a)),(31,.fz (.i .i64 (JA q.i)))],hpL [((10096,m3),some ⟨zae (D.map enc),false,false⟩),((10080,g2),some tok),((10213,g3),some tok),((10023,m4),some ⟨[.fz (.i .i64 S),.ow (10126,g4) 2 (F.consts.map enc),.ow (10191,g5) 3 ((RF a).map enc)],true,false⟩),((10126,g4),some tok),((10191,g5),some tok),((10028,m6),some ⟨[.fz (.s nm.l),.fz (.i .i64 A)],true,false⟩),((10029,m6+1),some ⟨[.fz (.s nm.l),.fz (.i .i64 A),.ow (10156,g7) 1 ((zmv S A B' k).map enc)],true,false⟩),((10144,m6+2),some ⟨zae ((zcF T A q.i).map enc),false,false⟩),((10156,g7),some tok)],m7⟩,fun q=>A-q.i⟩
    ⟨0,by omega,hzA⟩ (by kernel_rfl) ?_ ?_
   ·refine zag ?_ ?_ ?_<;>simp only[go_sem,hTt,hJA0,hczA,hkk,hU1,List.map_append,List.map_cons,List.map_nil,List.append_nil]
    all_goals first|done|rfl|omega
   rintro⟨q,hq,hpq⟩
   try simp only at hq hpq
   rcases Nat.lt_or_ge q A with h12|h12
   rotate_left
   ·obtain rfl:A=q:=by omega
    rw[Nat.sub_self,List.drop_zero,List.drop_zero,hincA]at hpq
    have hkN:k+1=N:=by
     have:=congrArg Prod.snd hpq
     simpa using this
    have hR2:RF a++[⟨nm,(A:Int),zmv S A B' k⟩]=RF (a+1):=by rw[hR1,←hkN,hU1]
    have hjc:j+C a+(k+1)=j+C (a+1):=by rw[hC1,←hkN];omega
    repeat'(first|refine And.intro ?_ ?_|exact True.intro|refine rq fun _=>?_|refine rf fun _=>?_|simp only[go_sem,hJAe,hjc,zad,zac,zab,zaa,zaE,zaD,Tryd.f10])
    refine⟨⟨a+1,m7,m7+1,by omega,by omega,by omega,trivial⟩,by simp only;omega,?_⟩
    refine zag ?_ ?_ ?_<;>simp only[go_sem,←hR2,hjc,List.map_append,List.map_cons,List.map_nil]
    all_goals first|done|rfl|omega
   obtain⟨p,hp⟩:∃p,p+q+1=A:=⟨A-1-q,by omega⟩
   obtain⟨e1,e4⟩:=kJA.out q p hp
   have hpD:p<T.length:=by omega
   have hpT:p<TA.length:=by omega
   have hclen:=zfJ hTl hq
   have hpC:p<(zcF T A q).length:=by omega
   have hcg:=zfI hTl hp hpC hpD
   obtain⟨d,hd⟩:∃d,T[p]=d:=⟨_,rfl⟩
   have hdb:=kTv.out p hpD
   rw[hd]at hcg hdb
   have hgd:(zae ((zcF T A q).map enc)).getD p .junk= .fz (.i .i64 d):=by rw[zbK hpC,hcg];rfl
   have hT:=zzo hTT (by rw[show p+1=A-q by omega];exact hpq) hpT hpD
   have hta:TA[p]=S:=by simp only[←hTA,List.getElem_replicate]
   rw[hd,hta]at hT
   have e2:((0:Int)≤(p:Int))=True:=eq_true (by omega)
   have e3:((p:Int)<0)=False:=eq_false (by omega)
   have hpi:p<A:=by omega
   by_cases h11:d+1<(S:Int)
   ·have h11':(d=(S:Int)-1)=False:=eq_false (by omega)
    obtain⟨E,hE⟩:∃E,(zcF T A q).set p (d+1)=E:=⟨_,rfl⟩
    have hst:(zae ((zcF T A q).map enc)).set p (.fz (.i .i64 (d+1)))=zae (E.map enc):=by rw[←hE,←zaV];rfl
    have h13:=hT.2 h11
    rw[hincA]at h13
    have hkN:k+1<N:=by
     have h14:=congrArg Prod.snd h13
     have h15:¬k+1=N:=by simpa using h14
     omega
    have hEn:E=zaR S A (k+1):=by
     have h16:=congrArg Prod.fst h13
     simp only at h16
     rw[←hE,zgt hTl hp,←h16,Nat.mod_eq_of_lt hkN]
    repeat'(first|refine And.intro ?_ ?_|exact True.intro|refine rq fun _=>?_|refine rf fun _=>?_|simp only[go_sem,e1,e2,e3,hgd,hst,hpi,hclen,h11',zad,zac,zab,zaa,zaE,zaD,Tryd.f10])
    refine⟨⟨k+1,g7,m7,by omega,by omega,by omega,hkN⟩,by simp only;omega,?_⟩
    refine zag ?_ ?_ ?_<;>simp only[go_sem,hEn,hU1,List.map_append,List.map_cons,List.map_nil,List.append_nil]
    all_goals first|done|rfl|omega
   ·have h11':(d=(S:Int)-1)=True:=eq_true (by omega)
    have hst2:(zae ((zcF T A q).map enc)).set p (.fz (.i .i64 0))=zae ((zcF T A (q+1)).map enc):=by rw[←zfK hTl hp,←zaV];rfl
    repeat'(first|refine And.intro ?_ ?_|exact True.intro|refine rq fun _=>?_|refine rf fun _=>?_|simp only[go_sem,e1,e2,hgd,hst2,hpi,hclen,h11',zad,zac,zab,zaa,zaE,zaD,Tryd.f10])
    refine⟨⟨q+1,by omega,by rw[show A-(q+1)=p by omega];exact hT.1 (by omega)⟩,by simp only;omega,?_⟩
    refine zag ?_ ?_ ?_<;>simp only[go_sem,e4]
    all_goals first|done|rfl|omega
 obtain rfl:a=ps.length:=by omega
 repeat'(first|refine And.intro ?_ ?_|exact True.intro|refine rq fun _=>?_|refine rf fun _=>?_|simp only[go_sem,Nat.lt_irrefl,hRe,zad,zac,zab,zaa,zaE,zaD,Tryd.f10])
 have hFs:F.size=(S:Int):=by rw[←hF];rfl
 have hFt:∀x∈l,zg8 F x []:=fun x hx=>by rw[←hF];exact zuH ⟨kf.out,hl,hs1,hs4⟩ hrr hx
 obtain⟨V,hV⟩:∃V:Nat→Bool,V=fun q=>(l.take q).all fun f=>zbY F f []:=⟨_,rfl⟩
 have hV0:V 0=true:=by rw[hV];rfl
 have hVs:∀q (h:q<l.length),V (q+1)=(V q&&zbY F l[q] []):=fun q h=>by rw[hV];simp only;rw[List.take_succ_eq_append_getElem h,List.all_append];simp
 have hVe:V l.length=okF l F:=by rw[hV];simp only[List.take_length];rfl
 have hVf:∀q,V q=false→okF l F=false:=fun q h=>by
  rw[hV]at h
  simp only[List.all_eq_false]at h
  obtain⟨x,hx,h2⟩:=h
  unfold okF
  rw[List.all_eq_false]
  exact⟨x,List.mem_of_mem_take hx,h2⟩
 have kV:=Kp.mk hVs
 have kVf:=Kp.mk hVf
 have kFt:=Kp.mk hFt
 clear hV hVs hVf hFt
 refine zai hm zgB 10000 (lsw [56,80,126,154,156,191,213] [1000043,1000052,1000066,1000073]) (ι:=zbG l.length m6 fun _=>True)
  ⟨fun q=>⟨frL [(0,.fz (.sl (l.map enc))),(1,.fz (.i .i64 S)),(2,.fz (.i .i64 M)),(8,.fz (.sl (ps.map enc))),(10,.fz (.sl (ns.map enc))),(11,.ow (10080,g2) 1 ((zcg TN).map enc)),(12,.fz (.i .i64 v)),(20,.arr (10096,m3) 1 0 i),(21,.ow (10213,g3) 3 (O.map enc)),(22,.fz (.i .i64 n)),(23,.ptr (10023,m4) 0),(32,.fz (.b (V q.i))),(33,.fz (.i .i64 q.i))],hpL [((10096,m3),some ⟨zae (D.map enc),false,false⟩),((10080,g2),some tok),((10213,g3),some tok),((10023,m4),some ⟨[.fz (.i .i64 F.size),.fz (.sl (F.consts.map enc)),.fz (.sl (F.rels.map enc))],true,false⟩)],q.m⟩,fun q=>l.length-q.i⟩
  ⟨0,m6,by omega,by omega,trivial⟩ (by kernel_rfl) ?_ ?_
 ·refine zbc [] [] [] ?_ ?_ ?_ ?_ ?_<;>(try simp only[go_sem,hV0,hFs])
  all_goals first|done|rfl|omega
 rintro⟨b,m7,hb,hm7,_⟩
 try simp only at hb hm7
 obtain⟨u,hu⟩:∃u,V b=u:=⟨_,rfl⟩
 have hcase:(b<l.length∧u=true)∨(okF l F=u∧((b<l.length∧u=false)∨b=l.length)):=by
  rcases Nat.lt_or_ge b l.length with h|h
  ·cases u with
   |true=>exact .inl ⟨h,rfl⟩
   |false=>exact .inr ⟨kVf.out b hu,.inl ⟨h,rfl⟩⟩
  ·obtain rfl:b=l.length:=by omega
   exact .inr ⟨by rw[←hVe,hu],.inr rfl⟩
 rcases hcase with⟨h6,rfl⟩|⟨hok,hcase⟩
 ·obtain⟨x,hx⟩:∃x,l[b]=x:=⟨_,rfl⟩
  have h7:=kFt.out x (by rw[←hx];exact List.getElem_mem h6)
  have h8:=kV.out b h6
  rw[hx,hu,Bool.true_and]at h8
  have h9:((b:Int)<(l.length:Int))=True:=eq_true (by omega)
  repeat'(first|refine zaK (id:=66) hm zgB 10000 (lsw [56,80,126,154,156,191,213] [1000043,1000052,1000066,1000073]) zs4 (by kernel_rfl) (by kernel_rfl) ?_|refine zaB.i h7 fun _=>?_|refine And.intro ?_ ?_|exact True.intro|refine rq fun _=>?_|refine rf fun _=>?_|simp only[go_sem,h6,h9,hx,hu,zs4,zad,zac,zab,zaa,zaE,zaD,Tryd.f10])
  all_goals
   refine⟨⟨b+1,m7,by omega,by omega,trivial⟩,by simp only;omega,?_⟩
   refine zag ?_ ?_ ?_<;>simp only[go_sem,h8]
   all_goals first|done|rfl|omega
 have hvE:v=S^j*2^K:=by
  have h7:=(zc3 (c:=ns.length) (ps:=ps) hs1 (by rw[←hrr];unfold zfe;rw[hns,hps])).1
  rw[h7,hcl,hK]
 have hinc:=zwL (S:=S) (j:=j) (K:=K) (n:=n) (by omega) (by rw[←hvE];exact h3)
 rw[hTN,hD]at hinc
 have hTD:TN.length=D.length:=by omega
 have hz0:zed (TN.drop (i-0)) (D.drop (i-0))=(List.replicate 0 0,true):=by
  have:=zlM hTD
  rw[hTn]at this
  exact this
 have hDx:∀x∈D,0≤x∧x≤4:=fun x h7=>by
  rw[←hD]at h7
  unfold za4 at h7
  rcases List.mem_append.1 h7 with h8|h8
  ·have:=zdv (by omega) _ _ _ h8;omega
  ·have:=zdv (by omega) _ _ _ h8;omega
 have hDv:∀q (h:q<D.length),0≤D[q]∧D[q]≤4:=fun q h=>hDx _ (List.getElem_mem h)
 obtain⟨J,hJ⟩:∃J:Nat→Int,J=fun q:Nat=>(i:Int)-1-(q:Int):=⟨_,rfl⟩
 have hJ0:J 0=(i:Int)-1:=by rw[hJ];simp
 have hJe:J i= -1:=by rw[hJ];simp only;omega
 have hJp:∀q p,p+q+1=i→J q=(p:Int)∧J (q+1)=(p:Int)-1:=fun q p h=>by rw[hJ];simp only;omega
 have kJ:=Kp.mk hJp
 have kDv:=Kp.mk hDv
 have hcz:=zk3 hDl
 clear hJ hJp hDv
 rcases hcase with⟨h6,rfl⟩|rfl
 ·have h9:((b:Int)<(l.length:Int))=True:=eq_true (by omega)
  rw[hok,if_neg (by decide),List.append_nil]at hms
  repeat'(first|refine And.intro ?_ ?_|exact True.intro|refine rq fun _=>?_|refine rf fun _=>?_|simp only[go_sem,h6,h9,hu,hTn,hJ0,zad,zac,zab,zaa,zaE,zaD,Tryd.f10])
  refine zai hm zgB 10000 (lsw [56,80,126,154,156,191,213] [1000043,1000052,1000066,1000073]) (ι:=za5 i fun q=>zed (TN.drop (i-q)) (D.drop (i-q))=(List.replicate q 0,true))
   ⟨fun q=>⟨frL [(0,.fz (.sl (l.map enc))),(1,.fz (.i .i64 S)),(2,.fz (.i .i64 M)),(8,.fz (.sl (ps.map enc))),(10,.fz (.sl (ns.map enc))),(11,.ow (10080,g2) 1 ((zcg TN).map enc)),(12,.fz (.i .i64 v)),(20,.arr (10096,m3) 1 0 i),(21,.ow (10213,g3) 3 ((O).map enc)),(22,.fz (.i .i64 n)),(34,.fz (.i .i64 (J q.i)))],hpL [((10096,m3),some ⟨zae ((zcF D i q.i).map enc),false,false⟩),((10080,g2),some tok),((10213,g3),some tok)],m7⟩,fun q=>i-q.i⟩
   ⟨0,by omega,hz0⟩ (by kernel_rfl) ?_ ?_
  ·refine zag ?_ ?_ ?_<;>simp only[go_sem,hJ0,hcz,List.map_append,List.map_cons,List.map_nil]
   all_goals first|done|rfl|omega
  rintro⟨q,hq,hpq⟩
  try simp only at hq hpq
  rcases Nat.lt_or_ge q i with h10|h10
  rotate_left
  ·obtain rfl:i=q:=by omega
   rw[Nat.sub_self,List.drop_zero,List.drop_zero]at hpq
   have hdz:zcF D i i=za4 S j K (n+1):=by
    rw[←hinc,hpq]
    unfold zcF
    rw[Nat.sub_self,List.take_zero,List.nil_append]
   repeat'(first|refine And.intro ?_ ?_|exact True.intro|refine rq fun _=>?_|refine rf fun _=>?_|simp only[go_sem,hJe,zad,zac,zab,zaa,zaE,zaD,Tryd.f10])
   refine⟨⟨n+1,g3,m7,by omega,by omega,by omega,by rw[hms];first|omega|(simp only[List.length_append,List.length_cons,List.length_nil];omega)⟩,by simp only;omega,?_⟩
   refine zag ?_ ?_ ?_<;>simp only[go_sem,hdz,hms,List.map_append,List.map_cons,List.map_nil]
   all_goals first|done|rfl|omega
  obtain⟨p,hp⟩:∃p,p+q+1=i:=⟨i-1-q,by omega⟩
  obtain⟨e1,e4⟩:=kJ.out q p hp
  have hpD:p<D.length:=by omega
  have hpT:p<TN.length:=by omega
  have hclen:=zfJ hDl hq
  have hpC:p<(zcF D i q).length:=by omega
  have hcg:=zfI hDl hp hpC hpD
  obtain⟨d,hd⟩:∃d,D[p]=d:=⟨_,rfl⟩
  have hdb:=kDv.out p hpD
  rw[hd]at hcg hdb
  have hgd:(zae ((zcF D i q).map enc)).getD p .junk= .fz (.i .i64 d):=by rw[zbK hpC,hcg];rfl
  obtain⟨E,hE⟩:∃E,(zcF D i q).set p (d+1)=E:=⟨_,rfl⟩
  have hEl:E.length=i:=by rw[←hE,List.length_set];exact hclen
  have hpE:p<E.length:=by omega
  have hst:(zae ((zcF D i q).map enc)).set p (.fz (.i .i64 (d+1)))=zae (E.map enc):=by rw[←hE,←zaV];rfl
  have hge:(zae (E.map enc)).getD p .junk= .fz (.i .i64 (d+1)):=by
   have h12:E[p]=d+1:=by subst hE;exact List.getElem_set_self _
   rw[zbK hpE,h12];rfl
  have hE0:E.set p 0=zcF D i (q+1):=by rw[←hE,List.set_set,zfK hDl hp]
  have hst2:(zae (E.map enc)).set p (.fz (.i .i64 0))=zae ((zcF D i (q+1)).map enc):=by rw[←hE0,←zaV];rfl
  obtain⟨t,ht⟩:∃t,TN[p]=t:=⟨_,rfl⟩
  have hgt:=kg.out p hpT
  rw[ht]at hgt
  have hT:=zzo hTD (by rw[show p+1=i-q by omega];exact hpq) hpT hpD
  rw[hd,ht]at hT
  have e2:((0:Int)≤(p:Int))=True:=eq_true (by omega)
  have hpi:p<i:=by omega
  have hpl:p<(zcg TN).length:=by omega
  by_cases h11:d+1<(t:Int)
  ·have h11':(d+1<(t:Int))=True:=eq_true h11
   have hEn:E=za4 S j K (n+1):=by rw[←hinc,hT.2 h11,←hE,zgt hDl hp]
   repeat'(first|refine zaK (id:=73) hm zgB 10000 (lsw [56,80,126,154,156,191,213] [1000043,1000052,1000066,1000073]) zcQ (by kernel_rfl) (by kernel_rfl) ?_|refine zaB.i (by rw[hgt];rfl) fun _=>?_|refine And.intro ?_ ?_|exact True.intro|refine rq fun _=>?_|refine rf fun _=>?_|simp only[go_sem,e1,e2,hgd,hst,hge,hgt,hpi,hpl,hclen,hEl,h11',zcQ,zad,zac,zab,zaa,zaE,zaD,Tryd.f10])
   all_goals
    refine⟨⟨n+1,g3,m7,by omega,by omega,by omega,by rw[hms];first|omega|(simp only[List.length_append,List.length_cons,List.length_nil];omega)⟩,by simp only;omega,?_⟩
    refine zag ?_ ?_ ?_<;>simp only[go_sem,hEn,hms,List.map_append,List.map_cons,List.map_nil]
    all_goals first|done|rfl|omega
  ·have h11':(d+1<(t:Int))=False:=eq_false h11
   repeat'(first|refine zaK (id:=73) hm zgB 10000 (lsw [56,80,126,154,156,191,213] [1000043,1000052,1000066,1000073]) zcQ (by kernel_rfl) (by kernel_rfl) ?_|refine zaB.i (by rw[hgt];rfl) fun _=>?_|refine And.intro ?_ ?_|exact True.intro|refine rq fun _=>?_|refine rf fun _=>?_|simp only[go_sem,e1,e2,hgd,hst,hge,hst2,hgt,hpi,hpl,hclen,hEl,h11',zcQ,zad,zac,zab,zaa,zaE,zaD,Tryd.f10])
   all_goals
    refine⟨⟨q+1,by omega,by rw[show i-(q+1)=p by omega];exact hT.1 h11⟩,by simp only;omega,?_⟩
    refine zag ?_ ?_ ?_<;>simp only[go_sem,e4]
    all_goals first|done|rfl|omega
 ·cases u with
  |false=>
   rw[hok,if_neg (by decide),List.append_nil]at hms
   repeat'(first|refine And.intro ?_ ?_|exact True.intro|refine rq fun _=>?_|refine rf fun _=>?_|simp only[go_sem,Int.lt_irrefl,hu,hTn,hJ0,zad,zac,zab,zaa,zaE,zaD,Tryd.f10])
   refine zai hm zgB 10000 (lsw [56,80,126,154,156,191,213] [1000043,1000052,1000066,1000073]) (ι:=za5 i fun q=>zed (TN.drop (i-q)) (D.drop (i-q))=(List.replicate q 0,true))
    ⟨fun q=>⟨frL [(0,.fz (.sl (l.map enc))),(1,.fz (.i .i64 S)),(2,.fz (.i .i64 M)),(8,.fz (.sl (ps.map enc))),(10,.fz (.sl (ns.map enc))),(11,.ow (10080,g2) 1 ((zcg TN).map enc)),(12,.fz (.i .i64 v)),(20,.arr (10096,m3) 1 0 i),(21,.ow (10213,g3) 3 ((O).map enc)),(22,.fz (.i .i64 n)),(34,.fz (.i .i64 (J q.i)))],hpL [((10096,m3),some ⟨zae ((zcF D i q.i).map enc),false,false⟩),((10080,g2),some tok),((10213,g3),some tok)],m7⟩,fun q=>i-q.i⟩
    ⟨0,by omega,hz0⟩ (by kernel_rfl) ?_ ?_
   ·refine zag ?_ ?_ ?_<;>simp only[go_sem,hJ0,hcz,List.map_append,List.map_cons,List.map_nil]
    all_goals first|done|rfl|omega
   rintro⟨q,hq,hpq⟩
   try simp only at hq hpq
   rcases Nat.lt_or_ge q i with h10|h10
   rotate_left
   ·obtain rfl:i=q:=by omega
    rw[Nat.sub_self,List.drop_zero,List.drop_zero]at hpq
    have hdz:zcF D i i=za4 S j K (n+1):=by
     rw[←hinc,hpq]
     unfold zcF
     rw[Nat.sub_self,List.take_zero,List.nil_append]
    repeat'(first|refine And.intro ?_ ?_|exact True.intro|refine rq fun _=>?_|refine rf fun _=>?_|simp only[go_sem,hJe,zad,zac,zab,zaa,zaE,zaD,Tryd.f10])
    refine⟨⟨n+1,g3,m7,by omega,by omega,by omega,by rw[hms];first|omega|(simp only[List.length_append,List.length_cons,List.length_nil];omega)⟩,by simp only;omega,?_⟩
    refine zag ?_ ?_ ?_<;>simp only[go_sem,hdz,hms,List.map_append,List.map_cons,List.map_nil]
    all_goals first|done|rfl|omega
   obtain⟨p,hp⟩:∃p,p+q+1=i:=⟨i-1-q,by omega⟩
   obtain⟨e1,e4⟩:=kJ.out q p hp
   have hpD:p<D.length:=by omega
   have hpT:p<TN.length:=by omega
   have hclen:=zfJ hDl hq
   have hpC:p<(zcF D i q).length:=by omega
   have hcg:=zfI hDl hp hpC hpD
   obtain⟨d,hd⟩:∃d,D[p]=d:=⟨_,rfl⟩
   have hdb:=kDv.out p hpD
   rw[hd]at hcg hdb
   have hgd:(zae ((zcF D i q).map enc)).getD p .junk= .fz (.i .i64 d):=by rw[zbK hpC,hcg];rfl
   obtain⟨E,hE⟩:∃E,(zcF D i q).set p (d+1)=E:=⟨_,rfl⟩
   have hEl:E.length=i:=by rw[←hE,List.length_set];exact hclen
   have hpE:p<E.length:=by omega
   have hst:(zae ((zcF D i q).map enc)).set p (.fz (.i .i64 (d+1)))=zae (E.map enc):=by rw[←hE,←zaV];rfl
   have hge:(zae (E.map enc)).getD p .junk= .fz (.i .i64 (d+1)):=by
    have h12:E[p]=d+1:=by subst hE;exact List.getElem_set_self _
    rw[zbK hpE,h12];rfl
   have hE0:E.set p 0=zcF D i (q+1):=by rw[←hE,List.set_set,zfK hDl hp]
   have hst2:(zae (E.map enc)).set p (.fz (.i .i64 0))=zae ((zcF D i (q+1)).map enc):=by rw[←hE0,←zaV];rfl
   obtain⟨t,ht⟩:∃t,TN[p]=t:=⟨_,rfl⟩
   have hgt:=kg.out p hpT
   rw[ht]at hgt
   have hT:=zzo hTD (by rw[show p+1=i-q by omega];exact hpq) hpT hpD
   rw[hd,ht]at hT
   have e2:((0:Int)≤(p:Int))=True:=eq_true (by omega)
   have hpi:p<i:=by omega
   have hpl:p<(zcg TN).length:=by omega
   by_cases h11:d+1<(t:Int)
   ·have h11':(d+1<(t:Int))=True:=eq_true h11
    have hEn:E=za4 S j K (n+1):=by rw[←hinc,hT.2 h11,←hE,zgt hDl hp]
    repeat'(first|refine zaK (id:=73) hm zgB 10000 (lsw [56,80,126,154,156,191,213] [1000043,1000052,1000066,1000073]) zcQ (by kernel_rfl) (by kernel_rfl) ?_|refine zaB.i (by rw[hgt];rfl) fun _=>?_|refine And.intro ?_ ?_|exact True.intro|refine rq fun _=>?_|refine rf fun _=>?_|simp only[go_sem,e1,e2,hgd,hst,hge,hgt,hpi,hpl,hclen,hEl,h11',zcQ,zad,zac,zab,zaa,zaE,zaD,Tryd.f10])
    all_goals
     refine⟨⟨n+1,g3,m7,by omega,by omega,by omega,by rw[hms];first|omega|(simp only[List.length_append,List.length_cons,List.length_nil];omega)⟩,by simp only;omega,?_⟩
     refine zag ?_ ?_ ?_<;>simp only[go_sem,hEn,hms,List.map_append,List.map_cons,List.map_nil]
     all_goals first|done|rfl|omega
   ·have h11':(d+1<(t:Int))=False:=eq_false h11
    repeat'(first|refine zaK (id:=73) hm zgB 10000 (lsw [56,80,126,154,156,191,213] [1000043,1000052,1000066,1000073]) zcQ (by kernel_rfl) (by kernel_rfl) ?_|refine zaB.i (by rw[hgt];rfl) fun _=>?_|refine And.intro ?_ ?_|exact True.intro|refine rq fun _=>?_|refine rf fun _=>?_|simp only[go_sem,e1,e2,hgd,hst,hge,hst2,hgt,hpi,hpl,hclen,hEl,h11',zcQ,zad,zac,zab,zaa,zaE,zaD,Tryd.f10])
    all_goals
     refine⟨⟨q+1,by omega,by rw[show i-(q+1)=p by omega];exact hT.1 h11⟩,by simp only;omega,?_⟩
     refine zag ?_ ?_ ?_<;>simp only[go_sem,e4]
     all_goals first|done|rfl|omega
  |true=>
   rw[hok,if_pos rfl]at hms
   repeat'(first|refine zaB.i ⟨zw5 _,zaL (by first|omega|(simp only[List.length_map];omega)) (by decide)⟩ fun _=>?_|refine And.intro ?_ ?_|exact True.intro|refine rq fun _=>?_|refine rf fun _=>?_|simp only[go_sem,Int.lt_irrefl,hu,hTn,hJ0,zad,zac,zab,zaa,zaE,zaD,Tryd.f10])
   refine zai hm zgB 10000 (lsw [56,80,126,154,156,191,213] [1000043,1000052,1000066,1000073]) (ι:=za5 i fun q=>zed (TN.drop (i-q)) (D.drop (i-q))=(List.replicate q 0,true))
    ⟨fun q=>⟨frL [(0,.fz (.sl (l.map enc))),(1,.fz (.i .i64 S)),(2,.fz (.i .i64 M)),(8,.fz (.sl (ps.map enc))),(10,.fz (.sl (ns.map enc))),(11,.ow (10080,g2) 1 ((zcg TN).map enc)),(12,.fz (.i .i64 v)),(20,.arr (10096,m3) 1 0 i),(21,.ow (10213,m7) 3 ((O++[F]).map enc)),(22,.fz (.i .i64 n)),(34,.fz (.i .i64 (J q.i)))],hpL [((10096,m3),some ⟨zae ((zcF D i q.i).map enc),false,false⟩),((10080,g2),some tok),((10213,m7),some tok)],m7+1⟩,fun q=>i-q.i⟩
    ⟨0,by omega,hz0⟩ (by kernel_rfl) ?_ ?_
   ·refine zag ?_ ?_ ?_<;>simp only[go_sem,hJ0,hcz,List.map_append,List.map_cons,List.map_nil]
    all_goals first|done|rfl|omega
   rintro⟨q,hq,hpq⟩
   try simp only at hq hpq
   rcases Nat.lt_or_ge q i with h10|h10
   rotate_left
   ·obtain rfl:i=q:=by omega
    rw[Nat.sub_self,List.drop_zero,List.drop_zero]at hpq
    have hdz:zcF D i i=za4 S j K (n+1):=by
     rw[←hinc,hpq]
     unfold zcF
     rw[Nat.sub_self,List.take_zero,List.nil_append]
    repeat'(first|refine And.intro ?_ ?_|exact True.intro|refine rq fun _=>?_|refine rf fun _=>?_|simp only[go_sem,hJe,zad,zac,zab,zaa,zaE,zaD,Tryd.f10])
    refine⟨⟨n+1,m7,m7+1,by omega,by omega,by omega,by rw[hms];first|omega|(simp only[List.length_append,List.length_cons,List.length_nil];omega)⟩,by simp only;omega,?_⟩
    refine zag ?_ ?_ ?_<;>simp only[go_sem,hdz,hms,List.map_append,List.map_cons,List.map_nil]
    all_goals first|done|rfl|omega
   obtain⟨p,hp⟩:∃p,p+q+1=i:=⟨i-1-q,by omega⟩
   obtain⟨e1,e4⟩:=kJ.out q p hp
   have hpD:p<D.length:=by omega
   have hpT:p<TN.length:=by omega
   have hclen:=zfJ hDl hq
   have hpC:p<(zcF D i q).length:=by omega
   have hcg:=zfI hDl hp hpC hpD
   obtain⟨d,hd⟩:∃d,D[p]=d:=⟨_,rfl⟩
   have hdb:=kDv.out p hpD
   rw[hd]at hcg hdb
   have hgd:(zae ((zcF D i q).map enc)).getD p .junk= .fz (.i .i64 d):=by rw[zbK hpC,hcg];rfl
   obtain⟨E,hE⟩:∃E,(zcF D i q).set p (d+1)=E:=⟨_,rfl⟩
   have hEl:E.length=i:=by rw[←hE,List.length_set];exact hclen
   have hpE:p<E.length:=by omega
   have hst:(zae ((zcF D i q).map enc)).set p (.fz (.i .i64 (d+1)))=zae (E.map enc):=by rw[←hE,←zaV];rfl
   have hge:(zae (E.map enc)).getD p .junk= .fz (.i .i64 (d+1)):=by
    have h12:E[p]=d+1:=by subst hE;exact List.getElem_set_self _
    rw[zbK hpE,h12];rfl
   have hE0:E.set p 0=zcF D i (q+1):=by rw[←hE,List.set_set,zfK hDl hp]
   have hst2:(zae (E.map enc)).set p (.fz (.i .i64 0))=zae ((zcF D i (q+1)).map enc):=by rw[←hE0,←zaV];rfl
   obtain⟨t,ht⟩:∃t,TN[p]=t:=⟨_,rfl⟩
   have hgt:=kg.out p hpT
   rw[ht]at hgt
   have hT:=zzo hTD (by rw[show p+1=i-q by omega];exact hpq) hpT hpD
   rw[hd,ht]at hT
   have e2:((0:Int)≤(p:Int))=True:=eq_true (by omega)
   have hpi:p<i:=by omega
   have hpl:p<(zcg TN).length:=by omega
   by_cases h11:d+1<(t:Int)
   ·have h11':(d+1<(t:Int))=True:=eq_true h11
    have hEn:E=za4 S j K (n+1):=by rw[←hinc,hT.2 h11,←hE,zgt hDl hp]
    repeat'(first|refine zaK (id:=73) hm zgB 10000 (lsw [56,80,126,154,156,191,213] [1000043,1000052,1000066,1000073]) zcQ (by kernel_rfl) (by kernel_rfl) ?_|refine zaB.i (by rw[hgt];rfl) fun _=>?_|refine And.intro ?_ ?_|exact True.intro|refine rq fun _=>?_|refine rf fun _=>?_|simp only[go_sem,e1,e2,hgd,hst,hge,hgt,hpi,hpl,hclen,hEl,h11',zcQ,zad,zac,zab,zaa,zaE,zaD,Tryd.f10])
    all_goals
     refine⟨⟨n+1,m7,m7+1,by omega,by omega,by omega,by rw[hms];first|omega|(simp only[List.length_append,List.length_cons,List.length_nil];omega)⟩,by simp only;omega,?_⟩
     refine zag ?_ ?_ ?_<;>simp only[go_sem,hEn,hms,List.map_append,List.map_cons,List.map_nil]
     all_goals first|done|rfl|omega
   ·have h11':(d+1<(t:Int))=False:=eq_false h11
    repeat'(first|refine zaK (id:=73) hm zgB 10000 (lsw [56,80,126,154,156,191,213] [1000043,1000052,1000066,1000073]) zcQ (by kernel_rfl) (by kernel_rfl) ?_|refine zaB.i (by rw[hgt];rfl) fun _=>?_|refine And.intro ?_ ?_|exact True.intro|refine rq fun _=>?_|refine rf fun _=>?_|simp only[go_sem,e1,e2,hgd,hst,hge,hst2,hgt,hpi,hpl,hclen,hEl,h11',zcQ,zad,zac,zab,zaa,zaE,zaD,Tryd.f10])
    all_goals
     refine⟨⟨q+1,by omega,by rw[show i-(q+1)=p by omega];exact hT.1 h11⟩,by simp only;omega,?_⟩
     refine zag ?_ ?_ ?_<;>simp only[go_sem,e4]
     all_goals first|done|rfl|omega
end
end Go.Proofs.YtkkffhphodngkaaDoor
namespace Go.Proofs.YtkkffhphodngkaaDoor
open Go Go.Abs Go.Proofs
theorem zxa {l:List Abs.zaf}{S:Nat}(hs:1≤S):zuD l (S:Int) 1073741824=zvO (zbb l S):=by
 unfold zuD zsc
 rw[Int.toNat_natCast,show(1073741824:Int).toNat=1073741824 from rfl]
 cases hm:zbb l S with
 |none=>rfl
 |some ms=>
  have hl:ms.length≤1073741824:=by
   unfold zbb at hm
   cases hn:zfe l S with
   |none=>rw[hn]at hm;cases hm
   |some n=>
    rw[hn]at hm
    obtain rfl:zbS l S n=ms:=Option.some.inj hm
    have h1:=zf3 l S n
    have h2:=(zc3 hs (show zeu S (zbu l).length (zeq l)=some n from hn)).2.1
    omega
  rw[Option.map_some,List.take_of_length_le hl]
set_option maxHeartbeats 8000000 in
theorem zz7 (hT:zan Tryd.prog GA I18)(l:List Abs.zaf)(size:Int)(_:(enc l).Wf)(_:(enc size).Wf):zay Tryd.prog GA 3 [.fz (enc l),.fz (enc size)] (hpL []) 0 (fun d _ _=>d= .fz (.b true)):=by
 have dK:Str.mk [107,105,109]=zkl:=rfl
 have dD:Str.mk [100,111,103]=ztU:=rfl
 have dP:zxf ztU [zkl]=zmG:=rfl
 obtain⟨V,hFa⟩:∃V,zaM l size=V:=⟨_,rfl⟩
 by_cases b0:V.code=0
 rotate_left
 ·have a0:(V.code=0)=False:=eq_false b0
  have hC:zdT l size=(0,V):=by unfold zdT;rw[hFa,if_pos b0]
  have hmq:True:=trivial
  refine zah (N:=69) Go.Proofs.YtkkffhphodngkaaDoor.hm hT 3000 (lst []) ok3 Tryd.func3 rfl rfl (by simp) (by kernel_rfl) ?_
  repeat'(first|refine zaB.i hmq fun _=>?_|refine And.intro ?_ ?_|exact True.intro|refine rq fun _=>?_|refine rf fun _=>?_|simp only[go_sem,a0,decide_true,zad,zac,zab,zaa,zdE,GA,dK,dD,dP,zgx,hC,hFa,Tryd.f3])
  all_goals first|done|rfl|omega
 have hf:(zaM l size).code=0:=by rw[hFa];exact b0
 obtain⟨hf0,_,_,hs1,hs4⟩:=zdV hf
 obtain⟨S,hS⟩:∃S:Nat,size=(S:Int):=⟨size.toNat,by omega⟩
 subst hS
 have hV:V=⟨0,0⟩:=by rw[←hFa];exact hf0
 subst hV
 have hmq:zD1 l (S:Int) 1073741824:=⟨by rw[Int.toNat_natCast];exact zhm hf (by omega) (Int.le_refl _),hs1,by decide⟩
 have hMo:=zxa (l:=l) (S:=S) (by omega)
 have hC:zdT l S=match zbb l S with|none=>(0,⟨17, -2⟩)|some l=>((l.length:Int),⟨0,0⟩):=by unfold zdT;rw[if_neg (by simp[hf]),Int.toNat_natCast];rfl
 cases hm:zbb l S with
 |none=>
  rw[hm]at hMo hC
  simp only[zvO]at hMo hC
  refine zah (N:=69) Go.Proofs.YtkkffhphodngkaaDoor.hm hT 3000 (lst []) ok3 Tryd.func3 rfl rfl (by simp) (by kernel_rfl) ?_
  repeat'(first|refine zaB.i hmq fun _=>?_|refine And.intro ?_ ?_|exact True.intro|refine rq fun _=>?_|refine rf fun _=>?_|simp only[go_sem,hMo,decide_true,zad,zac,zab,zaa,zdE,GA,dK,dD,dP,zgx,hC,hFa,Tryd.f3])
  all_goals first|done|rfl|omega
 |some ms=>
  rw[hm]at hMo hC
  simp only[zvO]at hMo hC
  refine zah (N:=69) Go.Proofs.YtkkffhphodngkaaDoor.hm hT 3000 (lst []) ok3 Tryd.func3 rfl rfl (by simp) (by kernel_rfl) ?_
  repeat'(first|refine zaB.i hmq fun _=>?_|refine And.intro ?_ ?_|exact True.intro|refine rq fun _=>?_|refine rf fun _=>?_|simp only[go_sem,hMo,decide_true,zad,zac,zab,zaa,zdE,GA,dK,dD,dP,zgx,hC,hFa,Tryd.f3])
  all_goals first|done|rfl|omega
end Go.Proofs.YtkkffhphodngkaaDoor
