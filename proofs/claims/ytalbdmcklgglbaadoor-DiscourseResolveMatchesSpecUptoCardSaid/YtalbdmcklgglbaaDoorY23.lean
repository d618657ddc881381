/- several texts of this proof in one; no conditions -/
import Derived.Test.YtalbdmcklgglbaaDoorY22
import Derived.Test.YtalbdmcklgglbaaDoorAT
set_option maxRecDepth 100000
set_option maxHeartbeats 1000000
set_option linter.unusedSimpArgs false
namespace Go.Proofs.YtalbdmcklgglbaaDoor
open Go Go.Abs Go.Proofs
theorem zlu {w:Str}(h:zai w=true):w.l.length≤30:=by
 unfold zai at h
 have:=of_decide_eq_true h
 omega
theorem zjy {sep:List UInt8}(hs:sep.length≤3):∀{ws:List Str},(∀w∈ws,zai w=true)→(jn sep ws).length≤40*ws.length
 |[],_=>by simp[jn]
 |w::ws,h=>by
  have key:∀{l:List Str},(∀w∈l,zai w=true)→(l.flatMap fun v=>sep++v.l).length≤40*l.length:=by
   intro l
   induction l with
   |nil=>intro _;simp
   |cons v l ih=>
    intro hl
    have h1:=ih fun x hx=>hl x (by simp[hx])
    have h2:=zlu (hl v (by simp))
    rw[List.flatMap_cons,List.length_append,List.length_append,List.length_cons]
    omega
  have h1:=key (l:=ws) fun x hx=>h x (by simp[hx])
  have h2:=zlu (h w (by simp))
  rw[jn,List.length_append,List.length_cons]
  omega
theorem zgP {f:Abs.zac}(h:zdH f)(h3:f.words.length≤3):lfP f:=by
 rcases h with⟨nm,ws,rfl,h1,h2⟩|⟨a,b,rfl,h1,h2⟩
 ·have h3:ws.length≤3:=h3
  refine⟨.inl rfl,⟨?_,?_,?_⟩⟩
  ·rw[vok,zgg]
   refine⟨by omega,by omega,fun _=>h3,fun e=>by omega,fun e=>by omega,fun e=>by omega,trivial⟩
  ·rw[zac.fit,zac.fits];simp;omega
  ·rw[zug rfl]
   have e:=zjy (sep:=[44]) (by simp) h2
   have e2:=zlu h1
   show(nm.l++[40]++jn [44] ws++[41]).length≤_
   simp only[List.length_append,List.length_cons,List.length_nil]
   omega
 ·refine⟨.inr rfl,⟨?_,?_,?_⟩⟩
  ·rw[vok,zgg]
   refine⟨by omega,by omega,fun e=>by omega,fun _=>rfl,fun e=>by omega,fun e=>by omega,trivial⟩
  ·rw[zac.fit,zac.fits];simp
  ·rw[zuh rfl]
   have e:=zjy (sep:=[32,61,32]) (ws:=[a,b]) (by simp) (by intro w hw;simp only[List.mem_cons,List.not_mem_nil,or_false]at hw;rcases hw with rfl|rfl<;>assumption)
   show(([]:List UInt8)++[40]++jn [32,61,32] [a,b]++[41]).length≤_
   simp only[List.length_append,List.length_cons,List.length_nil]at e ⊢
   omega
theorem zoC {f:Abs.zac}(h:(zaL false f).code=0)(hk:f.kind=2∨f.kind=3):zdH f∧f.words.length≤3:=by
 refine⟨zmO h hk,?_⟩
 have hv:=zvf.1 (zis h)
 rcases hk with hk|hk
 ·exact hv.2.2.1 hk
 ·have:=hv.2.2.2.1 hk;omega
theorem zea {c:Abs.zal}{r:List Str}(h:zbb c r=0)(h1:c.kind=1∨c.kind=5):zdH c.form∧c.form.words.length≤3:=by
 have hs:=zbj h
 unfold zbb at h
 have hb:zax c.kind=0:=by rcases h1 with h1|h1<;>rw[h1]<;>rfl
 rw[if_neg (by omega),if_neg (fun e=>e hs.2.2.1)]at h
 by_cases h3:(c.kind≠5∧c.name≠⟨[]⟩∨0<zax c.kind∧zbJ c.form=false)
 ·rw[if_pos h3]at h;exact absurd h (by decide)
 rw[if_neg h3,if_neg (by omega)]at h
 by_cases h6:(zaL false c.form).code=0
 ·rw[if_neg (fun e=>e h6)]at h
  by_cases h7:(c.kind=1∧c.form.kind≠2∧c.form.kind≠3∨c.kind=5∧(c.form.kind≠2∨c.form.words.length≠0))
  ·rw[if_pos h7]at h;exact absurd h (by decide)
  ·refine zoC h6 ?_
   rcases h1 with h1|h1
   ·by_cases h5:c.form.kind=2∨c.form.kind=3
    ·exact h5
    ·exact absurd (.inl ⟨h1,fun e=>h5 (.inl e),fun e=>h5 (.inr e)⟩) h7
   ·exact .inl (Decidable.not_not.1 fun e=>h7 (.inr ⟨h1,.inl e⟩))
 ·rw[if_pos h6]at h;exact absurd h h6
theorem zrD {c:Abs.zal}{r:List Str}(h:zbb c r=0)(h5:c.kind=5):zai c.form.name=true:=by
 have hs:=zbj h
 have hl:=(zea h (.inr h5)).1
 unfold zbb at h
 have hb:zax c.kind=0:=by rw[h5];rfl
 rw[if_neg (by omega),if_neg (fun e=>e hs.2.2.1)]at h
 by_cases h3:(c.kind≠5∧c.name≠⟨[]⟩∨0<zax c.kind∧zbJ c.form=false)
 ·rw[if_pos h3]at h;exact absurd h (by decide)
 rw[if_neg h3,if_neg (by omega)]at h
 by_cases h6:(zaL false c.form).code=0
 ·rw[if_neg (fun e=>e h6)]at h
  by_cases h7:(c.kind=1∧c.form.kind≠2∧c.form.kind≠3∨c.kind=5∧(c.form.kind≠2∨c.form.words.length≠0))
  ·rw[if_pos h7]at h;exact absurd h (by decide)
  ·have hk:c.form.kind=2:=Decidable.not_not.1 fun e=>h7 (.inr ⟨h5,.inl e⟩)
   rcases hl with⟨nm,ws,e,h1,h2⟩|⟨a,b,e,h1,h2⟩
   ·rw[e];exact h1
   ·rw[e]at hk;exact absurd hk (by show¬(3:Int)=2;decide)
 ·rw[if_pos h6]at h;exact absurd h h6
theorem zwy {b:Abs.Box}{p:List Int}{at':Nat}(h:Pth b p at'):∀v,okS b v→(∀y∈v.refs,zai y=true)→
  okW (inV b p (zaK v b)) (zc3 b p at')∧(∃d r,zgQ r (zc3 b p at') d∧∀y∈r,zai y=true)∧(∀y∈(inV b p (zaK v b)).refs,zai y=true)∧(inV b p (zaK v b)).conds.length≤1000:=by
 induction h with
 |@nil b at' hi hk=>
  intro v hs hv
  obtain⟨d,hl⟩:=zeK hs (List.getElem_mem hi)
  have e:zc3 b [] at'=b.conds[at']:=by
   unfold zc3
   rw[zgD,List.getD_eq_getElem?_getD,List.getElem?_eq_getElem hi];rfl
  have hb:=zcr.1 hs.1.choose_spec
  have hn:∀y∈(zaK v b).refs,zai y=true:=fun y hy=>by
   rw[zaX]at hy
   rcases List.mem_append.1 hy with h|h
   ·exact hv y h
   ·exact hb.2.2.1 y h
  have hlen:=zmU hs
  rw[e,inV]
  exact⟨zjG hs (List.getElem_mem hi),⟨d,b.refs,hl,hb.2.2.1⟩,hn,by rw[zaY,List.length_append];omega⟩
 |@step b i k p at' hi h4 hk hq ih=>
  intro v hs hv
  have h56:¬(b.conds[i].kind=5∨b.conds[i].kind=6):=by omega
  obtain⟨s1,_,_⟩:=zhG hs hi h56 hk
  obtain⟨d,hl⟩:=zeK hs (List.getElem_mem hi)
  have hlb:=(zbI.1 hl).2
  have hb:=zcr.1 hs.1.choose_spec
  have hn:∀y∈(zaK v b).refs,zai y=true:=fun y hy=>by
   rw[zaX]at hy
   rcases List.mem_append.1 hy with h|h
   ·exact hv y h
   ·exact hb.2.2.1 y h
  have:=ih _ s1 (zgq hn hlb)
  rw[zjx hi hk]
  have e:zc3 b ((i:Int)::(k:Int)::p) at'=zc3 b.conds[i].boxes[k] p at':=by unfold zc3;rw[zdE hi hk]
  rw[e]
  exact this
theorem zrE {b:Abs.Box}{p:List Int}{at':Nat}(h:Pth b p at'):(∃d m,zfU b d m)→∀x∈zeW b p,∃d m,zfU x d m:=by
 induction h with
 |@nil b at' hi hk=>
  intro hb x hx
  unfold zeW at hx
  rw[zci]at hx
  simp only[Option.getD_some,List.mem_singleton]at hx
  rw[hx];exact hb
 |@step b i k p at' hi h4 hk hq ih=>
  rintro⟨d,m,hb⟩ x hx
  have hcs:=(zcr.1 hb).2.2.2
  have hc:∃d,zgQ b.refs b.conds[i] d:=by
   have:=List.getElem_mem hi
   generalize b.conds[i]=c at this ⊢
   refine⟨d,?_⟩
   generalize b.conds=cs at hcs this
   induction cs with
   |nil=>simp at this
   |cons y cs ih2=>
    rw[zaU]at hcs
    rcases List.mem_cons.1 this with rfl|h
    ·exact hcs.1
    ·exact ih2 hcs.2 h
  obtain⟨d2,hc⟩:=hc
  have hbs:=(zbI.1 hc).2
  obtain⟨l,h1,_,_,_⟩:=zfD hq
  have hx2:x=b∨x∈((if b.conds[i].kind=3∧k=1 then[b.conds[i].boxes.getD 0 noB]else[])++[b.conds[i].boxes[k]])∨x∈l:=by
   unfold zeW at hx
   rw[zci,zeL hi hk]at hx
   simp only[h1,Option.map_some,Option.getD_some,List.mem_cons,List.mem_append]at hx ⊢
   rcases hx with h|h|h
   ·exact .inl h
   ·exact .inr (.inl h)
   ·exact .inr (.inr h)
  have hmem:∀z∈b.conds[i].boxes,∃d m,zfU z d m:=fun z hz=>⟨_,_,zc9 hbs hz⟩
  rcases hx2 with h|h|h
  ·rw[h];exact⟨d,m,hb⟩
  ·rcases List.mem_append.1 h with h|h
   ·by_cases h3:b.conds[i].kind=3∧k=1
    ·rw[if_pos h3,List.mem_singleton]at h
     rw[h,List.getD_eq_getElem?_getD,List.getElem?_eq_getElem (by omega)]
     exact hmem _ (List.getElem_mem _)
    ·rw[if_neg h3]at h;simp at h
   ·rw[List.mem_singleton.1 h];exact hmem _ (List.getElem_mem _)
  ·exact ih (hmem _ (List.getElem_mem hk)) x (by unfold zeW;rw[h1];simp[h])
def zkg (rs:List Str):Nat→Nat→List Str
 |0,_=>[]
 |m+1,k=>zkg rs m (k / rs.length)++[rs.getD (k % rs.length) ⟨[]⟩]
theorem zgW (rs:List Str):∀m k,(zkg rs m k).length=m
 |0,_=>rfl
 |m+1,k=>by rw[zkg,List.length_append,zgW rs m];rfl
theorem zl0 (rs:List Str):∀(n:Nat) (to:List Str),zfM rs (n+1) to=(zfM rs n to).flatMap fun t=>rs.map fun y=>t++[y]
 |0,to=>by rw[zfM,zfM];simp[zfM];induction rs with
  |nil=>rfl
  |cons y l ih=>simp[List.flatMap_cons,zfM]at ih ⊢;exact ih
 |n+1,to=>by
  rw[zfM]
  rw[show zfM rs (n+1) to=rs.flatMap fun y=>zfM rs n (to++[y])from rfl,List.flatMap_assoc]
  congr 1
  funext y
  exact zl0 rs n (to++[y])
theorem zlB {α:Type}(f:Nat→α)(b:Nat):∀a,(List.range (a*b)).map f=(List.range a).flatMap fun i=>(List.range b).map fun j=>f (i*b+j)
 |0=>by simp
 |a+1=>by
  rw[Nat.add_mul,Nat.one_mul,List.range_add,List.map_append,zlB f b a,List.range_succ,List.flatMap_append,List.flatMap_singleton,List.map_map]
  rfl
theorem zrj (rs:List Str):rs=(List.range rs.length).map fun j=>rs.getD j ⟨[]⟩:=by
 apply List.ext_getElem
 ·simp
 ·intro i h1 h2
  rw[List.getElem_map,List.getElem_range,List.getD_eq_getElem?_getD,List.getElem?_eq_getElem h1];rfl
theorem zeO (rs:List Str):∀m,zfM rs m []=(List.range (rs.length^m)).map (zkg rs m)
 |0=>rfl
 |m+1=>by
  rw[zl0,zeO rs m,Nat.pow_succ,zlB,List.flatMap_map]
  by_cases h0:rs.length=0
  ·rw[List.eq_nil_of_length_eq_zero h0];simp
  congr 1
  funext i
  rw[show(rs.map fun y=>zkg rs m i++[y])=((List.range rs.length).map fun j=>rs.getD j ⟨[]⟩).map fun y=>zkg rs m i++[y] by rw[←zrj],List.map_map]
  refine List.map_congr_left fun j hj=>?_
  have hj:j<rs.length:=List.mem_range.1 hj
  simp only[Function.comp,zkg]
  rw[Nat.mul_comm,Nat.mul_add_div (by omega),Nat.div_eq_of_lt hj,Nat.add_zero,Nat.mul_add_mod,Nat.mod_eq_of_lt hj]
end Go.Proofs.YtalbdmcklgglbaaDoor
namespace Go.Proofs.YtalbdmcklgglbaaDoor
open Go Go.Abs Go.Proofs
theorem l59:V15 59=some (sp5 zoD ztW):=rfl
def zjK (b:Abs.Box)(d:D)(H:zas)(n:Nat):Prop:=
 (∃g1 g2,g1<n∧g2<n∧d= .agg [.ow (59025,g1) 1 (b.refs.map enc),.ow (59049,g2) 7 (b.conds.map enc)]∧H (59025,g1)=some tok∧H (59049,g2)=some tok)∨
 (∃g1 g2,g1<n∧g2<n∧d= .agg [.ow (59017,g1) 1 (b.refs.map enc),.arr (59057,g2) 7 0 b.conds.length]∧H (59017,g1)=some tok∧H (59057,g2)=some ⟨zag (b.conds.map enc),false,false⟩)
set_option maxHeartbeats 8000000 in
theorem zuz {b:Abs.Box}{path:List Int}{a:Int}{by':List Abs.zal}{rs:List Str}(hp:ztW b path a by' rs):
  zav Tryd.prog G0 59 [.fz (enc b),.fz (enc path),.fz (enc a),.fz (enc by'),.fz (enc rs)] (hpL []) 0 (zjK (zoD b path a by' rs)):=by
 have hT:zan Tryd.prog G0 V15:=ziE
 obtain⟨n,hn⟩:∃n,b.size=n:=⟨_,rfl⟩
 obtain⟨p0,p1,p2,ps,p3,p4⟩:=hp
 obtain⟨A,hA⟩:∃A:Nat,a=(A:Int):=⟨a.toNat,by omega⟩
 subst hA
 have hct:=@zal.tots_len b.conds
 have htt:=Box.tot_eq (b:=b)
 have kT:=Kp.mk hT
 clear hT
 have hci:zoD b path (A:Int) by' rs=zgC b path A by' rs:=rfl
 rw[hci]
 rw[Int.toNat_natCast]at p1
 cases p1 with
 |nil hA4 hk4=>
  have e:zgC b [] A by' rs= .mk (b.refs++rs) (b.conds.take A++by'++b.conds.drop (A+1)):=by rw[zgC]
  have hce:=zuC (by':=by') hA4
  rw[e,←hce]
  obtain⟨Q0,hQ0⟩:∃Q0:D→zas→Nat→Prop,Q0=zjK (Box.mk (b.refs++rs) (cjM b.conds by' A b.conds.length)):=⟨_,rfl⟩
  rw[←hQ0]
  obtain⟨J,hJ⟩:∃J,cjM b.conds by' A=J:=⟨_,rfl⟩
  have hJ0:J 0=[]:=by rw[←hJ];rfl
  have hJs:∀j (h:j<b.conds.length),J (j+1)=J j++(if j=A then by' else[b.conds[j]]):=fun j h=>by
   rw[←hJ,cjM,List.getD_eq_getElem?_getD,List.getElem?_eq_getElem h];rfl
  have hJl:∀j,(J j).length≤j+by'.length:=fun j=>by rw[←hJ];exact zqv j
  rw[hJ]at hQ0
  have kO:=Kp.mk hQ0
  clear hQ0
  have kJ:=Kp.mk hJs
  have kL:=Kp.mk hJl
  clear hJs hJl hJ hce e
  refine zew (N:=98) hm kT.out 59000 (lsw [17,25,39,49] [57,69,1000009,1000013,1000015,1000016]) zzv Tryd.func59 rfl rfl (by simp) (by kernel_rfl) ?_
  repeat'(first|refine And.intro ?_ ?_|exact True.intro|refine rq fun _=>?_|refine rf fun _=>?_|simp only[go_sem,List.map_nil,List.length_nil,zad,zab,zae,zaf,zaa,Tryd.f59,l59])
  refine zbM hm kT.out 59000 (lsw [17,25,39,49] [57,69,1000009,1000013,1000015,1000016]) (ι:=zd5 b.conds.length 5 fun _=>True)
   ⟨fun q=>⟨frL [(2,.fz (.i .i64 A)),(3,.fz (.sl (by'.map enc))),(5,.ptr (59005,0) 0),(10,.ptr (59010,1) 0),(11,.ptr (59011,3) 0),(29,.fz (.i .i64 b.conds.length)),(30,.fz (.i .i64 q.i))],
    hpL [((59011,3),some ⟨[.ow (59025,4) 1 (b.refs.map enc++rs.map enc),.ow (59049,q.g) 7 ((J q.i).map enc)],true,false⟩),((59025,4),some tok),((59010,1),some ⟨[.full [],.full []],true,false⟩),((59005,0),some ⟨[.fz (.sl (b.refs.map enc)),.fz (.sl (b.conds.map enc))],true,false⟩),((59049,q.g),some tok)],q.m⟩,fun q=>b.conds.length-q.i⟩
   ⟨0,5,6,by omega,by omega,by omega,trivial⟩ (by kernel_rfl) ?_ ?_
  ·refine zaO [] [(59049,5)] [] ?_ ?_ ?_ ?_ ?_<;>(try simp only[go_sem,hJ0])
   all_goals repeat'(first|refine And.intro ?_ ?_|omega|rfl)
  rintro⟨j,g,m,hj,hg,hm1,_⟩
  try simp only at hj hg hm1
  rcases Nat.lt_or_ge j b.conds.length with h1|h1
  rotate_left
  ·obtain rfl:j=b.conds.length:=by omega
   repeat'(first|refine And.intro ?_ ?_|exact True.intro|refine rq fun _=>?_|refine rf fun _=>?_|simp only[go_sem,Nat.lt_irrefl,zad,zab,zae,zaf,zaa,Tryd.f59,l59])
   all_goals
    rw[kO.out]
    refine .inl ⟨4,g,by omega,by omega,?_,?_,?_⟩
    ·simp only[go_sem,List.map_append]
    ·simp only[go_sem]
    ·simp only[go_sem]
  have e1:=kJ.out j h1
  have e2:=kL.out j
  by_cases hjA:j=A
  ·have hjt:((j:Int)=(A:Int))=True:=eq_true (by omega)
   rw[if_pos hjA]at e1
   repeat'(first|refine And.intro ?_ ?_|exact True.intro|refine rq fun _=>?_|refine rf fun _=>?_|simp only[go_sem,h1,hjt,zad,zab,zae,zaf,zaa,Tryd.f59,l59])
   all_goals
    refine⟨⟨j+1,m+1,m+2,by omega,by omega,by omega,trivial⟩,by simp only;omega,?_⟩
    refine zaO [((59049,m+1),(59039,m))] [] [] ?_ ?_ ?_ ?_ ?_<;>(try simp only[go_sem,zt3,zmd,vL,e1,List.map_append])
    all_goals repeat'(first|refine And.intro ?_ ?_|omega|rfl)
  ·have hjt:((j:Int)=(A:Int))=False:=eq_false (by omega)
   rw[if_neg hjA]at e1
   obtain⟨c,hc⟩:∃c,b.conds[j]=c:=⟨_,rfl⟩
   rw[hc]at e1
   repeat'(first|refine zay (id:=9) hm kT.out 59000 (lsw [17,25,39,49] [57,69,1000009,1000013,1000015,1000016]) zoe (by kernel_rfl) (by kernel_rfl) ?_|refine And.intro ?_ ?_|exact True.intro|refine rq fun _=>?_|refine rf fun _=>?_|simp only[go_sem,h1,hjt,hc,zoe,zad,zab,zae,zaf,zaa,Tryd.f59,l59])
   all_goals
    refine⟨⟨j+1,m,m+1,by omega,by omega,by omega,trivial⟩,by simp only;omega,?_⟩
    refine zah ?_ ?_ ?_<;>(try simp only[go_sem,e1,List.map_append])
    all_goals first|done|rfl|omega
 |@step _ i k p _ hi h4 hk hq=>
  obtain⟨c,hc⟩:∃c,b.conds[i]=c:=⟨_,rfl⟩
  have e:=zhg (p:=p) (at':=A) (cs:=by') (rs:=rs) hi hk
  have hxt:=(zjY hi hk).1
  have hsz:(b.conds[i].boxes[k]).size<n:=by
   have h1:=Box.size_sub (List.getElem_mem hi)
   have h2:=zal.size_sub (List.getElem_mem hk)
   omega
  have hxT:=Box.tot_eq (b:=b.conds[i].boxes[k])
  have hbT:b.conds[i].boxes.length≤1000:=by
   have h1:=Box.size_sub (List.getElem_mem hi)
   have h2:=zfv b.conds[i]
   omega
  have hp0:((p.length:Int)+1+1=0)=False:=eq_false (by omega)
  simp only[hc]at hk hq e hxt hsz hxT hbT
  obtain⟨x,hx⟩:∃x,c.boxes[k]=x:=⟨_,rfl⟩
  rw[hx]at hq e hxt hsz hxT
  rw[e]
  have hpre:ztW x p (A:Int) by' rs:=⟨p0,by rw[Int.toNat_natCast];exact hq,by omega,by omega,p3,p4⟩
  have hxci:zoD x p (A:Int) by' rs=zgC x p A by' rs:=rfl
  obtain⟨y,hy⟩:∃y,zgC x p A by' rs=y:=⟨_,rfl⟩
  rw[hy]at hxci
  rw[hy]
  obtain⟨Q,hQ⟩:∃Q:D→zas→Nat→Prop,Q=zjK (Box.mk b.refs (b.conds.set i (zmZ c k y))):=⟨_,rfl⟩
  rw[←hQ]
  have hb2:=zcb (es:=2) (fun a:Abs.Box=>Kc.len a) c.boxes
  have hbe2:c.boxes.isEmpty=false:=by
   cases hcb:c.boxes with
   |nil=>rw[hcb]at hk;simp at hk
   |cons _ _=>rfl
  have hfe2:=zcW (es:=2) (fun a:Abs.Box=>Kc.len a) (by decide) c.boxes
  rw[hbe2]at hfe2
  have hrq2:k*2+2≤(zag (c.boxes.map enc)).length∧(zag (c.boxes.map enc)).isEmpty=false:=⟨by omega,hfe2⟩
  have hq3:(2:Int)≤(p.length:Int)+1+1∧(p.length:Int)+1+1≤(p.length:Int)+1+1∧((2:Int)=(p.length:Int)+1+1∨((p.map enc).getD 0 FD.nilf).cells.length=1):=by
   refine⟨by omega,Int.le_refl _,?_⟩
   cases p with
   |nil=>exact .inl rfl
   |cons z p=>exact .inr rfl
  have hcut:zbo (FD.i .i64 (i:Int)::FD.i .i64 (k:Int)::p.map enc) 2 ((p.length:Int)+1+1)=p.map enc:=by
   unfold zbo
   rw[show((p.length:Int)+1+1).toNat=p.length+2 by omega]
   simp
   exact List.take_of_length_le (by simp)
  have hld:(List.take 2 (List.drop (k*2) (zag (c.boxes.map enc))))=[.fz (.sl (x.refs.map enc)),.fz (.sl (x.conds.map enc))]:=by
   rw[zmG (es:=2) (fun a:Abs.Box=>Kc.len a) c.boxes k hk,hx,zaQ];rfl
  have hb7:=zcb (es:=7) (fun a:Abs.zal=>Kc.len a) b.conds
  have hbe7:b.conds.isEmpty=false:=by
   cases hcb:b.conds with
   |nil=>rw[hcb]at hi;simp at hi
   |cons _ _=>rfl
  have hfe7:=zcW (es:=7) (fun a:Abs.zal=>Kc.len a) (by decide) b.conds
  rw[hbe7]at hfe7
  have hrq7:i*7+7≤(zag (b.conds.map enc)).length∧(zag (b.conds.map enc)).isEmpty=false:=⟨by omega,hfe7⟩
  refine zew (N:=98) hm kT.out 59000 (lsw [17,25,39,49] [57,69,1000009,1000013,1000015,1000016]) zzv Tryd.func59 rfl rfl (by simp) (by kernel_rfl) ?_
  repeat'(first|refine zaH.i ⟨hrq2.2,hrq2.1⟩ fun _=>?_|refine zaH.i hq3 fun _=>?_|refine zaH.i hrq2 fun _=>?_|refine zaH.i hpre fun _=>?_|refine zay (id:=13) hm kT.out 59000 (lsw [17,25,39,49] [57,69,1000009,1000013,1000015,1000016]) zj2 (by kernel_rfl) (by kernel_rfl) ?_|refine zay (id:=15) hm kT.out 59000 (lsw [17,25,39,49] [57,69,1000009,1000013,1000015,1000016]) zj3 (by kernel_rfl) (by kernel_rfl) ?_|refine And.intro ?_ ?_|exact True.intro|refine rq fun _=>?_|refine rf fun _=>?_|simp only[go_sem,hi,hc,hk,hx,hxci,hp0,hcut,hld,zj2,zj3,List.map_cons,List.length_cons,List.length_map,zad,zab,zae,zaf,zaa,Tryd.f59,l59])
  have hw2:=zdj (es:=2) (fun a:Abs.Box=>Kc.len a) y c.boxes k hk
  rw[show(enc y).cells.map D.fz=[.fz (.sl (y.refs.map enc)),.fz (.sl (y.conds.map enc))] by rw[zaQ];rfl]at hw2
  have hsb:zmZ c k y= .mk c.kind c.name c.form (c.boxes.set k y):=rfl
  rw[hsb]at hQ
  obtain⟨Y,hY⟩:∃Y,c.boxes.set k y=Y:=⟨_,rfl⟩
  have hYl:Y.length=c.boxes.length:=by rw[←hY,List.length_set]
  rw[hY]at hw2 hQ
  obtain⟨C2,hC2⟩:∃C2,zag (Y.map enc)=C2:=⟨_,rfl⟩
  have hz2:C2=zag (Y.map enc):=hC2.symm
  rw[hC2]at hw2
  simp only[go_sem]at hw2
  have hw7:=zdj (es:=7) (fun a:Abs.zal=>Kc.len a) (zal.mk c.kind c.name c.form Y) b.conds i hi
  rw[show(enc (zal.mk c.kind c.name c.form Y)).cells.map D.fz=[.fz (.i .i64 c.kind),.fz (.s c.name.l),.fz (.i .i64 c.form.kind),.fz (.s c.form.name.l),.fz (.sl (c.form.words.map enc)),.fz (.sl (c.form.subs.map enc)),.fz (.sl (Y.map enc))] by rw[zcQ];rfl]at hw7
  obtain⟨Z,hZ⟩:∃Z,b.conds.set i (zal.mk c.kind c.name c.form Y)=Z:=⟨_,rfl⟩
  have hZl:Z.length=b.conds.length:=by rw[←hZ,List.length_set]
  rw[hZ]at hw7 hQ
  obtain⟨C7,hC7⟩:∃C7,zag (Z.map enc)=C7:=⟨_,rfl⟩
  have hz7:C7=zag (Z.map enc):=hC7.symm
  rw[hC7]at hw7
  simp only[go_sem]at hw7
  refine zbx (zaO (l:=[(1,.fz (.sl (FD.i .i64 (i:Int)::FD.i .i64 (k:Int)::p.map enc))),(10,.ptr (59010,1) 0),(11,.ptr (59011,3) 0),(13,.ptr (59013,5) 0)])
   (hl:=[((59013,5),some ⟨[.fz (.i .i64 c.kind),.fz (.s c.name.l),.fz (.i .i64 c.form.kind),.fz (.s c.form.name.l),.fz (.sl (c.form.words.map enc)),.fz (.sl (c.form.subs.map enc)),.fz (.sl (Y.map enc))],true,false⟩),((59011,3),some ⟨[.ow (59017,2) 1 (b.refs.map enc),.arr (59057,4) 7 0 b.conds.length],true,false⟩),((59057,4),some ⟨zag (b.conds.map enc),false,false⟩),((59017,2),some tok),((59010,1),some ⟨[.full [],.full []],true,false⟩)]) (m:=8) [] [] [((59069,6),Y.map enc)] ?_ ?_ ?_ ?_ ?_) ?_
  ·simp only[go_sem]
  ·simp only[go_sem,hw2,hz2,hfe2]
   all_goals first|done|rfl|omega
  ·simp only[go_sem,hfe7]
   all_goals repeat'(first|refine And.intro ?_ ?_|omega|rfl)
  ·simp only[go_sem]
   all_goals first|done|rfl|omega
  ·simp only[go_sem,hYl]
   all_goals repeat'(first|refine And.intro ?_ ?_|omega|rfl)
  repeat'(first|refine zaH.i hrq7 fun _=>?_|refine zaH.i ⟨rfl,hrq7.1⟩ fun _=>?_|refine zaH.i ⟨hrq7.1,rfl⟩ fun _=>?_|refine zay (id:=16) hm kT.out 59000 (lsw [17,25,39,49] [57,69,1000009,1000013,1000015,1000016]) zj4 (by kernel_rfl) (by kernel_rfl) ?_|refine And.intro ?_ ?_|exact True.intro|refine rq fun _=>?_|refine rf fun _=>?_|simp only[go_sem,hi,hc,zj4,zad,zab,zae,zaf,zaa,Tryd.f59,l59])
  all_goals
   rw[hQ]
   refine .inr ⟨2,4,by omega,by omega,?_,?_,?_⟩
   ·simp only[go_sem,hZl]
   ·simp only[go_sem]
   ·simp only[go_sem,hw7,hz7]
    all_goals first|done|rfl|omega
end Go.Proofs.YtalbdmcklgglbaaDoor
namespace Go.Proofs.YtalbdmcklgglbaaDoor
open Go Go.Abs Go.Proofs
theorem zin {b:Abs.Box}{args:List D}{xs:List FD}{H:zas}{n:Nat}{R:D→zas→Nat→Prop}(ha:D.toFDs args=some xs)(h:zav Tryd.prog G0 59 (xs.map .fz) H0 0 (zjK b))
  (hR1:∀g1 g2 n',n≤g1→n≤g2→g1<n'→g2<n'→R (.agg [.ow (59025,g1) 1 (b.refs.map enc),.ow (59049,g2) 7 (b.conds.map enc)]) (hpX [((59025,g1),some tok),((59049,g2),some tok)] H) n')
  (hR2:∀g1 g2 n',n≤g1→n≤g2→g1<n'→g2<n'→R (.agg [.ow (59017,g1) 1 (b.refs.map enc),.arr (59057,g2) 7 0 b.conds.length]) (hpX [((59017,g1),some tok),((59057,g2),some ⟨zag (b.conds.map enc),false,false⟩)] H) n'):zav Tryd.prog G0 59 args H n R:=by
 have key:∀(n1:Nat) (H1:zas) (t1 t2 g1 g2:Nat) (d1 d2:D) (o2 o3:O),H1 (t1,g1)=some tok→H1 (t2,g2)=some o2→shO n o2=o3→(∀id,n≤id.2→H id=none)→g1<n1→g2<n1→shD n d1=d2→
   zgh G0 1 ⟨frL [(0,shD n d1)],shH n H H1,n+n1⟩ ⟨frL [(0,d2)],hpX [((t1,g1+n),some tok),((t2,g2+n),some o3)] H,n+n1⟩:=fun n1 H1 t1 t2 g1 g2 d1 d2 o2 o3 h1 h2 h3 hfr _ _ hd=>by
  rw[hd]
  refine zb9 ⟨rfl,trivial⟩ (fun id o hid=>?_) (Nat.le_refl _)
  have s1:shH n H H1 (t1,g1+n)=some tok:=by
   unfold shH
   rw[if_pos (by simp),show(t1,g1+n-n)=(t1,g1) by rw[Nat.add_sub_cancel],h1];rfl
  have s2:shH n H H1 (t2,g2+n)=some o3:=by
   unfold shH
   rw[if_pos (by simp),show(t2,g2+n-n)=(t2,g2) by rw[Nat.add_sub_cancel],h2,←h3];rfl
  simp only[hpX]at hid
  split at hid
  ·rename_i e;subst e;rw[←hid];exact s1
  split at hid
  ·rename_i e;subst e;rw[←hid];exact s2
  ·have hlt:id.2<n:=by
    rcases Nat.lt_or_ge id.2 n with h3|h3
    ·exact h3
    ·rw[hfr id h3]at hid;cases hid
   show shH n H H1 id=some o
   unfold shH
   rw[if_neg (by omega)]
   exact hid
 have hm:∀l:List FD,zn4 n (l.map .fz)=l.map .fz:=fun l=>by
  rw[zd0,List.map_map]
  exact List.map_congr_left fun x _=>rfl
 refine zc0 h.1 fun hfr=>zbt (zfc ha h) ?_
 rintro d H' n' ⟨d1,H1,n1,hq,rfl,rfl,rfl⟩
 rcases hq with⟨g1,g2,hg1,hg2,rfl,ho1,ho2⟩|⟨g1,g2,hg1,hg2,rfl,ho1,ho2⟩
 ·exact⟨_,_,n+n1,key n1 H1 _ _ g1 g2 _ _ tok tok ho1 ho2 rfl hfr hg1 hg2 rfl,hR1 (g1+n) (g2+n) (n+n1) (by omega) (by omega) (by omega) (by omega)⟩
 ·refine⟨_,_,n+n1,key n1 H1 _ _ g1 g2 _ _ _ ⟨zag (b.conds.map enc),false,false⟩ ho1 ho2 ?_ hfr hg1 hg2 rfl,hR2 (g1+n) (g2+n) (n+n1) (by omega) (by omega) (by omega) (by omega)⟩
  rw[zcq]
  simp only[shO,hm]
structure zAX (b:Abs.Box)(path:List Int)(A:Nat)(l:List Abs.Box)(e:Abs.Box)(c:Abs.zal):Prop where
 hb:(zcy b).code=0
 hp:Pth b path A
 ev:path.length % 2=0
 hl:zeX b path=(l,true)
 hL:l=zeW b path
 pos:0<l.length
 he:(l.map enc).getD ((l.length:Int)-1).toNat FD.nilf=enc e
 hA:A<e.conds.length
 hc:e.conds[A]=c
 w:okW (zcU l) c
 k4:4<c.kind
 lc:∃d r,zgQ r c d∧∀y∈r,zai y=true
 nm:∀y∈(zcU l).refs,zai y=true
 ok:∀x∈l,∀c∈x.conds,c.kind=1→lfP c.form∧zdH c.form
 n1:l.length≤1000
 n2:∀x∈l,x.conds.length≤1000
 tot:b.tot≤400
 sz:b.size≤200
 set:ze6 b path A=(zcj (zcU l) c).map fun w=>zde (zqo b path A w)
theorem zfr {x:Abs.Box}:∀{k:List Abs.Box},x∈k→x.conds.length≤(k.flatMap Box.conds).length
 |y::k,hx=>by
  rw[List.flatMap_cons,List.length_append]
  rcases List.mem_cons.1 hx with rfl|hx
  ·omega
  ·have:=zfr hx;omega
theorem zrx {b:Abs.Box}{path:List Int}{A:Nat}(hb:(zcy b).code=0)(hp:Pth b path A):∃l e c,zAX b path A l e c:=by
 have vb:=VB.of hb
 have hto:=(zhb hb).2
 obtain⟨l',h1,h2,h3,h4⟩:=zfD hp
 have hL:zeW b path=b::l':=by unfold zeW;rw[h1];rfl
 have hok:okS b noB:=⟨⟨1,vb.loc⟩,by rw[zcf,zce];simp only[List.length_nil];omega⟩
 obtain⟨w1,w2,w3,w4⟩:=zwy hp noB hok (by simp[zcf])
 have hv:inV b path (zaK noB b)=zcU (b::l'):=by
  rw[h2,←zdL];unfold zaK;rw[zcf,zce,List.nil_append,List.nil_append,zaf]
 rw[hv]at w1 w3 w4
 have hbx:=zrE hp ⟨1,200,vb.loc⟩
 rw[hL]at hbx
 have hce:zc3 b path A=((b::l').getLastD noB).conds.getD A zsL:=by unfold zc3;rw[h3]
 have hlt:A<(zgD b path).conds.length:=by
  clear h2 h3 h4 h1 hL w1 w2 w3 w4 hv hbx hce hok hto vb hb
  induction hp with
  |nil h hk=>rw[zgD];exact h
  |step hi h4 hk hq ih=>rw[zdE hi hk];exact ih
 have hk4:4<(zc3 b path A).kind:=by
  clear h2 h3 h4 h1 hL w1 w2 w3 w4 hv hbx hce hok hto vb hb hlt
  induction hp with
  |nil h hk=>
   unfold zc3
   rw[zgD,List.getD_eq_getElem?_getD,List.getElem?_eq_getElem h]
   exact hk
  |step hi h4 hk hq ih=>unfold zc3;rw[zdE hi hk];exact ih
 rw[h3]at hlt
 have hcl:∀x∈b::l',x.conds.length≤1000:=fun x hx=>by
  have h5:(zcU (b::l')).conds.length≤1000:=w4
  have:=zfr hx
  exact Nat.le_trans this h5
 refine⟨b::l',(b::l').getLastD noB,zc3 b path A,hb,hp,h4,by unfold zeX;rw[h1],hL.symm,by simp,?_,hlt,?_,?_,hk4,w2,w3,fun x hx c hc hk=>?_,?_,hcl,hto,?_,?_⟩
 ·rw[show(((b::l').length:Int)-1).toNat=l'.length by simp,List.getD_eq_getElem?_getD,List.getElem?_map]
  have hg:(b::l')[l'.length]?=some ((b::l').getLastD noB):=by
   rw[List.getLastD_eq_getLast?,List.getLast?_eq_getElem?]
   simp
  rw[hg];rfl
 ·rw[hce,List.getD_eq_getElem?_getD,List.getElem?_eq_getElem hlt];rfl
 ·rw[hce]at w1 ⊢;exact w1
 ·obtain⟨d,m,hd⟩:=hbx x hx
  have hcs:=(zcr.1 hd).2.2.2
  have hcc:zbb c x.refs=0:=by
   generalize x.conds=cs at hcs hc
   induction cs with
   |nil=>simp at hc
   |cons y cs ih=>
    rw[zaU]at hcs
    rcases List.mem_cons.1 hc with rfl|h
    ·exact(zbI.1 hcs.1).1
    ·exact ih hcs.2 h
  obtain⟨a1,a2⟩:=zea hcc (.inl hk)
  exact⟨zgP a1 a2,a1⟩
 ·have hpl:∀(b:Abs.Box) (p:List Int) (A:Nat),Pth b p A→∀l,zci b p=some l→l.length+1≤b.size+b.size:=by
   intro b p A h
   induction h with
   |nil h hk=>intro l hl;rw[zci]at hl;cases hl;have:=zdh ‹Abs.Box›;simp;omega
   |@step b i k p A hi h4 hk hq ih=>
    intro l hl
    obtain⟨l2,g1,_⟩:=zfD hq
    have g2:=ih l2 g1
    rw[zci,zeL hi hk]at hl
    simp only[g1,Option.map_some,Option.some.injEq]at hl
    have s1:=Box.size_sub (List.getElem_mem hi)
    have s2:=zal.size_sub (List.getElem_mem hk)
    rw[←hl,List.length_append,List.length_append]
    have:(if b.conds[i].kind=3∧k=1 then[b.conds[i].boxes.getD 0 noB]else[]).length≤1:=by split<;>simp
    simp only[List.length_singleton]
    omega
  have h6:=hpl b path A hp l' h1
  have h7:=vb.nod
  rw[zep]at h6
  rw[List.length_cons];omega
 ·rw[zep];exact vb.nod
 ·unfold ze6;rw[hL,hce]
theorem zl5 (x:Abs.Box):zaK x noB=x:=by unfold zaK;rw[zcf,zce,List.append_nil,List.append_nil,zaf]
theorem l56:V15 56=some (zzI zeX fun b path=>path.length % 2=0∧(zcy b).code=0):=rfl
theorem l57:V15 57=some (sp1 zbX fun l=>(zbX l).length≤1000000):=rfl
theorem l58:V15 58=some (sp2 (fun l f=>zd6 (zcU l) f) okL):=rfl
theorem l60:V15 60=some (sp2 zbc fun _ _=>True):=rfl
def zsq:Tv:=(.q 0 (.q 1 (.q 2 (.q 3 (.q 4 (.q 5 (.q 6 (.q 7 (.q 8 (.q 9 (.q 10 (.br [(11,(.q 12 .leaf))]))))))))))))
def zsr:Tv:=(.q 0 (.q 1 (.q 2 (.q 3 (.q 4 (.q 5 (.q 6 (.q 7 (.q 8 (.q 9 (.q 10 (.q 11 (.br [(12,(.q 13 .leaf))])))))))))))))
def zet:Tv:=(.q 0 (.q 1 (.q 2 (.q 3 (.q 5 (.q 7 (.br [(4,(.q 6 (.q 8 (.q 10 (.br [(9,(.br [(11,(.q 12 (.br [(13,.leaf)])))]))]))))),(6,(.br [(4,(.q 8 (.q 10 (.br [(9,(.br [(11,(.q 12 (.br [(13,.leaf)])))]))])))),(8,(.br [(4,(.q 10 (.br [(9,(.br [(11,(.q 12 (.br [(13,.leaf)])))]))])))]))])),(8,(.br [(4,(.q 6 (.q 10 (.br [(9,(.br [(11,(.q 12 (.br [(13,.leaf)])))]))])))),(6,(.br [(4,(.q 10 (.br [(9,(.br [(11,(.q 12 (.br [(13,.leaf)])))]))])))]))]))])))))))
set_option maxHeartbeats 16000000 in
theorem zGT {b:Abs.Box}{path:List Int}{A:Nat}{l:List Abs.Box}{e:Abs.Box}{c:Abs.zal}(h:zAX b path A l e c)(h5:c.kind=5):
  zav Tryd.prog G0 26 [.fz (enc b),.fz (enc path),.fz (enc (A:Int))] (hpL []) 0 (fun r _ _=>D.val r=some (.fz (enc (ze6 b path A)))):=by
 obtain⟨v,hv⟩:∃v,zcU l=v:=⟨_,rfl⟩
 have hset:=h.set
 obtain⟨d0,r0,hloc,hr0⟩:=h.lc
 have hcc:=(zbI.1 hloc).1
 have hcn:=zrD hcc h5
 have hnm:=h.nm
 have hw:=h.w
 rw[hv]at hset hnm hw
 obtain⟨R,hR⟩:∃R,v.refs=R:=⟨_,rfl⟩
 have hRl:R.length≤1000:=by rw[←hR];exact hw.vr
 have hro:zbX l=R:=by rw[←hR,←hv];rfl
 rw[hR]at hnm
 obtain⟨G,hG⟩:∃G:Str→Abs.Box,G=fun y=>zoD b path (A:Int) [zbc c.name y] []:=⟨_,rfl⟩
 have hGe:∀y,zoD b path (A:Int) [zbc c.name y] []=G y:=fun y=>by rw[hG]
 obtain⟨U,hU⟩:∃U:Nat→List Abs.Box,U=fun i=>((R.take i).filter (zdV v c)).map G:=⟨_,rfl⟩
 have hU0:U 0=[]:=by rw[hU];rfl
 have hUt:∀i (h:i<R.length),zdV v c R[i]=true→U (i+1)=U i++[G R[i]]:=fun i h ht=>by
  rw[hU];simp only
  rw[List.take_succ_eq_append_getElem h,List.filter_append,List.map_append,List.filter_cons_of_pos ht];rfl
 have hUf:∀i (h:i<R.length),zdV v c R[i]=false→U (i+1)=U i:=fun i h ht=>by
  rw[hU];simp only
  rw[List.take_succ_eq_append_getElem h,List.filter_append,List.map_append,List.filter_cons_of_neg (by rw[ht];decide)];simp
 have hUe:ze6 b path A=U R.length:=by
  rw[hset,hU]
  simp only[List.take_length]
  unfold zcj
  rw[if_pos h5]
  unfold zpr
  rw[hR,List.map_map,hG]
  refine List.map_congr_left fun y _=>?_
  show zaK (zgC b path A [zbc c.name y] []) noB=_
  rw[zl5];rfl
 have hUl:∀i,(U i).length≤1000:=fun i=>by
  rw[hU];simp only;rw[List.length_map]
  refine Nat.le_trans (List.length_filter_le _ _) ?_
  rw[List.length_take];omega
 have hsaid:∀f,zdH f→f.words.length≤3→okL l f:=fun f h1 h2=>⟨zgP h1 h2,h1,h.ok,by have:=h.n1;omega,fun x hx=>by have:=h.n2 x hx;omega⟩
 have htot:=h.tot
 have hch:∀y,ztW b path (A:Int) [zbc c.name y] []:=fun y=>⟨by omega,by rw[Int.toNat_natCast];exact h.hp,by omega,by have:=h.sz;omega,by simp,by simp⟩
 obtain⟨Q,hQ⟩:∃Q:D→zas→Nat→Prop,Q=(fun r _ _=>D.val r=some (.fz (enc (ze6 b path A)))):=⟨_,rfl⟩
 rw[←hQ]
 rw[hUe]at hQ
 have kq:=Kp.mk hQ
 have k1:=Kp.mk hUt
 have k2:=Kp.mk hUf
 have k3:=Kp.mk hUl
 have kG:=Kp.mk hGe
 have ksd:=Kp.mk hsaid
 have kch:=Kp.mk hch
 have kn:=Kp.mk hnm
 obtain⟨hb,hp,hev,hl,_,hpos,he,hA,hc,_,_,_,_,_,_,_,_,_⟩:=h
 have hpre1:path.length % 2=0∧(zcy b).code=0:=⟨hev,hb⟩
 have hpre2:(zbX l).length≤1000000:=by rw[hro];omega
 have h5t:(c.kind=5)=True:=eq_true h5
 have hix:(0:Int)≤(l.length:Int)-1∧(l.length:Int)-1<(l.length:Int):=by omega
 clear hUt hUf hUl hUe hU hQ hGe hG hsaid hch hnm hset
 refine zew (N:=264) hm ziE 26000 (lsw [84,228,239,262] [129,251,256,1000010,1000058,1000062,1000063]) zC5 Tryd.func26 rfl rfl (by simp) (by kernel_rfl) ?_
 repeat'(first|refine zaH.i hpre1 fun _=>?_|refine zaH.i hpre2 fun _=>?_|refine And.intro ?_ ?_|exact True.intro|refine rq fun _=>?_|refine rf fun _=>?_|simp only[go_sem,hl,hro,he,hA,hc,h5t,zad,zab,zae,zaf,zaa,Tryd.f26,l56,l57,l58,l59,l60])
 refine zbM hm ziE 26000 (lsw [84,228,239,262] [129,251,256,1000010,1000058,1000062,1000063]) (ι:=zd5 R.length 2 fun _=>True)
  ⟨fun q=>⟨frL [(1,.fz (.sl (path.map enc))),(2,.fz (.i .i64 A)),(3,.ptr (26003,0) 0),(7,.fz (.sl (l.map enc))),(10,.ptr (26010,1) 0),(11,.ow (26084,q.g) 2 ((U q.i).map enc)),(53,.fz (.sl (R.map enc))),(54,.fz (.i .i64 R.length)),(55,.fz (.i .i64 q.i))],
   hpL [((26003,0),some ⟨[.fz (.sl (b.refs.map enc)),.fz (.sl (b.conds.map enc))],true,false⟩),((26010,1),some ⟨[.fz (.i .i64 c.kind),.fz (.s c.name.l),.fz (.i .i64 c.form.kind),.fz (.s c.form.name.l),.fz (.sl (c.form.words.map enc)),.fz (.sl (c.form.subs.map enc)),.fz (.sl (c.boxes.map enc))],true,false⟩),((26084,q.g),some tok)],q.m⟩,fun q=>R.length-q.i⟩
  ⟨0,2,3,by omega,by omega,by omega,trivial⟩ (by kernel_rfl) ?_ ?_
 ·refine zaO [] [(26084,2)] [] ?_ ?_ ?_ ?_ ?_<;>(try simp only[go_sem,hU0])
  all_goals repeat'(first|refine And.intro ?_ ?_|omega|rfl)
 rintro⟨i,g,m,hi,hg,hm1,_⟩
 try simp only at hi hg hm1
 rcases Nat.lt_or_ge i R.length with h1|h1
 ·obtain⟨y,hy⟩:∃y,R[i]=y:=⟨_,rfl⟩
  have q1:=k1.out i h1
  have q2:=k2.out i h1
  have q3:=k3.out i
  rw[hy]at q1 q2
  have hyn:=kn.out y (by rw[←hy];exact List.getElem_mem h1)
  have hd1:dec (α:=List Str) (.sl [.s y.l])=[y]:=rfl
  have hd2:dec (α:=List Abs.zac) (.sl [])=[]:=rfl
  have hd3:dec (α:=List Str) (.sl [])=[]:=rfl
  by_cases hyc:y=c.name
  ·have hpf:zdV v c y=false:=by unfold zdV;rw[decide_eq_false (fun h=>h hyc)];rfl
   have q4:=q2 hpf
   have hyl:(y.l=c.name.l)=True:=eq_true (by rw[hyc])
   have hyl2:(y.l≠c.name.l)=False:=eq_false (fun h=>h (by rw[hyc]))
   repeat'(first|refine And.intro ?_ ?_|exact True.intro|refine rq fun _=>?_|refine rf fun _=>?_|simp only[go_sem,h1,hy,hyl,hyl2,zad,zab,zae,zaf,zaa,Tryd.f26,l56,l57,l58,l59,l60])
   all_goals
    refine⟨⟨i+1,g,m,by omega,by omega,by omega,trivial⟩,by simp only;omega,?_⟩
    refine zah ?_ ?_ ?_<;>(try simp only[go_sem,q4])
    all_goals first|done|rfl|omega
  ·have hyl:(y.l=c.name.l)=False:=eq_false fun h=>hyc (zgb h)
   have hyl2:(y.l≠c.name.l)=True:=eq_true fun h=>hyc (zgb h)
   have hlf:okL l (.mk 2 c.form.name [y] []):=ksd.out _ (.inl ⟨c.form.name,[y],rfl,hcn,fun w hw=>by rw[List.mem_singleton.1 hw];exact hyn⟩) (by simp[zac.words])
   cases ht:zd6 v (.mk 2 c.form.name [y] [])with
   |false=>
    have hpf:zdV v c y=false:=by unfold zdV zhM;rw[ht,Bool.and_false]
    have q4:=q2 hpf
    repeat'(first|refine zaH.i hlf fun _=>?_|refine And.intro ?_ ?_|exact True.intro|refine rq fun _=>?_|refine rf fun _=>?_|simp only[go_sem,h1,hy,hyl,hyl2,hv,ht,hd1,hd2,zad,zab,zae,zaf,zaa,Tryd.f26,l56,l57,l58,l59,l60])
    all_goals
     refine⟨⟨i+1,g,m,by omega,by omega,by omega,trivial⟩,by simp only;omega,?_⟩
     refine zah ?_ ?_ ?_<;>(try simp only[go_sem,q4])
     all_goals first|done|rfl|omega
   |true=>
    have hpf:zdV v c y=true:=by unfold zdV zhM;rw[ht,Bool.and_true];exact decide_eq_true hyc
    have q4:=q1 hpf
    have hd4:dec (α:=List Abs.zal) (.sl [enc (zbc c.name y)])=[zbc c.name y]:=dec_enc [zbc c.name y]
    have hreq:=kch.out y
    have hGy:=kG.out y
    repeat'(first|refine zaH.i hlf fun _=>?_|refine zaH.i hreq fun _=>?_|refine zay (id:=10) hm ziE 26000 (lsw [84,228,239,262] [129,251,256,1000010,1000058,1000062,1000063]) zsq (by kernel_rfl) (by kernel_rfl) ?_|refine And.intro ?_ ?_|exact True.intro|refine rq fun _=>?_|refine rf fun _=>?_|simp only[go_sem,h1,hy,hyl,hyl2,hv,ht,hd1,hd2,hd3,hd4,hGy,zsq,zad,zab,zae,zaf,zaa,Tryd.f26,l56,l57,l58,l59,l60])
    all_goals
     refine⟨⟨i+1,m,m+1,by omega,by omega,by omega,trivial⟩,by simp only;omega,?_⟩
     refine zah ?_ ?_ ?_<;>(try simp only[go_sem,q4,List.map_append])
     all_goals first|done|rfl|omega
 ·obtain rfl:i=R.length:=by omega
  repeat'(first|refine And.intro ?_ ?_|exact True.intro|refine rq fun _=>?_|refine rf fun _=>?_|simp only[go_sem,Nat.lt_irrefl,zad,zab,zae,zaf,zaa,Tryd.f26,l56,l57,l58,l59,l60])
  all_goals
   rw[kq.out]
   simp only[go_sem]
   all_goals first|done|rfl|omega
end Go.Proofs.YtalbdmcklgglbaaDoor
